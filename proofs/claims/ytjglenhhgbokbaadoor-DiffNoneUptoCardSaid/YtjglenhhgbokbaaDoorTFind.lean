/-
  tree.Find, tree.alike: each once. No condition.
-/
import Derived.Test.YtjglenhhgbokbaaDoorTreeV
import Derived.Test.YtjglenhhgbokbaaDoorIdxN
namespace Go.Proofs.YtjglenhhgbokbaaDoor
open Go.RowKit

set_option maxHeartbeats 400000 in
theorem findC_any (p : List UInt8) (B : Nat) (W : World) (x : NodeV) (hB : B < W.heap.size) (hc : W.cell? ⟨B, 0, none⟩ = some (.string (bs p))) :
    Calls Tryd.prog 51 #[.agg (nodeC x).toArray, .pointer (some ⟨B, 0, none⟩)] W fun e w' => e = .returned (.bool (x.1.path == p)) ∧ Below W.heap.size W w' := by
  obtain ⟨⟨q, k, s, t, ⟨m1, m2, m3, m4, m5, m6, m7⟩, d⟩, dv⟩ := x
  unfold nodeC
  simp only
  have hne : B ≠ W.heap.size := by omega
  have hq := Lib.hid (bs_beq q p)
  generalize bs q = bq at *
  generalize bs p = bp at *
  go_enter Tryd.func51, Tryd.ntmps51
  go_wp2
  go_ret
  exact ⟨ret_bool hq.out, (Below.refl _ _).alloc (Nat.le_refl _) _⟩
theorem eg_find : ∀ args w, (callFunc 51 args).run Tryd.prog w = .ok (.enter 51 args) w := enters_of Tryd.func51 (by kernel_rfl) rfl
def findR (o : Option Nat) : Value := match o with | some i => .tuple #[.int .i64 (i : Int), .int .i64 0] | none => .tuple #[.int .i64 0, .int .i64 5]
set_option maxHeartbeats 400000 in
theorem Find_any (v : Value) (l : List NodeP) (p : List UInt8) (w : World) (hl : NodesAt w v l) :
    Calls Tryd.prog 18 #[v, .string (bs p)] w fun e w' => e = .returned (findR (findP l p)) ∧ Below w.heap.size w w' := by
  have b0 : Below w.heap.size w (w.alloc (.cells #[.string (bs p)] 9)) := (Below.refl _ _).alloc (Nat.le_refl _) _
  have hl1 := hl.below b0
  have hk := (Blk.new w 9 #[.string (bs p)])
  have hcon := IdxN_any 51 #[.pointer (some ⟨w.heap.size, 0, none⟩)] eg_find _ l (fun x => x.path == p) _ hl1 (fun W x hb => by
    have hk2 := hk.below hb hk.lt
    have hlt := hk2.lt
    exact (findC_any p w.heap.size W x hlt (hk2.cell 0)).mono fun e w' ⟨h1, h2⟩ => ⟨h1, hb.trans (h2.mono hb.size)⟩)
  rw [show idxN (fun x => x.path == p) l = match findP l p with | some i => (i : Int) | none => -1 from rfl] at hcon
  obtain ⟨xs, A, c, _, rfl, _⟩ := hl
  have B0 := Lib.hid b0
  cases hq : findP l p with
  | some i =>
    rw [hq] at hcon
    have HC := Lib.hid hcon
    have hi0 : ¬ (i : Int) < 0 := by omega
    clear hcon hl1 hk b0 hq
    unfold findR
    go_enter Tryd.func18, Tryd.ntmps18
    go_wp2_with fail
    refine HC.out.mono ?_
    rintro e w' ⟨rfl, b1⟩
    have B1 := Lib.hid (B0.out.trans (b1.mono B0.out.size))
    clear b1
    go_wp2_with fail
    exact bodyPost_ret (v := .tuple #[.int .i64 (i : Int), .int .i64 0]) (by simp [results, Tryd.results18, go_sem]) rfl ⟨rfl, B1.out⟩
  | none =>
    rw [hq] at hcon
    have HC := Lib.hid hcon
    clear hcon hl1 hk b0 hq
    unfold findR
    go_enter Tryd.func18, Tryd.ntmps18
    go_wp2_with fail
    refine HC.out.mono ?_
    rintro e w' ⟨rfl, b1⟩
    have B1 := Lib.hid (B0.out.trans (b1.mono B0.out.size))
    clear b1
    go_wp2_with fail
    exact bodyPost_ret (v := .tuple #[.int .i64 0, .int .i64 5]) (by simp [results, Tryd.results18, go_sem]) rfl ⟨rfl, B1.out⟩

/-! ### equality of what is told -/
theorem beq_off {α} [BEq α] [LawfulBEq α] {a b : α} (h : (a == b) = false) : a ≠ b := by
  intro e; rw [e] at h; simp at h
theorem meta_first (m m' : MetaP) :
    (m = m' ∧ (m.mode == m'.mode) = true ∧ (m.uid == m'.uid) = true ∧ (m.gid == m'.gid) = true ∧ ((bs m.user).toList == (bs m'.user).toList) = true ∧ ((bs m.group).toList == (bs m'.group).toList) = true ∧ (m.second == m'.second) = true ∧ (m.nano == m'.nano) = true) ∨
    (m ≠ m' ∧ ((m.mode == m'.mode) = false ∨
      ((m.mode == m'.mode) = true ∧ (m.uid == m'.uid) = false) ∨
      ((m.mode == m'.mode) = true ∧ (m.uid == m'.uid) = true ∧ (m.gid == m'.gid) = false) ∨
      ((m.mode == m'.mode) = true ∧ (m.uid == m'.uid) = true ∧ (m.gid == m'.gid) = true ∧ ((bs m.user).toList == (bs m'.user).toList) = false) ∨
      ((m.mode == m'.mode) = true ∧ (m.uid == m'.uid) = true ∧ (m.gid == m'.gid) = true ∧ ((bs m.user).toList == (bs m'.user).toList) = true ∧ ((bs m.group).toList == (bs m'.group).toList) = false) ∨
      ((m.mode == m'.mode) = true ∧ (m.uid == m'.uid) = true ∧ (m.gid == m'.gid) = true ∧ ((bs m.user).toList == (bs m'.user).toList) = true ∧ ((bs m.group).toList == (bs m'.group).toList) = true ∧ (m.second == m'.second) = false) ∨
      ((m.mode == m'.mode) = true ∧ (m.uid == m'.uid) = true ∧ (m.gid == m'.gid) = true ∧ ((bs m.user).toList == (bs m'.user).toList) = true ∧ ((bs m.group).toList == (bs m'.group).toList) = true ∧ (m.second == m'.second) = true ∧ (m.nano == m'.nano) = false))) := by
  obtain ⟨a1, a2, a3, a4, a5, a6, a7⟩ := m
  obtain ⟨b1, b2, b3, b4, b5, b6, b7⟩ := m'
  simp only [bs_beq, beq_iff_eq, beq_eq_false_iff_ne, MetaP.mk.injEq, ne_eq]
  by_cases h1 : a1 = b1 <;> by_cases h2 : a2 = b2 <;> by_cases h3 : a3 = b3 <;> by_cases h4 : a4 = b4 <;> by_cases h5 : a5 = b5 <;> by_cases h6 : a6 = b6 <;> by_cases h7 : a7 = b7 <;> simp [h1, h2, h3, h4, h5, h6, h7]
theorem alike_of {x y : NodeP} (h : x.mt = y.mt) : alikeB x y = (x.data == y.data) := by unfold alikeB; simp [h]
theorem alike_not {x y : NodeP} (h : x.mt ≠ y.mt) : alikeB x y = false := by unfold alikeB; simp [h]

set_option maxHeartbeats 1000000 in
theorem Alike_any (x y : NodeV) (w : World) (hx : DataAt w 0 x.2 x.1.data) (hy : DataAt w 0 y.2 y.1.data) :
    Calls Tryd.prog 79 #[.agg (nodeC x).toArray, .agg (nodeC y).toArray] w fun e w' => e = .returned (.bool (alikeB x.1 y.1)) ∧ Below w.heap.size w w' := by
  obtain ⟨⟨p, k, s, t, ⟨m1, m2, m3, m4, m5, m6, m7⟩, d⟩, dv⟩ := x
  obtain ⟨⟨p', k', s', t', ⟨n1, n2, n3, n4, n5, n6, n7⟩, d'⟩, dv'⟩ := y
  simp only at hx hy
  have hb : ∀ o1 o2, Below w.heap.size w ((w.alloc o1).alloc o2) := fun o1 o2 => ((Below.refl w.heap.size w).alloc (Nat.le_refl _) o1).alloc (by simp) o2
  have hcx := fun o1 o2 => conv_str (hx.below (hb o1 o2)).bytes
  have hcy := fun o1 o2 => conv_str (hy.below (hb o1 o2)).bytes
  have HB := Lib.hid hb
  have HD := Lib.hid (bs_beq d d')
  obtain ⟨A, c, rfl, -⟩ := hx
  obtain ⟨A', c', rfl, -⟩ := hy
  have hM := meta_first ⟨m1, m2, m3, m4, m5, m6, m7⟩ ⟨n1, n2, n3, n4, n5, n6, n7⟩
  simp only at hM
  clear hb
  unfold nodeC
  simp only
  rcases hM with ⟨hm, q1, q2, q3, q4, q5, q6, q7⟩ | ⟨hm, hq⟩
  · have HR := Lib.hid (alike_of (x := ⟨p, k, s, t, ⟨m1, m2, m3, m4, m5, m6, m7⟩, d⟩) (y := ⟨p', k', s', t', ⟨n1, n2, n3, n4, n5, n6, n7⟩, d'⟩) hm)
    clear hm
    generalize bs d = bd at *
    generalize bs d' = bd' at *
    generalize bs p = bp at *
    generalize bs p' = bp' at *
    generalize bs t = bt at *
    generalize bs t' = bt' at *
    generalize bs m4 = b4 at *
    generalize bs m5 = b5 at *
    generalize bs n4 = c4 at *
    generalize bs n5 = c5 at *
    go_enter Tryd.func79, Tryd.ntmps79
    go_wp2_with fail
    go_ret
    exact ⟨ret_bool (HD.out.trans HR.out.symm), HB.out _ _⟩
  · have HR := Lib.hid (alike_not (x := ⟨p, k, s, t, ⟨m1, m2, m3, m4, m5, m6, m7⟩, d⟩) (y := ⟨p', k', s', t', ⟨n1, n2, n3, n4, n5, n6, n7⟩, d'⟩) hm)
    clear hm hcx hcy
    generalize bs p = bp at *
    generalize bs p' = bp' at *
    generalize bs t = bt at *
    generalize bs t' = bt' at *
    generalize bs m4 = b4 at *
    generalize bs m5 = b5 at *
    generalize bs n4 = c4 at *
    generalize bs n5 = c5 at *
    rcases hq with q1 | ⟨q1, q2⟩ | ⟨q1, q2, q3⟩ | ⟨q1, q2, q3, q4⟩ | ⟨q1, q2, q3, q4, q5⟩ | ⟨q1, q2, q3, q4, q5, q6⟩ | ⟨q1, q2, q3, q4, q5, q6, q7⟩
    all_goals
      go_enter Tryd.func79, Tryd.ntmps79
      go_wp2_with fail
      go_ret
      exact ⟨ret_bool HR.out.symm, HB.out _ _⟩
end Go.Proofs.YtjglenhhgbokbaaDoor
