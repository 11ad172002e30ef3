/-
  The state of creelkeep.Tree as it grows. Plain lemmas: no condition.
  creelkeep.Tree's closure 'at'. No condition.
-/
import Derived.Test.YtphmhmdcaafmdaaGreatDoorNodesG
import Derived.Test.YtphmhmdcaafmdaaGreatDoorRawW
import Derived.Test.YtphmhmdcaafmdaaGreatDoorPathW
namespace Go.Proofs.YtphmhmdcaafmdaaGreatDoor
set_option linter.all false
section
open Go.RowKit
/-- the slice of directories: a row of the call's own -/
def DirsOwn (w : World) (base : Nat) (v : Value) (l : List (List UInt8)) : Prop := w.ownsRow base 9 1 v l.length (l.map fun d => .string (bs d))
/-- grown so far: the variable's block holds the tree's slice -/
def TrSt (w0 : World) (s : TreeS) (dv : Value) (w : World) : Prop :=
  Below w0.heap.size w0 w ∧ (∃ tv, Blk w w0.heap.size 23 #[tv] ∧ NodesOwn w w0.heap.size tv s.t) ∧ DirsOwn w w0.heap.size dv s.dirs
theorem TrSt.below {w0 w w' : World} {s : TreeS} {dv : Value} (h : TrSt w0 s dv w) (hb : Below w.heap.size w w') : TrSt w0 s dv w' := by
  obtain ⟨h1, ⟨tv, h2, h3⟩, h4⟩ := h
  exact ⟨h1.trans (hb.mono h1.size), ⟨tv, h2.below hb h2.lt, h3.below hb⟩, ownsRow_below h4 hb⟩
/-- .. and a block of the round's own -/
def TrBl (w0 : World) (s : TreeS) (dv : Value) (g : Nat) (t : TypeId) (cs : Array Value) (w : World) : Prop := TrSt w0 s dv w ∧ Blk w g t cs
theorem TrBl.below {w0 w w' : World} {s : TreeS} {dv : Value} {g : Nat} {t : TypeId} {cs : Array Value} (h : TrBl w0 s dv g t cs w) (hb : Below w.heap.size w w') : TrBl w0 s dv g t cs w' := ⟨h.1.below hb, h.2.below hb h.2.lt⟩
/-- the tree's variable, as a walk reads it -/
theorem TrSt.tree {w0 w : World} {s : TreeS} {dv : Value} (h : TrSt w0 s dv w) : ∃ A c, w.cell? ⟨w0.heap.size, 0, none⟩ = some (.slice A s.t.length c) ∧ s.t.length ≤ c ∧ c ≤ maxLen ∧ NodesOwn w w0.heap.size (.slice A s.t.length c) s.t ∧ w.frozen? ⟨w0.heap.size, 0, none⟩ = false ∧ w0.heap.size < w.heap.size := by
  obtain ⟨_, ⟨tv, h2, h3⟩, _⟩ := h
  obtain ⟨xs, h0, h1, h4⟩ := id h3
  obtain ⟨A, c, rfl, e2, e3, _, _⟩ := ownsRow_read h1
  exact ⟨A, c, h2.cell 0, e2, e3, h3, h2.frozen 0, h2.lt⟩
/-- a directory, as a walk reads it -/
theorem DirsOwn.at_ {w : World} {base : Nat} {v : Value} {l : List (List UInt8)} (h : DirsOwn w base v l) (hl : 1 ≤ l.length) : ∃ g c, v = .slice (some ⟨g, 0, none⟩) l.length c ∧ l.length ≤ c ∧ c ≤ maxLen ∧ g < w.heap.size ∧ ∀ k, (hk : k < l.length) → w.cell? ⟨g, k, none⟩ = some (.string (bs l[k])) := by
  obtain ⟨g, cap, rfl, hb, hlt⟩ := World.ownsRow.form h (by omega)
  have h2 := h
  obtain ⟨A, c, e1, e2, e3, _, _⟩ := ownsRow_read h
  injection e1 with e1 _ e4
  subst e4
  refine ⟨g, _, rfl, e2, e3, hlt, fun k hk => ?_⟩
  have h3 := World.ownsRow.cells h2 (g := g) rfl k (.string (bs l[k])) (by rw [List.getElem?_map, List.getElem?_eq_getElem hk]; rfl)
  rwa [add_flat, Nat.zero_add] at h3
def growN (most : Nat) (l : List RawS) (k : Nat) : TreeS := growAll most (l.take k)
theorem growN_succ {most : Nat} {l : List RawS} {k : Nat} (hk : k < l.length) : growN most l (k + 1) = growStep most (growN most l k) l[k] := by
  unfold growN growAll
  rw [List.take_succ_eq_append_getElem hk, List.foldl_append]; rfl
theorem growN_all {most : Nat} {l : List RawS} {k : Nat} (hk : l.length ≤ k) : growN most l k = growAll most l := by
  unfold growN; rw [List.take_of_length_le hk]
theorem growN_full {most : Nat} {l : List RawS} {k : Nat} (h : most ≤ (growN most l k).t.length) : growN most l k = growAll most l := by
  have e : growAll most l = (l.drop k).foldl (growStep most) (growN most l k) := by
    unfold growN growAll
    rw [← List.foldl_append, List.take_append_drop]
  rw [e, grow_full h]
theorem growN_ok (most : Nat) (l : List RawS) (k : Nat) : GrowOk most (growN most l k) := growOk_all most _ (growOk_start most)
/-- a raw thing's cells, as a walk loads them -/
theorem load_raw {w : World} {B : Nat} {A : Option Addr} {l : List RawS} (h : Reads w B 4 A l.length (l.flatMap rawCells)) {k : Nat} (hk : k < l.length) :
    ∃ ad, A = some ad ∧ ad.block < B ∧ w.cell? (ad.add (k * 4)) = some (.int .i64 l[k].kind) ∧ w.cell? ⟨(ad.add (k * 4)).block, (ad.add (k * 4)).off + 1, none⟩ = some (.int .i64 l[k].a) ∧ w.cell? ⟨(ad.add (k * 4)).block, (ad.add (k * 4)).off + 2, none⟩ = some (.int .i64 l[k].b) ∧ w.cell? ⟨(ad.add (k * 4)).block, (ad.add (k * 4)).off + 3, none⟩ = some (.string (bs l[k].text)) := by
  obtain ⟨ad, e, hb, h0, h1, h2, h3⟩ := h.raw_at hk
  have hs := spot_of h0
  refine ⟨ad, e, hb, h0, ?_, ?_, ?_⟩
  · rw [← add_step hs, add_of_add]; exact h1
  · rw [← add_step hs, add_of_add]; exact h2
  · rw [← add_step hs, add_of_add]; exact h3
theorem namesL_bd : ∀ n ∈ namesL, n.length ≤ 130 := by
  intro n hn
  simp only [namesL, List.mem_cons, List.mem_nil_iff, or_false] at hn
  rcases hn with rfl | rfl | rfl | rfl | rfl | rfl | rfl | rfl | rfl | rfl | rfl
  all_goals first | (rw [List.length_replicate]; omega) | (simp only [List.length_cons, List.length_nil]; omega)
theorem growPath_length {most : Nat} {s : TreeS} (h : GrowOk most s) (r : RawS) : (growPath s.dirs r).length ≤ 531 := by
  unfold growPath upS
  have h1 : (s.dirs.getD (pick r.b s.dirs.length).toNat []).length ≤ 400 := by
    rw [List.getD_eq_getElem?_getD]
    rcases hq : s.dirs[(pick r.b s.dirs.length).toNat]? with _ | d
    · simp
    · exact h.dirLen d (List.mem_of_getElem? hq)
  have h2 : (namesL.getD (pick r.a 11).toNat []).length ≤ 130 := by
    rw [List.getD_eq_getElem?_getD]
    rcases hq : namesL[(pick r.a 11).toNat]? with _ | d
    · simp
    · exact namesL_bd d (List.mem_of_getElem? hq)
  rw [List.length_append]
  split
  · rw [List.length_nil]; omega
  · rw [List.length_append, List.length_singleton]; omega
end
section
open Go.RowKit
set_option maxHeartbeats 400000 in
theorem atP_any (p : List UInt8) (B : Nat) (W : World) (x : NodeV) (hB : B < W.heap.size) (hc : W.cell? ⟨B, 0, none⟩ = some (.string (bs p))) :
    Calls Tryz.prog 23 #[.agg (nodeC x).toArray, .pointer (some ⟨B, 0, none⟩)] W fun e w' => e = .returned (.bool (x.1.path == p)) ∧ Below W.heap.size W w' := by
  obtain ⟨⟨q, k, s, t, ⟨m1, m2, m3, m4, m5, m6, m7⟩, d⟩, dv⟩ := x
  unfold nodeC
  simp only
  have hne : B ≠ W.heap.size := by omega
  have hq := Lib.hid (bs_beq q p)
  generalize bs q = bq at *
  generalize bs p = bp at *
  go_enter Tryz.func23, Tryz.ntmps23
  go_wp2
  go_ret
  exact ⟨ret_bool hq.out, (Below.refl _ _).alloc (Nat.le_refl _) _⟩
theorem eg_at : ∀ args w, (callFunc 23 args).run Tryz.prog w = .ok (.enter 23 args) w := enters_of Tryz.func23 (by kernel_rfl) rfl
set_option maxHeartbeats 400000 in
theorem At_any (w0 : World) (s : TreeS) (dv : Value) (p : List UInt8) (w : World) (h : TrSt w0 s dv w) :
    Calls Tryz.prog 21 #[.string (bs p), .pointer (some ⟨w0.heap.size, 0, none⟩)] w fun e w' => e = .returned (.int .i64 (idxN (fun x => x.path == p) s.t)) ∧ Below w.heap.size w w' := by
  have b0 : Below w.heap.size w (w.alloc (.cells #[.string (bs p)] 9)) := (Below.refl _ _).alloc (Nat.le_refl _) _
  have h1 := h.below b0
  obtain ⟨A, c, hc, _, _, ho, _, _⟩ := h1.tree
  have hk := (Blk.new w 9 #[.string (bs p)])
  have hcon := IdxN_any 23 #[.pointer (some ⟨w.heap.size, 0, none⟩)] eg_at _ s.t (fun x => x.path == p) _ ho.at_ (fun W x hb => by
    have hk2 := hk.below hb hk.lt
    have hlt := hk2.lt
    exact (atP_any p w.heap.size W x hlt (hk2.cell 0)).mono fun e w' ⟨h1, h2⟩ => ⟨h1, hb.trans (h2.mono hb.size)⟩)
  have HC := Lib.hid hcon
  have B0 := Lib.hid b0
  clear hcon h h1 hk ho b0
  go_enter Tryz.func21, Tryz.ntmps21
  go_wp2_with fail
  refine HC.out.mono ?_
  rintro e w' ⟨rfl, b1⟩
  have B1 := Lib.hid (B0.out.trans (b1.mono B0.out.size))
  clear b1
  go_wp2_with fail
  go_ret
  exact ⟨rfl, B1.out⟩
theorem idxN_neg {p : List UInt8} {l : List NodeP} (h : hasPath l p = false) : idxN (fun x => x.path == p) l = -1 :=
  idxN_miss (fun j hj => by
    unfold hasPath at h
    rw [List.any_eq_false] at h
    simpa using h _ (List.getElem_mem hj))
theorem idxN_nat {p : List UInt8} {l : List NodeP} (h : hasPath l p = true) : ∃ i : Nat, i < l.length ∧ idxN (fun x => x.path == p) l = i ∧ ∃ x, l[i]? = some x ∧ x.path = p := by
  unfold idxN
  cases hq : l.findIdx? (fun x => x.path == p) with
  | some i =>
    rw [List.findIdx?_eq_some_iff_getElem] at hq
    obtain ⟨h1, h2, _⟩ := hq
    exact ⟨i, h1, rfl, l[i], List.getElem?_eq_getElem h1, by simpa using h2⟩
  | none =>
    rw [List.findIdx?_eq_none_iff] at hq
    unfold hasPath at h
    rw [List.any_eq_true] at h
    obtain ⟨x, hx, e⟩ := h
    rw [hq x hx] at e
    cases e
end
end Go.Proofs.YtphmhmdcaafmdaaGreatDoor
