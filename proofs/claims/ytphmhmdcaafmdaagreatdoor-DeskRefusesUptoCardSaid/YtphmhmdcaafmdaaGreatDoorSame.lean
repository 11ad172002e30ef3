/-
  creelkeep.SameNode, slices.EqualFunc over nodes, creelkeep.SameTree. No condition beyond the nodes' data lying in blocks of bytes.
-/
import Derived.Test.YtphmhmdcaafmdaaGreatDoorTFR
import Derived.Test.YtphmhmdcaafmdaaGreatDoorTCheck
import Derived.BigQuiet
namespace Go.Proofs.YtphmhmdcaafmdaaGreatDoor
set_option linter.all false
open Go.RowKit
/-! ### creelkeep.SameNode -/
def sameB (x y : NodeP) : Bool := decide (x = y)
theorem node_first (x y : NodeP) :
    (sameB x y = (x.data == y.data) ∧ x.mt = y.mt ∧ ((bs x.path).toList == (bs y.path).toList) = true ∧ (x.kind == y.kind) = true ∧ (x.same == y.same) = true ∧ ((bs x.target).toList == (bs y.target).toList) = true) ∨
    (sameB x y = false ∧ (((bs x.path).toList == (bs y.path).toList) = false ∨
      (((bs x.path).toList == (bs y.path).toList) = true ∧ (x.kind == y.kind) = false) ∨
      (((bs x.path).toList == (bs y.path).toList) = true ∧ (x.kind == y.kind) = true ∧ (x.same == y.same) = false) ∨
      (((bs x.path).toList == (bs y.path).toList) = true ∧ (x.kind == y.kind) = true ∧ (x.same == y.same) = true ∧ ((bs x.target).toList == (bs y.target).toList) = false) ∨
      (((bs x.path).toList == (bs y.path).toList) = true ∧ (x.kind == y.kind) = true ∧ (x.same == y.same) = true ∧ ((bs x.target).toList == (bs y.target).toList) = true ∧ x.mt ≠ y.mt))) := by
  obtain ⟨a1, a2, a3, a4, a5, a6⟩ := x
  obtain ⟨b1, b2, b3, b4, b5, b6⟩ := y
  unfold sameB
  simp only [bs_beq, beq_iff_eq, beq_eq_false_iff_ne, NodeP.mk.injEq, ne_eq]
  by_cases h1 : a1 = b1 <;> by_cases h2 : a2 = b2 <;> by_cases h3 : a3 = b3 <;> by_cases h4 : a4 = b4 <;> by_cases h5 : a5 = b5 <;> simp [h1, h2, h3, h4, h5]
  rw [Bool.eq_iff_iff]; simp
set_option maxRecDepth 100000 in
set_option maxHeartbeats 4000000 in
theorem SameNode_any (x y : NodeV) (w : World) (hx : DataAt w 0 x.2 x.1.data) (hy : DataAt w 0 y.2 y.1.data) :
    Calls Tryz.prog 45 #[.agg (nodeC x).toArray, .agg (nodeC y).toArray] w fun e w' => e = .returned (.bool (sameB x.1 y.1)) ∧ Below w.heap.size w w' := by
  have hN := node_first x.1 y.1
  obtain ⟨⟨p, k, s, t, mt, d⟩, dv⟩ := x
  obtain ⟨⟨p', k', s', t', mt', d'⟩, dv'⟩ := y
  simp only at hx hy hN
  have hb : ∀ o1 o2, Below w.heap.size w ((w.alloc o1).alloc o2) := fun o1 o2 => ((Below.refl w.heap.size w).alloc (Nat.le_refl _) o1).alloc (by simp) o2
  have hcx := fun o1 o2 => conv_str (hx.below (hb o1 o2)).bytes
  have hcy := fun o1 o2 => conv_str (hy.below (hb o1 o2)).bytes
  have HB := Lib.hid hb
  have HD := Lib.hid (bs_beq d d')
  obtain ⟨A, c, rfl, -⟩ := hx
  obtain ⟨A', c', rfl, -⟩ := hy
  clear hb
  unfold nodeC
  simp only
  rcases hN with ⟨hs, hm, q1, q2, q3, q4⟩ | ⟨hs, hN⟩
  · have HR := Lib.hid hs
    have hM := meta_first mt mt'
    obtain ⟨m1, m2, m3, m4, m5, m6, m7⟩ := mt
    obtain ⟨n1, n2, n3, n4, n5, n6, n7⟩ := mt'
    simp only at hM
    rcases hM with ⟨-, r1, r2, r3, r4, r5, r6, r7⟩ | ⟨hne, -⟩
    · clear hs hm
      generalize bs d = bd at *
      generalize bs d' = bd' at *
      generalize bs p = bp at *
      generalize bs p' = bp' at *
      generalize bs t = bt at *
      generalize bs t' = bt' at *
      generalize bs m4 = b4 at *
      generalize bs m5 = b5 at *
      generalize bs n4 = c4 at *
      generalize bs n5 = c5 at *
      go_enter Tryz.func45, Tryz.ntmps45
      go_wp2_with fail
      go_ret
      exact ⟨ret_bool (HD.out.trans HR.out.symm), HB.out _ _⟩
    · exact absurd hm hne
  · have HR := Lib.hid hs
    clear hs hcx hcy
    rcases hN with q1 | ⟨q1, q2⟩ | ⟨q1, q2, q3⟩ | ⟨q1, q2, q3, q4⟩ | ⟨q1, q2, q3, q4, hm⟩
    iterate 4
      · generalize bs p = bp at *
        generalize bs p' = bp' at *
        generalize bs t = bt at *
        generalize bs t' = bt' at *
        go_enter Tryz.func45, Tryz.ntmps45
        go_wp2_with fail
        go_ret
        exact ⟨ret_bool HR.out.symm, HB.out _ _⟩
    · have hM := meta_first mt mt'
      obtain ⟨m1, m2, m3, m4, m5, m6, m7⟩ := mt
      obtain ⟨n1, n2, n3, n4, n5, n6, n7⟩ := mt'
      simp only at hM
      rcases hM with ⟨he, -⟩ | ⟨-, hq⟩
      · exact absurd he hm
      clear hm
      generalize bs p = bp at *
      generalize bs p' = bp' at *
      generalize bs t = bt at *
      generalize bs t' = bt' at *
      generalize bs m4 = b4 at *
      generalize bs m5 = b5 at *
      generalize bs n4 = c4 at *
      generalize bs n5 = c5 at *
      rcases hq with r1 | ⟨r1, r2⟩ | ⟨r1, r2, r3⟩ | ⟨r1, r2, r3, r4⟩ | ⟨r1, r2, r3, r4, r5⟩ | ⟨r1, r2, r3, r4, r5, r6⟩ | ⟨r1, r2, r3, r4, r5, r6, r7⟩
      all_goals
        go_enter Tryz.func45, Tryz.ntmps45
        go_wp2_with fail
        go_ret
        exact ⟨ret_bool HR.out.symm, HB.out _ _⟩
/-! ### slices.EqualFunc over nodes -/
theorem Blk.node {W : World} {g : Nat} {np nt nd : List UInt8} {nk ns o1 o2 o3 o6 o7 : Int} {o4 o5 : List UInt8} {dv : Value} (h : Blk W g 29 (nodeC (⟨np, nk, ns, nt, ⟨o1, o2, o3, o4, o5, o6, o7⟩, nd⟩, dv)).toArray) :
    W.cell? ⟨g, 0, none⟩ = some (.string (bs np)) ∧ W.cell? ⟨g, 1, none⟩ = some (.int .i64 nk) ∧ W.cell? ⟨g, 2, none⟩ = some (.int .i64 ns) ∧ W.cell? ⟨g, 3, none⟩ = some (.string (bs nt)) ∧ W.cell? ⟨g, 4, none⟩ = some (.int .i64 o1) ∧ W.cell? ⟨g, 5, none⟩ = some (.int .i64 o2) ∧ W.cell? ⟨g, 6, none⟩ = some (.int .i64 o3) ∧ W.cell? ⟨g, 7, none⟩ = some (.string (bs o4)) ∧ W.cell? ⟨g, 8, none⟩ = some (.string (bs o5)) ∧ W.cell? ⟨g, 9, none⟩ = some (.int .i64 o6) ∧ W.cell? ⟨g, 10, none⟩ = some (.int .i64 o7) ∧ W.cell? ⟨g, 11, none⟩ = some dv :=
  ⟨h.cell 0, h.cell 1, h.cell 2, h.cell 3, h.cell 4, h.cell 5, h.cell 6, h.cell 7, h.cell 8, h.cell 9, h.cell 10, h.cell 11⟩
def eqFN (p : NodeP → NodeP → Bool) : List NodeP → List NodeP → Bool
  | [], [] => true
  | x :: l, y :: m => p x y && eqFN p l m
  | _, _ => false
theorem eqFN_len {p : NodeP → NodeP → Bool} : ∀ {l m : List NodeP}, l.length ≠ m.length → eqFN p l m = false
  | [], [], h => absurd rfl h
  | _ :: _, [], _ => rfl
  | [], _ :: _, _ => rfl
  | x :: l, y :: m, h => by
    rw [eqFN, eqFN_len (l := l) (m := m) (fun e => h (by simp [e])), Bool.and_false]
theorem eqFN_all {p : NodeP → NodeP → Bool} : ∀ {l m : List NodeP}, l.length = m.length → (∀ j (h1 : j < l.length) (h2 : j < m.length), p l[j] m[j] = true) → eqFN p l m = true
  | [], [], _, _ => rfl
  | _ :: _, [], h, _ => by simp at h
  | [], _ :: _, h, _ => by simp at h
  | x :: l, y :: m, h, hp => by
    have h0 := hp 0 (by simp) (by simp)
    have h1 := eqFN_all (p := p) (l := l) (m := m) (by simpa using h) (fun j a b => by have := hp (j + 1) (by simp; omega) (by simp; omega); simpa using this)
    rw [eqFN, h1, Bool.and_true]; exact h0
theorem eqFN_off {p : NodeP → NodeP → Bool} : ∀ {l m : List NodeP} {j : Nat} (h1 : j < l.length) (h2 : j < m.length), p l[j] m[j] = false → eqFN p l m = false
  | x :: l, y :: m, 0, _, _, h => by rw [eqFN]; simp at h; rw [h, Bool.false_and]
  | x :: l, y :: m, j + 1, h1, h2, h => by
    rw [eqFN, eqFN_off (l := l) (m := m) (j := j) (by simpa using h1) (by simpa using h2) (by simpa using h), Bool.and_false]
theorem eqFN_same : ∀ (l m : List NodeP), eqFN sameB l m = decide (l = m)
  | [], [] => rfl
  | _ :: _, [] => by simp [eqFN]
  | [], _ :: _ => by simp [eqFN]
  | x :: l, y :: m => by
    rw [eqFN, eqFN_same l m]
    unfold sameB
    rw [Bool.eq_iff_iff]
    simp
set_option maxRecDepth 100000 in
set_option maxHeartbeats 4000000 in
theorem EqFN_any (g : FuncId) (cb : Array Value) (eg : ∀ args w, (callFunc g args).run Tryz.prog w = .ok (.enter g args) w) (v1 v2 : Value) (l m : List NodeP) (p : NodeP → NodeP → Bool) (w : World) (hl : NodesAt w v1 l) (hm : NodesAt w v2 m)
    (hp : ∀ (W : World) (x y : NodeV), Below w.heap.size w W → DataAt W 0 x.2 x.1.data → DataAt W 0 y.2 y.1.data → Calls Tryz.prog g (#[.agg (nodeC x).toArray, .agg (nodeC y).toArray] ++ cb) W fun e w' => e = .returned (.bool (p x.1 y.1)) ∧ Below W.heap.size W w') :
    Calls Tryz.prog 44 #[v1, v2, .func (.func g) #[] cb] w fun e w' => e = .returned (.bool (eqFN p l m)) ∧ Below w.heap.size w w' := by
  obtain ⟨xs, A, c, hx, rfl, hlc, hc, -, hr, hdx⟩ := hl
  obtain ⟨ys, B, d, hy, rfl, hmd, hd, -, hs, hdy⟩ := hm
  have hxl : xs.length = l.length := by rw [← hx, List.length_map]
  have hyl : ys.length = m.length := by rw [← hy, List.length_map]
  unfold maxLen at hc hd
  have HX := Lib.hid hx
  have HY := Lib.hid hy
  have HR := Lib.hid hr
  have HS := Lib.hid hs
  have HDX := Lib.hid hdx
  have HDY := Lib.hid hdy
  have HP := Lib.hid hp
  have HXL := Lib.hid hxl
  have HYL := Lib.hid hyl
  clear hx hy hr hs hdx hdy hp hxl hyl
  by_cases hlen : l.length = m.length
  · have HL := Lib.hid hlen
    have hml : m.length = l.length := hlen.symm
    rw [hml] at hmd HS ⊢
    have HML := Lib.hid hml
    clear hlen hml
    go_enter Tryz.func44, Tryz.ntmps44
    go_wp2_with fail
    go_loopg [17] l.length (fun gg s17 wr => ∃ k : Nat, k ≤ l.length ∧ l.length - k ≤ gg ∧ s17 = .int .i64 k ∧ Hid (Below w.heap.size w wr) ∧ Hid (∀ j (h1 : j < l.length) (h2 : j < m.length), j < k → p l[j] m[j] = true))
    case atStart => exact ⟨0, Nat.zero_le _, by omega, rfl, Below.refl _ w, Lib.hid (fun j _ _ h => absurd h (Nat.not_lt_zero _))⟩
    case round =>
      obtain ⟨k, hk, hg, rfl, HW, HE⟩ := hrel
      by_cases hlt : k < l.length
      · have hltz : (k : Int) < (l.length : Int) := by omega
        have hltm : k < m.length := by rw [HML.out]; exact hlt
        obtain ⟨ad, rfl, hb, e0, e1, e2, e3, e4, e5, e6, e7, e8, e9, e10, e11⟩ := load_node (HR.out.below HW.out) (by rw [HXL.out]; exact hlt) hlt
        obtain ⟨be, rfl, hbb, f0, f1, f2, f3, f4, f5, f6, f7, f8, f9, f10, f11⟩ := load_node (HS.out.below HW.out) (show k < ys.length by rw [HYL.out]; exact hltm) hlt
        have hkx : k < xs.length := by rw [HXL.out]; exact hlt
        have hky : k < ys.length := by rw [HYL.out]; exact hltm
        have hxk : xs[k].1 = l[k] := by have := HX.out; subst this; simp
        have hyk : ys[k].1 = m[k] := by have := HY.out; subst this; simp
        have hd1 := (HDX.out xs[k] (List.getElem_mem _)).below HW.out
        have hd2 := (HDY.out ys[k] (List.getElem_mem _)).below HW.out
        have HXK := Lib.hid hxk
        have HYK := Lib.hid hyk
        clear hxk hyk
        generalize xs[k] = x at *
        generalize ys[k] = y at *
        clear hkx hky
        have HCL := Lib.hid (fun W (hW : Below wr.heap.size wr W) => HP.out W x y (HW.out.trans (hW.mono HW.out.size)) (hd1.below hW) (hd2.below hW))
        obtain ⟨⟨np, nk, ns, nt, ⟨o1, o2, o3, o4, o5, o6, o7⟩, nd⟩, dv⟩ := x
        obtain ⟨⟨mp, mk, ms, mt, ⟨p1, p2, p3, p4, p5, p6, p7⟩, md⟩, dw⟩ := y
        simp only at hd1 hd2
        obtain ⟨Ax, cx, rfl, -⟩ := hd1
        obtain ⟨Ay, cy, rfl, -⟩ := hd2
        simp only at e0 e1 e2 e3 e4 e5 e6 e7 e8 e9 e10 e11 f0 f1 f2 f3 f4 f5 f6 f7 f8 f9 f10 f11
        have hsz := HW.out.size
        unfold nodeC at HCL
        simp only at HCL HXK HYK
        obtain ⟨W2, hW2⟩ : ∃ W2, W2 = wr.alloc (.cells #[.string (bs np), .int .i64 nk, .int .i64 ns, .string (bs nt), .int .i64 o1, .int .i64 o2, .int .i64 o3, .string (bs o4), .string (bs o5), .int .i64 o6, .int .i64 o7, .slice Ax nd.length cx] 29) := ⟨_, rfl⟩
        have b2 : Below wr.heap.size wr W2 := by rw [hW2]; exact (Below.refl _ _).alloc (Nat.le_refl _) _
        have K2 : Blk W2 wr.heap.size 29 (nodeC (⟨np, nk, ns, nt, ⟨o1, o2, o3, o4, o5, o6, o7⟩, nd⟩, .slice Ax nd.length cx)).toArray := by rw [hW2]; exact Blk.new _ _ _
        obtain ⟨W3, hW3⟩ : ∃ W3, W3 = W2.alloc (.cells #[.string (bs mp), .int .i64 mk, .int .i64 ms, .string (bs mt), .int .i64 p1, .int .i64 p2, .int .i64 p3, .string (bs p4), .string (bs p5), .int .i64 p6, .int .i64 p7, .slice Ay md.length cy] 29) := ⟨_, rfl⟩
        have b3 : Below W2.heap.size W2 W3 := by rw [hW3]; exact (Below.refl _ _).alloc (Nat.le_refl _) _
        have K3 : Blk W3 W2.heap.size 29 (nodeC (⟨mp, mk, ms, mt, ⟨p1, p2, p3, p4, p5, p6, p7⟩, md⟩, .slice Ay md.length cy)).toArray := by rw [hW3]; exact Blk.new _ _ _
        have HB2 := Lib.hid (b2.trans (b3.mono b2.size))
        have HK2 := Lib.hid (K2.below b3 K2.lt)
        have HK3 := Lib.hid K3
        have HFB := Lib.hid (fun (a : Addr) (u : Value) (h : a.block < w.heap.size) (e : wr.cell? a = some u) => (b2.cell (p := a) (by omega)).trans e)
        have j0 : (be.add (k * 12)).block < w.heap.size := by rw [block_of_add]; exact hbb
        have f0 := HFB.out _ _ j0 f0
        have f1 := HFB.out ⟨(be.add (k * 12)).block, (be.add (k * 12)).off + 1, none⟩ _ j0 f1
        have f2 := HFB.out ⟨(be.add (k * 12)).block, (be.add (k * 12)).off + 2, none⟩ _ j0 f2
        have f3 := HFB.out ⟨(be.add (k * 12)).block, (be.add (k * 12)).off + 3, none⟩ _ j0 f3
        have f4 := HFB.out ⟨(be.add (k * 12)).block, (be.add (k * 12)).off + 4, none⟩ _ j0 f4
        have f5 := HFB.out ⟨(be.add (k * 12)).block, (be.add (k * 12)).off + 5, none⟩ _ j0 f5
        have f6 := HFB.out ⟨(be.add (k * 12)).block, (be.add (k * 12)).off + 6, none⟩ _ j0 f6
        have f7 := HFB.out ⟨(be.add (k * 12)).block, (be.add (k * 12)).off + 7, none⟩ _ j0 f7
        have f8 := HFB.out ⟨(be.add (k * 12)).block, (be.add (k * 12)).off + 8, none⟩ _ j0 f8
        have f9 := HFB.out ⟨(be.add (k * 12)).block, (be.add (k * 12)).off + 9, none⟩ _ j0 f9
        have f10 := HFB.out ⟨(be.add (k * 12)).block, (be.add (k * 12)).off + 10, none⟩ _ j0 f10
        have f11 := HFB.out ⟨(be.add (k * 12)).block, (be.add (k * 12)).off + 11, none⟩ _ j0 f11
        clear b2 K2 b3 K3 j0 hbb
        have HON : Hid (p ⟨np, nk, ns, nt, ⟨o1, o2, o3, o4, o5, o6, o7⟩, nd⟩ ⟨mp, mk, ms, mt, ⟨p1, p2, p3, p4, p5, p6, p7⟩, md⟩ = true → ∀ j (h1 : j < l.length) (h2 : j < m.length), j < k + 1 → p l[j] m[j] = true) := Lib.hid (fun h j h1 h2 h3 => by
          by_cases e : j = k
          · subst e
            rw [← HXK.out, ← HYK.out]; exact h
          · exact HE.out j h1 h2 (by omega))
        have HOF : Hid (p ⟨np, nk, ns, nt, ⟨o1, o2, o3, o4, o5, o6, o7⟩, nd⟩ ⟨mp, mk, ms, mt, ⟨p1, p2, p3, p4, p5, p6, p7⟩, md⟩ = false → eqFN p l m = false) := Lib.hid (fun h => eqFN_off hlt hltm (by rw [← HXK.out, ← HYK.out]; exact h))
        cases hq : p ⟨np, nk, ns, nt, ⟨o1, o2, o3, o4, o5, o6, o7⟩, nd⟩ ⟨mp, mk, ms, mt, ⟨p1, p2, p3, p4, p5, p6, p7⟩, md⟩ with
        | true =>
          rw [hq] at HCL
          have H2 := Lib.hid (HON.out hq)
          clear hq HON HOF
          go_upto_region 6 with fail
          rw [← hW2]
          clear hW2
          clear e0 e1 e2 e3 e4 e5 e6 e7 e8 e9 e10 e11
          go_upto_region 7 with fail
          rw [← hW3]
          clear hW3
          clear f0 f1 f2 f3 f4 f5 f6 f7 f8 f9 f10 f11
          obtain ⟨c0, c1, c2, c3, c4, c5, c6, c7, c8, c9, c10, c11⟩ := HK2.out.node
          obtain ⟨d0, d1, d2, d3, d4, d5, d6, d7, d8, d9, d10, d11⟩ := HK3.out.node
          go_wp2_with (go_at_fn g; refine (HCL.out _ HB2.out).mono ?_; rintro e w' ⟨rfl, hb'⟩)
          go_roundg (l.length - (k + 1))
          case measure => omega
          case rel => exact ⟨k + 1, by omega, by omega, by go_num, Lib.hid (HW.out.trans ((HB2.out.trans (hb'.mono HB2.out.size)).mono HW.out.size)), H2⟩
        | false =>
          rw [hq] at HCL
          have H2 := Lib.hid (HOF.out hq)
          clear hq HON HOF
          go_upto_region 6 with fail
          rw [← hW2]
          clear hW2
          clear e0 e1 e2 e3 e4 e5 e6 e7 e8 e9 e10 e11
          go_upto_region 7 with fail
          rw [← hW3]
          clear hW3
          clear f0 f1 f2 f3 f4 f5 f6 f7 f8 f9 f10 f11
          obtain ⟨c0, c1, c2, c3, c4, c5, c6, c7, c8, c9, c10, c11⟩ := HK2.out.node
          obtain ⟨d0, d1, d2, d3, d4, d5, d6, d7, d8, d9, d10, d11⟩ := HK3.out.node
          go_wp2_with (go_at_fn g; refine (HCL.out _ HB2.out).mono ?_; rintro e w' ⟨rfl, hb'⟩)
          go_ret
          exact ⟨ret_bool H2.out.symm, HW.out.trans ((HB2.out.trans (hb'.mono HB2.out.size)).mono HW.out.size)⟩
      · obtain rfl : k = l.length := by omega
        have H2 := Lib.hid (eqFN_all HL.out (fun j h1 h2 => HE.out j h1 h2 h1))
        go_wp2_with fail
        go_ret
        exact ⟨ret_bool H2.out.symm, HW.out⟩
  · have HR2 := Lib.hid (eqFN_len (p := p) hlen)
    have t1 : ((l.length : Int) == (m.length : Int)) = false := by simp; omega
    have t2 : (l.length == m.length) = false := by simp [hlen]
    clear hlen
    go_enter Tryz.func44, Tryz.ntmps44
    go_wp2_with fail
    go_ret
    exact ⟨ret_bool HR2.out.symm, Below.refl _ _⟩
theorem eg_same : ∀ args w, (callFunc 45 args).run Tryz.prog w = .ok (.enter 45 args) w := enters_of Tryz.func45 (by kernel_rfl) rfl
theorem SameTree_any (v1 v2 : Value) (l m : List NodeP) (w : World) (hl : NodesAt w v1 l) (hm : NodesAt w v2 m) :
    Calls Tryz.prog 12 #[v1, v2] w fun e w' => e = .returned (.bool (decide (l = m))) ∧ Below w.heap.size w w' := by
  have HE := Lib.hid (EqFN_any 45 #[] eg_same v1 v2 l m sameB w hl hm (fun W x y _ h1 h2 => SameNode_any x y W h1 h2))
  rw [eqFN_same] at HE
  go_enter Tryz.func12, Tryz.ntmps12
  go_wp2_with fail
  refine HE.out.mono ?_
  rintro e w1 ⟨rfl, b1⟩
  go_wp2_with fail
  go_ret
  exact ⟨rfl, b1⟩
end Go.Proofs.YtphmhmdcaafmdaaGreatDoor
