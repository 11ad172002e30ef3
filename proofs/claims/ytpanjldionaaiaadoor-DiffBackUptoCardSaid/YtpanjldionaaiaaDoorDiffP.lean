/-
  diff.same; the changes of two trees, plainly. No condition.
-/
import Derived.Test.YtpanjldionaaiaaDoorSame
namespace Go.Proofs.YtpanjldionaaiaaDoor
set_option linter.all false
open Go.RowKit
def dsameB (x y : NodeP) : Bool := decide (x.path = y.path ∧ x.kind = y.kind ∧ x.target = y.target ∧ x.mt = y.mt ∧ x.data = y.data)
theorem dnode_first (x y : NodeP) :
    (dsameB x y = (x.data == y.data) ∧ x.mt = y.mt ∧ ((bs x.path).toList == (bs y.path).toList) = true ∧ (x.kind == y.kind) = true ∧ ((bs x.target).toList == (bs y.target).toList) = true) ∨
    (dsameB x y = false ∧ (((bs x.path).toList == (bs y.path).toList) = false ∨
      (((bs x.path).toList == (bs y.path).toList) = true ∧ (x.kind == y.kind) = false) ∨
      (((bs x.path).toList == (bs y.path).toList) = true ∧ (x.kind == y.kind) = true ∧ ((bs x.target).toList == (bs y.target).toList) = false) ∨
      (((bs x.path).toList == (bs y.path).toList) = true ∧ (x.kind == y.kind) = true ∧ ((bs x.target).toList == (bs y.target).toList) = true ∧ x.mt ≠ y.mt))) := by
  obtain ⟨a1, a2, a3, a4, a5, a6⟩ := x
  obtain ⟨b1, b2, b3, b4, b5, b6⟩ := y
  unfold dsameB
  simp only [bs_beq, beq_iff_eq, beq_eq_false_iff_ne, ne_eq]
  by_cases h1 : a1 = b1 <;> by_cases h2 : a2 = b2 <;> by_cases h4 : a4 = b4 <;> by_cases h5 : a5 = b5 <;> simp [h1, h2, h4, h5]
  rw [Bool.eq_iff_iff]; simp
set_option maxRecDepth 100000 in
set_option maxHeartbeats 4000000 in
theorem DSame_any (x y : NodeV) (w : World) (hx : DataAt w 0 x.2 x.1.data) (hy : DataAt w 0 y.2 y.1.data) :
    Calls Tryd.prog 24 #[.agg (nodeC x).toArray, .agg (nodeC y).toArray] w fun e w' => e = .returned (.bool (dsameB x.1 y.1)) ∧ Below w.heap.size w w' := by
  have hN := dnode_first x.1 y.1
  obtain ⟨⟨p, k, s, t, mt, d⟩, dv⟩ := x
  obtain ⟨⟨p', k', s', t', mt', d'⟩, dv'⟩ := y
  simp only at hx hy hN
  have hb : ∀ o1 o2, Below w.heap.size w ((w.alloc o1).alloc o2) := fun o1 o2 => ((Below.refl w.heap.size w).alloc (Nat.le_refl _) o1).alloc (by simp) o2
  have hcx := fun o1 o2 => conv_str (hx.below (hb o1 o2)).bytes
  have hcy := fun o1 o2 => conv_str (hy.below (hb o1 o2)).bytes
  have HB := Lib.hid hb
  have HD := Lib.hid (bs_beq d d')
  obtain ⟨A, c, rfl, -⟩ := hx
  obtain ⟨A', c', rfl, -⟩ := hy
  clear hb
  unfold nodeC
  simp only
  rcases hN with ⟨hs, hm, q1, q2, q3⟩ | ⟨hs, hN⟩
  · have HR := Lib.hid hs
    have hM := meta_first mt mt'
    obtain ⟨m1, m2, m3, m4, m5, m6, m7⟩ := mt
    obtain ⟨n1, n2, n3, n4, n5, n6, n7⟩ := mt'
    simp only at hM
    rcases hM with ⟨-, r1, r2, r3, r4, r5, r6, r7⟩ | ⟨hne, -⟩
    · clear hs hm
      generalize bs d = bd at *
      generalize bs d' = bd' at *
      generalize bs p = bp at *
      generalize bs p' = bp' at *
      generalize bs t = bt at *
      generalize bs t' = bt' at *
      generalize bs m4 = b4 at *
      generalize bs m5 = b5 at *
      generalize bs n4 = c4 at *
      generalize bs n5 = c5 at *
      go_enter Tryd.func24, Tryd.ntmps24
      go_wp2_with fail
      go_ret
      exact ⟨ret_bool (HD.out.trans HR.out.symm), HB.out _ _⟩
    · exact absurd hm hne
  · have HR := Lib.hid hs
    clear hs hcx hcy
    rcases hN with q1 | ⟨q1, q2⟩ | ⟨q1, q2, q3⟩ | ⟨q1, q2, q3, hm⟩
    iterate 3
      · generalize bs p = bp at *
        generalize bs p' = bp' at *
        generalize bs t = bt at *
        generalize bs t' = bt' at *
        go_enter Tryd.func24, Tryd.ntmps24
        go_wp2_with fail
        go_ret
        exact ⟨ret_bool HR.out.symm, HB.out _ _⟩
    · have hM := meta_first mt mt'
      obtain ⟨m1, m2, m3, m4, m5, m6, m7⟩ := mt
      obtain ⟨n1, n2, n3, n4, n5, n6, n7⟩ := mt'
      simp only at hM
      rcases hM with ⟨he, -⟩ | ⟨-, hq⟩
      · exact absurd he hm
      clear hm
      generalize bs p = bp at *
      generalize bs p' = bp' at *
      generalize bs t = bt at *
      generalize bs t' = bt' at *
      generalize bs m4 = b4 at *
      generalize bs m5 = b5 at *
      generalize bs n4 = c4 at *
      generalize bs n5 = c5 at *
      rcases hq with r1 | ⟨r1, r2⟩ | ⟨r1, r2, r3⟩ | ⟨r1, r2, r3, r4⟩ | ⟨r1, r2, r3, r4, r5⟩ | ⟨r1, r2, r3, r4, r5, r6⟩ | ⟨r1, r2, r3, r4, r5, r6, r7⟩
      all_goals
        go_enter Tryd.func24, Tryd.ntmps24
        go_wp2_with fail
        go_ret
        exact ⟨ret_bool HR.out.symm, HB.out _ _⟩
/-! ### changes, plainly -/
/-- is there no change of one of one path? -/
def stayB (x y : NodeP) : Bool := dsameB x y && x.same == y.same
theorem stay_iff (x y : NodeP) : stayB x y = true ↔ x = y := by
  obtain ⟨a1, a2, a3, a4, a5, a6⟩ := x
  obtain ⟨b1, b2, b3, b4, b5, b6⟩ := y
  unfold stayB dsameB
  simp only [Bool.and_eq_true, decide_eq_true_eq, beq_iff_eq, NodeP.mk.injEq]
  constructor
  · rintro ⟨⟨h1, h2, h3, h4, h5⟩, h6⟩; exact ⟨h1, h2, h6, h3, h4, h5⟩
  · rintro ⟨h1, h2, h6, h3, h4, h5⟩; exact ⟨⟨h1, h2, h3, h4, h5⟩, h6⟩
/-- the changes: 1 gone, 2 new, 3 another -/
def diffP : List NodeP → List NodeP → List (Int × NodeP)
  | [], b => b.map fun y => (2, y)
  | x :: a, [] => (x :: a).map fun y => (1, y)
  | x :: a, y :: b =>
    if cmpP x.path y.path < 0 then (1, x) :: diffP a (y :: b)
    else if 0 < cmpP x.path y.path then (2, y) :: diffP (x :: a) b
    else if stayB x y then diffP a b else (3, y) :: diffP a b
  termination_by a b => a.length + b.length
theorem diffP_length (a b : List NodeP) : (diffP a b).length ≤ a.length + b.length := by
  induction a, b using diffP.induct with
  | case1 b => rw [diffP, List.length_map, List.length_nil]; omega
  | case2 x a => rw [diffP, List.length_map]; omega
  | case3 x a y b h ih => rw [diffP, if_pos h]; simp at ih ⊢; omega
  | case4 x a y b h1 h2 ih => rw [diffP, if_neg h1, if_pos h2]; simp at ih ⊢; omega
  | case5 x a y b h1 h2 h3 ih => rw [diffP, if_neg h1, if_neg h2, if_pos h3]; simp; omega
  | case6 x a y b h1 h2 h3 ih => rw [diffP, if_neg h1, if_neg h2, if_neg h3]; simp; omega
theorem diffP_nil {a b : List NodeP} (h : diffP a b = []) : a = b := by
  induction a, b using diffP.induct with
  | case1 b => rw [diffP] at h; exact (List.map_eq_nil_iff.1 h).symm
  | case2 x a => rw [diffP] at h; simp at h
  | case3 x a y b h1 ih => rw [diffP, if_pos h1] at h; cases h
  | case4 x a y b h1 h2 ih => rw [diffP, if_neg h1, if_pos h2] at h; cases h
  | case5 x a y b h1 h2 h3 ih => rw [diffP, if_neg h1, if_neg h2, if_pos h3] at h; rw [(stay_iff x y).1 h3, ih h]
  | case6 x a y b h1 h2 h3 ih => rw [diffP, if_neg h1, if_neg h2, if_neg h3] at h; cases h
end Go.Proofs.YtpanjldionaaiaaDoor
