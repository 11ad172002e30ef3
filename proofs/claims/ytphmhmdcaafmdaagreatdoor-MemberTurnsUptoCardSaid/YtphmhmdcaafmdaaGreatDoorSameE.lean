/-
  creelkeep.SameEntry; slices.Equal over records. No condition beyond the data lying in blocks of bytes.
-/
import Derived.Test.YtphmhmdcaafmdaaGreatDoorEnts
import Derived.Test.YtphmhmdcaafmdaaGreatDoorRecsQ
import Derived.Test.YtphmhmdcaafmdaaGreatDoorTFR
import Derived.BigQuiet
import Derived.Deep.QuietTactic
namespace Go.Proofs.YtphmhmdcaafmdaaGreatDoor
set_option linter.all false
open Go.RowKit
def sameE (x y : EntP) : Bool := x.path == y.path && (x.kind == y.kind && (x.target == y.target && (decide (x.mt = y.mt) && x.data == y.data)))
theorem sameE_iff (x y : EntP) : sameE x y = true ↔ x = y := by
  obtain ⟨a1, a2, a4, a5, a6⟩ := x
  obtain ⟨b1, b2, b4, b5, b6⟩ := y
  unfold sameE
  simp
theorem ent_first (x y : EntP) :
    (sameE x y = (x.data == y.data) ∧ x.mt = y.mt ∧ ((bs x.path).toList == (bs y.path).toList) = true ∧ (x.kind == y.kind) = true ∧ ((bs x.target).toList == (bs y.target).toList) = true) ∨
    (sameE x y = false ∧ (((bs x.path).toList == (bs y.path).toList) = false ∨
      (((bs x.path).toList == (bs y.path).toList) = true ∧ (x.kind == y.kind) = false) ∨
      (((bs x.path).toList == (bs y.path).toList) = true ∧ (x.kind == y.kind) = true ∧ ((bs x.target).toList == (bs y.target).toList) = false) ∨
      (((bs x.path).toList == (bs y.path).toList) = true ∧ (x.kind == y.kind) = true ∧ ((bs x.target).toList == (bs y.target).toList) = true ∧ x.mt ≠ y.mt))) := by
  obtain ⟨a1, a2, a4, a5, a6⟩ := x
  obtain ⟨b1, b2, b4, b5, b6⟩ := y
  unfold sameE
  simp only [bs_beq, beq_iff_eq, beq_eq_false_iff_ne, ne_eq]
  by_cases h1 : a1 = b1 <;> by_cases h2 : a2 = b2 <;> by_cases h4 : a4 = b4 <;> by_cases h5 : a5 = b5 <;> simp [h1, h2, h4, h5]
set_option maxRecDepth 100000 in
set_option maxHeartbeats 4000000 in
theorem SameEntry_any (x y : EntP) (dv dv' : Value) (w : World) (hx : DataAt w 0 dv x.data) (hy : DataAt w 0 dv' y.data) :
    Calls Tryz.prog 18 #[.agg (entC x dv).toArray, .agg (entC y dv').toArray] w fun e w' => e = .returned (.bool (sameE x y)) ∧ Below w.heap.size w w' := by
  have hN := ent_first x y
  obtain ⟨p, k, t, mt, d⟩ := x
  obtain ⟨p', k', t', mt', d'⟩ := y
  simp only at hx hy hN
  have hb : ∀ o1 o2, Below w.heap.size w ((w.alloc o1).alloc o2) := fun o1 o2 => ((Below.refl w.heap.size w).alloc (Nat.le_refl _) o1).alloc (by simp) o2
  have hcx := fun o1 o2 => conv_str (hx.below (hb o1 o2)).bytes
  have hcy := fun o1 o2 => conv_str (hy.below (hb o1 o2)).bytes
  have HB := Lib.hid hb
  have HD := Lib.hid (bs_beq d d')
  obtain ⟨A, c, rfl, -⟩ := hx
  obtain ⟨A', c', rfl, -⟩ := hy
  clear hb
  unfold entC
  simp only
  rcases hN with ⟨hs, hm, q1, q2, q4⟩ | ⟨hs, hN⟩
  · have HR := Lib.hid hs
    have hM := meta_first mt mt'
    obtain ⟨m1, m2, m3, m4, m5, m6, m7⟩ := mt
    obtain ⟨n1, n2, n3, n4, n5, n6, n7⟩ := mt'
    simp only at hM
    rcases hM with ⟨-, r1, r2, r3, r4, r5, r6, r7⟩ | ⟨hne, -⟩
    · clear hs hm
      generalize bs d = bd at *
      generalize bs d' = bd' at *
      generalize bs p = bp at *
      generalize bs p' = bp' at *
      generalize bs t = bt at *
      generalize bs t' = bt' at *
      generalize bs m4 = b4 at *
      generalize bs m5 = b5 at *
      generalize bs n4 = c4 at *
      generalize bs n5 = c5 at *
      go_enter Tryz.func18, Tryz.ntmps18
      go_wp2_with fail
      go_ret
      exact ⟨ret_bool (HD.out.trans HR.out.symm), HB.out _ _⟩
    · exact absurd hm hne
  · have HR := Lib.hid hs
    clear hs hcx hcy
    rcases hN with q1 | ⟨q1, q2⟩ | ⟨q1, q2, q4⟩ | ⟨q1, q2, q4, hm⟩
    iterate 3
      · generalize bs p = bp at *
        generalize bs p' = bp' at *
        generalize bs t = bt at *
        generalize bs t' = bt' at *
        go_enter Tryz.func18, Tryz.ntmps18
        go_wp2_with fail
        go_ret
        exact ⟨ret_bool HR.out.symm, HB.out _ _⟩
    · have hM := meta_first mt mt'
      obtain ⟨m1, m2, m3, m4, m5, m6, m7⟩ := mt
      obtain ⟨n1, n2, n3, n4, n5, n6, n7⟩ := mt'
      simp only at hM
      rcases hM with ⟨he, -⟩ | ⟨-, hq⟩
      · exact absurd he hm
      clear hm
      generalize bs p = bp at *
      generalize bs p' = bp' at *
      generalize bs t = bt at *
      generalize bs t' = bt' at *
      generalize bs m4 = b4 at *
      generalize bs m5 = b5 at *
      generalize bs n4 = c4 at *
      generalize bs n5 = c5 at *
      rcases hq with r1 | ⟨r1, r2⟩ | ⟨r1, r2, r3⟩ | ⟨r1, r2, r3, r4⟩ | ⟨r1, r2, r3, r4, r5⟩ | ⟨r1, r2, r3, r4, r5, r6⟩ | ⟨r1, r2, r3, r4, r5, r6, r7⟩
      all_goals
        go_enter Tryz.func18, Tryz.ntmps18
        go_wp2_with fail
        go_ret
        exact ⟨ret_bool HR.out.symm, HB.out _ _⟩
/-! ### slices.Equal over records -/
end Go.Proofs.YtphmhmdcaafmdaaGreatDoor
