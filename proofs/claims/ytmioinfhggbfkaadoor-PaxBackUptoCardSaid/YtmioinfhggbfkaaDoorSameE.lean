/-
  creelkeep.SameEntry; slices.Equal over records. No condition beyond the data lying in blocks of bytes.
-/
import Derived.Test.YtmioinfhggbfkaaDoorEnts
import Derived.Test.YtmioinfhggbfkaaDoorRecsQ
import Derived.Test.YtmioinfhggbfkaaDoorTFR
import Derived.BigQuiet
import Derived.Deep.QuietTactic
namespace Go.Proofs.YtmioinfhggbfkaaDoor
set_option linter.all false
open Go.RowKit

def sameE (x y : EntP) : Bool := x.path == y.path && (x.kind == y.kind && (x.target == y.target && (decide (x.mt = y.mt) && x.data == y.data)))
theorem sameE_iff (x y : EntP) : sameE x y = true ↔ x = y := by
  obtain ⟨a1, a2, a4, a5, a6⟩ := x
  obtain ⟨b1, b2, b4, b5, b6⟩ := y
  unfold sameE
  simp
theorem ent_first (x y : EntP) :
    (sameE x y = (x.data == y.data) ∧ x.mt = y.mt ∧ ((bs x.path).toList == (bs y.path).toList) = true ∧ (x.kind == y.kind) = true ∧ ((bs x.target).toList == (bs y.target).toList) = true) ∨
    (sameE x y = false ∧ (((bs x.path).toList == (bs y.path).toList) = false ∨
      (((bs x.path).toList == (bs y.path).toList) = true ∧ (x.kind == y.kind) = false) ∨
      (((bs x.path).toList == (bs y.path).toList) = true ∧ (x.kind == y.kind) = true ∧ ((bs x.target).toList == (bs y.target).toList) = false) ∨
      (((bs x.path).toList == (bs y.path).toList) = true ∧ (x.kind == y.kind) = true ∧ ((bs x.target).toList == (bs y.target).toList) = true ∧ x.mt ≠ y.mt))) := by
  obtain ⟨a1, a2, a4, a5, a6⟩ := x
  obtain ⟨b1, b2, b4, b5, b6⟩ := y
  unfold sameE
  simp only [bs_beq, beq_iff_eq, beq_eq_false_iff_ne, ne_eq]
  by_cases h1 : a1 = b1 <;> by_cases h2 : a2 = b2 <;> by_cases h4 : a4 = b4 <;> by_cases h5 : a5 = b5 <;> simp [h1, h2, h4, h5]
set_option maxRecDepth 100000 in
set_option maxHeartbeats 4000000 in
theorem SameEntry_any (x y : EntP) (dv dv' : Value) (w : World) (hx : DataAt w 0 dv x.data) (hy : DataAt w 0 dv' y.data) :
    Calls Tryd.prog 10 #[.agg (entC x dv).toArray, .agg (entC y dv').toArray] w fun e w' => e = .returned (.bool (sameE x y)) ∧ Below w.heap.size w w' := by
  have hN := ent_first x y
  obtain ⟨p, k, t, mt, d⟩ := x
  obtain ⟨p', k', t', mt', d'⟩ := y
  simp only at hx hy hN
  have hb : ∀ o1 o2, Below w.heap.size w ((w.alloc o1).alloc o2) := fun o1 o2 => ((Below.refl w.heap.size w).alloc (Nat.le_refl _) o1).alloc (by simp) o2
  have hcx := fun o1 o2 => conv_str (hx.below (hb o1 o2)).bytes
  have hcy := fun o1 o2 => conv_str (hy.below (hb o1 o2)).bytes
  have HB := Lib.hid hb
  have HD := Lib.hid (bs_beq d d')
  obtain ⟨A, c, rfl, -⟩ := hx
  obtain ⟨A', c', rfl, -⟩ := hy
  clear hb
  unfold entC
  simp only
  rcases hN with ⟨hs, hm, q1, q2, q4⟩ | ⟨hs, hN⟩
  · have HR := Lib.hid hs
    have hM := meta_first mt mt'
    obtain ⟨m1, m2, m3, m4, m5, m6, m7⟩ := mt
    obtain ⟨n1, n2, n3, n4, n5, n6, n7⟩ := mt'
    simp only at hM
    rcases hM with ⟨-, r1, r2, r3, r4, r5, r6, r7⟩ | ⟨hne, -⟩
    · clear hs hm
      generalize bs d = bd at *
      generalize bs d' = bd' at *
      generalize bs p = bp at *
      generalize bs p' = bp' at *
      generalize bs t = bt at *
      generalize bs t' = bt' at *
      generalize bs m4 = b4 at *
      generalize bs m5 = b5 at *
      generalize bs n4 = c4 at *
      generalize bs n5 = c5 at *
      go_enter Tryd.func10, Tryd.ntmps10
      go_wp2_with fail
      go_ret
      exact ⟨ret_bool (HD.out.trans HR.out.symm), HB.out _ _⟩
    · exact absurd hm hne
  · have HR := Lib.hid hs
    clear hs hcx hcy
    rcases hN with q1 | ⟨q1, q2⟩ | ⟨q1, q2, q4⟩ | ⟨q1, q2, q4, hm⟩
    iterate 3
      · generalize bs p = bp at *
        generalize bs p' = bp' at *
        generalize bs t = bt at *
        generalize bs t' = bt' at *
        go_enter Tryd.func10, Tryd.ntmps10
        go_wp2_with fail
        go_ret
        exact ⟨ret_bool HR.out.symm, HB.out _ _⟩
    · have hM := meta_first mt mt'
      obtain ⟨m1, m2, m3, m4, m5, m6, m7⟩ := mt
      obtain ⟨n1, n2, n3, n4, n5, n6, n7⟩ := mt'
      simp only at hM
      rcases hM with ⟨he, -⟩ | ⟨-, hq⟩
      · exact absurd he hm
      clear hm
      generalize bs p = bp at *
      generalize bs p' = bp' at *
      generalize bs t = bt at *
      generalize bs t' = bt' at *
      generalize bs m4 = b4 at *
      generalize bs m5 = b5 at *
      generalize bs n4 = c4 at *
      generalize bs n5 = c5 at *
      rcases hq with r1 | ⟨r1, r2⟩ | ⟨r1, r2, r3⟩ | ⟨r1, r2, r3, r4⟩ | ⟨r1, r2, r3, r4, r5⟩ | ⟨r1, r2, r3, r4, r5, r6⟩ | ⟨r1, r2, r3, r4, r5, r6, r7⟩
      all_goals
        go_enter Tryd.func10, Tryd.ntmps10
        go_wp2_with fail
        go_ret
        exact ⟨ret_bool HR.out.symm, HB.out _ _⟩

/-! ### slices.Equal over records -/
theorem rec_first (x y : RecS) : (x = y ∧ ((bs x.key).toList == (bs y.key).toList) = true ∧ ((bs x.value).toList == (bs y.value).toList) = true) ∨
    (x ≠ y ∧ (((bs x.key).toList == (bs y.key).toList) = false ∨ (((bs x.key).toList == (bs y.key).toList) = true ∧ ((bs x.value).toList == (bs y.value).toList) = false))) := by
  obtain ⟨a, b⟩ := x
  obtain ⟨a', b'⟩ := y
  simp only [bs_beq, beq_iff_eq, beq_eq_false_iff_ne, RecS.mk.injEq, ne_eq]
  by_cases h1 : a = a' <;> by_cases h2 : b = b' <;> simp [h1, h2]
open Classical in
noncomputable def eqR (l m : List RecS) : Bool := decide (l = m)
theorem eqR_true {l m : List RecS} (h : l = m) : eqR l m = true := by unfold eqR; simp [h]
theorem eqR_false {l m : List RecS} (h : l ≠ m) : eqR l m = false := by unfold eqR; simp [h]
theorem list_same {α : Type} {l m : List α} (h : l.length = m.length) (hk : ∀ j (h1 : j < l.length) (h2 : j < m.length), l[j] = m[j]) : l = m := List.ext_getElem h hk
set_option maxRecDepth 100000 in
set_option maxHeartbeats 4000000 in
theorem EqualR_any (v1 v2 : Value) (l m : List RecS) (w : World) (hl : RecsAt w v1 l) (hm : RecsAt w v2 m) (hn : l.length ≤ 1000) (hn2 : m.length ≤ 1000) :
    Calls Tryd.prog 11 #[v1, v2] w fun e w' => e = .returned (.bool (eqR l m)) ∧ Below w.heap.size w w' := by
  obtain ⟨A, c, rfl, h1, h2, -, hr⟩ := hl
  obtain ⟨A', c', rfl, h1', h2', -, hr'⟩ := hm
  unfold maxLen at h2 h2'
  have HR := Lib.hid hr
  have HR' := Lib.hid hr'
  clear hr hr'
  by_cases he : l.length = m.length
  · have g0 : ((l.length : Int) == (m.length : Int)) = true := beq_iff_eq.2 (by omega)
    have g1 : ((l.length : Int) != (m.length : Int)) = false := by simp [he]
    have HE := Lib.hid he
    clear he
    go_enter Tryd.func11, Tryd.ntmps11
    go_wp2_with fail
    go_loopg [5, 13] l.length (fun gg s5 s13 wr => ∃ k : Nat, k ≤ l.length ∧ l.length - k ≤ gg ∧ s13 = .int .i64 k ∧ Hid (Below w.heap.size w wr ∧ ∀ j (h1 : j < k) (h2 : j < l.length) (h3 : j < m.length), l[j] = m[j]))
    case atStart => exact ⟨0, Nat.zero_le _, by omega, rfl, Lib.hid ⟨Below.refl _ _, fun j h => absurd h (by omega)⟩⟩
    case round =>
      obtain ⟨k, hk, hg, rfl, HW⟩ := hrel
      by_cases hlt : k < l.length
      · have hlt2 : k < m.length := by have := HE.out; omega
        have hltz : (k : Int) < (l.length : Int) := by omega
        have hltz2 : (k : Int) < (m.length : Int) := by omega
        obtain ⟨ad, rfl, had, c0, c1⟩ := (HR.out.below HW.out.1).rec_at hlt
        obtain ⟨ad', rfl, had', d0, d1⟩ := (HR'.out.below HW.out.1).rec_at hlt2
        have hF := rec_first l[k] m[k]
        have HOFF : Hid (l[k] ≠ m[k] → eqR l m = false) := Lib.hid (fun h => eqR_false (fun e => h (by subst e; rfl)))
        have HON : Hid (l[k] = m[k] → ∀ j (h1 : j < k + 1) (h2 : j < l.length) (h3 : j < m.length), l[j] = m[j]) := Lib.hid (fun h j h1 h2 h3 => by
          by_cases hj : j < k
          · exact HW.out.2 j hj h2 h3
          · obtain rfl : j = k := by omega
            exact h)
        generalize l[k] = x at *
        generalize m[k] = y at *
        generalize bs x.key = b1 at *
        generalize bs x.value = b2 at *
        generalize bs y.key = b3 at *
        generalize bs y.value = b4 at *
        go_upto_region 6 with fail
        rcases hF with ⟨he, q1, q2⟩ | ⟨he, q1 | ⟨q1, q2⟩⟩
        · have HQ := Lib.hid (HON.out he)
          clear he
          go_quiet (fail)
          go_wp2_with fail
          go_roundg (l.length - (k + 1))
          case measure => omega
          case rel => exact ⟨k + 1, by omega, by omega, by go_num, Lib.hid ⟨below_drewN HW.out.1 _, HQ.out⟩⟩
        · have HQ := Lib.hid (HOFF.out he)
          clear he
          go_quiet (fail)
          go_wp2_with fail
          go_ret
          exact ⟨ret_bool HQ.out.symm, below_drewN HW.out.1 _⟩
        · have HQ := Lib.hid (HOFF.out he)
          clear he
          go_quiet (fail)
          go_wp2_with fail
          go_ret
          exact ⟨ret_bool HQ.out.symm, below_drewN HW.out.1 _⟩
      · obtain rfl : k = l.length := by omega
        have HF : Hid (eqR l m = true) := Lib.hid (eqR_true (list_same HE.out (fun j a b => HW.out.2 j (by omega) a b)))
        go_wp2_with fail
        go_ret
        exact ⟨ret_bool HF.out.symm, HW.out.1⟩
  · have g0 : ((l.length : Int) == (m.length : Int)) = false := beq_eq_false_iff_ne.2 (fun h => he (by omega))
    have g1 : ((l.length : Int) != (m.length : Int)) = true := by simp [bne, g0]
    have HF : Hid (eqR l m = false) := Lib.hid (eqR_false (fun h => he (by rw [h])))
    clear he
    go_enter Tryd.func11, Tryd.ntmps11
    go_wp2_with fail
    go_ret
    exact ⟨ret_bool HF.out.symm, Below.refl _ _⟩
end Go.Proofs.YtmioinfhggbfkaaDoor
