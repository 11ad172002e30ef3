/-
  The law PathOrderly. Condition: each text has at most 1048576 bytes.
-/
import Derived.Test.YtbhglmcblhnphaaDoorSplit
namespace Go.Proofs.YtbhglmcblhnphaaDoor
open Go.RowKit

set_option maxHeartbeats 2000000 in
theorem PathOrderly_walk (w : World) (hsh : w.ShapedOpen Tryd.prog) (a : ByteArray) (ha : a.size ≤ 1048576) (b : ByteArray) (hb : b.size ≤ 1048576) (c : ByteArray) (hc : c.size ≤ 1048576) :
    Calls Tryd.prog 3 #[.string a, .string b, .string c] w fun e w' => e = .returned (.bool true) ∧ Below w.heap.size w w' := by
  have hm := ML.of_shaped hsh
  have la : a.data.toList.length ≤ 1048576 := by rw [← Lib.size_eq]; exact ha
  have lb : b.data.toList.length ≤ 1048576 := by rw [← Lib.size_eq]; exact hb
  have lc : c.data.toList.length ≤ 1048576 := by rw [← Lib.size_eq]; exact hc
  rw [← bs_self a, ← bs_self b, ← bs_self c]
  generalize a.data.toList = x at *
  generalize b.data.toList = y at *
  generalize c.data.toList = z at *
  have K := fun (l r : List UInt8) (h1 : l.length ≤ 1048576) (h2 : r.length ≤ 1048576) (W : World) (hW : ML W) => Compare_any l r W (by omega) (by omega) hW
  have k0 : cmpP [97] [98] = -1 := by decide
  have k1 : cmpP y x = -cmpP x y := cmpL_neg _ _
  have k2 : cmpP x x = 0 := cmpL_self _
  have k3 : (cmpP x y == 0) = decide (x = y) := by
    rw [Bool.eq_iff_iff]
    simp only [beq_iff_eq, decide_eq_true_eq]
    exact ⟨fun h => parts_inj (cmpL_zero h), fun h => by subst h; exact cmpL_self _⟩
  have k4 : ((bs x).toList == (bs y).toList) = decide (x = y) := by rw [bs_toList, bs_toList, Bool.eq_iff_iff]; simp
  have k5 := cmpL_bd (partsS x) (partsS y)
  have k6 := cmpL_bd (partsS y) (partsS z)
  have k7 := cmpL_le (partsS x) (partsS y) (partsS z)
  have k8 := cmpL_bd (partsS x) (partsS z)
  change cmpP x y = -1 ∨ cmpP x y = 0 ∨ cmpP x y = 1 at k5
  change cmpP y z = -1 ∨ cmpP y z = 0 ∨ cmpP y z = 1 at k6
  change cmpP x z = -1 ∨ cmpP x z = 0 ∨ cmpP x z = 1 at k8
  change cmpP x y ≤ 0 → cmpP y z ≤ 0 → cmpP x z ≤ 0 at k7
  have c0 := Lib.hid (fun W hW => K [97] [98] (by decide) (by decide) W hW)
  have c1 := Lib.hid (fun W hW => K x y la lb W hW)
  have c2 := Lib.hid (fun W hW => K y x lb la W hW)
  have c3 := Lib.hid (fun W hW => K y z lb lc W hW)
  have c4 := Lib.hid (fun W hW => K x x la la W hW)
  have c5 := Lib.hid (fun W hW => K x z la lc W hW)
  have K0 := Lib.hid k0; have K1 := Lib.hid k1; have K2 := Lib.hid k2
  clear K k0 k1 k2 la lb lc ha hb hc hsh
  generalize cmpP x y = p at *
  generalize cmpP y z = q at *
  generalize cmpP x z = r at *
  generalize decide (x = y) = d at *
  have HM := Lib.hid hm
  clear hm
  rcases k5 with rfl | rfl | rfl
  · have hd : d = false := by rw [← k3]; rfl
    subst hd
    clear k3
    rcases k6 with rfl | rfl | rfl
    · have hr : decide (r ≤ 0) = true := decide_eq_true (k7 (by omega) (by omega))
      clear k7 k8
      go_enter Tryd.func3, Tryd.ntmps3
      go_wp2_with fail
      refine (c1.out _ HM.out).mono ?_
      rintro e w1 ⟨rfl, b1⟩
      have m1 := Lib.hid (HM.out.below b1)
      go_wp2_with fail
      refine (c2.out _ m1.out).mono ?_
      rintro e w2 ⟨rfl, b2⟩
      rw [K1.out]
      have m2 := Lib.hid (m1.out.below b2)
      go_wp2_with fail
      refine (c3.out _ m2.out).mono ?_
      rintro e w3 ⟨rfl, b3⟩
      have m3 := Lib.hid (m2.out.below b3)
      go_wp2_with fail
      refine (c0.out _ m3.out).mono ?_
      rintro e w4 ⟨rfl, b4⟩
      rw [K0.out]
      have m4 := Lib.hid (m3.out.below b4)
      go_wp2_with fail
      refine (c4.out _ m4.out).mono ?_
      rintro e w5 ⟨rfl, b5⟩
      rw [K2.out]
      have m5 := Lib.hid (m4.out.below b5)
      have B5 := Lib.hid (b1.trans ((b2.trans ((b3.trans ((b4.trans (b5.mono b4.size)).mono b3.size)).mono b2.size)).mono b1.size))
      go_wp2_with fail
      refine (c5.out _ m5.out).mono ?_
      rintro e w6 ⟨rfl, b6⟩
      have B6 := Lib.hid (B5.out.trans (b6.mono B5.out.size))
      go_wp2_with fail
      go_ret
      exact ⟨rfl, B6.out⟩
    · have hr : decide (r ≤ 0) = true := decide_eq_true (k7 (by omega) (by omega))
      clear k7 k8
      go_enter Tryd.func3, Tryd.ntmps3
      go_wp2_with fail
      refine (c1.out _ HM.out).mono ?_
      rintro e w1 ⟨rfl, b1⟩
      have m1 := Lib.hid (HM.out.below b1)
      go_wp2_with fail
      refine (c2.out _ m1.out).mono ?_
      rintro e w2 ⟨rfl, b2⟩
      rw [K1.out]
      have m2 := Lib.hid (m1.out.below b2)
      go_wp2_with fail
      refine (c3.out _ m2.out).mono ?_
      rintro e w3 ⟨rfl, b3⟩
      have m3 := Lib.hid (m2.out.below b3)
      go_wp2_with fail
      refine (c0.out _ m3.out).mono ?_
      rintro e w4 ⟨rfl, b4⟩
      rw [K0.out]
      have m4 := Lib.hid (m3.out.below b4)
      go_wp2_with fail
      refine (c4.out _ m4.out).mono ?_
      rintro e w5 ⟨rfl, b5⟩
      rw [K2.out]
      have m5 := Lib.hid (m4.out.below b5)
      have B5 := Lib.hid (b1.trans ((b2.trans ((b3.trans ((b4.trans (b5.mono b4.size)).mono b3.size)).mono b2.size)).mono b1.size))
      go_wp2_with fail
      refine (c5.out _ m5.out).mono ?_
      rintro e w6 ⟨rfl, b6⟩
      have B6 := Lib.hid (B5.out.trans (b6.mono B5.out.size))
      go_wp2_with fail
      go_ret
      exact ⟨rfl, B6.out⟩
    · clear k7 k8
      go_enter Tryd.func3, Tryd.ntmps3
      go_wp2_with fail
      refine (c1.out _ HM.out).mono ?_
      rintro e w1 ⟨rfl, b1⟩
      have m1 := Lib.hid (HM.out.below b1)
      go_wp2_with fail
      refine (c2.out _ m1.out).mono ?_
      rintro e w2 ⟨rfl, b2⟩
      rw [K1.out]
      have m2 := Lib.hid (m1.out.below b2)
      go_wp2_with fail
      refine (c3.out _ m2.out).mono ?_
      rintro e w3 ⟨rfl, b3⟩
      have m3 := Lib.hid (m2.out.below b3)
      go_wp2_with fail
      refine (c0.out _ m3.out).mono ?_
      rintro e w4 ⟨rfl, b4⟩
      rw [K0.out]
      have m4 := Lib.hid (m3.out.below b4)
      go_wp2_with fail
      refine (c4.out _ m4.out).mono ?_
      rintro e w5 ⟨rfl, b5⟩
      rw [K2.out]
      have m5 := Lib.hid (m4.out.below b5)
      have B5 := Lib.hid (b1.trans ((b2.trans ((b3.trans ((b4.trans (b5.mono b4.size)).mono b3.size)).mono b2.size)).mono b1.size))
      go_wp2_with fail
      go_ret
      exact ⟨rfl, B5.out⟩
  · have hd : d = true := by rw [← k3]; rfl
    subst hd
    clear k3
    rcases k6 with rfl | rfl | rfl
    · have hr : decide (r ≤ 0) = true := decide_eq_true (k7 (by omega) (by omega))
      clear k7 k8
      go_enter Tryd.func3, Tryd.ntmps3
      go_wp2_with fail
      refine (c1.out _ HM.out).mono ?_
      rintro e w1 ⟨rfl, b1⟩
      have m1 := Lib.hid (HM.out.below b1)
      go_wp2_with fail
      refine (c2.out _ m1.out).mono ?_
      rintro e w2 ⟨rfl, b2⟩
      rw [K1.out]
      have m2 := Lib.hid (m1.out.below b2)
      go_wp2_with fail
      refine (c3.out _ m2.out).mono ?_
      rintro e w3 ⟨rfl, b3⟩
      have m3 := Lib.hid (m2.out.below b3)
      go_wp2_with fail
      refine (c0.out _ m3.out).mono ?_
      rintro e w4 ⟨rfl, b4⟩
      rw [K0.out]
      have m4 := Lib.hid (m3.out.below b4)
      go_wp2_with fail
      refine (c4.out _ m4.out).mono ?_
      rintro e w5 ⟨rfl, b5⟩
      rw [K2.out]
      have m5 := Lib.hid (m4.out.below b5)
      have B5 := Lib.hid (b1.trans ((b2.trans ((b3.trans ((b4.trans (b5.mono b4.size)).mono b3.size)).mono b2.size)).mono b1.size))
      go_wp2_with fail
      refine (c5.out _ m5.out).mono ?_
      rintro e w6 ⟨rfl, b6⟩
      have B6 := Lib.hid (B5.out.trans (b6.mono B5.out.size))
      go_wp2_with fail
      go_ret
      exact ⟨rfl, B6.out⟩
    · have hr : decide (r ≤ 0) = true := decide_eq_true (k7 (by omega) (by omega))
      clear k7 k8
      go_enter Tryd.func3, Tryd.ntmps3
      go_wp2_with fail
      refine (c1.out _ HM.out).mono ?_
      rintro e w1 ⟨rfl, b1⟩
      have m1 := Lib.hid (HM.out.below b1)
      go_wp2_with fail
      refine (c2.out _ m1.out).mono ?_
      rintro e w2 ⟨rfl, b2⟩
      rw [K1.out]
      have m2 := Lib.hid (m1.out.below b2)
      go_wp2_with fail
      refine (c3.out _ m2.out).mono ?_
      rintro e w3 ⟨rfl, b3⟩
      have m3 := Lib.hid (m2.out.below b3)
      go_wp2_with fail
      refine (c0.out _ m3.out).mono ?_
      rintro e w4 ⟨rfl, b4⟩
      rw [K0.out]
      have m4 := Lib.hid (m3.out.below b4)
      go_wp2_with fail
      refine (c4.out _ m4.out).mono ?_
      rintro e w5 ⟨rfl, b5⟩
      rw [K2.out]
      have m5 := Lib.hid (m4.out.below b5)
      have B5 := Lib.hid (b1.trans ((b2.trans ((b3.trans ((b4.trans (b5.mono b4.size)).mono b3.size)).mono b2.size)).mono b1.size))
      go_wp2_with fail
      refine (c5.out _ m5.out).mono ?_
      rintro e w6 ⟨rfl, b6⟩
      have B6 := Lib.hid (B5.out.trans (b6.mono B5.out.size))
      go_wp2_with fail
      go_ret
      exact ⟨rfl, B6.out⟩
    · clear k7 k8
      go_enter Tryd.func3, Tryd.ntmps3
      go_wp2_with fail
      refine (c1.out _ HM.out).mono ?_
      rintro e w1 ⟨rfl, b1⟩
      have m1 := Lib.hid (HM.out.below b1)
      go_wp2_with fail
      refine (c2.out _ m1.out).mono ?_
      rintro e w2 ⟨rfl, b2⟩
      rw [K1.out]
      have m2 := Lib.hid (m1.out.below b2)
      go_wp2_with fail
      refine (c3.out _ m2.out).mono ?_
      rintro e w3 ⟨rfl, b3⟩
      have m3 := Lib.hid (m2.out.below b3)
      go_wp2_with fail
      refine (c0.out _ m3.out).mono ?_
      rintro e w4 ⟨rfl, b4⟩
      rw [K0.out]
      have m4 := Lib.hid (m3.out.below b4)
      go_wp2_with fail
      refine (c4.out _ m4.out).mono ?_
      rintro e w5 ⟨rfl, b5⟩
      rw [K2.out]
      have m5 := Lib.hid (m4.out.below b5)
      have B5 := Lib.hid (b1.trans ((b2.trans ((b3.trans ((b4.trans (b5.mono b4.size)).mono b3.size)).mono b2.size)).mono b1.size))
      go_wp2_with fail
      go_ret
      exact ⟨rfl, B5.out⟩
  · have hd : d = false := by rw [← k3]; rfl
    subst hd
    clear k3
    clear k6 k7 k8
    go_enter Tryd.func3, Tryd.ntmps3
    go_wp2_with fail
    refine (c1.out _ HM.out).mono ?_
    rintro e w1 ⟨rfl, b1⟩
    have m1 := Lib.hid (HM.out.below b1)
    go_wp2_with fail
    refine (c2.out _ m1.out).mono ?_
    rintro e w2 ⟨rfl, b2⟩
    rw [K1.out]
    have m2 := Lib.hid (m1.out.below b2)
    go_wp2_with fail
    refine (c3.out _ m2.out).mono ?_
    rintro e w3 ⟨rfl, b3⟩
    have m3 := Lib.hid (m2.out.below b3)
    go_wp2_with fail
    refine (c0.out _ m3.out).mono ?_
    rintro e w4 ⟨rfl, b4⟩
    rw [K0.out]
    have m4 := Lib.hid (m3.out.below b4)
    go_wp2_with fail
    refine (c4.out _ m4.out).mono ?_
    rintro e w5 ⟨rfl, b5⟩
    rw [K2.out]
    have m5 := Lib.hid (m4.out.below b5)
    have B5 := Lib.hid (b1.trans ((b2.trans ((b3.trans ((b4.trans (b5.mono b4.size)).mono b3.size)).mono b2.size)).mono b1.size))
    go_wp2_with fail
    go_ret
    exact ⟨rfl, B5.out⟩
end Go.Proofs.YtbhglmcblhnphaaDoor
