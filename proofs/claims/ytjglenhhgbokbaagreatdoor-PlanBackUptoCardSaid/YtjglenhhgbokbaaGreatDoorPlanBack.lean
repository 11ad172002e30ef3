/-
  The law PlanBack: what it computes is true. Condition: raw things of the second form's bound.
-/
import Derived.Test.YtjglenhhgbokbaaGreatDoorPlanTree
import Derived.Test.YtjglenhhgbokbaaGreatDoorTree
import Derived.Test.YtjglenhhgbokbaaGreatDoorAnewLike
namespace Go.Proofs.YtjglenhhgbokbaaGreatDoor
open Go.RowKit

theorem filter_nil_plan {t : List NodeP} (ht : TreeOk t) : planP (filterP t []) = planP t := by rw [filter_none_ ht]
theorem small_plan3 : (planP (filterP smallP [])).length = 3 := by rw [planP_length, filter_none_ small_ok]; rfl
set_option maxRecDepth 100000 in
set_option maxHeartbeats 8000000 in
theorem PlanBack_walk (w : World) (hsh : w.ShapedOpen Tryz.prog) (v : Value) (l : List RawS) (hl : RawsAt w w.heap.size v l) (hok : ∀ x ∈ l, RawOk x) (hn : l.length ≤ 1048576) :
    Calls Tryz.prog 7 #[v] w fun e w' => e = .returned (.bool true) ∧ Below w.heap.size w w' := by
  have hm := ML.of_shaped hsh
  clear hsh
  have HML : Hid (∀ W, Below w.heap.size w W → ML W) := Lib.hid (fun W hb => hm.below hb)
  have HT := Lib.hid (fun (_ : Unit) => Tree_any l v 30 w hm hl hok hn (by omega))
  have hto := treeP_ok l 30 (by omega)
  have HMK : Hid (∀ W x (a : List NodeP), Below w.heap.size w W → NodesAt W x a → TreeOk a → Calls Tryz.prog 16 #[x, .slice none 0 0] W fun e w' => ∃ ev, e = .returned (.tuple #[ev, .int .i64 0]) ∧ EntsOwn w' W.heap.size ev (planP (filterP a [])) ∧ Below W.heap.size W w') := Lib.hid (fun W x a hb h1 h2 => Make_any x _ a [] W (fun W2 h => HML.out W2 (hb.trans (h.mono hb.size))) h1 h2 (RulesAt.nil _) (by simp))
  clear hm hl hok hn
  generalize treeP l 30 = t at *
  have HTO := Lib.hid hto
  have hlen := hto.len
  have HPE := Lib.hid (filter_nil_plan hto)
  have HAL := Lib.hid (anew_alike hto)
  have hpl := planP_length t
  have hal := anewP_length t
  have HPL := Lib.hid hpl
  have HALN := Lib.hid hal
  clear hto
  go_enter Tryz.func7, Tryz.ntmps7
  go_wp2_with fail
  refine (HT.out ()).mono ?_
  rintro e' w1 ⟨tv, rfl, htv, b1⟩
  have B1 := Lib.hid b1
  have HT1 := Lib.hid htv.at_
  have H1 := Lib.hid (HMK.out w1 tv t b1 htv.at_ HTO.out)
  rw [HPE.out] at H1
  obtain ⟨_, At, ct, -, hte, hct1, hct2, -⟩ := htv.at_
  subst hte
  unfold maxLen at hct2
  clear b1 htv HT
  go_wp2_with fail
  refine H1.out.mono ?_
  rintro e' w2 ⟨xv, rfl, hxv, b2⟩
  have B2 := Lib.hid (B1.out.trans (b2.mono B1.out.size))
  have HT2 := Lib.hid (HT1.out.below b2)
  obtain ⟨xs, hxs⟩ := EntsRow.at_ hxv
  have H2 := Lib.hid (PTree_ok xv t xs w2 (fun W h => HML.out W (B2.out.trans (h.mono B2.out.size))) hxs HTO.out)
  obtain ⟨Ax, cx, hxe, hcx1, hcx2⟩ := hxv.slice
  rw [hpl] at hxe hcx1
  subst hxe
  unfold maxLen at hcx2
  clear b2 hxv HT1 H1 hxs
  go_wp2_with fail
  refine H2.out.mono ?_
  rintro e' w3 ⟨yv, rfl, hyv, b3⟩
  have B3 := Lib.hid (B2.out.trans (b3.mono B2.out.size))
  have HT3 := Lib.hid (HT2.out.below b3)
  have HY3 := Lib.hid hyv.at_
  clear b3 hyv HT2 H2
  go_wp2_with fail
  refine (Small_any _).mono ?_
  rintro e' w4 ⟨sv, rfl, hsv, b4⟩
  have B4 := Lib.hid (B3.out.trans (b4.mono B3.out.size))
  have HT4 := Lib.hid (HT3.out.below b4)
  have HY4 := Lib.hid (HY3.out.below b4)
  have H4 := Lib.hid (HMK.out w4 sv smallP B4.out hsv.at_ small_ok)
  clear b4 hsv HT3 HY3
  go_wp2_with fail
  refine H4.out.mono ?_
  rintro e' w5 ⟨ov, rfl, hov, b5⟩
  have B5 := Lib.hid (B4.out.trans (b5.mono B4.out.size))
  have HK := Lib.hid (AlikeK_any _ _ _ _ _ (HY4.out.below b5) (HT4.out.below b5) (by rw [hal]; omega))
  rw [HAL.out] at HK
  obtain ⟨Ao, co, hoe, -⟩ := hov.slice
  rw [small_plan3] at hoe
  subst hoe
  clear b5 hov H4 HT4 HY4 hpl hal
  have q2 : ((t.length : Int) == (t.length : Int)) = true := beq_self_eq_true _
  go_wp2_with fail
  refine HK.out.mono ?_
  rintro e' w6 ⟨rfl, b6⟩
  have B6 := Lib.hid (B5.out.trans (b6.mono B5.out.size))
  clear b6
  go_wp2_with fail
  go_ret
  exact ⟨rfl, B6.out⟩
end Go.Proofs.YtjglenhhgbokbaaGreatDoor
