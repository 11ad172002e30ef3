/-
  The law DiffAlike: what it computes is true. Condition: raw things of the second form's bound.
-/
import Derived.Test.YtjglenhhgbokbaaDoorDAlike
import Derived.Test.YtjglenhhgbokbaaDoorTree
import Derived.Test.YtjglenhhgbokbaaDoorSmallP
import Derived.RegionTactic
namespace Go.Proofs.YtjglenhhgbokbaaDoor
open Go.RowKit

theorem nil_okA : TreeOk ([] : List NodeP) := ⟨by simp, by simp, by simp, by simp, by simp⟩
theorem treeP_same (l : List RawS) (most : Nat) (hm : most ≤ 1048576) : ∀ x ∈ treeP l most, x.same ≤ most := by
  have hg := growVOk_all most hm l (s := ⟨[], [[]]⟩) ⟨by simp, by simp, by simp, by simp⟩
  have hp := treeP_perm l most
  intro x hx
  by_cases h0 : x.same = 0
  · omega
  · obtain ⟨k, z, a1, a2, _⟩ := hg.same x (hp.subset hx) h0
    have hk : k < (growAll most l).1.length := (List.getElem?_eq_some_iff.1 a1).1
    have h1 := hp.length_eq
    have h2 := treeP_length l most
    omega
/-- the first ones turned -/
def mixTo (u t : List NodeP) (k : Nat) : List NodeP := u.take k ++ t.drop k
theorem mixTo_length {u t : List NodeP} (h : u.length = t.length) {k : Nat} (hk : k ≤ t.length) : (mixTo u t k).length = t.length := by
  unfold mixTo; rw [List.length_append, List.length_take, List.length_drop]; omega
theorem mixTo_zero (u t : List NodeP) : mixTo u t 0 = t := by simp [mixTo]
theorem mixTo_all {u t : List NodeP} (h : u.length = t.length) : mixTo u t t.length = u := by
  unfold mixTo; rw [List.take_of_length_le (by omega), List.drop_length, List.append_nil]
theorem mixTo_at {u t : List NodeP} (h : u.length = t.length) {k : Nat} (hk : k < t.length) : (mixTo u t k)[k]'(by rw [mixTo_length h (by omega)]; exact hk) = t[k] := by
  unfold mixTo
  rw [List.getElem_append_right (by rw [List.length_take]; omega)]
  simp only [List.length_take, List.getElem_drop]
  congr 1; omega
theorem mixTo_set {u t : List NodeP} (h : u.length = t.length) {k : Nat} (hk : k < t.length) : (mixTo u t k).set k (u[k]'(by omega)) = mixTo u t (k + 1) := by
  unfold mixTo
  rw [List.set_append_right _ _ (by rw [List.length_take]; omega), List.take_succ_eq_append_getElem (by omega), List.append_assoc]
  have e : k - (u.take k).length = 0 := by rw [List.length_take]; omega
  rw [e, List.drop_eq_getElem_cons hk, List.set_cons_zero]
  rfl
theorem mixTo_keep {u t : List NodeP} (h : u.length = t.length) {k : Nat} (hk : k < t.length) (he : u[k]'(by omega) = t[k]) : mixTo u t (k + 1) = mixTo u t k := by
  have e := mixTo_at h hk
  rw [← mixTo_set h hk, he, ← e]
  exact List.set_getElem_self _
theorem shiftN_pos {d : Int} {x : NodeP} (h : 0 < x.same) : shiftN d x = setSame x (x.same + d) := by unfold shiftN; rw [if_pos h]
theorem shiftN_off {d : Int} {x : NodeP} (h : ¬ 0 < x.same) : shiftN d x = x := by unfold shiftN; rw [if_neg h]
set_option maxRecDepth 100000 in
set_option maxHeartbeats 8000000 in
theorem DiffAlike_walk (w : World) (hsh : w.ShapedOpen Tryd.prog) (v : Value) (l : List RawS) (hl : RawsAt w w.heap.size v l) (hok : ∀ x ∈ l, RawOk x) (hn : l.length ≤ 1048576) (v2 : Value) (m : List RawS) (hl2 : RawsAt w w.heap.size v2 m) (hok2 : ∀ x ∈ m, RawOk x) (hn2 : m.length ≤ 1048576) (by_ : Int) (hby : I64 by_) :
    Calls Tryd.prog 8 #[v, v2, .int .i64 by_] w fun e w' => e = .returned (.bool true) ∧ Below w.heap.size w w' := by
  have hm := ML.of_shaped hsh
  clear hsh
  have HML : Hid (∀ W, Below w.heap.size w W → ML W) := Lib.hid (fun W hb => hm.below hb)
  have HT : Hid (∀ W, Below w.heap.size w W → Calls Tryd.prog 10 #[v, .int .i64 15] W fun e w' => ∃ tv, e = .returned tv ∧ NodesOwn w' W.heap.size tv (treeP l 15) ∧ Below W.heap.size W w') := Lib.hid (fun W hb => Tree_any l v 15 W (hm.below hb) ((hl.below hb).more hb.size) hok hn (by omega))
  have HT2 : Hid (∀ W, Below w.heap.size w W → Calls Tryd.prog 10 #[v2, .int .i64 15] W fun e w' => ∃ tv, e = .returned tv ∧ NodesOwn w' W.heap.size tv (treeP m 15) ∧ Below W.heap.size W w') := Lib.hid (fun W hb => Tree_any m v2 15 W (hm.below hb) ((hl2.below hb).more hb.size) hok2 hn2 (by omega))
  have hta := treeP_ok l 15 (by omega)
  have htb := treeP_ok m 15 (by omega)
  have hsm := treeP_same l 15 (by omega)
  have hpd := pick_bd by_ 1000 (by omega)
  have HPK := Lib.hid (fun W => picked_any by_ 1000 hby (by omega) (by omega) W)
  have HDA : Hid (∀ W x y (a b : List NodeP), Below w.heap.size w W → NodesAt W x a → NodesAt W y b → TreeOk a → TreeOk b → Calls Tryd.prog 27 #[x, y] W fun e w' => e = .returned (.tuple #[.bool (decide (anewP a = anewP b)), .int .i64 0]) ∧ Below W.heap.size W w') := Lib.hid (fun W x y a b hb h1 h2 h3 h4 => DAlike_any x y a b W (hm.below hb) h1 h2 h3 h4)
  clear hm hl hok hn hl2 hok2 hn2 hby
  generalize treeP l 15 = a at *
  generalize treeP m 15 = b at *
  generalize pick by_ 1000 = pd at *
  have HTA := Lib.hid hta
  have HTB := Lib.hid htb
  have HSM := Lib.hid hsm
  have hla := hta.len
  have HSH : Hid (TreeOk (a.map (shiftN (1 + pd)))) := Lib.hid (shift_ok hta (by omega) (fun x hx => by have := hsm x hx; omega))
  have HAN : Hid (anewP (a.map (shiftN (1 + pd))) = anewP a) := Lib.hid (shift_anew (fun x hx => (hta.node x hx).same.1) (by omega))
  have HAL : Hid (decide (anewP a = anewP b) = alikeT a b) := Lib.hid (anew_alike (fun x hx => (hta.node x hx).same.1) (fun x hx => (htb.node x hx).same.1))
  have HUL : Hid ((a.map (shiftN (1 + pd))).length = a.length) := Lib.hid (List.length_map ..)
  clear hta htb hsm
  go_enter Tryd.func8, Tryd.ntmps8
  go_wp2_with fail
  refine (HT.out _ (Below.refl _ _)).mono ?_
  rintro e' w1 ⟨av, rfl, hav, b1⟩
  have B1 := Lib.hid b1
  have HA1 := Lib.hid hav.at_
  clear b1 hav
  go_wp2_with fail
  refine (HT2.out _ B1.out).mono ?_
  rintro e' w2 ⟨bv, rfl, hbv, b2⟩
  have B2 := Lib.hid (B1.out.trans (b2.mono B1.out.size))
  have HA2 := Lib.hid (HA1.out.below b2)
  have HB2 := Lib.hid hbv.at_
  clear b2 hbv HT2 HA1
  go_wp2_with fail
  refine (HT.out _ B2.out).mono ?_
  rintro e' w3 ⟨cv, rfl, hcv, b3⟩
  have B3 := Lib.hid (B2.out.trans (b3.mono B2.out.size))
  have HB23 := Lib.hid b3
  have h0 : NodesOwn w3 w2.heap.size cv (mixTo (a.map (shiftN (1 + pd))) a 0) := by rw [mixTo_zero]; exact hcv
  obtain ⟨_, Ac, cc, -, hce, hcc1, hcc2, -⟩ := hcv.at_
  subst hce
  unfold maxLen at hcc2
  have H0 : Hid (Below w2.heap.size w2 w3 ∧ NodesOwn w3 w2.heap.size (.slice Ac a.length cc) (mixTo (a.map (shiftN (1 + pd))) a 0)) := Lib.hid ⟨b3, h0⟩
  clear b3 hcv h0 HT
  go_wp2_with fail
  go_loopg [25] a.length (fun gg s25 wr => ∃ k : Nat, k ≤ a.length ∧ a.length - k ≤ gg ∧ s25 = .int .i64 k ∧ Hid (Below w2.heap.size w2 wr ∧ NodesOwn wr w2.heap.size (.slice Ac a.length cc) (mixTo (a.map (shiftN (1 + pd))) a k)))
  case atStart => exact ⟨0, Nat.zero_le _, by omega, rfl, H0⟩
  case round =>
    obtain ⟨k, hk, hg, rfl, HS⟩ := hrel
    by_cases hlt : k < a.length
    · have hltz : (k : Int) < (a.length : Int) := by omega
      have hk0 : (0 : Int) ≤ (k : Int) := by omega
      have hml := mixTo_length HUL.out hk
      obtain ⟨g, cg, hv, hgb, hglt, -, -, hfz, hrow⟩ := HS.out.2.row (by omega)
      rw [hml] at hv
      injection hv with hv1 _ hv2
      subst hv1 hv2
      obtain ⟨dv, -, -, hcells⟩ := hrow k (by omega)
      have c2 := hcells 2 (by omega)
      rw [mixTo_at HUL.out hlt] at c2
      simp only [nodeC, List.getElem?_cons_zero, List.getElem?_cons_succ] at c2
      have z2 := hfz (k * 12 + 2)
      have hs1 := (HTA.out.node _ (List.getElem_mem hlt)).same.1
      have hs2 := HSM.out _ (List.getElem_mem hlt)
      have hut : (a.map (shiftN (1 + pd)))[k]'(by rw [HUL.out]; exact hlt) = shiftN (1 + pd) a[k] := List.getElem_map ..
      by_cases hp : 0 < a[k].same
      · have HFIN : Hid (Below w2.heap.size w2 (wr.drew.setCell ⟨g, k * 12 + 2, none⟩ (.int .i64 (a[k].same + (1 + pd)))) ∧ NodesOwn (wr.drew.setCell ⟨g, k * 12 + 2, none⟩ (.int .i64 (a[k].same + (1 + pd)))) w2.heap.size (.slice (some ⟨g, 0, none⟩) a.length cc) (mixTo (a.map (shiftN (1 + pd))) a (k + 1))) := Lib.hid ⟨HS.out.1.drew.setCell (p := ⟨g, k * 12 + 2, none⟩) hgb _, by
          have h := (HS.out.2.below ((Below.refl _ wr).drew)).set_ (j := k) (i := 2) (u := .int .i64 (a[k].same + (1 + pd))) rfl (by omega) (by omega) (setSame a[k] (a[k].same + (1 + pd))) (by rw [mixTo_at HUL.out hlt]; rfl) (fun dv => by rw [mixTo_at HUL.out hlt]; rfl)
          have e : setSame a[k] (a[k].same + (1 + pd)) = (a.map (shiftN (1 + pd)))[k]'(by rw [HUL.out]; exact hlt) := by rw [hut, shiftN_pos hp]
          rw [e, mixTo_set HUL.out hlt] at h
          exact h⟩
        clear hut hrow hcells hfz hml
        generalize a[k].same = s at *
        go_upto_region 7 with fail
        go_region_with (go_at_call 23; (with_reducible refine (HPK.out _).mono ?_); rintro e w' ⟨rfl, rfl⟩)
        all_goals
          go_wp2_with fail
          go_roundg (a.length - (k + 1))
          case measure => omega
          case rel => exact ⟨k + 1, by omega, by omega, by go_num, HFIN⟩
      · have HFIN : Hid (Below w2.heap.size w2 wr ∧ NodesOwn wr w2.heap.size (.slice (some ⟨g, 0, none⟩) a.length cc) (mixTo (a.map (shiftN (1 + pd))) a (k + 1))) := Lib.hid ⟨HS.out.1, by
          rw [mixTo_keep HUL.out hlt (by rw [hut, shiftN_off hp])]
          exact HS.out.2⟩
        clear hut hrow hcells hfz hml
        generalize a[k].same = s at *
        go_wp2_with fail
        go_roundg (a.length - (k + 1))
        case measure => omega
        case rel => exact ⟨k + 1, by omega, by omega, by go_num, HFIN⟩
    · obtain rfl : k = a.length := by omega
      have HC := Lib.hid (show NodesAt wr (.slice Ac a.length cc) (a.map (shiftN (1 + pd))) by have h := HS.out.2; rw [mixTo_all HUL.out] at h; exact h.at_)
      have BR := Lib.hid (B2.out.trans (HS.out.1.mono B2.out.size))
      have HAr := Lib.hid (HA2.out.below HS.out.1)
      have HBr := Lib.hid (HB2.out.below HS.out.1)
      have H1 := Lib.hid (HDA.out wr _ _ a _ BR.out HAr.out HC.out HTA.out HSH.out)
      rw [HAN.out, decide_eq_true rfl] at H1
      go_wp2_with fail
      refine H1.out.mono ?_
      rintro e' w4 ⟨rfl, b4⟩
      have B4 := Lib.hid (BR.out.trans (b4.mono BR.out.size))
      have HA4 := Lib.hid (HAr.out.below b4)
      have HB4 := Lib.hid (HBr.out.below b4)
      have H2 := Lib.hid (HDA.out w4 _ _ a b B4.out HA4.out HB4.out HTA.out HTB.out)
      rw [HAL.out] at H2
      clear b4 H1 HAr HBr HC
      go_wp2_with fail
      refine H2.out.mono ?_
      rintro e' w5 ⟨rfl, b5⟩
      have B5 := Lib.hid (B4.out.trans (b5.mono B4.out.size))
      have HA5 := Lib.hid (HA4.out.below b5)
      have HB5 := Lib.hid (HB4.out.below b5)
      clear b5 H2 HA4 HB4
      go_wp2_with fail
      refine (Small_any _).mono ?_
      rintro e' w6 ⟨sv, rfl, hsv, b6⟩
      have B6 := Lib.hid (B5.out.trans (b6.mono B5.out.size))
      have HA6 := Lib.hid (HA5.out.below b6)
      have HB6 := Lib.hid (HB5.out.below b6)
      have H3 := Lib.hid (HDA.out w6 _ _ smallP [] B6.out hsv.at_ (NodesAt.nil _) small_ok nil_okA)
      rw [show decide (anewP smallP = anewP []) = false by decide] at H3
      clear b6 hsv HA5 HB5
      go_wp2_with fail
      refine H3.out.mono ?_
      rintro e' w7 ⟨rfl, b7⟩
      have B7 := Lib.hid (B6.out.trans (b7.mono B6.out.size))
      have HK := Lib.hid (AlikeK_any _ _ a b w7 (HA6.out.below b7) (HB6.out.below b7) (by omega))
      clear b7 H3 HA6 HB6
      generalize alikeT a b = r at *
      cases r
      all_goals
        go_wp2_with fail
        refine HK.out.mono ?_
        rintro e' w8 ⟨rfl, b8⟩
        have B8 := Lib.hid (B7.out.trans (b8.mono B7.out.size))
        clear b8
        go_wp2_with fail
        go_ret
        exact ⟨rfl, B8.out⟩
end Go.Proofs.YtjglenhhgbokbaaDoor
