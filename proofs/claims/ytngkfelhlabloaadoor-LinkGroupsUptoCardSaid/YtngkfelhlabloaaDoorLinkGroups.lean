/-
  The law LinkGroups: what it computes is true. Condition: raw things of the second form's bound.
-/
import Derived.Test.YtngkfelhlabloaaDoorSmallOk
import Derived.Test.YtngkfelhlabloaaDoorTree
import Derived.BigQuiet
namespace Go.Proofs.YtngkfelhlabloaaDoor
open Go.RowKit

theorem conv_data_str {w : World} {base : Nat} {v : Value} {l : List UInt8} (h : DataAt w base v l) (n : Nat) : (convert 44 9 v).run Tryd.prog (w.drewN n) = .ok (.string (bs l)) (w.drewN n) :=
  conv_str (w := w.drewN n) (B := w.heap.size) h.bytes
theorem bs_neq (a b : List UInt8) : ((bs a).toList != (bs b).toList) = (a != b) := by
  have := bs_beq a b
  simp only [bne, this]
set_option maxRecDepth 100000 in
set_option maxHeartbeats 4000000 in
theorem LinkGroups_walk (w : World) (hsh : w.ShapedOpen Tryd.prog) (v : Value) (l : List RawS) (hl : RawsAt w w.heap.size v l) (hok : ∀ x ∈ l, RawOk x) (hn : l.length ≤ 1048576) :
    Calls Tryd.prog 4 #[v] w fun e w' => e = .returned (.bool true) ∧ Below w.heap.size w w' := by
  have hm := ML.of_shaped hsh
  clear hsh
  have HT := Lib.hid (fun (_ : Unit) => Tree_any l v 30 w hm hl hok hn (by omega))
  have hto := treeP_ok l 30 (by omega)
  have HML : Hid (∀ W, Below w.heap.size w W → ML W) := Lib.hid (fun W hb => hm.below hb)
  clear hm hl hok hn
  generalize treeP l 30 = t at *
  have HTO := Lib.hid hto
  have hlen := hto.len
  have HFT : Hid (∀ W tv, Below w.heap.size w W → NodesAt W tv t → Calls Tryd.prog 21 #[tv] W fun e w' => ∃ fv, e = .returned (.tuple #[fv, .int .i64 0]) ∧ IntsOwn w' W.heap.size fv (firstsP t) ∧ Below W.heap.size W w') := Lib.hid (fun W tv hb h => Firsts_any tv t W (HML.out W hb) h HTO.out.node HTO.out.chk)
  have HFS : Hid (∀ W tv, Below w.heap.size w W → NodesAt W tv smallP → Calls Tryd.prog 21 #[tv] W fun e w' => ∃ fv, e = .returned (.tuple #[fv, .int .i64 0]) ∧ IntsOwn w' W.heap.size fv [0, 1, 2] ∧ Below W.heap.size W w') := Lib.hid (fun W tv hb h => Firsts_any tv smallP W (HML.out W hb) h small_ok.node chk_small)
  clear hto
  go_enter Tryd.func4, Tryd.ntmps4
  go_wp2_with fail
  refine (HT.out ()).mono ?_
  rintro e' w1 ⟨tv, rfl, htv, b1⟩
  have B1 := Lib.hid b1
  have HTV := Lib.hid htv.at_
  clear b1 htv HT
  go_wp2_with fail
  refine (HFT.out _ _ B1.out HTV.out).mono ?_
  rintro e' w2 ⟨fv, rfl, hfv, b2⟩
  have B2 := Lib.hid (B1.out.trans (b2.mono B1.out.size))
  have HTV2 := Lib.hid (HTV.out.below b2)
  have HFV2 := Lib.hid hfv
  clear b2 hfv HTV HFT
  go_wp2_with fail
  refine (Small_any _).mono ?_
  rintro e' w3 ⟨sv, rfl, hsv, b3⟩
  have B3 := Lib.hid (B2.out.trans (b3.mono B2.out.size))
  have HTV3 := Lib.hid (HTV2.out.below b3)
  have HFV3 := Lib.hid (HFV2.out.below b3)
  have HSV := Lib.hid hsv.at_
  clear b3 hsv HTV2 HFV2
  go_wp2_with fail
  refine (HFS.out _ _ B3.out HSV.out).mono ?_
  rintro e' w4 ⟨ov, rfl, hov, b4⟩
  have B4 := Lib.hid (B3.out.trans (b4.mono B3.out.size))
  have HTV4 := Lib.hid (HTV3.out.below b4)
  have HFV4 := Lib.hid (HFV3.out.below b4)
  have HOV := Lib.hid hov
  clear b4 hov HTV3 HFV3 HSV HFS
  have b5 := (Below.refl w4.heap.size w4).alloc (Nat.le_refl _) (.cells #[.int .i64 0, .int .i64 1, .int .i64 2] 3)
  have B5 := Lib.hid (B4.out.trans (b5.mono B4.out.size))
  have HTV5 := Lib.hid (HTV4.out.below b5)
  have HFV5 := Lib.hid (HFV4.out.below b5)
  have HEQ := Lib.hid (EqI_any _ _ _ [0, 1, 2] _ w4.heap.size _ (HOV.out.below b5) (ints_lit w4 [0, 1, 2] w4.heap.size (Nat.le_refl _) (by simp)))
  rw [show (([0, 1, 2] : List Int) == [0, 1, 2]) = true from rfl] at HEQ
  clear b5
  go_wp2_with fail
  refine HEQ.out.mono ?_
  rintro e' w6 ⟨rfl, b6⟩
  have B6 := Lib.hid (B5.out.trans (b6.mono B5.out.size))
  have hT6 := HTV5.out.below b6
  have hF6 := HFV5.out.below b6
  obtain ⟨A2, c2, hfe, hc21, hc22⟩ := hF6.slice_
  obtain ⟨xs, A1, c1, hx, rfl, hc11, hc12, -, hr, hdat⟩ := hT6
  rw [firstsP_length] at hfe hc21
  subst hfe
  unfold maxLen at hc12 hc22
  have hxl : xs.length = t.length := by rw [← hx, List.length_map]
  have HX := Lib.hid hx
  have HR := Lib.hid hr
  have HDT := Lib.hid hdat
  have HF6 := Lib.hid hF6
  clear b6 HEQ hx hr hdat hF6 HTV5 HFV5 HTV4 HFV4 HOV
  go_wp2_with fail
  go_loopg [41] t.length (fun gg s41 wr => ∃ k : Nat, k ≤ t.length ∧ t.length - k ≤ gg ∧ s41 = .int .i64 k ∧ Hid (Below w6.heap.size w6 wr))
  case atStart => exact ⟨0, Nat.zero_le _, by omega, rfl, Lib.hid (Below.refl _ _)⟩
  case round =>
    obtain ⟨i, hi, hg, rfl, HW⟩ := hrel
    by_cases hlt : i < t.length
    · have hltz : (i : Int) < (t.length : Int) := by omega
      obtain ⟨hs1, hs2, hs3⟩ := firstAt_spec hlt
      have hL : i < (firstsP t).length := by rw [firstsP_length]; exact hlt
      obtain ⟨ad2, rfl, f1⟩ := (HF6.out.below HW.out).load hL
      have hfi : (firstsP t)[i] = (firstAt t i : Int) := by simp [firstsP]
      rw [hfi] at f1
      have hklt : firstAt t i < t.length := by omega
      have hL2 : firstAt t i < (firstsP t).length := by rw [firstsP_length]; exact hklt
      obtain ⟨ad2', had2, f2⟩ := (HF6.out.below HW.out).load hL2
      injection had2 with had2
      subst had2
      have hfk : (firstsP t)[firstAt t i] = (firstAt t (firstAt t i) : Int) := by simp [firstsP]
      rw [hfk, hs2] at f2
      obtain ⟨ad, rfl, _, -, -, e2, -, -, -, -, -, -, -, -, e11⟩ := load_node (HR.out.below HW.out) (by omega) hlt
      obtain ⟨ad', had, _, -, -, g2, -, -, -, -, -, -, -, -, g11⟩ := load_node (HR.out.below HW.out) (show firstAt t i < xs.length by omega) hklt
      injection had with had
      subst had
      have hxi : xs[i].1 = t[i] := by have := HX.out; subst this; simp
      have hxk : xs[firstAt t i].1 = t[firstAt t i] := by have := HX.out; subst this; simp
      have cv1 := fun n => conv_data_str ((HDT.out xs[i] (List.getElem_mem _)).below HW.out) n
      have cv2 := fun n => conv_data_str ((HDT.out xs[firstAt t i] (List.getElem_mem _)).below HW.out) n
      obtain ⟨Ai, ci, hdi, -⟩ := HDT.out xs[i] (List.getElem_mem _)
      obtain ⟨Ak, ck, hdk, -⟩ := HDT.out xs[firstAt t i] (List.getElem_mem _)
      rw [hdi] at e11 cv1
      rw [hdk] at g11 cv2
      rw [hxi] at e2 e11 cv1
      rw [hxk] at g2 g11 cv2
      have hcase : firstAt t i = i ∨ (firstAt t i < i ∧ t[firstAt t i].same = t[i].same ∧ t[i].same ≠ 0 ∧ t[firstAt t i].data = t[i].data) := by
        by_cases h : firstAt t i = i
        · exact .inl h
        · obtain ⟨hh, h1, h2⟩ := hs3 h
          refine .inr ⟨by omega, h1, h2, ?_⟩
          have := HTO.out.alike t[firstAt t i] (List.getElem_mem _) t[i] (List.getElem_mem _) (by rw [h1]; exact h2) h1
          unfold alikeB at this
          simp only [Bool.and_eq_true, beq_iff_eq] at this
          exact this.2
      clear hs1 hs2 hs3 hfi hfk hxi hxk hdi hdk hL hL2
      generalize firstAt t i = fk at *
      have i1 : (0 : Int) ≤ (i : Int) := by omega
      have d1 : decide ((fk : Int) < 0) = false := decide_eq_false (by omega)
      have k1 : (0 : Int) ≤ (fk : Int) := by omega
      have k2 : (fk : Int) < (t.length : Int) := by omega
      rcases hcase with h1 | ⟨h1, h2, h3, h4⟩
      · subst h1
        clear f2 g2 g11 cv2 hklt
        go_upto_region 11 with fail
        go_quiet (fail)
        have HW2 := Lib.hid (below_drewN HW.out nq)
        clear f1 e2 e11 cv1
        go_wp2_with fail
        go_roundg (t.length - (fk + 1))
        case measure => omega
        case rel => exact ⟨fk + 1, by omega, by omega, by go_num, HW2⟩
      · rw [h2] at g2
        rw [h4] at g11 cv2
        have q1 : (t[i].same == 0) = false := by simp [h3]
        clear h2 h3 h4
        generalize t[i].same = ys at *
        generalize t[i].data.length = yn at *
        generalize bs t[i].data = yd at *
        have d2 : decide ((i : Int) < (fk : Int)) = false := decide_eq_false (by omega)
        have d3 : decide (i < fk) = false := decide_eq_false (by omega)
        have d4 : decide ((fk : Int) < (i : Int)) = true := decide_eq_true (by omega)
        have d5 : decide (fk < i) = true := decide_eq_true (by omega)
        go_upto_region 11 with fail
        go_quiet (fail)
        have HW2 := Lib.hid (below_drewN HW.out nq)
        clear f1 f2 e2 e11 g2 g11 cv1 cv2
        go_wp2_with fail
        go_roundg (t.length - (i + 1))
        case measure => omega
        case rel => exact ⟨i + 1, by omega, by omega, by go_num, HW2⟩
    · obtain rfl : i = t.length := by omega
      go_wp2_with fail
      go_ret
      exact ⟨rfl, B6.out.trans (HW.out.mono B6.out.size)⟩
end Go.Proofs.YtngkfelhlabloaaDoor
