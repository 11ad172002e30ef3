/-
  The law LinkCounts: what it computes is true. Condition: raw things of the second form's bound.
-/
import Derived.Test.YtngkfelhlabloaaDoorSmallOk
import Derived.Test.YtngkfelhlabloaaDoorTree
namespace Go.Proofs.YtngkfelhlabloaaDoor
open Go.RowKit

theorem cntL_at {L : List Int} {k : Nat} (hk : k < L.length) : (cntL L)[k]'(by rw [cntL_length]; exact hk) = (L.count L[k] : Int) := by simp [cntL]
theorem count_take {L : List Int} {k : Nat} (hk : k < L.length) (s : Int) : ((L.take (k + 1)).count s : Int) = ((L.take k).count s : Int) + if L[k] = s then 1 else 0 := by
  rw [List.take_succ_eq_append_getElem hk, List.count_append, List.count_singleton]
  by_cases h : L[k] = s
  · simp [h]
  · simp [h]
theorem count_bd {L : List Int} (h : L.length ≤ 40) (k : Nat) (s : Int) : (L.take k).count s ≤ 40 := by
  have := List.count_le_length (a := s) (l := L.take k)
  rw [List.length_take] at this
  omega
set_option maxRecDepth 100000 in
set_option maxHeartbeats 4000000 in
theorem LinkCounts_walk (w : World) (hsh : w.ShapedOpen Tryd.prog) (v : Value) (l : List RawS) (hl : RawsAt w w.heap.size v l) (hok : ∀ x ∈ l, RawOk x) (hn : l.length ≤ 1048576) :
    Calls Tryd.prog 7 #[v] w fun e w' => e = .returned (.bool true) ∧ Below w.heap.size w w' := by
  have hm := ML.of_shaped hsh
  clear hsh
  have HT := Lib.hid (fun (_ : Unit) => Tree_any l v 30 w hm hl hok hn (by omega))
  have hto := treeP_ok l 30 (by omega)
  have HML : Hid (∀ W, Below w.heap.size w W → ML W) := Lib.hid (fun W hb => hm.below hb)
  clear hm hl hok hn
  generalize treeP l 30 = t at *
  have HTO := Lib.hid hto
  have hlen := hto.len
  have HFT : Hid (∀ W tv, Below w.heap.size w W → NodesAt W tv t → Calls Tryd.prog 21 #[tv] W fun e w' => ∃ fv, e = .returned (.tuple #[fv, .int .i64 0]) ∧ IntsOwn w' W.heap.size fv (firstsP t) ∧ Below W.heap.size W w') := Lib.hid (fun W tv hb h => Firsts_any tv t W (HML.out W hb) h HTO.out.node HTO.out.chk)
  have HNT : Hid (∀ W tv, Below w.heap.size w W → NodesAt W tv t → Calls Tryd.prog 29 #[tv] W fun e w' => ∃ fv, e = .returned (.tuple #[fv, .int .i64 0]) ∧ IntsOwn w' W.heap.size fv (cntL (firstsP t)) ∧ Below W.heap.size W w') := Lib.hid (fun W tv hb h => Names_any tv t W (HML.out W hb) h HTO.out.node HTO.out.chk)
  have HNS : Hid (∀ W tv, Below w.heap.size w W → NodesAt W tv smallP → Calls Tryd.prog 29 #[tv] W fun e w' => ∃ fv, e = .returned (.tuple #[fv, .int .i64 0]) ∧ IntsOwn w' W.heap.size fv [1, 1, 1] ∧ Below W.heap.size W w') := Lib.hid (fun W tv hb h => Names_any tv smallP W (HML.out W hb) h small_ok.node chk_small)
  have hfl := firstsP_length t
  clear hto
  generalize firstsP t = L at *
  go_enter Tryd.func7, Tryd.ntmps7
  go_wp2_with fail
  refine (HT.out ()).mono ?_
  rintro e' w1 ⟨tv, rfl, htv, b1⟩
  have B1 := Lib.hid b1
  have HTV := Lib.hid htv.at_
  clear b1 htv HT
  go_wp2_with fail
  refine (HNT.out _ _ B1.out HTV.out).mono ?_
  rintro e' w2 ⟨nv, rfl, hnv, b2⟩
  have B2 := Lib.hid (B1.out.trans (b2.mono B1.out.size))
  have HTV2 := Lib.hid (HTV.out.below b2)
  have HNV2 := Lib.hid hnv
  clear b2 hnv HTV HNT
  go_wp2_with fail
  refine (HFT.out _ _ B2.out HTV2.out).mono ?_
  rintro e' w3 ⟨fv, rfl, hfv, b3⟩
  have B3 := Lib.hid (B2.out.trans (b3.mono B2.out.size))
  have HTV3 := Lib.hid (HTV2.out.below b3)
  have HNV3 := Lib.hid (HNV2.out.below b3)
  have HFV3 := Lib.hid hfv
  clear b3 hfv HTV2 HNV2 HFT
  go_wp2_with fail
  refine (Small_any _).mono ?_
  rintro e' w4 ⟨sv, rfl, hsv, b4⟩
  have B4 := Lib.hid (B3.out.trans (b4.mono B3.out.size))
  have HTV4 := Lib.hid (HTV3.out.below b4)
  have HNV4 := Lib.hid (HNV3.out.below b4)
  have HFV4 := Lib.hid (HFV3.out.below b4)
  have HSV := Lib.hid hsv.at_
  clear b4 hsv HTV3 HNV3 HFV3
  go_wp2_with fail
  refine (HNS.out _ _ B4.out HSV.out).mono ?_
  rintro e' w5 ⟨ov, rfl, hov, b5⟩
  have B5 := Lib.hid (B4.out.trans (b5.mono B4.out.size))
  have c5 := (Below.refl w5.heap.size w5).alloc (Nat.le_refl _) (.cells #[.int .i64 1, .int .i64 1, .int .i64 1] 3)
  have b6 := b5.trans (c5.mono b5.size)
  have B6 := Lib.hid (B4.out.trans (b6.mono B4.out.size))
  have HTV6 := Lib.hid (HTV4.out.below b6)
  have HNV6 := Lib.hid (HNV4.out.below b6)
  have HFV6 := Lib.hid (HFV4.out.below b6)
  have HEQ := Lib.hid (EqI_any _ _ _ [1, 1, 1] _ w5.heap.size _ (hov.below c5) (ints_lit w5 [1, 1, 1] w5.heap.size (Nat.le_refl _) (by simp)))
  rw [show (([1, 1, 1] : List Int) == [1, 1, 1]) = true from rfl] at HEQ
  clear b5 c5 b6 hov HTV4 HNV4 HFV4 HSV HNS
  go_wp2_with fail
  refine HEQ.out.mono ?_
  rintro e' w7 ⟨rfl, b7⟩
  have B7 := Lib.hid (B6.out.trans (b7.mono B6.out.size))
  have hT7 := HTV6.out.below b7
  have hF7 := HFV6.out.below b7
  have hN7 := HNV6.out.below b7
  obtain ⟨A2, c2, hfe, hc21, hc22⟩ := hF7.slice_
  obtain ⟨A3, c3, hne, hc31, hc32⟩ := hN7.slice_
  obtain ⟨xs, A1, c1, hx, rfl, hc11, hc12, -, hr, hdat⟩ := hT7
  rw [cntL_length, hfl] at hne hc31
  rw [hfl] at hfe hc21
  subst hfe hne
  unfold maxLen at hc12 hc22 hc32
  have HF7 := Lib.hid hF7
  have HN7 := Lib.hid hN7
  clear b7 HEQ hx hr hdat hF7 hN7 HTV6 HFV6 HNV6
  have hL40 : L.length ≤ 40 := by omega
  have HFL := Lib.hid hfl
  clear hfl
  go_wp2_with fail
  go_loopg [61] t.length (fun gg s61 wr => ∃ k : Nat, k ≤ t.length ∧ t.length - k ≤ gg ∧ s61 = .int .i64 k ∧ wr = w7)
  case atStart => exact ⟨0, Nat.zero_le _, by omega, rfl, rfl⟩
  case round =>
    obtain ⟨i, hi, hg, rfl, rfl⟩ := hrel
    by_cases hlt : i < t.length
    · have hltz : (i : Int) < (t.length : Int) := by omega
      have hL : i < L.length := by rw [HFL.out]; exact hlt
      obtain ⟨ad2, rfl, f1⟩ := HF7.out.load hL
      obtain ⟨ad3, rfl, n1⟩ := HN7.out.load (k := i) (by rw [cntL_length]; exact hL)
      rw [cntL_at hL] at n1
      generalize L[i] = fi at *
      clear hL
      have i1 : (0 : Int) ≤ (i : Int) := by omega
      have HCB := Lib.hid (count_bd hL40)
      clear hL40
      go_wp2_with fail
      go_loopg [11, 13, 66] t.length (fun gg s11 _ s66 wx => ∃ j : Nat, j ≤ t.length ∧ t.length - j ≤ gg ∧ s66 = .int .i64 j ∧ s11 = .int .i64 ((L.take j).count fi : Int) ∧ wx = wr)
      case atStart => exact ⟨0, Nat.zero_le _, by omega, rfl, by simp, rfl⟩
      case round =>
        obtain ⟨j, hj, hgj, rfl, rfl, rfl⟩ := hrel
        by_cases hlj : j < t.length
        · have hljz : (j : Int) < (t.length : Int) := by omega
          have hL : j < L.length := by rw [HFL.out]; exact hlj
          obtain ⟨ad2', had2, f2⟩ := HF7.out.load hL
          injection had2 with had2
          subst had2
          have HCT := Lib.hid (count_take hL fi)
          have hcb := HCB.out j fi
          generalize L[j] = fj at *
          clear hL
          by_cases hq : fj = fi
          · have q1 : (fj == fi) = true := by simp [hq]
            have HC2 : Hid (((L.take (j + 1)).count fi : Int) = ((L.take j).count fi : Int) + 1) := Lib.hid (by rw [HCT.out, if_pos hq])
            clear hq
            generalize (L.take j).count fi = cn at *
            go_wp2_with fail
            go_roundg (t.length - (j + 1))
            case measure => omega
            case rel => exact ⟨j + 1, by omega, by omega, by go_num, by rw [HC2.out], rfl⟩
          · have q1 : (fj == fi) = false := by simp [hq]
            have HC2 : Hid (((L.take (j + 1)).count fi : Int) = ((L.take j).count fi : Int)) := Lib.hid (by rw [HCT.out, if_neg hq]; omega)
            clear hq
            generalize (L.take j).count fi = cn at *
            go_wp2_with fail
            go_roundg (t.length - (j + 1))
            case measure => omega
            case rel => exact ⟨j + 1, by omega, by omega, by go_num, by rw [HC2.out], rfl⟩
        · obtain rfl : j = t.length := by omega
          have HLT : Hid (L.take t.length = L) := Lib.hid (by rw [← HFL.out, List.take_length])
          rw [HLT.out]
          generalize (L.count fi : Int) = cn at *
          go_wp2_with fail
          go_roundg (t.length - (i + 1))
          case measure => omega
          case rel => exact ⟨i + 1, by omega, by omega, by go_num, rfl⟩
    · obtain rfl : i = t.length := by omega
      go_wp2_with fail
      go_ret
      exact ⟨rfl, B7.out⟩
end Go.Proofs.YtngkfelhlabloaaDoor
