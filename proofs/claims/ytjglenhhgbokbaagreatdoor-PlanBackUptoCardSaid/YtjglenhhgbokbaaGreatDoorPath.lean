/-
  path.Check. No condition beyond the world's shape.
-/
import Derived.Test.YtjglenhhgbokbaaGreatDoorStrs
import Derived.Test.YtjglenhhgbokbaaGreatDoorUpBase
namespace Go.Proofs.YtjglenhhgbokbaaGreatDoor
open Go.RowKit

def badPart (p : List UInt8) : Bool := p == [] || p == [46] || p == [46, 46]
def checkS (l : List UInt8) : Int := if l.length < 1 ∨ 400 < l.length then 1 else if (0 : UInt8) ∈ l then 3 else if (splitC 47 l).any badPart then 9 else 0
theorem bs_beq (a b : List UInt8) : ((bs a).toList == (bs b).toList) = (a == b) := by rw [bs_toList, bs_toList]

set_option maxHeartbeats 1000000 in
theorem Check_any (l : List UInt8) (w : World) (hs : l.length < 4611686018427387904) (hm : ML w) :
    Calls Tryz.prog 58 #[.string (bs l)] w fun e w' => e = .returned (.int .i64 (checkS l)) ∧ Below w.heap.size w w' := by
  have hz := bs_size l
  by_cases h1 : l.length < 1 ∨ 400 < l.length
  · have fin := Lib.hid (show checkS l = 1 from if_pos h1)
    rcases h1 with h1 | h1
    all_goals
      go_enter Tryz.func58, Tryz.ntmps58
      go_wp2_with fail
      go_ret
      exact ⟨ret_int (by rw [fin.out]), Below.refl _ _⟩
  by_cases h2 : (0 : UInt8) ∈ l
  · have fin := Lib.hid (show checkS l = 3 by rw [checkS, if_neg h1, if_pos h2])
    have hix := indexByte_mem h2
    have hI := Lib.hid (IndexByte_nul l)
    generalize Lib.indexByte l 0 = ix at *
    go_enter Tryz.func58, Tryz.ntmps58
    go_wp2_with fail
    refine (hI.out _).mono ?_
    rintro e w' ⟨rfl, rfl⟩
    go_wp2_with fail
    go_ret
    exact ⟨ret_int (by rw [fin.out]), Below.refl _ _⟩
  have hix := Lib.hid (indexByte_not h2)
  have fin := Lib.hid (show checkS l = if (splitC 47 l).any badPart then 9 else 0 by rw [checkS, if_neg h1, if_neg h2])
  have hspl := splitC_length 47 l
  have t1 := bs_toList []
  have t2 := bs_toList [46]
  have t3 := bs_toList [46, 46]
  clear h2
  have d1 : decide ((l.length : Int) < 1) = false := decide_eq_false (by omega)
  have d2 : decide (400 < (l.length : Int)) = false := decide_eq_false (by omega)
  have hS := Lib.hid (fun hs => Split_slash l w hs hm)
  generalize splitC 47 l = P at *
  go_enter Tryz.func58, Tryz.ntmps58
  go_wp2_with fail
  refine (IndexByte_nul l _).mono ?_
  rintro e w' ⟨rfl, rfl⟩
  rw [hix.out]
  go_wp2_with fail
  refine (hS.out (by omega)).mono ?_
  rintro e w1 ⟨v, rfl, hv, hb⟩
  obtain ⟨A, c, rfl, h11, h12, h13, hr⟩ := hv
  unfold maxLen at h12
  go_wp2
  go_loop [19] (fun i => ∃ k : Nat, k ≤ P.length ∧ i = .int .i64 k ∧ Hid ((P.take k).any badPart = false)) (fun i => P.length - (intOf i).toNat)
  case atStart => exact ⟨0, Nat.zero_le _, rfl, Lib.hid rfl⟩
  case round =>
    obtain ⟨k, hk, rfl, hp⟩ := hrel
    by_cases hx : k < P.length
    · obtain ⟨ad1, u1, rfl, _, hu1, hc1⟩ := hr.at_ hx
      rw [List.getElem?_map, List.getElem?_eq_getElem hx] at hu1
      obtain rfl : Value.string (bs P[k]) = u1 := by simpa using hu1
      have htk : P.take (k + 1) = P.take k ++ [P[k]] := List.take_succ_eq_append_getElem hx
      have hmem : P[k] ∈ P := List.getElem_mem hx
      have t4 := bs_toList P[k]
      clear hu1
      generalize P[k] = q at *
      by_cases hq : badPart q = true
      · have H := Lib.hid (show checkS l = 9 by rw [fin.out, if_pos (List.any_eq_true.2 ⟨q, hmem, hq⟩)])
        clear htk hp
        unfold badPart at hq
        by_cases q1 : q = []
        · subst q1
          go_wp2_with fail
          go_ret
          exact ⟨ret_int (by rw [H.out]), hb⟩
        · have q1' : ¬ (bs q).toList = [] := by rw [t4]; exact q1
          have q1'' : (bs q).toList.isEmpty = false := by rw [t4]; cases q <;> simp at q1 ⊢
          by_cases q2 : q = [46]
          · subst q2
            have e1 : ((bs [46]).toList == (ByteArray.mk #[46]).toList) = true := by rw [show ByteArray.mk #[46] = bs [46] from rfl]; exact beq_self_eq_true _
            go_wp2_with fail
            go_ret
            exact ⟨ret_int (by rw [H.out]), hb⟩
          · have q3 : q = [46, 46] := by simpa [q1, q2] using hq
            subst q3
            have e1 : ((bs [46, 46]).toList == (ByteArray.mk #[46]).toList) = false := by rw [show ByteArray.mk #[46] = bs [46] from rfl, bs_beq]; decide
            have e2 : ((bs [46, 46]).toList == (ByteArray.mk #[46, 46]).toList) = true := by rw [show ByteArray.mk #[46, 46] = bs [46, 46] from rfl]; exact beq_self_eq_true _
            go_wp2_with fail
            go_ret
            exact ⟨ret_int (by rw [H.out]), hb⟩
      · have H := Lib.hid (show (P.take (k + 1)).any badPart = false by rw [htk, List.any_append, hp.out]; simpa using hq)
        clear htk hp
        have hq' : badPart q = false := by simpa using hq
        unfold badPart at hq'
        simp only [Bool.or_eq_false_iff] at hq'
        obtain ⟨⟨q1, q2⟩, q3⟩ := hq'
        have q1' : ¬ (bs q).toList = [] := by rw [t4]; simpa using q1
        have q1'' : (bs q).toList.isEmpty = false := by rw [t4]; cases q <;> simp at q1 ⊢
        have e1 : ((bs q).toList == [46]) = false := by rw [t4]; exact q2
        have e2 : ((bs q).toList == [46, 46]) = false := by rw [t4]; exact q3
        clear hq q1 q2 q3 t1 t2 t3 t4
        go_wp2_with fail
        go_round
        case rel => exact ⟨k + 1, by omega, by go_num, H⟩
        case measure => simp [intOf]; omega
    · have H := Lib.hid (show checkS l = 0 by
        rw [fin.out, if_neg (by rw [List.take_of_length_le (by omega)] at hp; rw [hp.out]; simp)])
      clear hp
      go_wp2_with fail
      go_ret
      exact ⟨ret_int (by rw [H.out]), hb⟩
end Go.Proofs.YtjglenhhgbokbaaGreatDoor
