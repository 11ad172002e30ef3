/-
  The laws FieldWhole, FieldStrict, FieldBack: what they compute is true. Condition: texts of at most 1048576 bytes.
-/
import Derived.Test.YtbhglmcblhnphaaDoorField
import Derived.Test.YtbhglmcblhnphaaDoorClean
import Derived.Test.YtbhglmcblhnphaaDoorUpBase
namespace Go.Proofs.YtbhglmcblhnphaaDoor
open Go.RowKit

theorem pick_nat (a : Int) (m : Nat) (h : 1 ≤ m) : ∃ k : Nat, pick a m = k ∧ k < m := by
  have ⟨p1, p2⟩ := pick_bd a m (by omega)
  exact ⟨(pick a m).toNat, by omega, by omega⟩
theorem beq_self_bs (l : List UInt8) : ((bs l).toList == (bs l).toList) = true := beq_self_eq_true _

set_option maxRecDepth 100000 in
set_option maxHeartbeats 1000000 in
theorem FieldWhole_walk (w : World) (_hsh : w.ShapedOpen Tryd.prog) (a : Int) (ha : I64 a) :
    Calls Tryd.prog 8 #[.int .i64 a] w fun e w' => e = .returned (.bool true) ∧ Below w.heap.size w w' := by
  obtain ⟨k, hk, hk2⟩ := pick_nat a 512 (by omega)
  have hk3 : pick a 512 = k := hk
  have HK := Lib.hid hk3
  clear hk hk3
  have hR := Lib.hid (fun w => Repeat_byte 120 (k + 1) w (by omega))
  have hl : (List.replicate (k + 1) (120 : UInt8)).length = k + 1 := List.length_replicate
  have h0 : (0 : UInt8) ∉ List.replicate (k + 1) (120 : UInt8) := by simp [List.mem_replicate]
  have hF1 := Lib.hid (FWrite_ok (List.replicate (k + 1) 120) (k + 1) true (by omega) (by omega) (by rw [hl]; exact Nat.le_refl _) h0)
  rw [hl, Nat.sub_self, List.replicate_zero, List.append_nil] at hF1
  have hF2 := Lib.hid (FWrite_long (List.replicate (k + 1) 120) (k + 1) false (by omega) (by omega) (by rw [hl]; simp [fmost]))
  have hF3 := Lib.hid (FRead_full (List.replicate (k + 1) 120) true (by omega) (by omega) h0)
  have hF4 := Lib.hid (FRead_full (List.replicate (k + 1) 120) false (by omega) (by omega) h0)
  simp only [if_true, Bool.false_eq_true, if_false] at hF3 hF4
  have e1 := beq_self_bs (List.replicate (k + 1) 120)
  generalize List.replicate (k + 1) (120 : UInt8) = l at *
  clear h0 hl
  have ec : ((k + 1 : Nat) : Int) = 1 + k := by omega
  rw [ec] at hR hF1 hF2
  clear ec
  go_enter Tryd.func8, Tryd.ntmps8
  go_wp2_with fail
  refine (picked_any a 512 ha (by omega) (by omega) _).mono ?_
  rintro e w' ⟨rfl, rfl⟩
  rw [HK.out]
  go_wp2_with fail
  refine (hR.out _).mono ?_
  rintro e w1 ⟨rfl, b1⟩
  go_wp2_with fail
  refine (hF1.out _).mono ?_
  rintro e w2 ⟨rfl, b2⟩
  go_wp2_with fail
  refine (hF2.out _).mono ?_
  rintro e w' ⟨rfl, rfl⟩
  go_wp2_with fail
  refine (hF3.out _).mono ?_
  rintro e w3 ⟨rfl, b3⟩
  go_wp2_with fail
  refine (hF4.out _).mono ?_
  rintro e w4 ⟨rfl, b4⟩
  have kb := Lib.hid (b1.trans ((b2.trans ((b3.trans (b4.mono b3.size)).mono b2.size)).mono b1.size))
  clear b1 b2 b3 b4
  go_wp2_with fail
  go_ret
  exact ⟨rfl, kb.out⟩

theorem all_false_of {l : List UInt8} (h1 : l ≠ []) (h2 : (0 : UInt8) ∉ l) : l.all (· == 0) = false := by
  cases l with
  | nil => exact absurd rfl h1
  | cons b l =>
    have : (b == 0) = false := by rw [beq_eq_false_iff_ne]; intro e; exact h2 (by simp [e])
    rw [List.all_cons, this]; rfl
set_option maxRecDepth 100000 in
set_option maxHeartbeats 1000000 in
theorem FieldStrict_walk (w : World) (hsh : w.ShapedOpen Tryd.prog) (s : ByteArray) (hs : s.size ≤ 1048576) (s2 : ByteArray) (hs2 : s2.size ≤ 1048576) (a : Int) (ha : I64 a) :
    Calls Tryd.prog 11 #[.string s, .string s2, .int .i64 a] w fun e w' => e = .returned (.bool true) ∧ Below w.heap.size w w' := by
  have hm := ML.of_shaped hsh
  clear hsh
  rw [Lib.size_eq] at hs hs2
  rw [← bs_self s, ← bs_self s2]
  generalize s.data.toList = l0 at *
  generalize s2.data.toList = m0 at *
  obtain ⟨k, hk, hk2⟩ := pick_nat a 9 (by omega)
  have hk3 : pick a 9 = k := hk
  have HK := Lib.hid hk3
  clear hk hk3
  have hC1 := Lib.hid (fun w hm => clean_any l0 60 w (by omega) (by omega) hm)
  have hC2 := Lib.hid (fun w hm => clean_any m0 60 w (by omega) (by omega) hm)
  have n1 := cleanS_no l0 60
  have n2 := cleanS_no m0 60
  have l1 := cleanS_length l0 60
  have l2 := cleanS_length m0 60
  generalize cleanS l0 60 = l at *
  generalize cleanS m0 60 = m at *
  have hR := Lib.hid (fun w => Repeat_byte 0 (k + 1) w (by omega))
  have ec : ((k + 1 : Nat) : Int) = 1 + k := by omega
  rw [ec] at hR
  clear ec
  have hlen : (l ++ 0 :: (List.replicate k 0 ++ m)).length = l.length + k + 1 + m.length := by simp; omega
  have hF1 := Lib.hid (FRead_part l (List.replicate k 0 ++ m) true (by rw [hlen]; omega) n1)
  have hF2 := Lib.hid (FRead_part l (List.replicate k 0 ++ m ++ [0]) false (by simp; omega) n1)
  have ea : bs l ++ bs (List.replicate (k + 1) 0) ++ bs m = bs (l ++ 0 :: (List.replicate k 0 ++ m)) := by
    rw [bs_append, bs_append, List.replicate_succ]; simp
  have eb : bs (l ++ 0 :: (List.replicate k 0 ++ m)) ++ ⟨#[0]⟩ = bs (l ++ 0 :: (List.replicate k 0 ++ m ++ [0])) := by
    rw [show (⟨#[0]⟩ : ByteArray) = bs [0] from rfl, bs_append]; simp
  have z1 := bs_size l
  have z2 := bs_size m
  have z3 := bs_rep_size 0 (k + 1)
  have z4 : (bs l ++ bs (List.replicate (k + 1) 0)).size = l.length + (k + 1) := by rw [bs_append, bs_size]; simp
  have z5 := bs_size (l ++ 0 :: (List.replicate k 0 ++ m))
  rw [hlen] at z5
  have tl := bs_toList []
  have e1 := beq_self_bs l
  by_cases hmn : m = []
  · have hA1 : (List.replicate k 0 ++ m).all (· == 0) = true := by rw [hmn, List.append_nil]; exact all_rep k
    have hA2 : (List.replicate k 0 ++ m ++ [0]).all (· == 0) = true := by rw [List.all_append, hA1]; rfl
    rw [hA1] at hF1
    rw [hA2] at hF2
    simp only [if_true] at hF1 hF2
    have t0 : (bs m).toList = [] := by rw [bs_toList, hmn]
    clear hA1 hA2 hmn hlen n1 n2
    generalize bs (List.replicate (k + 1) 0) = R at *
    generalize bs (l ++ 0 :: (List.replicate k 0 ++ m)) = F at *
    generalize bs (l ++ 0 :: (List.replicate k 0 ++ m ++ [0])) = G at *
    go_enter Tryd.func11, Tryd.ntmps11
    go_wp2_with fail
    refine (hC1.out _ hm).mono ?_
    rintro e w1 ⟨rfl, b1⟩
    go_wp2_with fail
    refine (hC2.out _ (hm.below b1)).mono ?_
    rintro e w2 ⟨rfl, b2⟩
    go_wp2_with fail
    refine (picked_any a 9 ha (by omega) (by omega) _).mono ?_
    rintro e w' ⟨rfl, rfl⟩
    rw [HK.out]
    go_wp2_with fail
    refine (hR.out _).mono ?_
    rintro e w3 ⟨rfl, b3⟩
    go_wp2_with fail
    refine (hF1.out _).mono ?_
    rintro e w4 ⟨rfl, b4⟩
    go_wp2_with fail
    refine (hF2.out _).mono ?_
    rintro e w5 ⟨rfl, b5⟩
    have kb := Lib.hid (b1.trans ((b2.trans ((b3.trans ((b4.trans (b5.mono b4.size)).mono b3.size)).mono b2.size)).mono b1.size))
    clear b1 b2 b3 b4 b5
    go_wp2_with fail
    go_ret
    exact ⟨rfl, kb.out⟩
  · have hA1 : (List.replicate k 0 ++ m).all (· == 0) = false := by rw [List.all_append, all_false_of hmn n2]; simp
    have hA2 : (List.replicate k 0 ++ m ++ [0]).all (· == 0) = false := by rw [List.all_append, hA1]; rfl
    rw [hA1] at hF1
    rw [hA2] at hF2
    simp only [Bool.false_eq_true, if_false] at hF1 hF2
    have t0 : ¬ (bs m).toList = [] := by rw [bs_toList]; exact hmn
    have t1 : (bs m).toList.isEmpty = false := by simpa using t0
    clear hA1 hA2 hmn hlen n1 n2
    generalize bs (List.replicate (k + 1) 0) = R at *
    generalize bs (l ++ 0 :: (List.replicate k 0 ++ m)) = F at *
    generalize bs (l ++ 0 :: (List.replicate k 0 ++ m ++ [0])) = G at *
    go_enter Tryd.func11, Tryd.ntmps11
    go_wp2_with fail
    refine (hC1.out _ hm).mono ?_
    rintro e w1 ⟨rfl, b1⟩
    go_wp2_with fail
    refine (hC2.out _ (hm.below b1)).mono ?_
    rintro e w2 ⟨rfl, b2⟩
    go_wp2_with fail
    refine (picked_any a 9 ha (by omega) (by omega) _).mono ?_
    rintro e w' ⟨rfl, rfl⟩
    rw [HK.out]
    go_wp2_with fail
    refine (hR.out _).mono ?_
    rintro e w3 ⟨rfl, b3⟩
    go_wp2_with fail
    refine (hF1.out _).mono ?_
    rintro e w4 ⟨rfl, b4⟩
    go_wp2_with fail
    refine (hF2.out _).mono ?_
    rintro e w5 ⟨rfl, b5⟩
    have kb := Lib.hid (b1.trans ((b2.trans ((b3.trans ((b4.trans (b5.mono b4.size)).mono b3.size)).mono b2.size)).mono b1.size))
    clear b1 b2 b3 b4 b5
    go_wp2_with fail
    go_ret
    exact ⟨rfl, kb.out⟩

theorem hasPrefix_append (a b : List UInt8) : Lib.hasPrefix (a ++ b) a = true := by
  unfold Lib.hasPrefix
  simp

set_option maxRecDepth 100000 in
set_option maxHeartbeats 1000000 in
theorem FieldBack_walk (w : World) (hsh : w.ShapedOpen Tryd.prog) (s : ByteArray) (hs : s.size ≤ 1048576) (a : Int) (ha : I64 a) (whole : Bool) :
    Calls Tryd.prog 12 #[.string s, .int .i64 a, .bool whole] w fun e w' => e = .returned (.bool true) ∧ Below w.heap.size w w' := by
  have hm := ML.of_shaped hsh
  clear hsh
  rw [Lib.size_eq] at hs
  rw [← bs_self s]
  generalize s.data.toList = l0 at *
  obtain ⟨k, hk, hk2⟩ := pick_nat a 512 (by omega)
  have hk3 : pick a 512 = k := hk
  have HK := Lib.hid hk3
  clear hk hk3
  have hC1 := Lib.hid (fun w hm => clean_any l0 100 w (by omega) (by omega) hm)
  have n1 := cleanS_no l0 100
  have l1 := cleanS_length l0 100
  generalize cleanS l0 100 = l at *
  have ec : ((k + 1 : Nat) : Int) = 1 + k := by omega
  have tl := bs_toList []
  have e1 := beq_self_bs l
  have z1 := bs_size l
  by_cases hlen : l.length ≤ fmost (k + 1) whole
  · have hle : l.length ≤ k + 1 := by unfold fmost at hlen; split at hlen <;> omega
    have hF1 := Lib.hid (FWrite_ok l (k + 1) whole (by omega) (by omega) hlen n1)
    have hF2 := Lib.hid (FRead_written l (k + 1) whole (by omega) (by omega) hlen n1)
    have z2 := bs_size (l ++ List.replicate (k + 1 - l.length) 0)
    have hl2 : (l ++ List.replicate (k + 1 - l.length) 0).length = k + 1 := by simp; omega
    rw [hl2] at z2
    have hP := Lib.hid (fun w => Tryd.strings_HasPrefix (bs (l ++ List.replicate (k + 1 - l.length) 0)) (bs l) w)
    rw [bs_data, bs_data, hasPrefix_append] at hP
    rw [ec] at hF1
    clear ec hl2 n1 hlen
    generalize bs (l ++ List.replicate (k + 1 - l.length) 0) = F at *
    go_enter Tryd.func12, Tryd.ntmps12
    go_wp2_with fail
    refine (picked_any a 512 ha (by omega) (by omega) _).mono ?_
    rintro e w' ⟨rfl, rfl⟩
    rw [HK.out]
    go_wp2_with fail
    refine (hC1.out _ hm).mono ?_
    rintro e w1 ⟨rfl, b1⟩
    go_wp2_with fail
    refine (hF1.out _).mono ?_
    rintro e w2 ⟨rfl, b2⟩
    go_wp2_with fail
    refine (hF2.out _).mono ?_
    rintro e w3 ⟨rfl, b3⟩
    go_wp2_with fail
    refine (hP.out _).mono ?_
    rintro e w' ⟨rfl, rfl⟩
    have kb := Lib.hid (b1.trans ((b2.trans (b3.mono b2.size)).mono b1.size))
    clear b1 b2 b3
    have ek : ((1 : Int) + k == (k : Int) + 1) = true := by rw [beq_iff_eq]; omega
    have ek2 : ((k : Int) + 1 == 1 + (k : Int)) = true := by rw [beq_iff_eq]; omega
    go_wp2_with fail
    go_ret
    exact ⟨rfl, kb.out⟩
  · have hge : k + 1 ≤ l.length := by unfold fmost at hlen; split at hlen <;> omega
    have hF1 := Lib.hid (FWrite_long l (k + 1) whole (by omega) (by omega) (by omega))
    rw [ec] at hF1
    clear ec n1 hlen
    have d1 : decide ((1 : Int) + k ≤ l.length) = true := decide_eq_true (by omega)
    go_enter Tryd.func12, Tryd.ntmps12
    go_wp2_with fail
    refine (picked_any a 512 ha (by omega) (by omega) _).mono ?_
    rintro e w' ⟨rfl, rfl⟩
    rw [HK.out]
    go_wp2_with fail
    refine (hC1.out _ hm).mono ?_
    rintro e w1 ⟨rfl, b1⟩
    go_wp2_with fail
    refine (hF1.out _).mono ?_
    rintro e w2 ⟨rfl, rfl⟩
    go_wp2_with fail
    go_ret
    exact ⟨rfl, b1⟩
end Go.Proofs.YtbhglmcblhnphaaDoor
