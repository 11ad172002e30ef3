/-
  The law CutShort. No condition.
-/
import Derived.Test.YtbhglmcblhnphaaCut
namespace Go.Proofs.Ytbhglmcblhnphaa
open Go.RowKit

theorem repeatL_one (c : UInt8) (n : Nat) : Lib.repeatL [c] n = List.replicate n c := by
  induction n with
  | zero => rfl
  | succ n ih => rw [Lib.repeatL, ih]; rfl
theorem Repeat_one (c : UInt8) (n : Nat) (h : n ≤ 100000) (w : World) :
    Calls Try.prog 4 #[.string (bs [c]), .int .i64 n] w fun e w' => e = .returned (.string (bs (List.replicate n c))) ∧ Below w.heap.size w w' := by
  refine (Try.strings_Repeat (bs [c]) n w (by omega) (by rw [bs_size]; simp; omega)).mono ?_
  rintro e w' ⟨rfl, hb⟩
  exact ⟨by rw [bs_data, repeatL_one]; rfl, hb⟩

/-! ### the plain law -/
def shape (A B C : Nat) : List UInt8 := (List.replicate A 120 ++ 47 :: List.replicate B 121) ++ 47 :: List.replicate C 122
theorem shape_length (A B C : Nat) : (shape A B C).length = A + B + C + 2 := by simp [shape]; omega
theorem rep_getD (n j : Nat) (c : UInt8) (h : j < n) : (List.replicate n c)[j]? = some c := by simp [h]
theorem shape_getD (A B C j : Nat) : (shape A B C).getD j 0 = 47 → j = A ∨ j = A + 1 + B := by
  intro h
  rw [List.getD_eq_getElem?_getD] at h
  unfold shape at h
  by_cases h1 : j < A
  · rw [List.getElem?_append_left (by simp; omega), List.getElem?_append_left (by simpa using h1), rep_getD _ _ _ h1] at h
    exact absurd h (by decide)
  by_cases h2 : j = A
  · exact .inl h2
  by_cases h3 : j < A + 1 + B
  · rw [List.getElem?_append_left (by simp; omega), List.getElem?_append_right (by simp; omega), List.length_replicate, show j - A = (j - A - 1) + 1 from by omega, List.getElem?_cons_succ, rep_getD _ _ _ (by omega)] at h
    exact absurd h (by decide)
  by_cases h4 : j = A + 1 + B
  · exact .inr h4
  by_cases h5 : j < A + B + C + 2
  · rw [List.getElem?_append_right (by simp; omega)] at h
    simp only [List.length_append, List.length_replicate, List.length_cons] at h
    rw [show j - (A + (B + 1)) = (j - (A + (B + 1)) - 1) + 1 from by omega, List.getElem?_cons_succ, rep_getD _ _ _ (by omega)] at h
    exact absurd h (by decide)
  · rw [List.getElem?_eq_none (by simp; omega)] at h
    exact absurd h (by decide)
theorem shape_at1 (A B C : Nat) : (shape A B C).getD A 0 = 47 := by
  rw [List.getD_eq_getElem?_getD, shape, List.getElem?_append_left (by simp), List.getElem?_append_right (by simp)]
  simp
theorem shape_at2 (A B C : Nat) : (shape A B C).getD (A + 1 + B) 0 = 47 := by
  rw [List.getD_eq_getElem?_getD, shape, List.getElem?_append_right (by simp; omega)]
  simp
  rw [show A + 1 + B - (A + (B + 1)) = 0 from by omega]
  rfl
theorem shape_ne (A B C : Nat) : ¬ (shape A B C = [] ∨ 0 ∈ shape A B C) := by
  rintro (h | h)
  · have := congrArg List.length h
    rw [shape_length] at this
    simp at this
  · simp [shape, List.mem_append, List.mem_replicate] at h
theorem cutAt_eq {l : List UInt8} {j : Nat} (hj : j < l.length) (h : cutOk l j = true) (hno : ∀ i, i < j → cutOk l i = false) : cutAt l = some j := find_range_some hj h hno
theorem take_left_ (a b : List UInt8) : (a ++ b).take a.length = a := by simp
theorem drop_left_ (a b : List UInt8) (c : UInt8) : (a ++ c :: b).drop (a.length + 1) = b := by simp
theorem cut_first (A B C : Nat) (h1 : 1 ≤ A) (h2 : A ≤ 155) (h3 : B + C < 100) (hB : 1 ≤ B) (h4 : 100 < A + B + C + 2) : twoS (shape A B C) = (List.replicate A 120, List.replicate B 121 ++ 47 :: List.replicate C 122, 0) := by
  have hl := shape_length A B C
  have hc : cutAt (shape A B C) = some A := by
    refine cutAt_eq (by omega) (cutOk_mk (by rw [shape_at1]; rfl) (by omega) h2 (by omega) (by omega)) (fun i hi => cutOk_no1 ?_)
    rw [Bool.eq_false_iff]
    intro h
    have := shape_getD A B C i (eq_of_beq h)
    omega
  rw [twoS, if_neg (shape_ne A B C), if_neg (by omega), hc]
  simp only [Prod.mk.injEq, and_true]
  unfold shape
  rw [List.append_assoc, List.take_append_of_le_length (by simp), List.take_of_length_le (by simp)]
  refine ⟨rfl, ?_⟩
  rw [show A + 1 = (List.replicate A (120 : UInt8)).length + 1 by simp, List.drop_append]
  simp
theorem cut_second (A B C : Nat) (h1 : 1 ≤ A) (h2 : A + B < 155) (h3 : 100 ≤ B + C) (hC : 1 ≤ C) (hC2 : C ≤ 100) : twoS (shape A B C) = (List.replicate A 120 ++ 47 :: List.replicate B 121, List.replicate C 122, 0) := by
  have hl := shape_length A B C
  have hc : cutAt (shape A B C) = some (A + 1 + B) := by
    refine cutAt_eq (by omega) (cutOk_mk (by rw [shape_at2]; rfl) (by omega) (by omega) (by omega) (by omega)) (fun i hi => ?_)
    by_cases e : i = A
    · subst e; exact cutOk_no (by omega)
    · refine cutOk_no1 ?_
      rw [Bool.eq_false_iff]
      intro h
      have := shape_getD A B C i (eq_of_beq h)
      omega
  rw [twoS, if_neg (shape_ne A B C), if_neg (by omega), hc]
  simp only [Prod.mk.injEq, and_true]
  unfold shape
  rw [show A + 1 + B = (List.replicate A (120 : UInt8) ++ 47 :: List.replicate B 121).length by simp; omega]
  exact ⟨take_left_ _ _, drop_left_ _ _ _⟩
theorem cut_none (A B C : Nat) (h : ¬ (B + C < 100 ∧ A ≤ 155)) (h2 : ¬ (A + B < 155 ∧ 100 ≤ B + C)) (h4 : 100 < A + B + C + 2) (hC : 1 ≤ C) (hA : 1 ≤ A) : twoS (shape A B C) = ([], [], 1) := by
  have hl := shape_length A B C
  have hc : cutAt (shape A B C) = none := by
    refine find_range_none (fun i _ => ?_)
    by_cases e : i = A
    · subst e; exact cutOk_no (by omega)
    · by_cases e2 : i = A + 1 + B
      · subst e2; exact cutOk_no (by omega)
      · refine cutOk_no1 ?_
        rw [Bool.eq_false_iff]
        intro h
        have := shape_getD A B C i (eq_of_beq h)
        omega
  rw [twoS, if_neg (shape_ne A B C), if_neg (by omega), hc]
theorem cut_short (A B C : Nat) (h4 : A + B + C + 2 ≤ 100) : twoS (shape A B C) = ([], shape A B C, 0) := by
  have hl := shape_length A B C
  rw [twoS, if_neg (shape_ne A B C), if_pos (by omega)]

theorem pick_len (a m : Int) (h : 1 ≤ m) : ∃ A : Nat, pick a m = (A : Int) - 1 ∧ 1 ≤ A ∧ (A : Int) ≤ m := by
  have ⟨p1, p2⟩ := pick_bd a m h
  exact ⟨(1 + pick a m).toNat, by omega, by omega, by omega⟩

set_option maxRecDepth 100000 in
set_option maxHeartbeats 1000000 in
theorem CutShort_walk (w : World) (_hsh : w.ShapedOpen Try.prog) (a : Int) (ha : I64 a) (b : Int) (hb : I64 b) (c : Int) (hc : I64 c) :
    Calls Try.prog 3 #[.int .i64 a, .int .i64 b, .int .i64 c] w fun e w' => e = .returned (.bool true) ∧ Below w.heap.size w w' := by
  obtain ⟨A, hA, a1, a2⟩ := pick_len a 160 (by omega)
  obtain ⟨B, hB, b1, b2⟩ := pick_len b 100 (by omega)
  obtain ⟨C, hC, c1, c2⟩ := pick_len c 100 (by omega)
  have hT := fun w => Two_any (shape A B C) (by rw [shape_length]; omega) w
  have RX := fun w => Repeat_one 120 A (by omega) w
  have RY := fun w => Repeat_one 121 B (by omega) w
  have RZ := fun w => Repeat_one 122 C (by omega) w
  have e1 : bs (List.replicate A 120) ++ ByteArray.mk #[47] ++ bs (List.replicate B 121) = bs (List.replicate A 120 ++ 47 :: List.replicate B 121) := by
    rw [show ByteArray.mk #[47] = bs [47] from rfl, bs_append, bs_append, List.append_assoc]; rfl
  have e2 : bs (List.replicate A 120 ++ 47 :: List.replicate B 121) ++ ByteArray.mk #[47] ++ bs (List.replicate C 122) = bs (shape A B C) := by
    rw [show ByteArray.mk #[47] = bs [47] from rfl, bs_append, bs_append, List.append_assoc]; rfl
  have e3 : bs (List.replicate B 121) ++ ByteArray.mk #[47] ++ bs (List.replicate C 122) = bs (List.replicate B 121 ++ 47 :: List.replicate C 122) := by
    rw [show ByteArray.mk #[47] = bs [47] from rfl, bs_append, bs_append, List.append_assoc]; rfl
  have s1 := bs_size (List.replicate A 120)
  have s2 := bs_size (List.replicate B 121)
  have s3 := bs_size (List.replicate C 122)
  have s4 := bs_size (List.replicate A 120 ++ 47 :: List.replicate B 121)
  have s5 := bs_size (shape A B C)
  have s6 := bs_size (List.replicate B 121 ++ 47 :: List.replicate C 122)
  rw [shape_length] at s5
  simp only [List.length_replicate, List.length_append, List.length_cons] at s1 s2 s3 s4 s6
  have t0 := bs_toList []
  have p1 := fun h1 h2 => cut_first A B C a1 h1 h2 b1
  have p2 := fun h1 h2 => cut_second A B C a1 h1 h2 c1 (by omega)
  have p3 := fun h1 h2 h3 => cut_none A B C h1 h2 h3 c1 a1
  have p4 := cut_short A B C
  have hx : ∀ l, (bs l).toList == (bs l).toList := fun l => beq_self_eq_true _
  have P1 := Lib.hid p1; have P2 := Lib.hid p2; have P3 := Lib.hid p3; have P4 := Lib.hid p4
  clear p1 p2 p3 p4 hx
  have HA := Lib.hid hA; have HB := Lib.hid hB; have HC := Lib.hid hC
  have HT := Lib.hid hT; have HX := Lib.hid RX; have HY := Lib.hid RY; have HZ := Lib.hid RZ
  clear hA hB hC hT RX RY RZ
  generalize List.replicate A (120 : UInt8) = X at *
  generalize List.replicate B (121 : UInt8) = Y at *
  generalize List.replicate C (122 : UInt8) = Z at *
  by_cases h1 : A + B + C + 2 ≤ 100
  · have F := Lib.hid (P4.out h1)
    have q1 : decide ((A : Int) + (B : Int) + (C : Int) + 2 ≤ 100) = true := decide_eq_true (by omega)
    go_enter Try.func3, Try.ntmps3
    go_wp2_with fail
    refine (picked_any a 160 ha (by omega) (by omega) _).mono ?_
    rintro e w' ⟨rfl, rfl⟩
    rw [HA.out]
    go_wp2_with fail
    rw [show (1 : Int) + ((A : Int) - 1) = A from by omega]
    refine (HX.out _).mono ?_
    rintro e w1 ⟨rfl, k1⟩
    go_wp2_with fail
    refine (picked_any b 100 hb (by omega) (by omega) _).mono ?_
    rintro e w' ⟨rfl, rfl⟩
    rw [HB.out]
    go_wp2_with fail
    rw [show (1 : Int) + ((B : Int) - 1) = B from by omega]
    refine (HY.out _).mono ?_
    rintro e w2 ⟨rfl, k2⟩
    go_wp2_with fail
    refine (picked_any c 100 hc (by omega) (by omega) _).mono ?_
    rintro e w' ⟨rfl, rfl⟩
    rw [HC.out]
    go_wp2_with fail
    rw [show (1 : Int) + ((C : Int) - 1) = C from by omega]
    refine (HZ.out _).mono ?_
    rintro e w3 ⟨rfl, k3⟩
    go_wp2_with fail
    refine (HT.out _).mono ?_
    rintro e w4 ⟨rfl, k4⟩
    rw [F.out]
    have kb := Lib.hid (k1.trans ((k2.trans ((k3.trans (k4.mono k3.size)).mono k2.size)).mono k1.size))
    clear k1 k2 k3 k4
    go_wp2_with fail
    go_ret
    exact ⟨rfl, kb.out⟩
  by_cases h2 : B + C < 100
  · by_cases h3 : A ≤ 155
    · have F := Lib.hid (P1.out h3 h2 (by omega))
      have q1 : decide ((A : Int) + (B : Int) + (C : Int) + 2 ≤ 100) = false := decide_eq_false (by omega)
      have q2 : decide ((B : Int) + (C : Int) < 100) = true := decide_eq_true (by omega)
      have q3 : decide ((A : Int) ≤ 155) = true := decide_eq_true (by omega)
      go_enter Try.func3, Try.ntmps3
      go_wp2_with fail
      refine (picked_any a 160 ha (by omega) (by omega) _).mono ?_
      rintro e w' ⟨rfl, rfl⟩
      rw [HA.out]
      go_wp2_with fail
      rw [show (1 : Int) + ((A : Int) - 1) = A from by omega]
      refine (HX.out _).mono ?_
      rintro e w1 ⟨rfl, k1⟩
      go_wp2_with fail
      refine (picked_any b 100 hb (by omega) (by omega) _).mono ?_
      rintro e w' ⟨rfl, rfl⟩
      rw [HB.out]
      go_wp2_with fail
      rw [show (1 : Int) + ((B : Int) - 1) = B from by omega]
      refine (HY.out _).mono ?_
      rintro e w2 ⟨rfl, k2⟩
      go_wp2_with fail
      refine (picked_any c 100 hc (by omega) (by omega) _).mono ?_
      rintro e w' ⟨rfl, rfl⟩
      rw [HC.out]
      go_wp2_with fail
      rw [show (1 : Int) + ((C : Int) - 1) = C from by omega]
      refine (HZ.out _).mono ?_
      rintro e w3 ⟨rfl, k3⟩
      go_wp2_with fail
      refine (HT.out _).mono ?_
      rintro e w4 ⟨rfl, k4⟩
      rw [F.out]
      have kb := Lib.hid (k1.trans ((k2.trans ((k3.trans (k4.mono k3.size)).mono k2.size)).mono k1.size))
      clear k1 k2 k3 k4
      go_wp2_with fail
      go_ret
      exact ⟨rfl, kb.out⟩
    · have F := Lib.hid (P3.out (by omega) (by omega) (by omega))
      have q1 : decide ((A : Int) + (B : Int) + (C : Int) + 2 ≤ 100) = false := decide_eq_false (by omega)
      have q2 : decide ((B : Int) + (C : Int) < 100) = true := decide_eq_true (by omega)
      have q3 : decide ((A : Int) ≤ 155) = false := decide_eq_false (by omega)
      have q4 : decide ((A : Int) + (B : Int) < 155) = false := decide_eq_false (by omega)
      have q5 : decide (100 ≤ (B : Int) + (C : Int)) = false := decide_eq_false (by omega)
      go_enter Try.func3, Try.ntmps3
      go_wp2_with fail
      refine (picked_any a 160 ha (by omega) (by omega) _).mono ?_
      rintro e w' ⟨rfl, rfl⟩
      rw [HA.out]
      go_wp2_with fail
      rw [show (1 : Int) + ((A : Int) - 1) = A from by omega]
      refine (HX.out _).mono ?_
      rintro e w1 ⟨rfl, k1⟩
      go_wp2_with fail
      refine (picked_any b 100 hb (by omega) (by omega) _).mono ?_
      rintro e w' ⟨rfl, rfl⟩
      rw [HB.out]
      go_wp2_with fail
      rw [show (1 : Int) + ((B : Int) - 1) = B from by omega]
      refine (HY.out _).mono ?_
      rintro e w2 ⟨rfl, k2⟩
      go_wp2_with fail
      refine (picked_any c 100 hc (by omega) (by omega) _).mono ?_
      rintro e w' ⟨rfl, rfl⟩
      rw [HC.out]
      go_wp2_with fail
      rw [show (1 : Int) + ((C : Int) - 1) = C from by omega]
      refine (HZ.out _).mono ?_
      rintro e w3 ⟨rfl, k3⟩
      go_wp2_with fail
      refine (HT.out _).mono ?_
      rintro e w4 ⟨rfl, k4⟩
      rw [F.out]
      have kb := Lib.hid (k1.trans ((k2.trans ((k3.trans (k4.mono k3.size)).mono k2.size)).mono k1.size))
      clear k1 k2 k3 k4
      go_wp2_with fail
      go_ret
      exact ⟨rfl, kb.out⟩
  · by_cases h3 : A + B < 155
    · have F := Lib.hid (P2.out h3 (by omega))
      have q1 : decide ((A : Int) + (B : Int) + (C : Int) + 2 ≤ 100) = false := decide_eq_false (by omega)
      have q2 : decide ((B : Int) + (C : Int) < 100) = false := decide_eq_false (by omega)
      have q4 : decide ((A : Int) + (B : Int) < 155) = true := decide_eq_true (by omega)
      have q5 : decide (100 ≤ (B : Int) + (C : Int)) = true := decide_eq_true (by omega)
      go_enter Try.func3, Try.ntmps3
      go_wp2_with fail
      refine (picked_any a 160 ha (by omega) (by omega) _).mono ?_
      rintro e w' ⟨rfl, rfl⟩
      rw [HA.out]
      go_wp2_with fail
      rw [show (1 : Int) + ((A : Int) - 1) = A from by omega]
      refine (HX.out _).mono ?_
      rintro e w1 ⟨rfl, k1⟩
      go_wp2_with fail
      refine (picked_any b 100 hb (by omega) (by omega) _).mono ?_
      rintro e w' ⟨rfl, rfl⟩
      rw [HB.out]
      go_wp2_with fail
      rw [show (1 : Int) + ((B : Int) - 1) = B from by omega]
      refine (HY.out _).mono ?_
      rintro e w2 ⟨rfl, k2⟩
      go_wp2_with fail
      refine (picked_any c 100 hc (by omega) (by omega) _).mono ?_
      rintro e w' ⟨rfl, rfl⟩
      rw [HC.out]
      go_wp2_with fail
      rw [show (1 : Int) + ((C : Int) - 1) = C from by omega]
      refine (HZ.out _).mono ?_
      rintro e w3 ⟨rfl, k3⟩
      go_wp2_with fail
      refine (HT.out _).mono ?_
      rintro e w4 ⟨rfl, k4⟩
      rw [F.out]
      have kb := Lib.hid (k1.trans ((k2.trans ((k3.trans (k4.mono k3.size)).mono k2.size)).mono k1.size))
      clear k1 k2 k3 k4
      go_wp2_with fail
      go_ret
      exact ⟨rfl, kb.out⟩
    · have F := Lib.hid (P3.out (by omega) (by omega) (by omega))
      have q1 : decide ((A : Int) + (B : Int) + (C : Int) + 2 ≤ 100) = false := decide_eq_false (by omega)
      have q2 : decide ((B : Int) + (C : Int) < 100) = false := decide_eq_false (by omega)
      have q4 : decide ((A : Int) + (B : Int) < 155) = false := decide_eq_false (by omega)
      have q5 : decide (100 ≤ (B : Int) + (C : Int)) = true := decide_eq_true (by omega)
      go_enter Try.func3, Try.ntmps3
      go_wp2_with fail
      refine (picked_any a 160 ha (by omega) (by omega) _).mono ?_
      rintro e w' ⟨rfl, rfl⟩
      rw [HA.out]
      go_wp2_with fail
      rw [show (1 : Int) + ((A : Int) - 1) = A from by omega]
      refine (HX.out _).mono ?_
      rintro e w1 ⟨rfl, k1⟩
      go_wp2_with fail
      refine (picked_any b 100 hb (by omega) (by omega) _).mono ?_
      rintro e w' ⟨rfl, rfl⟩
      rw [HB.out]
      go_wp2_with fail
      rw [show (1 : Int) + ((B : Int) - 1) = B from by omega]
      refine (HY.out _).mono ?_
      rintro e w2 ⟨rfl, k2⟩
      go_wp2_with fail
      refine (picked_any c 100 hc (by omega) (by omega) _).mono ?_
      rintro e w' ⟨rfl, rfl⟩
      rw [HC.out]
      go_wp2_with fail
      rw [show (1 : Int) + ((C : Int) - 1) = C from by omega]
      refine (HZ.out _).mono ?_
      rintro e w3 ⟨rfl, k3⟩
      go_wp2_with fail
      refine (HT.out _).mono ?_
      rintro e w4 ⟨rfl, k4⟩
      rw [F.out]
      have kb := Lib.hid (k1.trans ((k2.trans ((k3.trans (k4.mono k3.size)).mono k2.size)).mono k1.size))
      clear k1 k2 k3 k4
      go_wp2_with fail
      go_ret
      exact ⟨rfl, kb.out⟩
end Go.Proofs.Ytbhglmcblhnphaa
