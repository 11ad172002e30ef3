/-
  The laws OctalBack, OctalRises, OctalOver: their walks. No condition.
-/
import Derived.Test.YtpibgdgcgflooaaOctal
namespace Go.Proofs.Ytpibgdgcgflooaa
open Go.RowKit

theorem octVal_low_from (j n : Nat) : ∀ m : Int, (low j n).foldl (fun n c => 8 * n + ((c.toNat : Int) - 48)) m = m * 8 ^ j + ((n % 8 ^ j : Nat) : Int) := by
  induction j with
  | zero => intro m; simp [low, Nat.mod_one]
  | succ j ih =>
    intro m
    have e3 : ((UInt8.ofNat (48 + n / 8 ^ j % 8)).toNat : Int) - 48 = ((n / 8 ^ j % 8 : Nat) : Int) := by
      rw [UInt8.toNat_ofNat']; omega
    have e4 : n % 8 ^ (j + 1) = n % 8 ^ j + 8 ^ j * (n / 8 ^ j % 8) := by rw [Nat.pow_succ, Nat.mod_mul]
    simp only [low, List.foldl_cons]
    rw [ih, e3, e4, Int.natCast_add, Int.natCast_mul, Int.pow_succ, Int.add_mul]
    have e5 : ((8 ^ j : Nat) : Int) = 8 ^ j := by simp
    rw [e5]
    generalize (8 : Int) ^ j = p
    generalize ((n / 8 ^ j % 8 : Nat) : Int) = d
    rw [Int.mul_comm 8 m, Int.mul_assoc m 8 p, Int.mul_comm 8 p, Int.mul_comm d p]
    omega
theorem octVal_low (j n : Nat) (h : n < 8 ^ j) : octVal (low j n) = n := by
  unfold octVal
  rw [octVal_low_from, Nat.mod_eq_of_lt h]
  simp
theorem low_all (j n : Nat) : (low j n).all octDig = true := by
  induction j with
  | zero => rfl
  | succ j ih =>
    simp only [low, List.all_cons, ih, Bool.and_true]
    have e3 : ((UInt8.ofNat (48 + n / 8 ^ j % 8)).toNat : Int) = ((48 + n / 8 ^ j % 8 : Nat) : Int) := by
      rw [UInt8.toNat_ofNat']; omega
    unfold octDig
    rw [e3]
    simp only [Bool.and_eq_true, decide_eq_true_eq]
    omega
theorem octRead_octS (N W : Nat) (h1 : 2 ≤ W) (h2 : W ≤ 12) (h3 : N < 8 ^ (W - 1)) : octRead (octS N W) = ((N : Int), 0) := by
  have hl : (octS N W).length = W := by simp [octS, low_length]; omega
  have ht : (octS N W).take (W - 1) = low (W - 1) N := by
    unfold octS
    rw [List.take_append_of_le_length (by rw [low_length]; exact Nat.le_refl _), List.take_of_length_le (by rw [low_length]; exact Nat.le_refl _)]
  have hg : (octS N W).getLast? = some 0 := by simp [octS]
  rw [octRead, hl, if_neg (by omega), ht, hg, low_all, octVal_low _ _ h3]
  rfl

theorem pick_q (n q : Int) (h : 0 ≤ q) : ∃ N : Nat, pick n (q + 1) = N ∧ (N : Int) ≤ q := by
  have ⟨p1, p2⟩ := pick_bd n (q + 1) (by omega)
  obtain ⟨N, hN⟩ := Int.eq_ofNat_of_zero_le p1
  exact ⟨N, hN, by omega⟩
theorem mostI_bd {W : Nat} (h1 : 2 ≤ W) (h2 : W ≤ 12) : 7 ≤ mostI W ∧ mostI W ≤ 8589934591 := by
  have hp := pow8_le (W := W) (by omega)
  have hpp : 8 ^ 1 ≤ 8 ^ (W - 1) := Nat.pow_le_pow_right (by omega) (by omega)
  rw [mostI_nat]
  omega
theorem lt_of_most {N W : Nat} (h : (N : Int) ≤ mostI W) : N < 8 ^ (W - 1) := by
  rw [mostI_nat] at h
  omega
theorem pick_width (w : Int) (m : Int) (hm : 1 ≤ m) (hm2 : m ≤ 11) : ∃ W : Nat, pick w m = (W : Int) - 2 ∧ 2 ≤ W ∧ (W : Int) < 2 + m := by
  have ⟨p1, p2⟩ := pick_bd w m hm
  refine ⟨(2 + pick w m).toNat, ?_, ?_, ?_⟩ <;> omega

set_option maxHeartbeats 400000 in
theorem OctalBack_walk (w : World) (_hsh : w.ShapedOpen Try.prog) (n : Int) (hn : I64 n) (width : Int) (hw : I64 width) :
    Calls Try.prog 12 #[.int .i64 n, .int .i64 width] w fun e w' => e = .returned (.bool true) ∧ Below w.heap.size w w' := by
  obtain ⟨W, hW, w1, w2⟩ := pick_width width 11 (by omega) (by omega)
  obtain ⟨m1, m2⟩ := mostI_bd (W := W) (by omega) (by omega)
  obtain ⟨N, hN, n1⟩ := pick_q n (mostI W) (by omega)
  have n2 := lt_of_most n1
  have hR := octRead_octS N W w1 (by omega) n2
  have hL : (octS N W).length = W := by simp [octS, low_length]; omega
  have hOW := fun (w : World) => OWrite_ok N W w1 (by omega) n2 w
  generalize hq : mostI W = q at *
  have HW := Lib.hid hW; have HN := Lib.hid hN; have HR := Lib.hid hR; have HL := Lib.hid hL; have HQ := Lib.hid hq; have HO := Lib.hid hOW
  clear hW hN hR hL hq hOW n2
  go_enter Try.func12, Try.ntmps12
  go_wp2_with fail
  refine (picked_any width 11 hw (by omega) (by omega) _).mono ?_
  rintro e w' ⟨rfl, rfl⟩
  rw [HW.out]
  go_wp2_with fail
  rw [show (2 : Int) + ((W : Int) - 2) = W from by omega]
  refine (Most_ok W (by omega) (by omega) _).mono ?_
  rintro e w' ⟨rfl, rfl⟩
  rw [HQ.out]
  go_wp2_with fail
  refine (picked_any n (q + 1) hn (by omega) (by omega) _).mono ?_
  rintro e w' ⟨rfl, rfl⟩
  rw [HN.out]
  go_wp2_with fail
  refine (HO.out _).mono ?_
  rintro e w1 ⟨rfl, hb⟩
  generalize octS N W = o at *
  go_wp2_with fail
  refine (ORead_any _ ?_ _).mono ?_
  · show o.toArray.size ≤ _
    rw [List.size_toArray, HL.out]; omega
  rintro e w' ⟨rfl, rfl⟩
  rw [show (ByteArray.mk o.toArray).data.toList = o from by simp, HR.out]
  have hs : (ByteArray.mk o.toArray).size = W := by show o.toArray.size = W; rw [List.size_toArray, HL.out]
  go_wp2_with fail
  go_ret
  exact ⟨rfl, hb⟩

/-! ### order -/
theorem bytesLess_self (z : List UInt8) : Op.bytesLess z z = false := by
  induction z with
  | nil => rfl
  | cons c z ih => simp [Op.bytesLess, ih]
theorem bytesLess_append (z : List UInt8) : ∀ x y : List UInt8, x.length = y.length → Op.bytesLess (x ++ z) (y ++ z) = Op.bytesLess x y
  | [], [], _ => by simp [bytesLess_self, Op.bytesLess]
  | [], _ :: _, h => by simp at h
  | _ :: _, [], h => by simp at h
  | a :: x, b :: y, h => by
    simp only [List.cons_append, Op.bytesLess]
    rw [bytesLess_append z x y (by simpa using h)]
theorem dig_lt (a b : Nat) (ha : a < 8) (hb : b < 8) : (UInt8.ofNat (48 + a) < UInt8.ofNat (48 + b)) ↔ a < b := by
  rw [UInt8.lt_iff_toNat_lt, UInt8.toNat_ofNat', UInt8.toNat_ofNat']; omega
theorem dig_eq (a b : Nat) (ha : a < 8) (hb : b < 8) : (UInt8.ofNat (48 + a) = UInt8.ofNat (48 + b)) ↔ a = b := by
  constructor
  · intro h
    have := congrArg UInt8.toNat h
    rw [UInt8.toNat_ofNat', UInt8.toNat_ofNat'] at this; omega
  · rintro rfl; rfl
theorem bytesLess_low (j a b : Nat) : Op.bytesLess (low j a) (low j b) = decide (a % 8 ^ j < b % 8 ^ j) := by
  induction j with
  | zero => simp [low, Op.bytesLess, Nat.mod_one]
  | succ j ih =>
    have ea : a % 8 ^ (j + 1) = a % 8 ^ j + 8 ^ j * (a / 8 ^ j % 8) := by rw [Nat.pow_succ, Nat.mod_mul]
    have eb : b % 8 ^ (j + 1) = b % 8 ^ j + 8 ^ j * (b / 8 ^ j % 8) := by rw [Nat.pow_succ, Nat.mod_mul]
    have hp : 0 < 8 ^ j := Nat.pow_pos (by omega)
    have ra : a % 8 ^ j < 8 ^ j := Nat.mod_lt _ hp
    have rb : b % 8 ^ j < 8 ^ j := Nat.mod_lt _ hp
    have da : a / 8 ^ j % 8 < 8 := Nat.mod_lt _ (by omega)
    have db : b / 8 ^ j % 8 < 8 := Nat.mod_lt _ (by omega)
    simp only [low, Op.bytesLess]
    rw [ih, ea, eb, Bool.eq_iff_iff]
    simp only [Bool.or_eq_true, decide_eq_true_eq, Bool.and_eq_true, beq_iff_eq]
    rw [dig_lt _ _ da db, dig_eq _ _ da db]
    generalize a % 8 ^ j = x at *
    generalize b % 8 ^ j = y at *
    generalize a / 8 ^ j % 8 = d at *
    generalize b / 8 ^ j % 8 = f at *
    generalize 8 ^ j = P at *
    rcases Nat.lt_trichotomy d f with h | h | h
    · have := Nat.mul_le_mul_left P (show d + 1 ≤ f from h)
      rw [Nat.mul_add] at this
      constructor
      · intro _; omega
      · intro _; exact .inl h
    · subst h
      constructor
      · rintro (h | ⟨_, h⟩) <;> omega
      · intro h; exact .inr ⟨rfl, by omega⟩
    · have := Nat.mul_le_mul_left P (show f + 1 ≤ d from h)
      rw [Nat.mul_add] at this
      constructor
      · rintro (h | ⟨h, _⟩) <;> omega
      · intro h; omega
theorem bytesLess_octS (a b W : Nat) (ha : a < 8 ^ (W - 1)) (hb : b < 8 ^ (W - 1)) : Op.bytesLess (octS a W) (octS b W) = decide (a < b) := by
  unfold octS
  rw [bytesLess_append _ _ _ (by rw [low_length, low_length]), bytesLess_low, Nat.mod_eq_of_lt ha, Nat.mod_eq_of_lt hb]
theorem octS_inj (a b W : Nat) (h1 : 2 ≤ W) (h2 : W ≤ 12) (ha : a < 8 ^ (W - 1)) (hb : b < 8 ^ (W - 1)) (h : octS a W = octS b W) : a = b := by
  have e1 := octRead_octS a W h1 h2 ha
  rw [h, octRead_octS b W h1 h2 hb] at e1
  have := congrArg Prod.fst e1
  simp at this
  omega

theorem toList_mk (l : List UInt8) : (ByteArray.mk l.toArray).toList = l := by rw [Lib.toList_data]

set_option maxHeartbeats 800000 in
theorem OctalRises_walk (w : World) (_hsh : w.ShapedOpen Try.prog) (a : Int) (ha : I64 a) (b : Int) (hb : I64 b) (width : Int) (hw : I64 width) :
    Calls Try.prog 6 #[.int .i64 a, .int .i64 b, .int .i64 width] w fun e w' => e = .returned (.bool true) ∧ Below w.heap.size w w' := by
  obtain ⟨W, hW, w1, w2⟩ := pick_width width 11 (by omega) (by omega)
  obtain ⟨m1, m2⟩ := mostI_bd (W := W) (by omega) (by omega)
  obtain ⟨M, hM, n1⟩ := pick_q a (mostI W) (by omega)
  obtain ⟨N, hN, n2⟩ := pick_q b (mostI W) (by omega)
  have k1 := lt_of_most n1
  have k2 := lt_of_most n2
  have hO1 := fun (w : World) => OWrite_ok M W w1 (by omega) k1 w
  have hO2 := fun (w : World) => OWrite_ok N W w1 (by omega) k2 w
  have hless := bytesLess_octS M N W k1 k2
  have hinj := octS_inj M N W w1 (by omega) k1 k2
  have hs1 := toList_mk (octS M W)
  have hs2 := toList_mk (octS N W)
  have l1 : Op.bytesLess (ByteArray.mk (octS M W).toArray).toList (ByteArray.mk (octS N W).toArray).toList = decide (M < N) := by rw [hs1, hs2, hless]
  have l2 : ((ByteArray.mk (octS M W).toArray).toList == (ByteArray.mk (octS N W).toArray).toList) = decide (M = N) := by
    rw [hs1, hs2, Bool.eq_iff_iff]
    simp only [beq_iff_eq, decide_eq_true_eq]
    exact ⟨hinj, fun h => by rw [h]⟩
  generalize hq : mostI W = q at *
  generalize ByteArray.mk (octS M W).toArray = s at *
  generalize ByteArray.mk (octS N W).toArray = t at *
  have HW := Lib.hid hW; have HN := Lib.hid hN; have HM := Lib.hid hM; have HQ := Lib.hid hq; have HO1 := Lib.hid hO1; have HO2 := Lib.hid hO2
  clear hW hN hM hq hO1 hO2 k1 k2 hless hinj hs1 hs2
  have g1 : decide ((M : Int) < (N : Int)) = decide (M < N) := by simp
  have g2 : ((M : Int) == (N : Int)) = decide (M = N) := by rw [Bool.eq_iff_iff]; simp; omega
  have g3 : (M == N) = decide (M = N) := by rw [Bool.eq_iff_iff]; simp
  generalize c1 : decide (M < N) = b1 at *
  generalize c2 : decide (M = N) = b2 at *
  go_enter Try.func6, Try.ntmps6
  go_wp2_with fail
  refine (picked_any width 11 hw (by omega) (by omega) _).mono ?_
  rintro e w' ⟨rfl, rfl⟩
  rw [HW.out]
  go_wp2_with fail
  rw [show (2 : Int) + ((W : Int) - 2) = W from by omega]
  refine (Most_ok W (by omega) (by omega) _).mono ?_
  rintro e w' ⟨rfl, rfl⟩
  rw [HQ.out]
  go_wp2_with fail
  refine (picked_any a (q + 1) ha (by omega) (by omega) _).mono ?_
  rintro e w' ⟨rfl, rfl⟩
  rw [HM.out]
  go_wp2_with fail
  refine (picked_any b (q + 1) hb (by omega) (by omega) _).mono ?_
  rintro e w' ⟨rfl, rfl⟩
  rw [HN.out]
  go_wp2_with fail
  refine (HO1.out _).mono ?_
  rintro e w1 ⟨rfl, hb1⟩
  go_wp2_with fail
  refine (HO2.out _).mono ?_
  rintro e w2 ⟨rfl, hb2⟩
  go_wp2_with fail
  go_ret
  exact ⟨rfl, hb1.trans (hb2.mono hb1.size)⟩

/-! ### one digit more -/
theorem octS_over (W : Nat) (h : 2 ≤ W) : ∃ r, octS (8 ^ (W - 1)) (W + 1) = 49 :: 48 :: r := by
  have e : W + 1 - 1 = (W - 2) + 1 + 1 := by omega
  have e2 : W - 1 = W - 2 + 1 := by omega
  have hp : 0 < 8 ^ (W - 2) := Nat.pow_pos (by omega)
  have d1 : 8 ^ (W - 1) / 8 ^ (W - 2 + 1) % 8 = 1 := by
    rw [e2, Nat.div_self (Nat.pow_pos (by omega))]
  have d2 : 8 ^ (W - 1) / 8 ^ (W - 2) % 8 = 0 := by
    rw [e2, Nat.pow_succ, Nat.mul_comm, Nat.mul_div_cancel _ hp]
  refine ⟨low (W - 2) (8 ^ (W - 1)) ++ [0], ?_⟩
  unfold octS
  rw [e, low, low, d1, d2]
  rfl

set_option maxHeartbeats 800000 in
theorem OctalOver_walk (w : World) (_hsh : w.ShapedOpen Try.prog) (width : Int) (hw : I64 width) :
    Calls Try.prog 8 #[.int .i64 width] w fun e w' => e = .returned (.bool true) ∧ Below w.heap.size w w' := by
  obtain ⟨W, hW, w1, w2⟩ := pick_width width 10 (by omega) (by omega)
  obtain ⟨m1, m2⟩ := mostI_bd (W := W) (by omega) (by omega)
  obtain ⟨m3, m4⟩ := mostI_bd (W := W + 1) (by omega) (by omega)
  have hp : 8 ^ (W + 1 - 1) = 8 ^ (W - 1) * 8 := by rw [show W + 1 - 1 = W - 1 + 1 from by omega, Nat.pow_succ]
  have e1 := mostI_nat W
  have e2 := mostI_nat (W + 1)
  rw [hp] at e2
  have h8 : mostI ((W + 1 : Nat) : Int) = 8 * mostI W + 7 := by rw [e1, e2]; omega
  have m5 : mostI W ≤ 1073741823 := by omega
  have hbig := fun w => OWrite_big (mostI W + 1) W (by omega) (by omega) (.inr (by omega)) w
  have hq1 : ((8 ^ (W - 1) : Nat) : Int) = mostI W + 1 := by omega
  have hok := fun w => OWrite_ok (8 ^ (W - 1)) (W + 1) (by omega) (by omega) (by rw [hp]; have := Nat.pow_pos (n := W - 1) (show 0 < 8 by omega); omega) w
  rw [hq1] at hok
  obtain ⟨r, hr⟩ := octS_over W (by omega)
  rw [hr] at hok
  have hpre : Lib.hasPrefix (ByteArray.mk (49 :: 48 :: r).toArray).data.toList (ByteArray.mk #[49, 48]).data.toList = true := by
    simp [Lib.hasPrefix, List.isPrefixOf]
  generalize ByteArray.mk (49 :: 48 :: r).toArray = s at *
  generalize hq : mostI W = q at *
  have HW := Lib.hid hW; have HQ := Lib.hid hq; have HO := Lib.hid hok; have HB := Lib.hid hbig; have H8 := Lib.hid h8
  clear hW hq hok hbig h8 hp e1 e2 hq1 hr m3 m4
  go_enter Try.func8, Try.ntmps8
  go_wp2_with fail
  refine (picked_any width 10 hw (by omega) (by omega) _).mono ?_
  rintro e w' ⟨rfl, rfl⟩
  rw [HW.out]
  go_wp2_with fail
  rw [show (2 : Int) + ((W : Int) - 2) = W from by omega]
  refine (Most_ok W (by omega) (by omega) _).mono ?_
  rintro e w' ⟨rfl, rfl⟩
  rw [HQ.out]
  go_wp2_with fail
  refine (Most_ok (W + 1 : Nat) (by omega) (by omega) _).mono ?_
  rintro e w' ⟨rfl, rfl⟩
  rw [H8.out]
  go_wp2_with fail
  refine (HB.out _).mono ?_
  rintro e w' ⟨rfl, rfl⟩
  go_wp2_with fail
  refine (HO.out _).mono ?_
  rintro e w1 ⟨rfl, hb1⟩
  go_wp2_with fail
  refine (Try.strings_HasPrefix _ _ _).mono ?_
  rintro e w2 ⟨rfl, rfl⟩
  go_wp2_with fail
  go_ret
  exact ⟨rfl, hb1⟩
end Go.Proofs.Ytpibgdgcgflooaa
