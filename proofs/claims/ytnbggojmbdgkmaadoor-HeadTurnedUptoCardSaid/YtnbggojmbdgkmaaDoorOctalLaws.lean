/-
  The laws OctalBack, OctalRises, OctalOver: their walks. No condition.
-/
import Derived.Test.YtnbggojmbdgkmaaDoorOctal
namespace Go.Proofs.YtnbggojmbdgkmaaDoor
open Go.RowKit

theorem octVal_low_from (j n : Nat) : ∀ m : Int, (low j n).foldl (fun n c => 8 * n + ((c.toNat : Int) - 48)) m = m * 8 ^ j + ((n % 8 ^ j : Nat) : Int) := by
  induction j with
  | zero => intro m; simp [low, Nat.mod_one]
  | succ j ih =>
    intro m
    have e3 : ((UInt8.ofNat (48 + n / 8 ^ j % 8)).toNat : Int) - 48 = ((n / 8 ^ j % 8 : Nat) : Int) := by
      rw [UInt8.toNat_ofNat']; omega
    have e4 : n % 8 ^ (j + 1) = n % 8 ^ j + 8 ^ j * (n / 8 ^ j % 8) := by rw [Nat.pow_succ, Nat.mod_mul]
    simp only [low, List.foldl_cons]
    rw [ih, e3, e4, Int.natCast_add, Int.natCast_mul, Int.pow_succ, Int.add_mul]
    have e5 : ((8 ^ j : Nat) : Int) = 8 ^ j := by simp
    rw [e5]
    generalize (8 : Int) ^ j = p
    generalize ((n / 8 ^ j % 8 : Nat) : Int) = d
    rw [Int.mul_comm 8 m, Int.mul_assoc m 8 p, Int.mul_comm 8 p, Int.mul_comm d p]
    omega
theorem octVal_low (j n : Nat) (h : n < 8 ^ j) : octVal (low j n) = n := by
  unfold octVal
  rw [octVal_low_from, Nat.mod_eq_of_lt h]
  simp
theorem low_all (j n : Nat) : (low j n).all octDig = true := by
  induction j with
  | zero => rfl
  | succ j ih =>
    simp only [low, List.all_cons, ih, Bool.and_true]
    have e3 : ((UInt8.ofNat (48 + n / 8 ^ j % 8)).toNat : Int) = ((48 + n / 8 ^ j % 8 : Nat) : Int) := by
      rw [UInt8.toNat_ofNat']; omega
    unfold octDig
    rw [e3]
    simp only [Bool.and_eq_true, decide_eq_true_eq]
    omega
theorem octRead_octS (N W : Nat) (h1 : 2 ≤ W) (h2 : W ≤ 12) (h3 : N < 8 ^ (W - 1)) : octRead (octS N W) = ((N : Int), 0) := by
  have hl : (octS N W).length = W := by simp [octS, low_length]; omega
  have ht : (octS N W).take (W - 1) = low (W - 1) N := by
    unfold octS
    rw [List.take_append_of_le_length (by rw [low_length]; exact Nat.le_refl _), List.take_of_length_le (by rw [low_length]; exact Nat.le_refl _)]
  have hg : (octS N W).getLast? = some 0 := by simp [octS]
  rw [octRead, hl, if_neg (by omega), ht, hg, low_all, octVal_low _ _ h3]
  rfl

theorem pick_q (n q : Int) (h : 0 ≤ q) : ∃ N : Nat, pick n (q + 1) = N ∧ (N : Int) ≤ q := by
  have ⟨p1, p2⟩ := pick_bd n (q + 1) (by omega)
  obtain ⟨N, hN⟩ := Int.eq_ofNat_of_zero_le p1
  exact ⟨N, hN, by omega⟩
theorem mostI_bd {W : Nat} (h1 : 2 ≤ W) (h2 : W ≤ 12) : 7 ≤ mostI W ∧ mostI W ≤ 8589934591 := by
  have hp := pow8_le (W := W) (by omega)
  have hpp : 8 ^ 1 ≤ 8 ^ (W - 1) := Nat.pow_le_pow_right (by omega) (by omega)
  rw [mostI_nat]
  omega
theorem lt_of_most {N W : Nat} (h : (N : Int) ≤ mostI W) : N < 8 ^ (W - 1) := by
  rw [mostI_nat] at h
  omega
theorem pick_width (w : Int) (m : Int) (hm : 1 ≤ m) (hm2 : m ≤ 11) : ∃ W : Nat, pick w m = (W : Int) - 2 ∧ 2 ≤ W ∧ (W : Int) < 2 + m := by
  have ⟨p1, p2⟩ := pick_bd w m hm
  refine ⟨(2 + pick w m).toNat, ?_, ?_, ?_⟩ <;> omega

/-! ### order -/
theorem bytesLess_self (z : List UInt8) : Op.bytesLess z z = false := by
  induction z with
  | nil => rfl
  | cons c z ih => simp [Op.bytesLess, ih]
theorem bytesLess_append (z : List UInt8) : ∀ x y : List UInt8, x.length = y.length → Op.bytesLess (x ++ z) (y ++ z) = Op.bytesLess x y
  | [], [], _ => by simp [bytesLess_self, Op.bytesLess]
  | [], _ :: _, h => by simp at h
  | _ :: _, [], h => by simp at h
  | a :: x, b :: y, h => by
    simp only [List.cons_append, Op.bytesLess]
    rw [bytesLess_append z x y (by simpa using h)]
theorem dig_lt (a b : Nat) (ha : a < 8) (hb : b < 8) : (UInt8.ofNat (48 + a) < UInt8.ofNat (48 + b)) ↔ a < b := by
  rw [UInt8.lt_iff_toNat_lt, UInt8.toNat_ofNat', UInt8.toNat_ofNat']; omega
theorem dig_eq (a b : Nat) (ha : a < 8) (hb : b < 8) : (UInt8.ofNat (48 + a) = UInt8.ofNat (48 + b)) ↔ a = b := by
  constructor
  · intro h
    have := congrArg UInt8.toNat h
    rw [UInt8.toNat_ofNat', UInt8.toNat_ofNat'] at this; omega
  · rintro rfl; rfl
theorem bytesLess_low (j a b : Nat) : Op.bytesLess (low j a) (low j b) = decide (a % 8 ^ j < b % 8 ^ j) := by
  induction j with
  | zero => simp [low, Op.bytesLess, Nat.mod_one]
  | succ j ih =>
    have ea : a % 8 ^ (j + 1) = a % 8 ^ j + 8 ^ j * (a / 8 ^ j % 8) := by rw [Nat.pow_succ, Nat.mod_mul]
    have eb : b % 8 ^ (j + 1) = b % 8 ^ j + 8 ^ j * (b / 8 ^ j % 8) := by rw [Nat.pow_succ, Nat.mod_mul]
    have hp : 0 < 8 ^ j := Nat.pow_pos (by omega)
    have ra : a % 8 ^ j < 8 ^ j := Nat.mod_lt _ hp
    have rb : b % 8 ^ j < 8 ^ j := Nat.mod_lt _ hp
    have da : a / 8 ^ j % 8 < 8 := Nat.mod_lt _ (by omega)
    have db : b / 8 ^ j % 8 < 8 := Nat.mod_lt _ (by omega)
    simp only [low, Op.bytesLess]
    rw [ih, ea, eb, Bool.eq_iff_iff]
    simp only [Bool.or_eq_true, decide_eq_true_eq, Bool.and_eq_true, beq_iff_eq]
    rw [dig_lt _ _ da db, dig_eq _ _ da db]
    generalize a % 8 ^ j = x at *
    generalize b % 8 ^ j = y at *
    generalize a / 8 ^ j % 8 = d at *
    generalize b / 8 ^ j % 8 = f at *
    generalize 8 ^ j = P at *
    rcases Nat.lt_trichotomy d f with h | h | h
    · have := Nat.mul_le_mul_left P (show d + 1 ≤ f from h)
      rw [Nat.mul_add] at this
      constructor
      · intro _; omega
      · intro _; exact .inl h
    · subst h
      constructor
      · rintro (h | ⟨_, h⟩) <;> omega
      · intro h; exact .inr ⟨rfl, by omega⟩
    · have := Nat.mul_le_mul_left P (show f + 1 ≤ d from h)
      rw [Nat.mul_add] at this
      constructor
      · rintro (h | ⟨h, _⟩) <;> omega
      · intro h; omega
theorem bytesLess_octS (a b W : Nat) (ha : a < 8 ^ (W - 1)) (hb : b < 8 ^ (W - 1)) : Op.bytesLess (octS a W) (octS b W) = decide (a < b) := by
  unfold octS
  rw [bytesLess_append _ _ _ (by rw [low_length, low_length]), bytesLess_low, Nat.mod_eq_of_lt ha, Nat.mod_eq_of_lt hb]
theorem octS_inj (a b W : Nat) (h1 : 2 ≤ W) (h2 : W ≤ 12) (ha : a < 8 ^ (W - 1)) (hb : b < 8 ^ (W - 1)) (h : octS a W = octS b W) : a = b := by
  have e1 := octRead_octS a W h1 h2 ha
  rw [h, octRead_octS b W h1 h2 hb] at e1
  have := congrArg Prod.fst e1
  simp at this
  omega

theorem toList_mk (l : List UInt8) : (ByteArray.mk l.toArray).toList = l := by rw [Lib.toList_data]

/-! ### one digit more -/
theorem octS_over (W : Nat) (h : 2 ≤ W) : ∃ r, octS (8 ^ (W - 1)) (W + 1) = 49 :: 48 :: r := by
  have e : W + 1 - 1 = (W - 2) + 1 + 1 := by omega
  have e2 : W - 1 = W - 2 + 1 := by omega
  have hp : 0 < 8 ^ (W - 2) := Nat.pow_pos (by omega)
  have d1 : 8 ^ (W - 1) / 8 ^ (W - 2 + 1) % 8 = 1 := by
    rw [e2, Nat.div_self (Nat.pow_pos (by omega))]
  have d2 : 8 ^ (W - 1) / 8 ^ (W - 2) % 8 = 0 := by
    rw [e2, Nat.pow_succ, Nat.mul_comm, Nat.mul_div_cancel _ hp]
  refine ⟨low (W - 2) (8 ^ (W - 1)) ++ [0], ?_⟩
  unfold octS
  rw [e, low, low, d1, d2]
  rfl

end Go.Proofs.YtnbggojmbdgkmaaDoor
