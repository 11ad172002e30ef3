/-
  octal.Most, octal.Write, octal.Read, each once; no condition beyond the ranges named.
-/
import Derived.Test.YtjglenhhgbokbaaGreatDoorMem
import Derived.Test.YtjglenhhgbokbaaGreatDoorA1
import Derived.Test.YtjglenhhgbokbaaGreatDoorShelf
namespace Go.Proofs.YtjglenhhgbokbaaGreatDoor
open Go.RowKit

def okW (w : Int) : Bool := decide (2 ≤ w) && decide (w ≤ 12)
def mostI (w : Int) : Int := 8 ^ (w.toNat - 1) - 1
theorem ret2_int {a b c d : Int} (h : a = b) (h' : c = d) : Ending.returned (.tuple #[.int .i64 a, .int .i64 c]) = .returned (.tuple #[.int .i64 b, .int .i64 d]) := by rw [h, h']

/-- the lowest j octal digits of n, the highest first -/
def low : Nat → Nat → List UInt8
  | 0, _ => []
  | j + 1, n => UInt8.ofNat (48 + n / 8 ^ j % 8) :: low j n
def octS (n w : Nat) : List UInt8 := low (w - 1) n ++ [0]
theorem low_length (j n : Nat) : (low j n).length = j := by
  induction j with
  | zero => rfl
  | succ j ih => simp [low, ih]
def ofB (b : UInt8) : Int := (b.toNat : Int)

theorem mostI_nat (W : Nat) : mostI (W : Int) = ((8 ^ (W - 1) : Nat) : Int) - 1 := by
  unfold mostI
  simp
theorem pow8_le {W : Nat} (h : W ≤ 12) : 8 ^ (W - 1) ≤ 8589934592 := by
  have : 8 ^ (W - 1) ≤ 8 ^ 11 := Nat.pow_le_pow_right (by omega) (by omega)
  simpa using this

/-- the cells of the field behind j rounds -/
def octCells (W j N : Nat) : List Int := List.replicate (W - 1 - j) 0 ++ (low j N).map ofB ++ [0]
theorem octCells_length (W j N : Nat) (h : j ≤ W - 1) (h1 : 1 ≤ W) : (octCells W j N).length = W := by
  simp [octCells, low_length]; omega
theorem octCells_set (W j N : Nat) (h : j < W - 1) : (octCells W j N).set (W - 2 - j) ((48 + N / 8 ^ j % 8 : Nat) : Int) = octCells W (j + 1) N := by
  unfold octCells
  have e : W - 1 - j = (W - 2 - j) + 1 := by omega
  have e2 : W - 1 - (j + 1) = W - 2 - j := by omega
  rw [e, e2, List.replicate_succ', List.append_assoc, List.append_assoc, List.set_append_right _ _ (by simp)]
  have e3 : ofB (UInt8.ofNat (48 + N / 8 ^ j % 8)) = ((48 + N / 8 ^ j % 8 : Nat) : Int) := by
    unfold ofB
    rw [UInt8.toNat_ofNat']
    omega
  rw [low, List.map_cons, e3]
  simp
theorem octCells_all (W N : Nat) : octCells W (W - 1) N = (octS N W).map ofB := by
  simp [octCells, octS, ofB]
theorem octCells_none (W N : Nat) (h : 1 ≤ W) : octCells W 0 N = List.replicate W 0 := by
  unfold octCells
  simp only [low, List.map_nil, List.append_nil, Nat.sub_zero]
  have e : W = (W - 1) + 1 := by omega
  conv => rhs; rw [e, List.replicate_succ']

/-! ### octal.Read -/
def octDig (c : UInt8) : Bool := decide (48 ≤ (c.toNat : Int)) && decide ((c.toNat : Int) ≤ 55)
def octVal (l : List UInt8) : Int := l.foldl (fun n c => 8 * n + ((c.toNat : Int) - 48)) 0
def octRead (l : List UInt8) : Int × Int :=
  if l.length < 2 ∨ 12 < l.length then (0, 4)
  else if (l.take (l.length - 1)).all octDig && l.getLast? == some 0 then (octVal (l.take (l.length - 1)), 0) else (0, 3)
theorem octVal_snoc (l : List UInt8) (c : UInt8) : octVal (l ++ [c]) = 8 * octVal l + ((c.toNat : Int) - 48) := by simp [octVal]
theorem octVal_from (l : List UInt8) (h : l.all octDig = true) : ∀ (m : Nat) (n : Int), 0 ≤ n → n < 8 ^ m → 0 ≤ l.foldl (fun n c => 8 * n + ((c.toNat : Int) - 48)) n ∧ l.foldl (fun n c => 8 * n + ((c.toNat : Int) - 48)) n < 8 ^ (m + l.length) := by
  induction l with
  | nil => intro m n h0 h1; exact ⟨h0, h1⟩
  | cons c l ih =>
    intro m n h0 h1
    simp only [List.all_cons, Bool.and_eq_true, octDig, decide_eq_true_eq] at h
    have hp : (8 : Int) ^ (m + 1) = 8 ^ m * 8 := Int.pow_succ ..
    have := ih h.2 (m + 1) (8 * n + ((c.toNat : Int) - 48)) (by omega) (by omega)
    rw [List.length_cons, show m + (l.length + 1) = m + 1 + l.length from by omega]
    exact this
theorem octVal_bd (l : List UInt8) (h : l.all octDig = true) (hl : l.length ≤ 11) : 0 ≤ octVal l ∧ octVal l < 8589934592 := by
  have h1 := octVal_from l h 0 0 (by omega) (by decide)
  have h2 : (8 : Int) ^ (0 + l.length) ≤ 8 ^ 11 := by
    have := Nat.pow_le_pow_right (n := 8) (by omega) (show 0 + l.length ≤ 11 by omega)
    exact_mod_cast this
  have h3 : (8 : Int) ^ 11 = 8589934592 := by decide
  unfold octVal
  omega

theorem take_snocB (s : ByteArray) (k : Nat) (h : k < s.size) : s.data.toList.take (k + 1) = s.data.toList.take k ++ [s[k]] := by
  rw [List.take_succ_eq_append_getElem (by simpa using h)]; rfl

end Go.Proofs.YtjglenhhgbokbaaGreatDoor
