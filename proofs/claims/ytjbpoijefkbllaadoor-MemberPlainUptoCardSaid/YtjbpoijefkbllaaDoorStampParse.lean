/-
  stamp.digits, stamp.Parse, each once; what is told of a time is read so. Condition: the library's table of powers of ten lies as Go laid it; texts of at most 2^30 bytes.
-/
import Derived.Test.YtjbpoijefkbllaaDoorStampPlain
import Derived.Test.YtjbpoijefkbllaaDoorOctalB
namespace Go.Proofs.YtjbpoijefkbllaaDoor
open Go.RowKit

/-! ### digits, plainly -/
theorem isDig_iff (b : UInt8) : isDig b = true ↔ (48 ≤ (b.toNat : Int) ∧ (b.toNat : Int) ≤ 57) := by
  unfold isDig; simp only [Bool.and_eq_true, decide_eq_true_eq]; omega
theorem valD_bd : ∀ (k : Nat) (l : List UInt8), l.length = k → l.all isDig = true → valD l < 10 ^ k
  | 0, l, h, _ => by
    obtain rfl : l = [] := List.eq_nil_of_length_eq_zero h
    decide
  | k + 1, l, h, hd => by
    rcases List.eq_nil_or_concat l with rfl | ⟨l', b, rfl⟩
    · simp at h
    · rw [List.concat_eq_append] at *
      rw [List.all_append, Bool.and_eq_true] at hd
      have ih := valD_bd k l' (by simp at h; omega) hd.1
      have hb := (isDig_iff b).1 (by simpa using hd.2)
      rw [valD_snoc, Nat.pow_succ]
      omega
theorem valD_13 (l : List UInt8) (h : l.length ≤ 13) (hd : l.all isDig = true) : valD l < 10000000000000 := by
  have h1 := valD_bd l.length l rfl hd
  have h2 : 10 ^ l.length ≤ 10 ^ 13 := Nat.pow_le_pow_right (by omega) h
  have h3 : (10 : Nat) ^ 13 = 10000000000000 := by decide
  omega
def digOk (l : List UInt8) (most : Nat) : Bool := decide (1 ≤ l.length) && decide (l.length ≤ most) && l.all isDig
def digV (l : List UInt8) (most : Nat) : Nat := if digOk l most = true then valD l else 0
theorem digV_bd (l : List UInt8) (most : Nat) (h : most ≤ 13) : digV l most < 10000000000000 := by
  unfold digV
  split
  · rename_i hk
    unfold digOk at hk
    simp only [Bool.and_eq_true, decide_eq_true_eq] at hk
    exact valD_13 l (by omega) hk.2
  · omega
theorem ret_ib {a b : Int} {c d : Bool} (h : a = b) (h' : c = d) : Ending.returned (.tuple #[.int .i64 a, .bool c]) = .returned (.tuple #[.int .i64 b, .bool d]) := by rw [h, h']

/-! ### stamp.Parse, way by way -/
def restT (l : List UInt8) : List UInt8 := Lib.trimPrefix l [45]
def belT (l : List UInt8) : Bool := Lib.hasPrefix l [45]
def wholeT (l : List UInt8) : List UInt8 := (Lib.cut (restT l) [46]).1
def partT (l : List UInt8) : List UInt8 := (Lib.cut (restT l) [46]).2.1
def dotT (l : List UInt8) : Bool := (Lib.cut (restT l) [46]).2.2
def inT (p : List UInt8) : List UInt8 := p ++ List.replicate (9 - p.length) 48
def okT (l : List UInt8) : Bool := digOk (wholeT l) 13 && (!dotT l || digOk (inT (partT l)) 9)
def v1T (l : List UInt8) : Nat := digV (wholeT l) 13
def v2T (l : List UInt8) : Nat := if dotT l = true then digV (inT (partT l)) 9 else 0
def aT (l : List UInt8) : Int := if belT l = true then (if 0 < v2T l then -(v1T l : Int) - 1 else -(v1T l : Int)) else v1T l
def bT (l : List UInt8) : Int := if belT l = true then (if 0 < v2T l then 1000000000 - (v2T l : Int) else v2T l) else v2T l
instance timeOk_dec (s n : Int) : Decidable (timeOk s n) := inferInstanceAs (Decidable (_ ∧ _ ∧ _ ∧ _))
def parseT (l : List UInt8) : Int × Int × Int := if okT l = true ∧ timeOk (aT l) (bT l) ∧ textT (aT l) (bT l) = l then (aT l, bT l, 0) else (0, 0, 3)
theorem restT_le (l : List UInt8) : (restT l).length ≤ l.length := by
  unfold restT Lib.trimPrefix; split
  · rw [List.length_drop]; omega
  · omega
theorem cut_le (l : List UInt8) (sep : List UInt8) : (Lib.cut l sep).1.length ≤ l.length ∧ (Lib.cut l sep).2.1.length ≤ l.length := by
  unfold Lib.cut
  split
  · exact ⟨by rw [List.length_take]; omega, by rw [List.length_drop]; omega⟩
  · exact ⟨Nat.le_refl _, by simp⟩
theorem ret3_i {a b c d : Int} (h1 : a = c) (h2 : b = d) : Ending.returned (.tuple #[.int .i64 a, .int .i64 b, .int .i64 0]) = .returned (.tuple #[.int .i64 c, .int .i64 d, .int .i64 0]) := by rw [h1, h2]

end Go.Proofs.YtjbpoijefkbllaaDoor
