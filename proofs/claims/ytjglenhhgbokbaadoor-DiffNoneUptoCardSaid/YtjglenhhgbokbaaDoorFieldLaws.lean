/-
  The laws FieldWhole, FieldStrict, FieldBack: what they compute is true. Condition: texts of at most 1048576 bytes.
-/
import Derived.Test.YtjglenhhgbokbaaDoorField
import Derived.Test.YtjglenhhgbokbaaDoorClean
import Derived.Test.YtjglenhhgbokbaaDoorUpBase
namespace Go.Proofs.YtjglenhhgbokbaaDoor
open Go.RowKit

theorem pick_nat (a : Int) (m : Nat) (h : 1 ≤ m) : ∃ k : Nat, pick a m = k ∧ k < m := by
  have ⟨p1, p2⟩ := pick_bd a m (by omega)
  exact ⟨(pick a m).toNat, by omega, by omega⟩
theorem beq_self_bs (l : List UInt8) : ((bs l).toList == (bs l).toList) = true := beq_self_eq_true _

theorem all_false_of {l : List UInt8} (h1 : l ≠ []) (h2 : (0 : UInt8) ∉ l) : l.all (· == 0) = false := by
  cases l with
  | nil => exact absurd rfl h1
  | cons b l =>
    have : (b == 0) = false := by rw [beq_eq_false_iff_ne]; intro e; exact h2 (by simp [e])
    rw [List.all_cons, this]; rfl
theorem hasPrefix_append (a b : List UInt8) : Lib.hasPrefix (a ++ b) a = true := by
  unfold Lib.hasPrefix
  simp

end Go.Proofs.YtjglenhhgbokbaaDoor
