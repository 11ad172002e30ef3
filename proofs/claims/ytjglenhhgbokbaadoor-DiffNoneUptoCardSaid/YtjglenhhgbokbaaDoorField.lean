/-
  field.Write, field.Read, each once. Condition: texts shorter than 2^62 bytes.
-/
import Derived.Test.YtjglenhhgbokbaaDoorStrs
import Derived.BigQuiet
import Derived.Deep.QuietTactic
namespace Go.Proofs.YtjglenhhgbokbaaDoor
open Go.RowKit

theorem ret_si {a b : ByteArray} {i j : Int} (h : a = b) (h2 : i = j) : Ending.returned (.tuple #[.string a, .int .i64 i]) = .returned (.tuple #[.string b, .int .i64 j]) := by rw [h, h2]
theorem bs_nil_eq : (⟨#[]⟩ : ByteArray) = bs [] := rfl

/-- how long a text may be -/
def fmost (W : Nat) (whole : Bool) : Nat := if whole then W else W - 1

theorem all_rep (n : Nat) : (List.replicate n (0 : UInt8)).all (· == 0) = true := by
  rw [List.all_eq_true]; intro x hx; rw [List.eq_of_mem_replicate hx]; rfl
end Go.Proofs.YtjglenhhgbokbaaDoor
