/-
  path.In: whether a path lies in another one; the law PathInside. No condition beyond the lengths that the form itself gives.
-/
import Derived.Test.YtjglenhhgbokbaaGreatDoorFrame
import Derived.Test.YtjglenhhgbokbaaGreatDoorA1
import Derived.Test.YtjglenhhgbokbaaGreatDoorShelf
namespace Go.Proofs.YtjglenhhgbokbaaGreatDoor
open Go.RowKit

/-- path.In, plainly -/
def inB (s d : List UInt8) : Bool := if d.isEmpty && !s.isEmpty then true else Lib.hasPrefix s (d ++ [47])

theorem hasPrefix_append (p r : List UInt8) : Lib.hasPrefix (p ++ r) p = true := by
  unfold Lib.hasPrefix
  exact List.isPrefixOf_iff_prefix.2 (List.prefix_append _ _)
theorem hasPrefix_long (s p : List UInt8) (h : s.length < p.length) : Lib.hasPrefix s p = false := by
  unfold Lib.hasPrefix
  rw [Bool.eq_false_iff]
  intro h2
  have := (List.isPrefixOf_iff_prefix.1 h2).length_le
  omega
theorem inB_of (a r : List UInt8) : inB (a ++ [47] ++ r) a = true := by
  unfold inB
  split
  · rfl
  · exact hasPrefix_append _ _
theorem inB_not (a s : List UInt8) (h : a.length ≤ s.length) : inB a s = false := by
  unfold inB
  rw [if_neg, hasPrefix_long]
  · simp; omega
  · cases a <;> cases s <;> simp at h ⊢

end Go.Proofs.YtjglenhhgbokbaaGreatDoor
