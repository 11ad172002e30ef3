/-
  What is in a directory stands right behind it: plainly. No condition.
  The paths of what creelkeep.Tree grows: made of its names. Plainly: no condition.
-/
import Derived.Test.YtphmhmdcaafmdaaGreatDoorPathW
import Derived.Test.YtphmhmdcaafmdaaGreatDoorTreeS
namespace Go.Proofs.YtphmhmdcaafmdaaGreatDoor
set_option linter.all false
section
theorem splitC_append (c : UInt8) : ∀ (a r : List UInt8), splitC c (a ++ c :: r) = splitC c a ++ splitC c r := by
  intro a
  induction a with
  | nil => intro r; rw [List.nil_append, splitC]; simp [splitC]
  | cons b a ih =>
    intro r
    rw [List.cons_append, splitC, splitC, ih r]
    by_cases e : b = c
    · rw [if_pos e, if_pos e]; rfl
    · rw [if_neg e, if_neg e]
      cases h : splitC c a with
      | nil => exact absurd h (splitC_ne c a)
      | cons x y => rfl
end
section
open Go.RowKit
def PartsOk (p : List UInt8) : Prop := p ≠ [] ∧ ∀ q ∈ splitC 47 p, q ∈ namesL
theorem namesL_ok : ∀ n ∈ namesL, n ≠ [] ∧ (47 : UInt8) ∉ n ∧ (0 : UInt8) ∉ n ∧ n ≠ [46] ∧ n ≠ [46, 46] ∧ (91 : UInt8) ∉ n ∧ (42 : UInt8) ∉ n ∧ (63 : UInt8) ∉ n := by
  intro n hn
  simp only [namesL, List.mem_cons, List.mem_nil_iff, or_false] at hn
  rcases hn with rfl | rfl | rfl | rfl | rfl | rfl | rfl | rfl | rfl | rfl | rfl
  all_goals first | decide | (refine ⟨by simp, ?_, ?_, ?_, ?_, ?_, ?_, ?_⟩ <;> first | (rw [List.mem_replicate]; simp) | (intro h; have := congrArg List.length h; simp at this))
end
end Go.Proofs.YtphmhmdcaafmdaaGreatDoor
