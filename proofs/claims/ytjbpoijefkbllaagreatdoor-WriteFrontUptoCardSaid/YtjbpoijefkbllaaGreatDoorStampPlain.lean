/-
  The law StampPlain: what it computes is true. Condition: the library's table of powers of ten lies as Go laid it.
-/
import Derived.Test.YtjbpoijefkbllaaGreatDoorMetaS
namespace Go.Proofs.YtjbpoijefkbllaaGreatDoor
open Go.RowKit

theorem text_prefix (x y : Int) : Lib.hasPrefix (textT x y) [45] = decide (x < 0) := by
  obtain ⟨b, r, e, hb⟩ := body_head (absT x y).1 (absT x y).2
  unfold textT Lib.hasPrefix
  by_cases h : x < 0
  · rw [if_pos h, decide_eq_true h]; rfl
  · rw [if_neg h, decide_eq_false h, e]
    have : (45 == b) = false := by rw [beq_eq_false_iff_ne]; exact fun e => hb e.symm
    simp [List.isPrefixOf, this]
theorem text_trim (x y : Int) : Lib.trimPrefix (textT x y) [45] = bodyS (absT x y).1 (absT x y).2 := by
  unfold Lib.trimPrefix
  rw [text_prefix]
  unfold textT
  by_cases h : x < 0
  · rw [decide_eq_true h, if_pos h, if_pos rfl]; rfl
  · rw [decide_eq_false h, if_neg h]; rfl
theorem absT_pos (x y : Int) (h : timeOk x y) (hy : 0 < y) : (absT x y).2 ≠ 0 ∧ (absT x y).2 < 1000000000 := by
  obtain ⟨h1, h2, h3, h4⟩ := h
  unfold absT
  split
  · simp only [if_pos hy]; omega
  · simp only; omega
theorem absT_zero (x y : Int) (h : timeOk x y) (hy : ¬ 0 < y) : (absT x y).2 = 0 := by
  obtain ⟨h1, h2, h3, h4⟩ := h
  unfold absT
  split
  · simp only [if_neg hy]
  · simp only; omega
theorem absT_S (x y : Int) (h : timeOk x y) : (absT x y).1 ≤ 1099511627776 := by
  obtain ⟨h1, h2, h3, h4⟩ := h
  unfold absT
  split
  · split <;> (simp only; omega)
  · simp only; omega
theorem body_len (S F : Nat) (h : S ≤ 1099511627776) (h2 : F < 1000000000) : (bodyS S F).length ≤ 30 := by
  have := dec13 S h
  have := frac_len F h2
  unfold bodyS
  split <;> simp <;> omega
theorem text_len (x y : Int) (h : timeOk x y) : (textT x y).length ≤ 40 := by
  have h1 := absT_S x y h
  have h2 : (absT x y).2 < 1000000000 := by
    by_cases hy : 0 < y
    · exact (absT_pos x y h hy).2
    · rw [absT_zero x y h hy]; omega
  have := body_len _ _ h1 h2
  unfold textT
  split <;> simp <;> omega
end Go.Proofs.YtjbpoijefkbllaaGreatDoor
