/-
  The closures of glob.part and glob.parts; glob.part, glob.parts, glob.Fits. Condition: texts of at most 400 bytes.
  Patterns made of a path, and of stars, over a path made of names: plainly. No condition.
-/
import Derived.Test.YtphmhmdcaafmdaaGreatDoorGlobC
import Derived.Test.YtphmhmdcaafmdaaGreatDoorWilds
import Derived.Test.YtphmhmdcaafmdaaGreatDoorPathW
import Derived.Lib.QuietBelow
import Derived.Test.YtphmhmdcaafmdaaGreatDoorNearG
namespace Go.Proofs.YtphmhmdcaafmdaaGreatDoor
set_option linter.all false
section
open Go.RowKit
/-- a cell that holds a slice of texts -/
structure Held (W : World) (g : Nat) (l : List (List UInt8)) : Prop where
  ex : ∃ A c, W.cell? ⟨g, 0, none⟩ = some (.slice A l.length c) ∧ ∀ k, k < l.length → ∃ ad, A = some ad ∧ W.cell? (ad.add k) = some (.string (bs (l.getD k [])))
theorem Held.below {w W : World} {g : Nat} {l : List (List UInt8)} (h : Held w g l) (hb : Below w.heap.size w W) : Held W g l := by
  obtain ⟨A, c, h1, h2⟩ := h.ex
  have lt : ∀ {a : Addr} {v : Value}, w.cell? a = some v → a.block < w.heap.size := by
    intro a v ha
    rcases Nat.lt_or_ge a.block w.heap.size with h | h
    · exact h
    · simp [World.cell?, Array.getElem?_eq_none h] at ha
  refine ⟨A, c, (hb.cell (lt h1)).trans h1, fun k hk => ?_⟩
  obtain ⟨ad, e, hc⟩ := h2 k hk
  exact ⟨ad, e, (hb.cell (lt hc)).trans hc⟩
def starQ (l : List Piece) : Bool := textPs l == [42, 42]
def fitsQ (l : List Piece) (s : List UInt8) : Bool := globs.glob starP fitsP l s
/-! ### glob.Fits -/
/-- a pattern that may be, by its parts -/
structure Pattern (p : List UInt8) (ps : List (List Piece)) : Prop where
  len1 : 1 ≤ p.length
  len2 : p.length ≤ 400
  split : splitC 47 p = ps.map textPs
  ok : ∀ l ∈ ps, l ≠ [] ∧ ∀ q ∈ l, okP q
theorem splitC_len {c : UInt8} : ∀ {l : List UInt8}, ∀ s ∈ splitC c l, s.length ≤ l.length
  | [], s, h => by simp [splitC] at h; simp [h]
  | b :: l, s, h => by
    unfold splitC at h
    have ih := splitC_len (c := c) (l := l)
    split at h
    · rcases List.mem_cons.1 h with rfl | h
      · simp
      · have := ih s h; simp; omega
    · have hne := splitC_ne c l
      cases hsp : splitC c l with
      | nil => exact absurd hsp hne
      | cons x y =>
        rw [hsp] at h ih
        rcases List.mem_cons.1 h with rfl | h
        · have := ih x (by simp); simp at this ⊢; omega
        · have := ih s (by simp at h; simp [h]); simp; omega
theorem textPs_ne {l : List Piece} (h : l ≠ []) : textPs l ≠ [] := by
  cases l with
  | nil => exact absurd rfl h
  | cons q l => rw [textPs_cons]; simp [textP_ne q]
end
section
/-! ### a path as a pattern -/
/-! ### stars -/
/-- n stars, joined -/
def stars : Nat → List UInt8
  | 0 => [42]
  | n + 1 => 42 :: 47 :: stars n
end
end Go.Proofs.YtphmhmdcaafmdaaGreatDoor
