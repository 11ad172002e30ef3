/-
  The plain law of wild: the search that goes back to its last star finds a fit just if there is one. No condition, no program.
  glob.wild at the closures of glob.part and at those of glob.parts. No condition beyond what the closures do.
-/
import Derived.Test.YtphmhmdcaafmdaaGreatDoorWords
namespace Go.Proofs.YtphmhmdcaafmdaaGreatDoor
set_option linter.all false
section
namespace globs
section
variable {π α : Type} (star : π → Bool) (fits : π → α → Bool)
/-- do things fit a pattern, where a star stands for any number of them? -/
def glob : List π → List α → Bool
  | [], t => t.isEmpty
  | p :: ps, t => if star p then (List.range (t.length + 1)).any (fun j => glob ps (t.drop j)) else
      (match t.head? with | none => false | some a => fits p a) && glob ps t.tail
variable {star : π → Bool} {fits : π → α → Bool}
theorem glob_sign {p : π} {ps : List π} {a : α} {t : List α} (h : star p = false) : glob star fits (p :: ps) (a :: t) = (fits p a && glob star fits ps t) := by
  simp [glob, h]
theorem glob_sign_nil {p : π} {ps : List π} (h : star p = false) : glob star fits (p :: ps) ([] : List α) = false := by
  simp [glob, h]
/-- signs that are no stars take as many -/
theorem glob_takes : ∀ (d : Nat) {ps : List π} {t : List α}, (∀ x ∈ ps.take d, star x = false) → d ≤ ps.length → glob star fits ps t = true → d ≤ t.length ∧ glob star fits (ps.drop d) (t.drop d) = true
  | 0, ps, t, _, _, h => ⟨Nat.zero_le _, by simpa using h⟩
  | d + 1, [], t, _, hd, h => by simp at hd
  | d + 1, p :: ps, t, hs, hd, h => by
    have hp : star p = false := hs p (by simp)
    cases t with
    | nil => rw [glob_sign_nil hp] at h; cases h
    | cons a t =>
      rw [glob_sign hp, Bool.and_eq_true] at h
      have := glob_takes d (ps := ps) (t := t) (fun x hx => hs x (by simp [hx])) (by simpa using hd) h.2
      exact ⟨by simp; exact this.1, by simpa using this.2⟩
theorem drop_more {β : Type} (l : List β) {a b : Nat} (h : a ≤ b) : (l.drop a).drop (b - a) = l.drop b := by
  rw [List.drop_drop]; congr 1; omega
/-- what is still open: here, or from the last star on -/
def Later (star : π → Bool) (fits : π → α → Bool) (P : List π) (T : List α) (last : Option Nat) (from_ : Nat) : Prop :=
  ∃ l, last = some l ∧ ∃ j, from_ < j ∧ j ≤ T.length ∧ glob star fits (P.drop (l + 1)) (T.drop j) = true
structure Inv (star : π → Bool) (fits : π → α → Bool) (P : List π) (T : List α) (i k : Nat) (last : Option Nat) (from_ : Nat) : Prop where
  hi : i ≤ P.length
  hk : k ≤ T.length
  hf : from_ ≤ k
  hl : ∀ l, last = some l → l < i ∧ i - (l + 1) = k - from_ ∧ ∀ x ∈ (P.drop (l + 1)).take (i - (l + 1)), star x = false
  ans : glob star fits P T = true ↔ glob star fits (P.drop i) (T.drop k) = true ∨ Later star fits P T last from_
theorem Inv.start (P : List π) (T : List α) : Inv star fits P T 0 0 none 0 :=
  ⟨Nat.zero_le _, Nat.zero_le _, Nat.le_refl _, (fun l h => by cases h), by
    simp only [List.drop_zero]
    constructor
    · exact Or.inl
    · rintro (h | ⟨l, h, _⟩)
      · exact h
      · cases h⟩
/-- what comes later takes what was taken since the last star -/
theorem Inv.later {P : List π} {T : List α} {i k : Nat} {last : Option Nat} {from_ : Nat} (h : Inv star fits P T i k last from_) (hl : Later star fits P T last from_) :
    ∃ k2, k < k2 ∧ k2 ≤ T.length ∧ glob star fits (P.drop i) (T.drop k2) = true := by
  obtain ⟨l, rfl, j, hj, hjT, hg⟩ := hl
  obtain ⟨h1, h2, h3⟩ := h.hl l rfl
  have hi := h.hi
  have hf := h.hf
  have ht := glob_takes (i - (l + 1)) h3 (by rw [List.length_drop]; omega) hg
  rw [drop_more _ (by omega), List.drop_drop, List.length_drop] at ht
  exact ⟨j + (i - (l + 1)), by omega, by omega, ht.2⟩
theorem Inv.step {P : List π} {T : List α} {i k : Nat} {last : Option Nat} {from_ : Nat} (h : Inv star fits P T i k last from_) (hi : i < P.length) (hk : k < T.length) (hs : star P[i] = false) (hf : fits P[i] T[k] = true) :
    Inv star fits P T (i + 1) (k + 1) last from_ := by
  have hf2 := h.hf
  refine ⟨by omega, by omega, by omega, ?_, ?_⟩
  · intro l hl
    obtain ⟨h1, h2, h3⟩ := h.hl l hl
    refine ⟨by omega, by omega, ?_⟩
    rw [show i + 1 - (l + 1) = (i - (l + 1)) + 1 from by omega]
    have hlt : i - (l + 1) < (P.drop (l + 1)).length := by rw [List.length_drop]; omega
    rw [List.take_succ_eq_append_getElem hlt]
    intro x hx
    rcases List.mem_append.1 hx with hx | hx
    · exact h3 x hx
    · rw [List.mem_singleton] at hx
      rw [hx, List.getElem_drop]
      have e : l + 1 + (i - (l + 1)) = i := by omega
      simp only [e]
      exact hs
  · rw [h.ans, List.drop_eq_getElem_cons hi, List.drop_eq_getElem_cons hk, glob_sign hs, hf, Bool.true_and]
theorem Inv.back {P : List π} {T : List α} {i k l : Nat} {from_ : Nat} (h : Inv star fits P T i k (some l) from_) (hk : k < T.length) (hno : glob star fits (P.drop i) (T.drop k) = false) :
    Inv star fits P T (l + 1) (from_ + 1) (some l) (from_ + 1) := by
  obtain ⟨h1, h2, _⟩ := h.hl l rfl
  have hf := h.hf
  have hi := h.hi
  refine ⟨by omega, by omega, Nat.le_refl _, ?_, ?_⟩
  · intro l' e; cases e
    refine ⟨by omega, by omega, ?_⟩
    rw [Nat.sub_self]; simp
  · rw [h.ans, hno]
    constructor
    · rintro (hg | ⟨l', hl, j, h3, h4, hg⟩)
      · cases hg
      · cases hl
        rcases Nat.lt_or_ge (from_ + 1) j with h5 | h5
        · exact .inr ⟨l, rfl, j, h5, h4, hg⟩
        · obtain rfl : j = from_ + 1 := by omega
          exact .inl hg
    · rintro (hg | ⟨l', hl, j, h3, h4, hg⟩)
      · exact .inr ⟨l, rfl, from_ + 1, by omega, by omega, hg⟩
      · cases hl
        exact .inr ⟨l, rfl, j, by omega, h4, hg⟩
theorem Inv.fail {P : List π} {T : List α} {i k : Nat} {from_ : Nat} (h : Inv star fits P T i k none from_) (hno : glob star fits (P.drop i) (T.drop k) = false) : glob star fits P T = false := by
  rw [Bool.eq_false_iff]
  intro hg
  rcases h.ans.1 hg with h1 | ⟨l, hl, _⟩
  · rw [hno] at h1; cases h1
  · cases hl
end
end globs
end
section
open Go.RowKit
end
end Go.Proofs.YtphmhmdcaafmdaaGreatDoor
