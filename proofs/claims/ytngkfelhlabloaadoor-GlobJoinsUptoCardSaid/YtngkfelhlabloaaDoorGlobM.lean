/-
  The plain law of wild: the search that goes back to its last star finds a fit just if there is one. No condition, no program.
-/
import Derived.Test.YtngkfelhlabloaaDoorFrame
namespace Go.Proofs.YtngkfelhlabloaaDoor.globs

section
variable {π α : Type} (star : π → Bool) (fits : π → α → Bool)
/-- do things fit a pattern, where a star stands for any number of them? -/
def glob : List π → List α → Bool
  | [], t => t.isEmpty
  | p :: ps, t => if star p then (List.range (t.length + 1)).any (fun j => glob ps (t.drop j)) else
      (match t.head? with | none => false | some a => fits p a) && glob ps t.tail
variable {star : π → Bool} {fits : π → α → Bool}
theorem glob_star {p : π} {ps : List π} {t : List α} (h : star p = true) : glob star fits (p :: ps) t = true ↔ ∃ j, j ≤ t.length ∧ glob star fits ps (t.drop j) = true := by
  simp only [glob, if_pos h, List.any_eq_true]
  constructor
  · rintro ⟨j, hj, h⟩; rw [List.mem_range] at hj; exact ⟨j, by omega, h⟩
  · rintro ⟨j, hj, h⟩; exact ⟨j, List.mem_range.2 (by omega), h⟩
theorem glob_sign {p : π} {ps : List π} {a : α} {t : List α} (h : star p = false) : glob star fits (p :: ps) (a :: t) = (fits p a && glob star fits ps t) := by
  simp [glob, h]
theorem glob_sign_nil {p : π} {ps : List π} (h : star p = false) : glob star fits (p :: ps) ([] : List α) = false := by
  simp [glob, h]
/-- signs that are no stars take as many -/
theorem glob_takes : ∀ (d : Nat) {ps : List π} {t : List α}, (∀ x ∈ ps.take d, star x = false) → d ≤ ps.length → glob star fits ps t = true → d ≤ t.length ∧ glob star fits (ps.drop d) (t.drop d) = true
  | 0, ps, t, _, _, h => ⟨Nat.zero_le _, by simpa using h⟩
  | d + 1, [], t, _, hd, h => by simp at hd
  | d + 1, p :: ps, t, hs, hd, h => by
    have hp : star p = false := hs p (by simp)
    cases t with
    | nil => rw [glob_sign_nil hp] at h; cases h
    | cons a t =>
      rw [glob_sign hp, Bool.and_eq_true] at h
      have := glob_takes d (ps := ps) (t := t) (fun x hx => hs x (by simp [hx])) (by simpa using hd) h.2
      exact ⟨by simp; exact this.1, by simpa using this.2⟩
theorem drop_more {β : Type} (l : List β) {a b : Nat} (h : a ≤ b) : (l.drop a).drop (b - a) = l.drop b := by
  rw [List.drop_drop]; congr 1; omega
theorem glob_star_more {P : List π} {T : List α} {i k k2 : Nat} (hi : i < P.length) (hs : star P[i] = true) (hk : k ≤ k2) (h2 : k2 ≤ T.length)
    (h : glob star fits (P.drop i) (T.drop k2) = true) : glob star fits (P.drop i) (T.drop k) = true := by
  rw [List.drop_eq_getElem_cons hi] at h ⊢
  obtain ⟨j, hj, hg⟩ := (glob_star hs).1 h
  rw [List.drop_drop] at hg
  refine (glob_star hs).2 ⟨j + (k2 - k), ?_, ?_⟩
  · rw [List.length_drop] at hj ⊢; omega
  · rw [List.drop_drop]; rw [← hg]; congr 2; omega

/-- what is still open: here, or from the last star on -/
def Later (star : π → Bool) (fits : π → α → Bool) (P : List π) (T : List α) (last : Option Nat) (from_ : Nat) : Prop :=
  ∃ l, last = some l ∧ ∃ j, from_ < j ∧ j ≤ T.length ∧ glob star fits (P.drop (l + 1)) (T.drop j) = true
structure Inv (star : π → Bool) (fits : π → α → Bool) (P : List π) (T : List α) (i k : Nat) (last : Option Nat) (from_ : Nat) : Prop where
  hi : i ≤ P.length
  hk : k ≤ T.length
  hf : from_ ≤ k
  hl : ∀ l, last = some l → l < i ∧ i - (l + 1) = k - from_ ∧ ∀ x ∈ (P.drop (l + 1)).take (i - (l + 1)), star x = false
  ans : glob star fits P T = true ↔ glob star fits (P.drop i) (T.drop k) = true ∨ Later star fits P T last from_

theorem Inv.start (P : List π) (T : List α) : Inv star fits P T 0 0 none 0 :=
  ⟨Nat.zero_le _, Nat.zero_le _, Nat.le_refl _, (fun l h => by cases h), by
    simp only [List.drop_zero]
    constructor
    · exact Or.inl
    · rintro (h | ⟨l, h, _⟩)
      · exact h
      · cases h⟩
/-- what comes later takes what was taken since the last star -/
theorem Inv.later {P : List π} {T : List α} {i k : Nat} {last : Option Nat} {from_ : Nat} (h : Inv star fits P T i k last from_) (hl : Later star fits P T last from_) :
    ∃ k2, k < k2 ∧ k2 ≤ T.length ∧ glob star fits (P.drop i) (T.drop k2) = true := by
  obtain ⟨l, rfl, j, hj, hjT, hg⟩ := hl
  obtain ⟨h1, h2, h3⟩ := h.hl l rfl
  have hi := h.hi
  have hf := h.hf
  have ht := glob_takes (i - (l + 1)) h3 (by rw [List.length_drop]; omega) hg
  rw [drop_more _ (by omega), List.drop_drop, List.length_drop] at ht
  exact ⟨j + (i - (l + 1)), by omega, by omega, ht.2⟩
theorem Inv.onStar {P : List π} {T : List α} {i k : Nat} {last : Option Nat} {from_ : Nat} (h : Inv star fits P T i k last from_) (hi : i < P.length) (hs : star P[i] = true) :
    Inv star fits P T (i + 1) k (some i) k := by
  have hk := h.hk
  refine ⟨by omega, h.hk, Nat.le_refl _, ?_, ?_⟩
  · rintro l hl; cases hl
    refine ⟨by omega, by omega, ?_⟩
    rw [Nat.sub_self]; simp
  · have e : glob star fits (P.drop i) (T.drop k) = true ↔ glob star fits (P.drop (i + 1)) (T.drop k) = true ∨ Later star fits P T (some i) k := by
      rw [List.drop_eq_getElem_cons hi, glob_star hs]
      constructor
      · rintro ⟨j, hj, hg⟩
        rw [List.drop_drop] at hg
        rw [List.length_drop] at hj
        rcases Nat.eq_zero_or_pos j with rfl | h0
        · exact .inl hg
        · exact .inr ⟨i, rfl, k + j, by omega, by omega, hg⟩
      · rintro (hg | ⟨l, hl, j, h1, h2, hg⟩)
        · exact ⟨0, Nat.zero_le _, by simpa using hg⟩
        · cases hl
          refine ⟨j - k, by rw [List.length_drop]; omega, ?_⟩
          rw [drop_more _ (by omega)]; exact hg
    rw [h.ans, ← e]
    constructor
    · rintro (hg | hg)
      · exact hg
      · obtain ⟨k2, h1, h2, h3⟩ := h.later hg
        exact glob_star_more hi hs (by omega) h2 h3
    · exact Or.inl
theorem Inv.step {P : List π} {T : List α} {i k : Nat} {last : Option Nat} {from_ : Nat} (h : Inv star fits P T i k last from_) (hi : i < P.length) (hk : k < T.length) (hs : star P[i] = false) (hf : fits P[i] T[k] = true) :
    Inv star fits P T (i + 1) (k + 1) last from_ := by
  have hf2 := h.hf
  refine ⟨by omega, by omega, by omega, ?_, ?_⟩
  · intro l hl
    obtain ⟨h1, h2, h3⟩ := h.hl l hl
    refine ⟨by omega, by omega, ?_⟩
    rw [show i + 1 - (l + 1) = (i - (l + 1)) + 1 from by omega]
    have hlt : i - (l + 1) < (P.drop (l + 1)).length := by rw [List.length_drop]; omega
    rw [List.take_succ_eq_append_getElem hlt]
    intro x hx
    rcases List.mem_append.1 hx with hx | hx
    · exact h3 x hx
    · rw [List.mem_singleton] at hx
      rw [hx, List.getElem_drop]
      have e : l + 1 + (i - (l + 1)) = i := by omega
      simp only [e]
      exact hs
  · rw [h.ans, List.drop_eq_getElem_cons hi, List.drop_eq_getElem_cons hk, glob_sign hs, hf, Bool.true_and]
theorem Inv.back {P : List π} {T : List α} {i k l : Nat} {from_ : Nat} (h : Inv star fits P T i k (some l) from_) (hk : k < T.length) (hno : glob star fits (P.drop i) (T.drop k) = false) :
    Inv star fits P T (l + 1) (from_ + 1) (some l) (from_ + 1) := by
  obtain ⟨h1, h2, _⟩ := h.hl l rfl
  have hf := h.hf
  have hi := h.hi
  refine ⟨by omega, by omega, Nat.le_refl _, ?_, ?_⟩
  · intro l' e; cases e
    refine ⟨by omega, by omega, ?_⟩
    rw [Nat.sub_self]; simp
  · rw [h.ans, hno]
    constructor
    · rintro (hg | ⟨l', hl, j, h3, h4, hg⟩)
      · cases hg
      · cases hl
        rcases Nat.lt_or_ge (from_ + 1) j with h5 | h5
        · exact .inr ⟨l, rfl, j, h5, h4, hg⟩
        · obtain rfl : j = from_ + 1 := by omega
          exact .inl hg
    · rintro (hg | ⟨l', hl, j, h3, h4, hg⟩)
      · exact .inr ⟨l, rfl, from_ + 1, by omega, by omega, hg⟩
      · cases hl
        exact .inr ⟨l, rfl, j, by omega, h4, hg⟩
theorem Inv.fail {P : List π} {T : List α} {i k : Nat} {from_ : Nat} (h : Inv star fits P T i k none from_) (hno : glob star fits (P.drop i) (T.drop k) = false) : glob star fits P T = false := by
  rw [Bool.eq_false_iff]
  intro hg
  rcases h.ans.1 hg with h1 | ⟨l, hl, _⟩
  · rw [hno] at h1; cases h1
  · cases hl
theorem Inv.done {P : List π} {T : List α} {i : Nat} {last : Option Nat} {from_ : Nat} (h : Inv star fits P T i T.length last from_) : glob star fits P T = glob star fits (P.drop i) [] := by
  rw [Bool.eq_iff_iff, h.ans, List.drop_length]
  constructor
  · rintro (hg | hg)
    · exact hg
    · obtain ⟨k2, h1, h2, _⟩ := h.later hg
      omega
  · exact Or.inl
theorem no_end {P : List π} {T : List α} {k : Nat} (hk : k < T.length) : glob star fits (P.drop P.length) (T.drop k) = false := by
  rw [List.drop_length, List.drop_eq_getElem_cons hk]; rfl
theorem no_sign {P : List π} {T : List α} {i k : Nat} (hi : i < P.length) (hk : k < T.length) (hs : star P[i] = false) (hf : fits P[i] T[k] = false) : glob star fits (P.drop i) (T.drop k) = false := by
  rw [List.drop_eq_getElem_cons hi, List.drop_eq_getElem_cons hk, glob_sign hs, hf]; rfl
theorem tail_star {P : List π} {i : Nat} (hi : i < P.length) (hs : star P[i] = true) : glob star fits (P.drop i) ([] : List α) = glob star fits (P.drop (i + 1)) [] := by
  rw [Bool.eq_iff_iff, List.drop_eq_getElem_cons hi, glob_star hs]
  constructor
  · rintro ⟨j, _, h⟩; simpa using h
  · intro h; exact ⟨0, Nat.zero_le _, by simpa using h⟩
theorem tail_sign {P : List π} {i : Nat} (hi : i < P.length) (hs : star P[i] = false) : glob star fits (P.drop i) ([] : List α) = false := by
  rw [List.drop_eq_getElem_cons hi, glob_sign_nil hs]
theorem tail_end (P : List π) : glob star fits (P.drop P.length) ([] : List α) = true := by rw [List.drop_length]; rfl
end

/-- the measure of the search -/
def nx (last : Option Nat) : Nat := (last.map (· + 1)).getD 0
def rank (n m : Nat) (last : Option Nat) (from_ k : Nat) : Nat := (n + 1 - nx last) * ((m + 2) * (m + 2)) + (m + 1 - from_) * (m + 2) + (m - k)
theorem rank_star {n m i k f from_ k' : Nat} {last : Option Nat} (hi : i < n) (hl : ∀ l, last = some l → l < i) (hk' : k' ≤ m) : rank n m (some i) f k' < rank n m last from_ k := by
  have h1 : (n + 1 - (i + 1)) + 1 ≤ n + 1 - nx last := by
    cases last with
    | none => simp only [nx, Option.map_none, Option.getD_none]; omega
    | some l => have := hl l rfl; simp only [nx, Option.map_some, Option.getD_some]; omega
  have e : nx (some i) = i + 1 := rfl
  unfold rank
  rw [e]
  generalize n + 1 - nx last = b at *
  generalize n + 1 - (i + 1) = a at *
  have h2 : (a + 1) * ((m + 2) * (m + 2)) ≤ b * ((m + 2) * (m + 2)) := Nat.mul_le_mul_right _ h1
  have h3 : (m + 1 - f) * (m + 2) ≤ (m + 1) * (m + 2) := Nat.mul_le_mul_right _ (by omega)
  have h4 : (m + 2) * (m + 2) = (m + 1) * (m + 2) + (m + 2) := Nat.succ_mul (m + 1) (m + 2)
  rw [Nat.succ_mul] at h2
  generalize a * ((m + 2) * (m + 2)) = A at *
  generalize b * ((m + 2) * (m + 2)) = B at *
  generalize (m + 1 - f) * (m + 2) = C at *
  generalize (m + 1 - from_) * (m + 2) = D at *
  generalize (m + 2) * (m + 2) = G at *
  generalize (m + 1) * (m + 2) = E at *
  omega
theorem rank_step {n m f k : Nat} {last : Option Nat} (hk : k < m) : rank n m last f (k + 1) < rank n m last f k := by unfold rank; omega
theorem rank_back {n m f k : Nat} {last : Option Nat} (hf : f ≤ k) (hk : k < m) : rank n m last (f + 1) (f + 1) < rank n m last f k := by
  unfold rank
  have h1 : m + 1 - f = (m + 1 - (f + 1)) + 1 := by omega
  rw [h1, Nat.succ_mul (m + 1 - (f + 1))]
  omega
end Go.Proofs.YtngkfelhlabloaaDoor.globs
