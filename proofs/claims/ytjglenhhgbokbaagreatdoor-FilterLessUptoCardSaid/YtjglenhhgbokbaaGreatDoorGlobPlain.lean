/-
  Patterns made of a path, and of stars, over a path made of names: plainly. No condition.
-/
import Derived.Test.YtjglenhhgbokbaaGreatDoorGlobPart
import Derived.Test.YtjglenhhgbokbaaGreatDoorGrowP
namespace Go.Proofs.YtjglenhhgbokbaaGreatDoor

theorem mem_splitC {c b : UInt8} (hb : b ≠ c) : ∀ {l : List UInt8}, b ∈ l → ∃ q ∈ splitC c l, b ∈ q := by
  intro l h
  have h2 := join_split c l
  rw [← h2] at h
  clear h2
  generalize splitC c l = ps at h
  induction ps with
  | nil => simp [joinC] at h
  | cons x ps ih =>
    cases ps with
    | nil => exact ⟨x, by simp, by simpa [joinC] using h⟩
    | cons y ps =>
      rw [joinC] at h
      rcases List.mem_append.1 h with h | h
      · exact ⟨x, by simp, h⟩
      · rcases List.mem_cons.1 h with h | h
        · exact absurd h hb
        · obtain ⟨q, hq, hbq⟩ := ih h
          exact ⟨q, List.mem_cons_of_mem _ hq, hbq⟩
theorem parts_no {p : List UInt8} (h : PartsOk p) : (0 : UInt8) ∉ p ∧ (91 : UInt8) ∉ p ∧ (42 : UInt8) ∉ p ∧ (63 : UInt8) ∉ p := by
  refine ⟨fun hb => ?_, fun hb => ?_, fun hb => ?_, fun hb => ?_⟩
  · obtain ⟨q, hq, hbq⟩ := mem_splitC (c := 47) (by decide) hb
    exact (namesL_ok q (h.2 q hq)).2.2.1 hbq
  · obtain ⟨q, hq, hbq⟩ := mem_splitC (c := 47) (by decide) hb
    exact (namesL_ok q (h.2 q hq)).2.2.2.2.2.1 hbq
  · obtain ⟨q, hq, hbq⟩ := mem_splitC (c := 47) (by decide) hb
    exact (namesL_ok q (h.2 q hq)).2.2.2.2.2.2.1 hbq
  · obtain ⟨q, hq, hbq⟩ := mem_splitC (c := 47) (by decide) hb
    exact (namesL_ok q (h.2 q hq)).2.2.2.2.2.2.2 hbq
theorem parts_check {p : List UInt8} (h : PartsOk p) (hl : p.length ≤ 400) : checkS p = 0 := by
  have h1 : 1 ≤ p.length := by cases p with | nil => exact absurd rfl h.1 | cons => simp
  have h2 : (splitC 47 p).any badPart = false := by
    rw [List.any_eq_false]
    intro q hq
    obtain ⟨a1, _, _, a4, a5, _⟩ := namesL_ok q (h.2 q hq)
    simp [badPart, a1, a4, a5]
  unfold checkS
  rw [if_neg (by omega), if_neg (parts_no h).1, h2]
  rfl

/-! ### a path as a pattern -/
def litP (q : List UInt8) : List Piece := q.map .inl
theorem textPs_lit (q : List UInt8) : textPs (litP q) = q := by
  unfold textPs litP
  rw [List.map_map]
  induction q with
  | nil => rfl
  | cons b q ih => rw [List.map_cons, List.flatten_cons, ih]; rfl
theorem fits_lit : ∀ {q : List UInt8}, (42 : UInt8) ∉ q → (63 : UInt8) ∉ q → ∀ x : List UInt8, fitsQ (litP q) x = (q == x)
  | [], _, _, x => by cases x <;> rfl
  | b :: q, h1, h2, x => by
    have hs : starP (.inl b) = false := by
      show (b == 42) = false
      rw [beq_eq_false_iff_ne]
      rintro rfl
      exact h1 (by simp)
    have hb : (b == 63) = false := by
      rw [beq_eq_false_iff_ne]
      rintro rfl
      exact h2 (by simp)
    unfold fitsQ litP
    rw [List.map_cons]
    cases x with
    | nil => rw [globs.glob_sign_nil hs]; rfl
    | cons c x =>
      rw [globs.glob_sign hs]
      have ih := fits_lit (q := q) (fun h => h1 (by simp [h])) (fun h => h2 (by simp [h])) x
      unfold fitsQ litP at ih
      rw [ih]
      show ((b == 63 || b == c) && (q == x)) = (b :: q == c :: x)
      rw [hb, Bool.false_or]
      rfl
theorem star_lit {q : List UInt8} (h : (42 : UInt8) ∉ q) : starQ (litP q) = false := by
  unfold starQ
  rw [textPs_lit, beq_eq_false_iff_ne]
  rintro rfl
  exact h (by simp)
theorem glob_lit : ∀ {ps : List (List UInt8)}, (∀ q ∈ ps, (42 : UInt8) ∉ q ∧ (63 : UInt8) ∉ q) → ∀ ss : List (List UInt8), globs.glob starQ fitsQ (ps.map litP) ss = (ps == ss)
  | [], _, ss => by cases ss <;> rfl
  | q :: ps, h, ss => by
    obtain ⟨h1, h2⟩ := h q (by simp)
    rw [List.map_cons]
    cases ss with
    | nil => rw [globs.glob_sign_nil (star_lit h1)]; rfl
    | cons s ss => rw [globs.glob_sign (star_lit h1), fits_lit h1 h2, glob_lit (fun q hq => h q (by simp [hq])) ss]; rfl
theorem pattern_lit {p : List UInt8} (h : PartsOk p) (hl : p.length ≤ 400) : Pattern p ((splitC 47 p).map litP) := by
  refine ⟨by cases p with | nil => exact absurd rfl h.1 | cons => simp, hl, ?_, fun l hl2 => ?_⟩
  · rw [List.map_map]
    conv => lhs; rw [← List.map_id (splitC 47 p)]
    exact List.map_congr_left fun q _ => (textPs_lit q).symm
  · obtain ⟨q, hq, rfl⟩ := List.mem_map.1 hl2
    obtain ⟨n1, _, _, _, _, n91, _⟩ := namesL_ok q (h.2 q hq)
    refine ⟨by cases q with | nil => exact absurd rfl n1 | cons => simp [litP], fun z hz => ?_⟩
    obtain ⟨b, hb, rfl⟩ := List.mem_map.1 hz
    show b ≠ 91
    rintro rfl
    exact n91 hb
theorem glob_self {s t : List UInt8} (hs : PartsOk s) : globs.glob starQ fitsQ ((splitC 47 s).map litP) (splitC 47 t) = (s == t) := by
  rw [glob_lit (fun q hq => by obtain ⟨_, _, _, _, _, _, a, b⟩ := namesL_ok q (hs.2 q hq); exact ⟨a, b⟩), Bool.eq_iff_iff, beq_iff_eq, beq_iff_eq]
  exact ⟨fun h => by rw [← join_split 47 s, h, join_split], fun h => by rw [h]⟩

/-! ### stars -/
def oneStar : List Piece := [.inl 42]
def twoStars : List Piece := [.inl 42, .inl 42]
theorem star_two : starQ twoStars = true := by decide
theorem star_one : starQ oneStar = false := by decide
theorem fits_one (x : List UInt8) : fitsQ oneStar x = true := by
  unfold fitsQ oneStar
  rw [globs.glob_star (by rfl)]
  exact ⟨x.length, Nat.le_refl _, by rw [List.drop_length]; rfl⟩
theorem glob_two (ss : List (List UInt8)) : globs.glob starQ fitsQ [twoStars] ss = true := by
  rw [globs.glob_star star_two]
  exact ⟨ss.length, Nat.le_refl _, by rw [List.drop_length]; rfl⟩
theorem glob_ones : ∀ (n : Nat) (ss : List (List UInt8)), globs.glob starQ fitsQ (List.replicate n oneStar) ss = decide (ss.length = n)
  | 0, ss => by cases ss <;> simp [globs.glob]
  | n + 1, [] => by rw [List.replicate_succ, globs.glob_sign_nil star_one]; simp
  | n + 1, s :: ss => by
    rw [List.replicate_succ, globs.glob_sign star_one, fits_one, glob_ones n ss]
    simp
theorem glob_last {ss : List (List UInt8)} (h : ss ≠ []) : globs.glob starQ fitsQ [twoStars, oneStar] ss = true := by
  rw [globs.glob_star star_two]
  refine ⟨ss.length - 1, by omega, ?_⟩
  have := glob_ones 1 (ss.drop (ss.length - 1))
  rw [show List.replicate 1 oneStar = [oneStar] from rfl] at this
  rw [this, decide_eq_true_eq, List.length_drop]
  have : 0 < ss.length := List.length_pos_iff.2 h
  omega
theorem pattern_two : Pattern [42, 42] [twoStars] := ⟨by decide, by decide, by decide, fun l hl => by rw [List.mem_singleton] at hl; subst hl; exact ⟨by decide, fun q hq => by simp [twoStars] at hq; subst hq; exact (by decide : (42 : UInt8) ≠ 91)⟩⟩
theorem pattern_one1 : Pattern [42] [oneStar] := ⟨by decide, by decide, by decide, fun l hl => by rw [List.mem_singleton] at hl; subst hl; exact ⟨by decide, fun q hq => by simp [oneStar] at hq; subst hq; exact (by decide : (42 : UInt8) ≠ 91)⟩⟩
theorem pattern_last : Pattern [42, 42, 47, 42] [twoStars, oneStar] := ⟨by decide, by decide, by decide, fun l hl => by
  simp only [List.mem_cons, List.mem_nil_iff, or_false] at hl
  rcases hl with rfl | rfl
  · exact ⟨by decide, fun q hq => by simp [twoStars] at hq; subst hq; exact (by decide : (42 : UInt8) ≠ 91)⟩
  · exact ⟨by decide, fun q hq => by simp [oneStar] at hq; subst hq; exact (by decide : (42 : UInt8) ≠ 91)⟩⟩
/-- n stars, joined -/
def stars : Nat → List UInt8
  | 0 => [42]
  | n + 1 => 42 :: 47 :: stars n
theorem stars_split : ∀ n, splitC 47 (stars n) = List.replicate (n + 1) [42]
  | 0 => by decide
  | n + 1 => by
    rw [stars, show (42 : UInt8) :: 47 :: stars n = [42] ++ 47 :: stars n from rfl, splitC_append, stars_split n]
    rfl
theorem stars_length : ∀ n, (stars n).length = 2 * n + 1
  | 0 => rfl
  | n + 1 => by rw [stars, List.length_cons, List.length_cons, stars_length n]; omega
theorem stars_repeat : ∀ n, Lib.repeatL [42, 47] (n + 1) = stars n ++ [47]
  | 0 => rfl
  | n + 1 => by
    have := stars_repeat n
    rw [show Lib.repeatL [42, 47] (n + 1 + 1) = [42, 47] ++ Lib.repeatL [42, 47] (n + 1) from rfl, this]
    rfl
theorem pattern_stars {n : Nat} (h : 2 * n + 1 ≤ 400) : Pattern (stars n) (List.replicate (n + 1) oneStar) := by
  refine ⟨by rw [stars_length]; omega, by rw [stars_length]; exact h, ?_, fun l hl => ?_⟩
  · rw [stars_split, List.map_replicate]; rfl
  · rw [List.eq_of_mem_replicate hl]
    exact pattern_one1.ok oneStar (by simp)
end Go.Proofs.YtjglenhhgbokbaaGreatDoor
