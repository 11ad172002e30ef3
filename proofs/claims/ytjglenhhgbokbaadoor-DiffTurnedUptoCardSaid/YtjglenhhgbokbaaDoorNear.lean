/-
  What is in a directory stands right behind it: plainly. No condition.
-/
import Derived.Test.YtjglenhhgbokbaaDoorSplit
import Derived.Test.YtjglenhhgbokbaaDoorPathIn
namespace Go.Proofs.YtjglenhhgbokbaaDoor

theorem splitC_append (c : UInt8) : ∀ (a r : List UInt8), splitC c (a ++ c :: r) = splitC c a ++ splitC c r := by
  intro a
  induction a with
  | nil => intro r; rw [List.nil_append, splitC]; simp [splitC]
  | cons b a ih =>
    intro r
    rw [List.cons_append, splitC, splitC, ih r]
    by_cases e : b = c
    · rw [if_pos e, if_pos e]; rfl
    · rw [if_neg e, if_neg e]
      cases h : splitC c a with
      | nil => exact absurd h (splitC_ne c a)
      | cons x y => rfl
theorem cmpL_front : ∀ (a : List (List UInt8)) {b : List (List UInt8)}, b ≠ [] → cmpL a (a ++ b) = -1
  | [], b, h => by cases b with | nil => exact absurd rfl h | cons x y => rfl
  | x :: a, b, h => by rw [List.cons_append, cmpL, if_pos (cmpB_self x)]; exact cmpL_front a h
theorem cmpL_between : ∀ (a : List (List UInt8)) {x b : List (List UInt8)}, cmpL a x < 0 → cmpL x (a ++ b) < 0 → ∃ c, c ≠ [] ∧ x = a ++ c
  | [], x, b, h1, _ => by
    cases x with
    | nil => simp [cmpL] at h1
    | cons y x => exact ⟨y :: x, by simp, rfl⟩
  | y :: a, [], b, h1, _ => by simp [cmpL] at h1
  | y :: a, z :: x, b, h1, h2 => by
    rw [List.cons_append] at h2
    by_cases e : cmpB y z = 0
    · have e2 := cmpB_zero e
      subst e2
      rw [cmpL, if_pos e] at h1 h2
      obtain ⟨c, hc, hx⟩ := cmpL_between a h1 h2
      exact ⟨c, hc, by rw [hx]; rfl⟩
    · have e3 : ¬ cmpB z y = 0 := by have := cmpB_neg y z; omega
      rw [cmpL, if_neg e] at h1
      rw [cmpL, if_neg e3] at h2
      have := cmpB_neg y z
      omega
theorem joinC_append (c : UInt8) : ∀ {a b : List (List UInt8)}, a ≠ [] → b ≠ [] → joinC c (a ++ b) = joinC c a ++ c :: joinC c b := by
  intro a
  induction a with
  | nil => intro b h; exact absurd rfl h
  | cons x a ih =>
    intro b _ hb
    cases a with
    | nil =>
      cases b with
      | nil => exact absurd rfl hb
      | cons y b => rfl
    | cons z a =>
      rw [List.cons_append, List.cons_append, joinC, joinC, ← List.cons_append, ih (by simp) hb]
      simp
theorem inB_iff {e d : List UInt8} (hd : d ≠ []) : inB e d = true ↔ ∃ r, e = d ++ 47 :: r := by
  have h1 : inB e d = Lib.hasPrefix e (d ++ [47]) := by
    unfold inB
    cases d with
    | nil => exact absurd rfl hd
    | cons b d => simp
  rw [h1]
  constructor
  · intro h
    have h2 : (d ++ [47]).isPrefixOf e = true := h
    rw [List.isPrefixOf_iff_prefix] at h2
    obtain ⟨r, hr⟩ := h2
    exact ⟨r, by rw [← hr]; simp⟩
  · rintro ⟨r, rfl⟩
    have := hasPrefix_append (d ++ [47]) r
    rwa [List.append_assoc] at this
theorem near_less {e d : List UInt8} (hd : d ≠ []) (h : inB e d = true) : cmpP d e = -1 := by
  obtain ⟨r, rfl⟩ := (inB_iff hd).1 h
  unfold cmpP partsS
  rw [if_neg hd, if_neg (by simp), splitC_append]
  exact cmpL_front _ (splitC_ne _ _)
theorem near_in {e d x : List UInt8} (hd : d ≠ []) (hx : x ≠ []) (h : inB e d = true) (h1 : cmpP d x < 0) (h2 : cmpP x e < 0) : inB x d = true := by
  obtain ⟨r, rfl⟩ := (inB_iff hd).1 h
  unfold cmpP partsS at h1 h2
  rw [if_neg hd, if_neg hx] at h1
  rw [if_neg hx, if_neg (by simp), splitC_append] at h2
  obtain ⟨c, hc, hxx⟩ := cmpL_between _ h1 h2
  have h3 := join_split 47 x
  rw [hxx, joinC_append 47 (splitC_ne _ _) hc, join_split] at h3
  exact (inB_iff hd).2 ⟨_, h3.symm⟩
end Go.Proofs.YtjglenhhgbokbaaDoor
