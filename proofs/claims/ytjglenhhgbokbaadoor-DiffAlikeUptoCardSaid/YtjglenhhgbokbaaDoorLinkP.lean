/-
  Files that are one, plainly: first ones, names. No program in sight, no condition.
-/
import Derived.Test.YtjglenhhgbokbaaDoorTreeV
import Derived.Test.YtjglenhhgbokbaaDoorIMap
namespace Go.Proofs.YtjglenhhgbokbaaDoor
open Go.RowKit

def sameAt (s : Int) (x : NodeP) : Bool := x.same == s
def firstAt (t : List NodeP) (i : Nat) : Nat := if (t.getD i default).same = 0 then i else (t.findIdx? (sameAt (t.getD i default).same)).getD i
def firstsP (t : List NodeP) : List Int := (List.range t.length).map fun i => (firstAt t i : Int)
theorem firstsP_length (t : List NodeP) : (firstsP t).length = t.length := by simp [firstsP]
theorem firstsP_take {t : List NodeP} {k : Nat} (hk : k < t.length) : (firstsP t).take (k + 1) = (firstsP t).take k ++ [(firstAt t k : Int)] := by
  rw [List.take_succ_eq_append_getElem (by rw [firstsP_length]; exact hk)]
  congr 1
  simp [firstsP]
theorem firstsP_at {t : List NodeP} {k : Nat} (hk : k < t.length) : (firstsP t)[k]? = some (firstAt t k : Int) := by
  unfold firstsP
  rw [List.getElem?_map, List.getElem?_range hk]; rfl
/-- what the table holds behind k rounds -/
def FirstM (t : List NodeP) (k : Nat) (M : List (Int × Value)) : Prop := ∀ s : Int, s ≠ 0 → mapGet M s = ((t.take k).findIdx? (sameAt s)).map fun i => Value.int .i64 (i : Int)
theorem FirstM.start (t : List NodeP) : FirstM t 0 [] := fun _ _ => rfl
theorem take_idx {t : List NodeP} {k : Nat} (hk : k < t.length) (s : Int) : (t.take (k + 1)).findIdx? (sameAt s) = ((t.take k).findIdx? (sameAt s)).or (if t[k].same = s then some k else none) := by
  rw [List.take_succ_eq_append_getElem hk, List.findIdx?_append, List.length_take, Nat.min_eq_left (Nat.le_of_lt hk)]
  congr 1
  by_cases h : t[k].same = s
  · rw [if_pos h]; simp [sameAt, h]
  · rw [if_neg h]; simp [sameAt, h]
theorem take_some {t : List NodeP} {k j : Nat} {s : Int} (h : (t.take k).findIdx? (sameAt s) = some j) : t.findIdx? (sameAt s) = some j := by
  rw [← List.take_append_drop k t, List.findIdx?_append, h]; rfl
theorem FirstM.none_ {t : List NodeP} {k : Nat} {M : List (Int × Value)} (h : FirstM t k M) (hk : k < t.length) (h0 : t[k].same = 0) : FirstM t (k + 1) M ∧ firstAt t k = k := by
  refine ⟨fun s hs => ?_, ?_⟩
  · rw [take_idx hk, if_neg (by rw [h0]; exact fun e => hs e.symm), Option.or_none]
    exact h s hs
  · unfold firstAt; rw [getD_at hk, if_pos h0]
theorem FirstM.old {t : List NodeP} {k : Nat} {M : List (Int × Value)} {v : Value} (h : FirstM t k M) (hk : k < t.length) (h0 : t[k].same ≠ 0) (hv : mapGet M t[k].same = some v) : FirstM t (k + 1) M ∧ v = .int .i64 (firstAt t k : Int) := by
  have h1 := h _ h0
  rw [hv] at h1
  cases hq : (t.take k).findIdx? (sameAt t[k].same) with
  | none => rw [hq] at h1; cases h1
  | some j =>
    refine ⟨fun s hs => ?_, ?_⟩
    · rw [take_idx hk]
      by_cases e : t[k].same = s
      · rw [← e, hq, Option.some_or, ← hq]; exact h _ h0
      · rw [if_neg e, Option.or_none]; exact h s hs
    · rw [hq] at h1
      unfold firstAt
      rw [getD_at hk, if_neg h0, take_some hq]
      injection h1
theorem FirstM.fresh {t : List NodeP} {k : Nat} {M : List (Int × Value)} (h : FirstM t k M) (hk : k < t.length) (h0 : t[k].same ≠ 0) (hv : mapGet M t[k].same = none) : FirstM t (k + 1) (mapPut M t[k].same (.int .i64 (k : Int))) ∧ firstAt t k = k := by
  have h1 := h _ h0
  rw [hv] at h1
  have hq : (t.take k).findIdx? (sameAt t[k].same) = none := by
    cases hq : (t.take k).findIdx? (sameAt t[k].same) with
    | none => rfl
    | some j => rw [hq] at h1; cases h1
  have hf : (t.take (k + 1)).findIdx? (sameAt t[k].same) = some k := by rw [take_idx hk, hq, if_pos rfl]; rfl
  refine ⟨fun s hs => ?_, ?_⟩
  · rw [mapGet_put]
    by_cases e : s = t[k].same
    · rw [if_pos e, e, hf]; rfl
    · rw [if_neg e, take_idx hk, if_neg (fun a => e a.symm), Option.or_none]; exact h s hs
  · unfold firstAt
    rw [getD_at hk, if_neg h0, take_some hf]; rfl
/-- the first of a file is its own first -/
theorem firstAt_spec {t : List NodeP} {i : Nat} (hi : i < t.length) : firstAt t i ≤ i ∧ firstAt t (firstAt t i) = firstAt t i ∧
    (firstAt t i ≠ i → ∃ h : firstAt t i < t.length, t[firstAt t i].same = t[i].same ∧ t[i].same ≠ 0) := by
  by_cases h0 : t[i].same = 0
  · have e : firstAt t i = i := by unfold firstAt; rw [getD_at hi, if_pos h0]
    rw [e]
    exact ⟨Nat.le_refl _, e, fun h => absurd rfl h⟩
  · cases hq : t.findIdx? (sameAt t[i].same) with
    | none =>
      rw [List.findIdx?_eq_none_iff] at hq
      have := hq t[i] (List.getElem_mem _)
      simp [sameAt] at this
    | some k =>
      have e : firstAt t i = k := by unfold firstAt; rw [getD_at hi, if_neg h0, hq]; rfl
      rw [List.findIdx?_eq_some_iff_getElem] at hq
      obtain ⟨hk, h1, h2⟩ := hq
      have h1 : t[k].same = t[i].same := by simpa [sameAt] using h1
      have hki : k ≤ i := by
        rcases Nat.lt_or_ge i k with a | a
        · exact absurd (by simp [sameAt]) (h2 i a)
        · exact a
      rw [e]
      refine ⟨hki, ?_, fun _ => ⟨hk, h1, h0⟩⟩
      unfold firstAt
      rw [getD_at hk, h1, if_neg h0]
      have : t.findIdx? (sameAt t[i].same) = some k := by
        rw [List.findIdx?_eq_some_iff_getElem]
        exact ⟨hk, by simpa [sameAt] using h1, h2⟩
      rw [this]; rfl
end Go.Proofs.YtjglenhhgbokbaaDoor
