/-
  Ranges swapped one by one, and rotations out of these: plainly. No program in sight, no condition.
-/
import Derived.Test.YtpanjldionaaiaaDoorSymR
namespace Go.Proofs.YtpanjldionaaiaaDoor
set_option linter.all false
theorem swap1_length (d : List NodeV) (i j : Nat) : (swap1 d i j).length = d.length := by unfold swap1; split <;> simp
theorem swap1_get {d : List NodeV} {i j : Nat} (hi : i < d.length) (hj : j < d.length) (x : Nat) : (swap1 d i j)[x]? = if x = j then d[i]? else if x = i then d[j]? else d[x]? := by
  unfold swap1
  rw [dif_pos ⟨hi, hj⟩, List.getElem?_set, List.length_set]
  by_cases h1 : j = x
  · subst h1; simp [hi, hj]
  · rw [if_neg h1, if_neg (fun e => h1 e.symm), List.getElem?_set]
    by_cases h2 : i = x
    · subst h2; simp [hi, hj]
    · rw [if_neg h2, if_neg (fun e => h2 e.symm)]
/-- the first k pairs of two ranges swapped -/
def swpR (d : List NodeV) (a b : Nat) : Nat → List NodeV
  | 0 => d
  | k + 1 => swap1 (swpR d a b k) (a + k) (b + k)
theorem swpR_length (d : List NodeV) (a b : Nat) : ∀ k, (swpR d a b k).length = d.length
  | 0 => rfl
  | k + 1 => by unfold swpR; rw [swap1_length]; exact swpR_length d a b k
theorem swpR_get {d : List NodeV} {a b : Nat} : ∀ {k : Nat}, a + k ≤ b → b + k ≤ d.length → ∀ x, (swpR d a b k)[x]? = if a ≤ x ∧ x < a + k then d[x - a + b]? else if b ≤ x ∧ x < b + k then d[x - b + a]? else d[x]?
  | 0, _, _, x => by unfold swpR; rw [if_neg (by omega), if_neg (by omega)]
  | k + 1, h1, h2, x => by
    have ih := swpR_get (d := d) (a := a) (b := b) (k := k) (by omega) (by omega)
    have hl := swpR_length d a b k
    unfold swpR
    rw [swap1_get (by omega) (by omega), ih, ih, ih]
    have g1 : ∀ {p q : Nat}, p = q → d[p]? = d[q]? := fun e => by rw [e]
    repeat' split
    all_goals first
      | rfl
      | (exfalso; omega)
      | (refine g1 ?_; omega)
theorem swpR_parts (P A M B S : List NodeV) (h : A.length = B.length) : swpR (P ++ (A ++ (M ++ (B ++ S)))) P.length (P.length + A.length + M.length) A.length = P ++ (B ++ (M ++ (A ++ S))) := by
  apply List.ext_getElem?
  intro x
  rw [swpR_get (by omega) (by simp only [List.length_append]; omega)]
  simp only [List.getElem?_append, List.length_append]
  have gA : ∀ {p q : Nat}, p = q → A[p]? = A[q]? := fun e => by rw [e]
  have gB : ∀ {p q : Nat}, p = q → B[p]? = B[q]? := fun e => by rw [e]
  have gM : ∀ {p q : Nat}, p = q → M[p]? = M[q]? := fun e => by rw [e]
  have gS : ∀ {p q : Nat}, p = q → S[p]? = S[q]? := fun e => by rw [e]
  repeat' split
  all_goals first
    | rfl
    | (exfalso; omega)
    | (refine gA ?_; omega)
    | (refine gB ?_; omega)
    | (refine gM ?_; omega)
    | (refine gS ?_; omega)
end Go.Proofs.YtpanjldionaaiaaDoor
