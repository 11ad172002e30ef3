/-
  The plain laws of meta.Text and meta.Parse: each is the other's inverse; decided by the kernel over all modes. No condition.
-/
import Derived.Test.YtpibgdgcgflooaaParse
namespace Go.Proofs.Ytpibgdgcgflooaa

def backAll : Nat → Bool
  | 0 => true
  | k + 1 => (match prs 0 0 (textS k) with | some m => Nat.beq m k | none => false) && backAll k
theorem back4096 : backAll 4096 = true := by decide +kernel
theorem backAll_of {n : Nat} (h : backAll n = true) : ∀ k, k < n → prs 0 0 (textS k) = some k := by
  induction n with
  | zero => intro k hk; omega
  | succ n ih =>
    simp only [backAll, Bool.and_eq_true] at h
    intro k hk
    by_cases e : k = n
    · subst e
      have h1 := h.1
      split at h1
      · rename_i m hm
        rw [hm, Nat.eq_of_beq_eq_true h1]
      · cases h1
    · exact ih h.2 k (by omega)
theorem parse_text (M : Nat) (h : M < 4096) : parseS (textS M) = ((M : Int), 0) := by
  have hl : (textS M).length = 9 := txt2_length M 3
  rw [parseS, hl, if_neg (by omega), backAll_of back4096 M h]

def options (i : Nat) : List (UInt8 × Nat) :=
  [(letters.getD i 0, 2 ^ (8 - i)), (45, 0)] ++ (if i % 3 = 2 then [(small i, 2 ^ (8 - i) ||| 2 ^ (11 - i / 3)), (great i, 2 ^ (11 - i / 3))] else [])
theorem opt_options {i : Nat} {c : UInt8} {b : Nat} (h : opt i c = some b) : (c, b) ∈ options i := by
  unfold opt at h
  unfold options
  split at h
  · rename_i e
    injection h with h
    subst h; subst e
    simp
  · split at h
    · rename_i e
      injection h with h
      obtain ⟨e1, rfl⟩ := e
      subst h
      rw [if_pos e1]
      simp
    · split at h
      · rename_i e
        injection h with h
        obtain ⟨e1, rfl⟩ := e
        subst h
        rw [if_pos e1]
        simp
      · split at h
        · rename_i e
          injection h with h
          subst h; subst e
          simp
        · cases h
def eqL : List UInt8 → List UInt8 → Bool
  | [], [] => true
  | a :: x, b :: y => Nat.beq a.toNat b.toNat && eqL x y
  | _, _ => false
theorem eqL_eq : ∀ {x y : List UInt8}, eqL x y = true → x = y
  | [], [], _ => rfl
  | [], _ :: _, h => by cases h
  | _ :: _, [], h => by cases h
  | a :: x, b :: y, h => by
    simp only [eqL, Bool.and_eq_true] at h
    rw [eqL_eq h.2, UInt8.toNat.inj (Nat.eq_of_beq_eq_true h.1)]
def turns : Nat → Nat → Nat → List UInt8 → Bool
  | 0, _, m, acc => eqL (textS m) acc
  | f + 1, i, m, acc => (options i).all fun x => turns f (i + 1) (m ||| x.2) (acc ++ [x.1])
theorem turns_all : turns 9 0 0 [] = true := by decide +kernel
theorem turns_of : ∀ (f i m n : Nat) (acc l : List UInt8), turns f i m acc = true → l.length = f → prs i m l = some n → textS n = acc ++ l
  | 0, i, m, n, acc, l, h, hl, hp => by
    obtain rfl : l = [] := List.eq_nil_of_length_eq_zero hl
    simp only [prs, Option.some.injEq] at hp
    subst hp
    rw [List.append_nil]
    exact eqL_eq h
  | f + 1, i, m, n, acc, [], h, hl, hp => by cases hl
  | f + 1, i, m, n, acc, c :: l, h, hl, hp => by
    simp only [prs] at hp
    split at hp
    · cases hp
    · rename_i b hb
      have h1 := List.all_eq_true.1 h _ (opt_options hb)
      have := turns_of f (i + 1) (m ||| b) n (acc ++ [c]) l h1 (by simpa using hl) hp
      simpa using this
theorem prs_bd : ∀ (l : List UInt8) (i m n : Nat), m < 4096 → i + l.length ≤ 9 → prs i m l = some n → n < 4096
  | [], i, m, n, hm, _, hp => by
    simp only [prs, Option.some.injEq] at hp
    omega
  | c :: l, i, m, n, hm, hi, hp => by
    simp only [prs] at hp
    simp only [List.length_cons] at hi
    split at hp
    · cases hp
    · rename_i b hb
      refine prs_bd l (i + 1) (m ||| b) n (or_bd m b hm ?_) (by omega) hp
      have h9 : i = 0 ∨ i = 1 ∨ i = 2 ∨ i = 3 ∨ i = 4 ∨ i = 5 ∨ i = 6 ∨ i = 7 ∨ i = 8 := by omega
      have hm := opt_options hb
      rcases h9 with rfl | rfl | rfl | rfl | rfl | rfl | rfl | rfl | rfl <;> simp [options] at hm <;> omega
/-- what is read is told so -/
theorem text_parse (l : List UInt8) (n : Int) (h : parseS l = (n, 0)) : ∃ M : Nat, n = M ∧ M < 4096 ∧ textS M = l := by
  unfold parseS at h
  split at h
  · simp at h
  · rename_i hl
    have hl : l.length = 9 := by omega
    split at h
    · simp at h
    · rename_i m hm
      simp only [Prod.mk.injEq, and_true] at h
      exact ⟨m, h.symm, prs_bd l 0 0 m (by omega) (by omega) hm, by simpa using turns_of 9 0 0 m [] l turns_all hl hm⟩
theorem parse_no (l : List UInt8) (h : (parseS l).2 ≠ 0) : (parseS l).1 = 0 := by
  unfold parseS at h ⊢
  split
  · rfl
  · rename_i hl
    rw [if_neg hl] at h
    split
    · rfl
    · rename_i m hm
      rw [hm] at h
      simp at h
theorem text_plain (M : Nat) (h : M < 512) : textS M = txt1 M 9 := by
  have hb : ∀ t, bit M (9 + t) = false := by
    intro t
    unfold bit
    have : M / 2 ^ (9 + t) = 0 := Nat.div_eq_of_lt (by
      have : 2 ^ 9 ≤ 2 ^ (9 + t) := Nat.pow_le_pow_right (by omega) (by omega)
      omega)
    rw [this]; rfl
  show txt2 M 3 = _
  rw [show txt2 M 3 = sp M 2 (sp M 1 (sp M 0 (txt1 M 9))) from rfl, sp_false (hb 0), sp_false (hb 1), sp_false (hb 2)]
end Go.Proofs.Ytpibgdgcgflooaa
