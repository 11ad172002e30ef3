/-
  slices.Clone at []byte, creelkeep.Turned, write.Sum; the law WriteSummed. Condition beyond the form's own reach: none.
-/
import Derived.Test.YtmioinfhggbfkaaDoorWords
namespace Go.Proofs.YtmioinfhggbfkaaDoor
set_option linter.all false
open Go.RowKit

/-! ### write.Sum -/
def sumStep (n c : Int) : Int := (n * 31 + c) % 1000003
def sumL (l : List Int) : Int := l.foldl sumStep 1
theorem sumL_snoc (l : List Int) (c : Int) : sumL (l ++ [c]) = (sumL l * 31 + c) % 1000003 := by simp [sumL, sumStep]
theorem sumL_bd (l : List Int) : 0 ≤ sumL l ∧ sumL l < 1000003 := by
  rcases List.eq_nil_or_concat l with rfl | ⟨l', c, rfl⟩
  · simp [sumL]
  · rw [List.concat_eq_append, sumL_snoc]; omega

theorem take_snocI (l : List Int) (k : Nat) (h : k < l.length) : l.take (k + 1) = l.take k ++ [l[k]] := by
  rw [List.take_succ_eq_append_getElem h]

/-! ### slices.Clone at []byte -/
/-! ### creelkeep.Turned -/
def x8 (a b : Int) : Int := bits .xor .u8 a b
theorem ofInt_u8 (a : Nat) (ha : a < 256) : (BitVec.ofInt 8 (a : Int)).toNat = a := by
  rw [BitVec.ofInt_natCast, BitVec.toNat_ofNat]; exact Nat.mod_eq_of_lt (by omega)
theorem x8_nat (a b : Nat) (ha : a < 256) (hb : b < 256) : x8 (a : Int) (b : Int) = ((a ^^^ b : Nat) : Int) := by
  have hx : a ^^^ b < 2 ^ 8 := Nat.xor_lt_two_pow (by omega) (by omega)
  show IntKind.u8.wrap ((BitVec.ofInt 8 (a : Int) ^^^ BitVec.ofInt 8 (b : Int)).toNat : Int) = _
  rw [BitVec.toNat_xor, ofInt_u8 a ha, ofInt_u8 b hb]
  simp [IntKind.wrap, IntKind.bits, IntKind.signed]
  omega
theorem x8_bd {a b : Int} (ha : U8 a) (hb : U8 b) : U8 (x8 a b) := by
  obtain ⟨a, rfl⟩ := Int.eq_ofNat_of_zero_le ha.1
  obtain ⟨b, rfl⟩ := Int.eq_ofNat_of_zero_le hb.1
  obtain ⟨_, ha⟩ := ha
  obtain ⟨_, hb⟩ := hb
  rw [x8_nat a b (by omega) (by omega)]
  have hx : a ^^^ b < 2 ^ 8 := Nat.xor_lt_two_pow (by omega) (by omega)
  exact ⟨by omega, by omega⟩
theorem x8_ne {a b : Int} (ha : U8 a) (hb : U8 b) (h : 1 ≤ b) : x8 a b ≠ a := by
  obtain ⟨a, rfl⟩ := Int.eq_ofNat_of_zero_le ha.1
  obtain ⟨b, rfl⟩ := Int.eq_ofNat_of_zero_le hb.1
  obtain ⟨_, ha⟩ := ha
  obtain ⟨_, hb⟩ := hb
  rw [x8_nat a b (by omega) (by omega)]
  intro e
  have e : a ^^^ b = a := by omega
  have : b = 0 := by
    have h2 : a ^^^ (a ^^^ b) = b := by rw [← Nat.xor_assoc, Nat.xor_self, Nat.zero_xor]
    rw [e, Nat.xor_self] at h2
    exact h2.symm
  omega

def turnL (l : List Int) (at_ by_ : Int) : List Int :=
  if l = [] then [] else l.set (pick at_ l.length).toNat (x8 (l.getD (pick at_ l.length).toNat 0) (if by_ < 1 then 1 else by_))

theorem turnL_bd (l : List Int) (at_ by_ : Int) (h : ∀ n ∈ l, U8 n) (hb : U8 by_) : ∀ n ∈ turnL l at_ by_, U8 n := by
  intro n hn
  unfold turnL at hn
  split at hn
  · cases hn
  · rename_i hne
    rcases List.mem_or_eq_of_mem_set hn with h1 | rfl
    · exact h _ h1
    · have hpos : 0 < l.length := List.length_pos_iff.2 hne
      have ⟨p1, p2⟩ := pick_bd at_ l.length (by omega)
      refine x8_bd ?_ ?_
      · rw [List.getD_eq_getElem?_getD, List.getElem?_eq_getElem (by omega)]
        exact h _ (List.getElem_mem _)
      · split
        · exact ⟨by omega, by omega⟩
        · exact hb
theorem turnL_length (l : List Int) (at_ by_ : Int) : (turnL l at_ by_).length = l.length := by
  unfold turnL
  split
  · rename_i h; rw [h]
  · simp

/-- the one byte that differs -/
theorem turnL_at (l : List Int) (at_ by_ : Int) (h : ∀ n ∈ l, U8 n) (hb : U8 by_) (hne : l ≠ []) :
    ∃ (a b : List Int) (x y : Int), l = a ++ x :: b ∧ turnL l at_ by_ = a ++ y :: b ∧ x ≠ y ∧ U8 x ∧ U8 y ∧ a.length = (pick at_ l.length).toNat := by
  have hpos : 0 < l.length := List.length_pos_iff.2 hne
  have ⟨p1, p2⟩ := pick_bd at_ l.length (by omega)
  have hk : (pick at_ l.length).toNat < l.length := by omega
  have hx : U8 (l[(pick at_ l.length).toNat]) := h _ (List.getElem_mem _)
  have hby : U8 (if by_ < 1 then 1 else by_) := by
    split
    · exact ⟨by omega, by omega⟩
    · exact hb
  have h1 : 1 ≤ (if by_ < 1 then 1 else by_) := by split <;> omega
  refine ⟨l.take (pick at_ l.length).toNat, l.drop ((pick at_ l.length).toNat + 1), l[(pick at_ l.length).toNat], x8 l[(pick at_ l.length).toNat] (if by_ < 1 then 1 else by_), ?_, ?_, ?_, hx, x8_bd hx hby, ?_⟩
  · rw [List.getElem_cons_drop]; simp
  · rw [turnL, if_neg hne, List.getD_eq_getElem?_getD, List.getElem?_eq_getElem hk, List.set_eq_take_append_cons_drop, if_pos hk]
    rfl
  · exact (x8_ne hx hby h1).symm
  · rw [List.length_take]; omega

/-! ### the plain law: two texts of one length that differ in one byte have two sums -/
theorem sumFrom_ne (b : List Int) : ∀ (m n : Int), 0 ≤ m → m < 1000003 → 0 ≤ n → n < 1000003 → m ≠ n → b.foldl sumStep m ≠ b.foldl sumStep n := by
  induction b with
  | nil => intro m n _ _ _ _ h; exact h
  | cons c b ih =>
    intro m n h1 h2 h3 h4 h
    simp only [List.foldl_cons]
    refine ih _ _ ?_ ?_ ?_ ?_ ?_ <;> unfold sumStep
    · omega
    · omega
    · omega
    · omega
    · omega
theorem sumL_turn (l : List Int) (at_ by_ : Int) (h : ∀ n ∈ l, U8 n) (hb : U8 by_) (hne : l ≠ []) : sumL (turnL l at_ by_) ≠ sumL l := by
  obtain ⟨a, b, x, y, h1, h2, h3, hx, hy, _⟩ := turnL_at l at_ by_ h hb hne
  rw [h2, h1]
  unfold sumL
  rw [List.foldl_append, List.foldl_append, List.foldl_cons, List.foldl_cons]
  obtain ⟨b1, b2⟩ := sumL_bd a
  unfold sumL at b1 b2
  obtain ⟨x1, x2⟩ := hx
  obtain ⟨y1, y2⟩ := hy
  refine sumFrom_ne b _ _ ?_ ?_ ?_ ?_ ?_ <;> unfold sumStep <;> omega

end Go.Proofs.YtmioinfhggbfkaaDoor
