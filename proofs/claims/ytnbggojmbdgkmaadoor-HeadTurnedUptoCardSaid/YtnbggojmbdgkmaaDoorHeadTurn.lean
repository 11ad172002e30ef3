/-
  A head's block of which one byte is another one, plainly: its sum's field does not tell its sum. No condition.
-/
import Derived.Test.YtnbggojmbdgkmaaDoorHeadPlain
namespace Go.Proofs.YtnbggojmbdgkmaaDoor
open Go.RowKit

def octF (n : Int) (c : UInt8) : Int := 8 * n + ((c.toNat : Int) - 48)
theorem octVal_eq (l : List UInt8) : octVal l = l.foldl octF 0 := rfl
theorem fold_from (l : List UInt8) : ∀ m : Int, l.foldl octF m = m * 8 ^ l.length + l.foldl octF 0 := by
  induction l with
  | nil => intro m; simp
  | cons c l ih =>
    intro m
    rw [List.foldl_cons, List.foldl_cons, ih, ih (octF 0 c), List.length_cons]
    simp only [octF]
    rw [Int.pow_succ]
    generalize (8 : Int) ^ l.length = q
    have : (8 * m + ((c.toNat : Int) - 48)) * q = m * (q * 8) + (8 * 0 + ((c.toNat : Int) - 48)) * q := by
      rw [Int.add_mul, Int.add_mul, Int.mul_comm 8 m, Int.mul_assoc, Int.mul_comm 8 q]
      omega
    omega
theorem octVal_cons (c : UInt8) (l : List UInt8) : octVal (c :: l) = ((c.toNat : Int) - 48) * 8 ^ l.length + octVal l := by
  rw [octVal_eq, List.foldl_cons, fold_from]
  simp [octF, octVal_eq]
theorem octVal_range (l : List UInt8) (h : l.all octDig = true) : 0 ≤ octVal l ∧ octVal l < 8 ^ l.length := by
  have := octVal_from l h 0 0 (by omega) (by decide)
  rw [Nat.zero_add] at this
  exact this
theorem octVal_inj : ∀ (a b : List UInt8), a.length = b.length → a.all octDig = true → b.all octDig = true → octVal a = octVal b → a = b
  | [], [], _, _, _, _ => rfl
  | [], _ :: _, h, _, _, _ => by simp at h
  | _ :: _, [], h, _, _, _ => by simp at h
  | c :: a, d :: b, hl, ha, hb, h => by
    simp only [List.all_cons, Bool.and_eq_true] at ha hb
    simp only [List.length_cons, Nat.add_right_cancel_iff] at hl
    rw [octVal_cons, octVal_cons, hl] at h
    have r1 := octVal_range a ha.2
    have r2 := octVal_range b hb.2
    rw [hl] at r1
    have hp : (0 : Int) < 8 ^ b.length := Int.pow_pos (by omega)
    have d1 : 48 ≤ (c.toNat : Int) ∧ (c.toNat : Int) ≤ 55 := by have := ha.1; simp [octDig] at this; omega
    have d2 : 48 ≤ (d.toNat : Int) ∧ (d.toNat : Int) ≤ 55 := by have := hb.1; simp [octDig] at this; omega
    generalize (8 : Int) ^ b.length = q at *
    obtain ⟨x, hx⟩ : ∃ x : Int, x = (c.toNat : Int) - 48 := ⟨_, rfl⟩
    obtain ⟨y, hy⟩ : ∃ y : Int, y = (d.toNat : Int) - 48 := ⟨_, rfl⟩
    rw [← hx, ← hy] at h
    have e : x = y := by
      rcases Int.lt_trichotomy x y with h1 | h1 | h1
      · have : (x + 1) * q ≤ y * q := Int.mul_le_mul_of_nonneg_right (by omega) (by omega)
        rw [Int.add_mul] at this
        omega
      · exact h1
      · have : (y + 1) * q ≤ x * q := Int.mul_le_mul_of_nonneg_right (by omega) (by omega)
        rw [Int.add_mul] at this
        omega
    subst e
    have e2 : octVal a = octVal b := by omega
    have e3 : c = d := UInt8.toNat.inj (by omega)
    rw [e3, octVal_inj a b hl ha.2 hb.2 e2]
theorem octRead_only {l : List UInt8} {n : Nat} {W : Nat} (h1 : 2 ≤ W) (h2 : W ≤ 12) (h3 : n < 8 ^ (W - 1)) (hl : l.length = W) (h : octRead l = ((n : Int), 0)) : l = octS n W := by
  have hg := octRead_octS n W h1 h2 h3
  have hlo : (octS n W).length = W := octS_length n W (by omega)
  unfold octRead at h hg
  rw [if_neg (by omega)] at h
  rw [hlo, if_neg (by omega)] at hg
  rw [hl] at h
  split at h
  · split at hg
    · rename_i a1 a2
      simp only [Bool.and_eq_true, beq_iff_eq] at a1 a2
      simp only [Prod.mk.injEq, and_true] at h hg
      have e := octVal_inj _ _ (by simp [hl, hlo]) a1.1 a2.1 (h.trans hg.symm)
      have s1 : l = l.take (W - 1) ++ [0] := by
        rw [List.getLast?_eq_getElem?, hl] at a1
        have := (List.getElem?_eq_some_iff.1 a1.2)
        obtain ⟨hlt, hv⟩ := this
        conv => lhs; rw [← List.take_append_drop (W - 1) l]
        rw [List.drop_eq_getElem_cons hlt, hv, List.drop_of_length_le (by omega)]
      have s2 : octS n W = (octS n W).take (W - 1) ++ [0] := by
        rw [List.getLast?_eq_getElem?, hlo] at a2
        have := (List.getElem?_eq_some_iff.1 a2.2)
        obtain ⟨hlt, hv⟩ := this
        conv => lhs; rw [← List.take_append_drop (W - 1) (octS n W)]
        rw [List.drop_eq_getElem_cons hlt, hv, List.drop_of_length_le (by omega)]
      rw [s1, s2, e]
    · simp at hg
  · simp at h

/-- the sum's field of a block -/
def sumF (l : List UInt8) : List UInt8 := (l.drop 148).take 7
theorem sumF_length {l : List UInt8} (h : l.length = 512) : (sumF l).length = 7 := by simp [sumF, h]
theorem sumF_headW {h : PHead} (hok : HeadOk h) : sumF (headW h) = octS (headSum h) 7 := by
  have e : headW h = headA h ++ (octS (headSum h) 7 ++ (32 :: headB h)) := by simp [headW, headSumS]
  unfold sumF
  rw [e, List.drop_append_of_le_length (by have := headA_length hok; omega), List.drop_of_length_le (by have := headA_length hok; omega), List.nil_append, List.take_append_of_le_length (by have := octS_length (headSum h) 7 (by omega); omega), List.take_of_length_le (by have := octS_length (headSum h) 7 (by omega); omega)]
theorem headW_155 {h : PHead} (hok : HeadOk h) : (headW h)[155]? = some 32 := by
  have e : headW h = (headA h ++ octS (headSum h) 7) ++ (32 :: headB h) := by simp [headW, headSumS]
  have hl : (headA h ++ octS (headSum h) 7).length = 155 := by rw [List.length_append, headA_length hok, octS_length _ _ (by omega)]
  rw [e, List.getElem?_append_right (by omega), hl]
  rfl
/-- whether a block's own sum is right -/
def sumOk (l : List UInt8) : Prop := octRead (sumF l) = ((hsum l 512 : Int), 0) ∧ l[155]? = some 32
theorem turned_bad {h : PHead} (hok : HeadOk h) (p : Nat) (hp : p < 512) (d : UInt8) (hd : (headW h)[p]? ≠ some d) : ¬ sumOk ((headW h).set p d) := by
  have hl := headW_length hok
  rintro ⟨h1, h2⟩
  by_cases hin : p < 148 ∨ 156 ≤ p
  · have e : sumF ((headW h).set p d) = octS (headSum h) 7 := by
      rw [← sumF_headW hok]
      unfold sumF
      rcases hin with hin | hin
      · rw [List.drop_set_of_lt hin]
      · rw [List.drop_set, if_neg (by omega), List.take_set_of_le (by omega)]
    rw [e, octRead_octS _ 7 (by omega) (by omega) (headSum_lt h)] at h1
    simp only [Prod.mk.injEq, and_true] at h1
    have hs := hsum_set (headW h) p d 512 (by omega) hin hp
    rw [hsum_headW hok] at hs
    have hg : (headW h)[p]? = some ((headW h).getD p 0) := by
      rw [List.getD_eq_getElem?_getD, List.getElem?_eq_getElem (by omega)]; rfl
    rw [hg] at hd
    exact hd (by rw [show (headW h).getD p 0 = d from UInt8.toNat.inj (by omega)])
  · by_cases h5 : p = 155
    · subst h5
      rw [List.getElem?_set_self (by omega)] at h2
      rw [headW_155 hok] at hd
      exact hd h2.symm
    · obtain ⟨k, rfl⟩ : ∃ k, p = 148 + k := ⟨p - 148, by omega⟩
      have hk : k < 7 := by omega
      have hs : hsum ((headW h).set (148 + k) d) 512 = headSum h := by
        rw [← hsum_headW hok]
        refine hsum_congr 512 fun i _ h => ?_
        simp only [List.getD_eq_getElem?_getD]
        rw [List.getElem?_set_ne (by omega)]
      rw [hs] at h1
      have e := octRead_only (by omega) (by omega) (headSum_lt h) (sumF_length (by rw [List.length_set]; exact hl)) h1
      rw [← sumF_headW hok] at e
      have e2 : (sumF ((headW h).set (148 + k) d))[k]? = (sumF (headW h))[k]? := by rw [e]
      unfold sumF at e2
      rw [List.getElem?_take_of_lt hk, List.getElem?_take_of_lt hk, List.getElem?_drop, List.getElem?_drop, List.getElem?_set_self (by omega)] at e2
      exact hd e2.symm
end Go.Proofs.YtnbggojmbdgkmaaDoor
