/-
  Small facts on strings as lists of bytes. No condition.
-/
import Derived.Test.YtjglenhhgbokbaaGreatDoorMem
import Derived.Lib.OthersKept
import Derived.Lib.Strings
import Derived.Lib.Bytealg
namespace Go.Proofs.YtjglenhhgbokbaaGreatDoor
open Go.RowKit

/-- the string of a list of bytes -/
def bs (l : List UInt8) : ByteArray := ⟨l.toArray⟩
theorem bs_data (l : List UInt8) : (bs l).data.toList = l := by simp [bs]
theorem bs_size (l : List UInt8) : (bs l).size = l.length := by show l.toArray.size = _; simp
theorem bs_self (s : ByteArray) : bs s.data.toList = s := rfl
theorem bs_of {s : ByteArray} {l : List UInt8} (h : s.data.toList = l) : s = bs l := by rw [← h]; rfl
theorem bs_toList (l : List UInt8) : (bs l).toList = l := by rw [Lib.toList_data, bs_data]
theorem bs_append (a b : List UInt8) : bs a ++ bs b = bs (a ++ b) := bs_of (by simp [bs_data])
theorem bs_extract (l : List UInt8) (a b : Nat) : (bs l).extract a b = bs ((l.drop a).take (b - a)) := bs_of (by rw [Lib.extract_data, bs_data])

theorem bs_get (l : List UInt8) (j : Nat) (h : j < (bs l).size) : (bs l)[j] = l.getD j 0 := by
  have hl : j < l.length := by rw [bs_size] at h; exact h
  rw [List.getD_eq_getElem?_getD, List.getElem?_eq_getElem hl]
  rfl
theorem byte_eq {c d : UInt8} (h : c = d) : ((c.toNat : Int) == (d.toNat : Int)) = true := by rw [h]; exact beq_self_eq_true _
theorem byte_ne {c d : UInt8} (h : c ≠ d) : ((c.toNat : Int) == (d.toNat : Int)) = false := by
  rw [beq_eq_false_iff_ne]; intro e; exact h (UInt8.toNat.inj (by omega))

theorem indexByte_mem {l : List UInt8} {c : UInt8} (h : c ∈ l) : 0 ≤ Lib.indexByte l c := by
  induction l with
  | nil => cases h
  | cons b l ih =>
    unfold Lib.indexByte
    by_cases e : b = c
    · simp [e]
    · have h2 : c ∈ l := by
        rcases List.mem_cons.1 h with h | h
        · exact absurd h.symm e
        · exact h
      have := ih h2
      have e1 : (b == c) = false := by simpa using e
      have e2 : (Lib.indexByte l c == -1) = false := by simp; omega
      rw [e1, e2]
      simp only [if_neg (show ¬ (false = true) by decide)]
      simp
      omega
theorem indexByte_not {l : List UInt8} {c : UInt8} (h : c ∉ l) : Lib.indexByte l c = -1 := by
  induction l with
  | nil => rfl
  | cons b l ih =>
    unfold Lib.indexByte
    have e : b ≠ c := fun e => h (by simp [e])
    have h2 : c ∉ l := fun h' => h (by simp [h'])
    have e1 : (b == c) = false := by simpa using e
    rw [e1, ih h2]
    rfl
theorem indexByte_at {c : UInt8} : ∀ {a r : List UInt8}, c ∉ a → Lib.indexByte (a ++ c :: r) c = a.length
  | [], r, _ => by unfold Lib.indexByte; simp
  | b :: a, r, h => by
    have h1 : b ≠ c := fun e => h (by simp [e])
    have e1 : (b == c) = false := by simpa using h1
    rw [List.cons_append, Lib.indexByte, e1, indexByte_at (a := a) (fun h' => h (by simp [h']))]
    have e2 : ((a.length : Int) == -1) = false := by simp
    rw [e2]
    simp
theorem indexByte_ge (l : List UInt8) (c : UInt8) : -1 ≤ Lib.indexByte l c ∧ Lib.indexByte l c < l.length := by
  induction l with
  | nil => unfold Lib.indexByte; simp
  | cons b l ih =>
    unfold Lib.indexByte
    simp only [List.length_cons]
    split
    · omega
    · split <;> omega

/-! ### a rune's width, and the bytes behind its first -/
theorem get!_eq (s : ByteArray) (i : Nat) (h : i < s.size) : s.get! i = s[i] := by
  simp [ByteArray.get!, getElem!_pos, h]; rfl
theorem decode_width (s : ByteArray) (pos : Nat) : 1 ≤ (Utf8.decode s pos).2 ∧ ∀ j, pos < j → j < pos + (Utf8.decode s pos).2 → ∃ h : j < s.size, 128 ≤ s[j].toNat := by
  have key : ∀ k, (pos + k < s.size && (s.get! (pos + k)).toNat / 64 == 2) = true → ∃ h : pos + k < s.size, 128 ≤ s[pos + k].toNat := by
    intro k hk
    simp only [Bool.and_eq_true, decide_eq_true_eq, beq_iff_eq] at hk
    refine ⟨hk.1, ?_⟩
    rw [get!_eq s _ hk.1] at hk
    omega
  unfold Utf8.decode
  simp only
  split
  · exact ⟨by simp, fun j h1 h2 => by simp at h2; omega⟩
  · split
    · rename_i h
      simp only [Bool.and_eq_true] at h
      split
      · refine ⟨by simp, fun j h1 h2 => ?_⟩
        simp at h2
        obtain rfl : j = pos + 1 := by omega
        exact key 1 (by simpa using h.2)
      · exact ⟨by simp, fun j h1 h2 => by simp at h2; omega⟩
    · split
      · rename_i h
        simp only [Bool.and_eq_true] at h
        split
        · refine ⟨by simp, fun j h1 h2 => ?_⟩
          simp at h2
          rcases (show j = pos + 1 ∨ j = pos + 2 by omega) with rfl | rfl
          · exact key 1 (by simpa using h.1.2)
          · exact key 2 (by simpa using h.2)
        · exact ⟨by simp, fun j h1 h2 => by simp at h2; omega⟩
      · split
        · rename_i h
          simp only [Bool.and_eq_true] at h
          split
          · refine ⟨by simp, fun j h1 h2 => ?_⟩
            simp at h2
            rcases (show j = pos + 1 ∨ j = pos + 2 ∨ j = pos + 3 by omega) with rfl | rfl | rfl
            · exact key 1 (by simpa using h.1.1.2)
            · exact key 2 (by simpa using h.1.2)
            · exact key 3 (by simpa using h.2)
          · exact ⟨by simp, fun j h1 h2 => by simp at h2; omega⟩
        · exact ⟨by simp, fun j h1 h2 => by simp at h2; omega⟩
theorem below_drewN {B : Nat} {a w : World} (h : Below B a w) (n : Nat) : Below B a (w.drewN n) := ⟨h.os, h.tape, h.output, h.size, h.block⟩
theorem iterPos_of {w : World} {k : Nat} {s : ByteArray} {p : Nat} (h : w.heap[k]? = some (.stringIter s p)) : w.iterPos k = p := by simp [World.iterPos, h]
end Go.Proofs.YtjglenhhgbokbaaGreatDoor
