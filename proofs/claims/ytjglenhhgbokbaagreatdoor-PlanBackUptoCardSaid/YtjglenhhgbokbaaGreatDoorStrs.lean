/-
  Functions of Go's package strings, over lists of bytes. Condition: sizes within the model's bounds.
-/
import Derived.Test.YtjglenhhgbokbaaGreatDoorStr
import Derived.Test.YtjglenhhgbokbaaGreatDoorA1
import Derived.Test.YtjglenhhgbokbaaGreatDoorShelf
import Derived.Test.YtjglenhhgbokbaaGreatDoorSplit
import Derived.Lib.TrimByte
import Derived.Lib.Join
import Derived.Lib.Repeat
namespace Go.Proofs.YtjglenhhgbokbaaGreatDoor
open Go.RowKit

theorem IndexByte_nul (l : List UInt8) (w : World) :
    Calls Tryz.prog 60 #[.string (bs l), .int .u8 0] w fun e w' => e = .returned (.int .i64 (Lib.indexByte l 0)) ∧ w = w' :=
  (Tryz.strings_IndexByte (bs l) 0 w).mono fun e w' ⟨h1, h2⟩ => ⟨by rw [h1, bs_data]; rfl, h2.symm⟩
theorem IndexByte_of (l : List UInt8) (c : UInt8) (w : World) :
    Calls Tryz.prog 60 #[.string (bs l), .int .u8 c.toNat] w fun e w' => e = .returned (.int .i64 (Lib.indexByte l c)) ∧ w = w' :=
  (Tryz.strings_IndexByte (bs l) c.toNat w).mono fun e w' ⟨h1, h2⟩ => ⟨by rw [h1, bs_data]; simp, h2.symm⟩

theorem dropWhile_nil_iff (l : List UInt8) (c : UInt8) : l.dropWhile (· == c) = [] ↔ ∀ b ∈ l, b = c := by
  induction l with
  | nil => simp
  | cons b l ih =>
    by_cases h : b = c
    · simp [h, ih]
    · simp [h]
theorem trimB_nil (l : List UInt8) (c : UInt8) : Lib.trimB l c = [] ↔ ∀ b ∈ l, b = c := by
  unfold Lib.trimB Lib.trimLeftB Lib.trimRightB
  rw [dropWhile_nil_iff]
  constructor
  · intro h b hb
    by_cases hc : b = c
    · exact hc
    · exfalso
      have h2 : l.reverse.dropWhile (· == c) ≠ [] := fun e => hc ((dropWhile_nil_iff l.reverse c).1 e b (by simpa using hb))
      obtain ⟨x, r, hx⟩ := List.exists_cons_of_ne_nil h2
      have h3 : (x == c) = false := by
        have := List.head?_dropWhile_not (p := (· == c)) (l := l.reverse)
        rw [hx] at this
        simpa using this
      have := h x (by rw [hx]; simp)
      simp [this] at h3
  · intro h b hb
    rw [List.mem_reverse] at hb
    exact h b (by simpa using (List.dropWhile_sublist _).subset hb)

theorem join_eq (c : UInt8) : ∀ l : List (List UInt8), Lib.join l [c] = joinC c l
  | [] => rfl
  | [a] => by simp [Lib.join_one, joinC]
  | a :: b :: l => by
    have ih := join_eq c (b :: l)
    rw [Lib.join_cons, joinC, ← ih, Lib.join_cons]
    simp [Lib.joinTail]
theorem repeat_byte (b : UInt8) (c : Nat) : Lib.repeatL [b] c = List.replicate c b := by
  have := Lib.repeatL_replicate b 1 c
  simpa using this
theorem Repeat_of (l : List UInt8) (c : Nat) (w : World) (h : l.length * c ≤ 140737488355328) (hc : c ≤ 9223372036854775807) :
    Calls Tryz.prog 27 #[.string (bs l), .int .i64 c] w fun e w' => e = .returned (.string (bs (Lib.repeatL l c))) ∧ Below w.heap.size w w' :=
  (Tryz.strings_Repeat (bs l) c w hc (by rw [bs_size]; exact h)).mono fun e w' ⟨h1, h2⟩ => ⟨by rw [h1, bs_data]; rfl, h2⟩
theorem Repeat_byte (b : UInt8) (c : Nat) (w : World) (hc : c ≤ 140737488355328) :
    Calls Tryz.prog 27 #[.string (bs [b]), .int .i64 c] w fun e w' => e = .returned (.string (bs (List.replicate c b))) ∧ Below w.heap.size w w' :=
  (Repeat_of [b] c w (by simp; omega) (by omega)).mono fun e w' ⟨h1, h2⟩ => ⟨by rw [h1, repeat_byte], h2⟩
theorem bs_rep_size (b : UInt8) (c : Nat) : (bs (List.replicate c b)).size = c := by rw [bs_size, List.length_replicate]
theorem HasPrefix_at (l p : List UInt8) (d : Bool) (h : Lib.hasPrefix l p = d) (w : World) :
    Calls Tryz.prog 45 #[.string (bs l), .string (bs p)] w fun e w' => e = .returned (.bool d) ∧ w = w' :=
  (Tryz.strings_HasPrefix (bs l) (bs p) w).mono fun e w' ⟨h1, h2⟩ => ⟨by rw [h1, bs_data, bs_data, h], h2.symm⟩
end Go.Proofs.YtjglenhhgbokbaaGreatDoor
