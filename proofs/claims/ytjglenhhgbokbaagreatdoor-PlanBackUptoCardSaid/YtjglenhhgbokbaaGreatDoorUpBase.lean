/-
  path.Up, path.Base, each once. Condition: texts shorter than 2^62 bytes.
-/
import Derived.Test.YtjglenhhgbokbaaGreatDoorStr
import Derived.Test.YtjglenhhgbokbaaGreatDoorA1
import Derived.Test.YtjglenhhgbokbaaGreatDoorShelf
import Derived.Lib.LastIndexByte
namespace Go.Proofs.YtjglenhhgbokbaaGreatDoor
open Go.RowKit

theorem data_at (l : List UInt8) (j : Nat) (h : j < l.length) : ((bs l).data[j]!).toNat = (l.getD j 0).toNat := by
  have h2 : j < (bs l).data.size := by show j < l.toArray.size; simpa using h
  rw [getElem!_pos (bs l).data j h2, List.getD_eq_getElem?_getD, List.getElem?_eq_getElem h]
  rfl
theorem lastIdx_none {l : List UInt8} (h : (47 : UInt8) ∉ l) : Lib.lastIndexByte (bs l) 47 = -1 := by
  unfold Lib.lastIndexByte
  rcases Lib.lastIdx_spec (bs l) 47 (bs l).size with ⟨h1, _⟩ | ⟨i, hi, _, hc, _⟩
  · exact h1
  · rw [bs_size] at hi
    rw [data_at l i hi, List.getD_eq_getElem?_getD, List.getElem?_eq_getElem hi] at hc
    exact absurd (by rw [show (47 : UInt8) = l[i] from UInt8.toNat.inj (by simp at hc ⊢; omega)]; exact List.getElem_mem hi) h
theorem lastIdx_some {a b : List UInt8} (h : (47 : UInt8) ∉ b) : Lib.lastIndexByte (bs (a ++ 47 :: b)) 47 = a.length := by
  have hat : (a ++ 47 :: b).getD a.length 0 = 47 := by rw [List.getD_eq_getElem?_getD, List.getElem?_append_right (Nat.le_refl _)]; simp
  have hl : (a ++ 47 :: b).length = a.length + b.length + 1 := by simp; omega
  unfold Lib.lastIndexByte
  rcases Lib.lastIdx_spec (bs (a ++ 47 :: b)) 47 (bs (a ++ 47 :: b)).size with ⟨_, h1⟩ | ⟨i, hi, he, hc, hn⟩
  · rw [bs_size] at h1
    have := h1 a.length (by omega)
    rw [data_at _ _ (by omega), hat] at this
    exact absurd rfl this
  · rw [bs_size] at hi hn
    rw [he]
    rcases Nat.lt_trichotomy i a.length with h1 | h1 | h1
    · have := hn a.length h1 (by omega)
      rw [data_at _ _ (by omega), hat] at this
      exact absurd rfl this
    · rw [h1]
    · exfalso
      rw [data_at _ _ hi, List.getD_eq_getElem?_getD, List.getElem?_append_right (by omega), show i - a.length = (i - a.length - 1) + 1 from by omega, List.getElem?_cons_succ, List.getElem?_eq_getElem (by omega)] at hc
      refine h ?_
      rw [show (47 : UInt8) = b[i - a.length - 1] from UInt8.toNat.inj (by simp at hc ⊢; omega)]
      exact List.getElem_mem _
theorem LastIdx_any (l : List UInt8) (hs : l.length < 4611686018427387904) (w : World) :
    Calls Tryz.prog 56 #[.string (bs l), .int .u8 47] w fun e w' => e = .returned (.int .i64 (Lib.lastIndexByte (bs l) 47)) ∧ w = w' :=
  (Tryz.strings_LastIndexByte (bs l) 47 (by rw [bs_size]; exact hs) w).mono fun e w' ⟨h1, h2⟩ => ⟨h1, h2.symm⟩
theorem ret_str {a b : ByteArray} (h : a = b) : Ending.returned (.string a) = .returned (.string b) := by rw [h]

set_option maxHeartbeats 400000 in
theorem Up_none (l : List UInt8) (hs : l.length < 4611686018427387904) (h : (47 : UInt8) ∉ l) (w : World) :
    Calls Tryz.prog 34 #[.string (bs l)] w fun e w' => e = .returned (.string (bs [])) ∧ w = w' := by
  have H := Lib.hid (lastIdx_none h)
  go_enter Tryz.func34, Tryz.ntmps34
  go_wp2_with fail
  refine (LastIdx_any l hs _).mono ?_
  rintro e w' ⟨rfl, rfl⟩
  rw [H.out]
  go_wp2_with fail
  go_ret
  exact ⟨rfl, rfl⟩
set_option maxHeartbeats 400000 in
theorem Up_some (a b : List UInt8) (hs : a.length + b.length < 4611686018427387000) (h : (47 : UInt8) ∉ b) (w : World) :
    Calls Tryz.prog 34 #[.string (bs (a ++ 47 :: b))] w fun e w' => e = .returned (.string (bs a)) ∧ w = w' := by
  have H := Lib.hid (lastIdx_some (a := a) h)
  have hl : (a ++ 47 :: b).length = a.length + b.length + 1 := by simp; omega
  have hz := bs_size (a ++ 47 :: b)
  have F := Lib.hid (show (bs (a ++ 47 :: b)).extract 0 a.length = bs a by rw [bs_extract]; congr 1; simp)
  have hc := Lib.hid (LastIdx_any (a ++ 47 :: b) (by omega))
  rw [hl] at hz
  generalize bs (a ++ 47 :: b) = s at *
  go_enter Tryz.func34, Tryz.ntmps34
  go_wp2_with fail
  refine (hc.out _).mono ?_
  rintro e w' ⟨rfl, rfl⟩
  rw [H.out]
  go_wp2_with fail
  go_ret
  exact ⟨ret_str (by simpa using F.out), rfl⟩
end Go.Proofs.YtjglenhhgbokbaaGreatDoor
