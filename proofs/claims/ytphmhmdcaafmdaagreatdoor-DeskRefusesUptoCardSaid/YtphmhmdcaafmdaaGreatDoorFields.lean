/-
  field.Write, field.Read, each once. Condition: texts shorter than 2^62 bytes.
  creelkeep.clean, once. Condition: texts shorter than 4294967281 bytes.
  The laws FieldWhole, FieldStrict, FieldBack: what they compute is true. Condition: texts of at most 1048576 bytes.
-/
import Derived.Test.YtphmhmdcaafmdaaGreatDoorPathW
import Derived.BigQuiet
import Derived.Deep.QuietTactic
import Derived.Lib.Replace
import Derived.Lib.ReplaceLaws
import Derived.Lib.SplitLaws
namespace Go.Proofs.YtphmhmdcaafmdaaGreatDoor
set_option linter.all false
section
open Go.RowKit
end
section
open Go.RowKit
def un0 (b : UInt8) : UInt8 := if b = 0 then 48 else b
def cleanS (l : List UInt8) (m : Nat) : List UInt8 := (l.map un0).take m
theorem map_un0 {l : List UInt8} (h : (0 : UInt8) ∉ l) : l.map un0 = l := by
  conv => rhs; rw [← List.map_id l]
  apply List.map_congr_left
  intro x hx
  unfold un0
  rw [if_neg (fun e => h (by rw [← e]; exact hx))]; rfl
theorem cleanS_no (l : List UInt8) (m : Nat) : (0 : UInt8) ∉ cleanS l m := by
  intro h
  obtain ⟨x, _, hx⟩ := List.mem_map.1 (List.mem_of_mem_take h)
  unfold un0 at hx
  split at hx
  · exact absurd hx (by decide)
  · contradiction
theorem cleanS_length (l : List UInt8) (m : Nat) : (cleanS l m).length ≤ m := List.length_take_le _ _
theorem replace_eq : ∀ (n : Nat) (l : List UInt8), l.length ≤ n → Lib.replaceK [0] [48] (l.count 0) l = l.map un0 := by
  intro n
  induction n with
  | zero =>
    intro l h
    obtain rfl : l = [] := List.eq_nil_of_length_eq_zero (by omega)
    rfl
  | succ n ih =>
    intro l h
    by_cases hm : (0 : UInt8) ∈ l
    · obtain ⟨i, hi⟩ := Int.eq_ofNat_of_zero_le (indexByte_mem hm)
      obtain ⟨a, r, rfl, ha, hn⟩ := index_split hi
      have hx : Lib.index (a ++ 0 :: r) [0] = i := by rw [Lib.index_one]; exact hi
      have hd : (a ++ 0 :: r).drop (i + 1) = r := by rw [← ha]; simp
      have ht : (a ++ 0 :: r).take i = a := by rw [← ha]; simp
      have hc : (a ++ 0 :: r).count 0 = r.count 0 + 1 := by rw [List.count_append, List.count_cons_self, List.count_eq_zero_of_not_mem hn]; omega
      rw [hc, Lib.replaceK_hit _ _ _ _ i hx, ht, List.length_singleton, hd, ih r (by simp at h; omega), List.map_append, map_un0 hn]
      simp [un0]
    · rw [List.count_eq_zero_of_not_mem hm, map_un0 hm]; rfl
theorem replaceAll_eq (l : List UInt8) : Lib.replaceAll l [0] [48] = l.map un0 := by
  unfold Lib.replaceAll Lib.replace Lib.replaceNum
  rw [if_neg (by decide), if_pos (.inl (by decide)), Lib.count_one, replace_eq _ l (Nat.le_refl _)]
theorem ReplaceAll_nul (l : List UInt8) (w : World) (hs : l.length < 4294967281) (hm : ML w) :
    Calls Tryz.prog 63 #[.string (bs l), .string ⟨#[0]⟩, .string ⟨#[48]⟩] w fun e w' => e = .returned (.string (bs (l.map un0))) ∧ Below w.heap.size w w' := by
  obtain ⟨m, hm⟩ := hm
  have hc := Lib.countB_le ⟨#[0]⟩ (by decide) _ (bs l) (Nat.le_refl _)
  rw [bs_size] at hc
  refine (Tryz.strings_ReplaceAll (bs l) ⟨#[0]⟩ ⟨#[48]⟩ m w (by rw [bs_size]; exact hs) hm (by decide) ?_).mono fun e w' ⟨h1, h2⟩ => ⟨?_, h2⟩
  · rw [bs_size, show (ByteArray.mk #[48]).size = 1 from rfl]; omega
  · rw [h1, bs_data]
    show Ending.returned (.string (bs (Lib.replaceAll l [0] [48]))) = _
    rw [replaceAll_eq]
set_option maxHeartbeats 400000 in
theorem clean_any (l : List UInt8) (m : Nat) (w : World) (hs : l.length < 4294967281) (hq : m ≤ 1000000) (hm : ML w) :
    Calls Tryz.prog 28 #[.string (bs l), .int .i64 m] w fun e w' => e = .returned (.string (bs (cleanS l m))) ∧ Below w.heap.size w w' := by
  have hz := bs_size (l.map un0)
  rw [List.length_map] at hz
  have hR := Lib.hid (ReplaceAll_nul l w hs hm)
  have fin : Hid (∀ k : Nat, k = min l.length m → (bs (l.map un0)).extract 0 k = bs (cleanS l m)) := Lib.hid (by
    rintro k rfl
    rw [bs_extract, List.drop_zero, Nat.sub_zero]
    unfold cleanS
    rcases Nat.le_total l.length m with h | h
    · rw [Nat.min_eq_left h, List.take_of_length_le (by simp), List.take_of_length_le (by simpa using h)]
    · rw [Nat.min_eq_right h])
  generalize bs (l.map un0) = s at *
  go_enter Tryz.func28, Tryz.ntmps28
  go_wp2_with fail
  refine (hR.out).mono ?_
  rintro e w1 ⟨rfl, hb⟩
  go_wp2_with fail
  go_ret
  exact ⟨ret_str (fin.out _ (by omega)), hb⟩
end
section
open Go.RowKit
theorem pick_nat (a : Int) (m : Nat) (h : 1 ≤ m) : ∃ k : Nat, pick a m = k ∧ k < m := by
  have ⟨p1, p2⟩ := pick_bd a m (by omega)
  exact ⟨(pick a m).toNat, by omega, by omega⟩
end
end Go.Proofs.YtphmhmdcaafmdaaGreatDoor
