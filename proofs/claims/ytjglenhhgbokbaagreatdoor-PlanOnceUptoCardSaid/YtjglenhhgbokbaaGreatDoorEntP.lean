/-
  Entries of raw things, plainly: their paths are made of names, at most 400 bytes long. No condition.
-/
import Derived.Test.YtjglenhhgbokbaaGreatDoorGrowP
namespace Go.Proofs.YtjglenhhgbokbaaGreatDoor
open Go.RowKit

structure EntP where
  path : List UInt8
  kind : Int
  target : List UInt8
  mt : MetaP
  data : List UInt8
def entC (x : EntP) (dv : Value) : List Value := [.string (bs x.path), .int .i64 x.kind, .string (bs x.target), .int .i64 x.mt.mode, .int .i64 x.mt.uid, .int .i64 x.mt.gid, .string (bs x.mt.user), .string (bs x.mt.group), .int .i64 x.mt.second, .int .i64 x.mt.nano, dv]
def wrapI (x : Int) : Int := if 9223372036854775807 < x then x - 18446744073709551616 else x
def nmA (x : Int) : List UInt8 := namesL.getD (pick x 11).toNat []
def entPath (a : Int) : Nat → List UInt8
  | 0 => nmA a
  | k + 1 => entPath a k ++ 47 :: nmA (wrapI (a + k))
def entP (r : RawS) : EntP :=
  ⟨entPath r.a (pick r.b 5).toNat, 1 + pick r.kind 4, if 1 + pick r.kind 4 = 3 ∨ 1 + pick r.kind 4 = 4 then 116 :: List.replicate (pick r.b 150).toNat 117 else [], metaOf r,
    if 1 + pick r.kind 4 = 1 then Lib.repeatL (cleanS r.text 40) (pick r.b 40).toNat else []⟩

theorem nmA_mem (x : Int) : nmA x ∈ namesL := by
  have h := pick_bd x 11 (by omega)
  unfold nmA
  rw [List.getD_eq_getElem?_getD, List.getElem?_eq_getElem (by rw [show namesL.length = 11 from rfl]; omega)]
  exact List.getElem_mem _
theorem entPath_ok (a : Int) : ∀ k, PartsOk (entPath a k)
  | 0 => by
    obtain ⟨n1, n2, _⟩ := namesL_ok _ (nmA_mem a)
    refine ⟨n1, fun q hq => ?_⟩
    rw [entPath, splitC_miss n2, List.mem_singleton] at hq
    rw [hq]; exact nmA_mem a
  | k + 1 => by
    obtain ⟨_, n2, _⟩ := namesL_ok _ (nmA_mem (wrapI (a + k)))
    refine ⟨by simp [entPath], fun q hq => ?_⟩
    rw [entPath, splitC_append, splitC_miss n2] at hq
    rcases List.mem_append.1 hq with hq | hq
    · exact (entPath_ok a k).2 q hq
    · rw [List.mem_singleton] at hq
      rw [hq]; exact nmA_mem _
def lenN (i : Nat) : Nat := if i = 8 then 130 else if i = 7 then 60 else 5
theorem nmA_length (x : Int) : (nmA x).length ≤ lenN (pick x 11).toNat := by
  have h := pick_bd x 11 (by omega)
  unfold nmA
  obtain ⟨k, hk⟩ : ∃ k : Nat, pick x 11 = k := ⟨(pick x 11).toNat, by omega⟩
  rw [hk] at h ⊢
  rw [Int.toNat_natCast]
  rcases (show k = 0 ∨ k = 1 ∨ k = 2 ∨ k = 3 ∨ k = 4 ∨ k = 5 ∨ k = 6 ∨ k = 7 ∨ k = 8 ∨ k = 9 ∨ k = 10 by omega) with rfl | rfl | rfl | rfl | rfl | rfl | rfl | rfl | rfl | rfl | rfl <;> decide +kernel
theorem four_names (a : Int) (h : I64 a) : lenN (pick a 11).toNat + lenN (pick (wrapI (a + 0)) 11).toNat + lenN (pick (wrapI (a + 1)) 11).toNat + lenN (pick (wrapI (a + 2)) 11).toNat + lenN (pick (wrapI (a + 3)) 11).toNat ≤ 396 := by
  obtain ⟨h1, h2⟩ := h
  by_cases hb : 0 ≤ a ∧ a ≤ 9223372036854775804
  · have e : ∀ j : Int, 0 ≤ j → j ≤ 3 → pick (wrapI (a + j)) 11 = (a % 11 + j) % 11 := fun j _ _ => by
      rw [show wrapI (a + j) = a + j from if_neg (by omega)]; unfold pick; rw [if_neg (by omega)]; omega
    rw [e 0 (by omega) (by omega), e 1 (by omega) (by omega), e 2 (by omega) (by omega), e 3 (by omega) (by omega), show pick a 11 = a % 11 by unfold pick; rw [if_neg (by omega)]]
    obtain ⟨k, hk, _⟩ : ∃ k : Nat, a % 11 = k ∧ k < 11 := ⟨(a % 11).toNat, by omega, by omega⟩
    rw [hk]
    rcases (show k = 0 ∨ k = 1 ∨ k = 2 ∨ k = 3 ∨ k = 4 ∨ k = 5 ∨ k = 6 ∨ k = 7 ∨ k = 8 ∨ k = 9 ∨ k = 10 by omega) with rfl | rfl | rfl | rfl | rfl | rfl | rfl | rfl | rfl | rfl | rfl <;> decide
  · by_cases hc : a ≤ -4
    · have e : ∀ j : Int, 0 ≤ j → j ≤ 3 → pick (wrapI (a + j)) 11 = ((-(a + 1)) % 11 + 11 - j) % 11 := fun j _ _ => by
        rw [show wrapI (a + j) = a + j from if_neg (by omega)]; unfold pick; rw [if_pos (by omega)]; omega
      rw [e 0 (by omega) (by omega), e 1 (by omega) (by omega), e 2 (by omega) (by omega), e 3 (by omega) (by omega), show pick a 11 = (-(a + 1)) % 11 by unfold pick; rw [if_pos (by omega)]]
      obtain ⟨k, hk, _⟩ : ∃ k : Nat, (-(a + 1)) % 11 = k ∧ k < 11 := ⟨((-(a + 1)) % 11).toNat, by omega, by omega⟩
      rw [hk]
      rcases (show k = 0 ∨ k = 1 ∨ k = 2 ∨ k = 3 ∨ k = 4 ∨ k = 5 ∨ k = 6 ∨ k = 7 ∨ k = 8 ∨ k = 9 ∨ k = 10 by omega) with rfl | rfl | rfl | rfl | rfl | rfl | rfl | rfl | rfl | rfl | rfl <;> decide
    · rcases (show a = -3 ∨ a = -2 ∨ a = -1 ∨ a = 9223372036854775805 ∨ a = 9223372036854775806 ∨ a = 9223372036854775807 by omega) with rfl | rfl | rfl | rfl | rfl | rfl <;> decide
theorem entPath_length (a : Int) (h : I64 a) (k : Nat) (hk : k ≤ 4) : (entPath a k).length ≤ 400 := by
  have hf := four_names a h
  have l := nmA_length a
  have l0 := nmA_length (wrapI (a + 0))
  have l1 := nmA_length (wrapI (a + 1))
  have l2 := nmA_length (wrapI (a + 2))
  have l3 := nmA_length (wrapI (a + 3))
  rcases (show k = 0 ∨ k = 1 ∨ k = 2 ∨ k = 3 ∨ k = 4 by omega) with rfl | rfl | rfl | rfl | rfl <;>
    simp only [entPath, List.length_append, List.length_cons, show ((0 : Nat) : Int) = 0 from rfl, show ((1 : Nat) : Int) = 1 from rfl, show ((2 : Nat) : Int) = 2 from rfl, show ((3 : Nat) : Int) = 3 from rfl] <;> omega
end Go.Proofs.YtjglenhhgbokbaaGreatDoor
