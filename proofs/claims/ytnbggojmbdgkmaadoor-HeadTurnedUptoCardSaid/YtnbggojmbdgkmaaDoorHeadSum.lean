/-
  head.Sum, once. No condition.
-/
import Derived.Test.YtnbggojmbdgkmaaDoorField
namespace Go.Proofs.YtnbggojmbdgkmaaDoor
open Go.RowKit

/-- the sum of a block's first k bytes, its own field as blanks -/
def hsum (l : List UInt8) : Nat → Nat
  | 0 => 256
  | k + 1 => hsum l k + (if k < 148 ∨ 156 ≤ k then (l.getD k 0).toNat else 0)
theorem hsum_bd (l : List UInt8) (k : Nat) : hsum l k ≤ 256 + 255 * k := by
  induction k with
  | zero => simp [hsum]
  | succ k ih =>
    have := (l.getD k 0).toNat_lt
    rw [hsum]
    split <;> omega
set_option maxRecDepth 100000 in
set_option maxHeartbeats 400000 in
theorem HSum_any (l : List UInt8) (h : l.length = 512) (w : World) :
    Calls Tryd.prog 18 #[.string (bs l)] w fun e w' => e = .returned (.tuple #[.int .i64 (hsum l 512), .int .i64 0]) ∧ w = w' := by
  have hz := bs_size l
  have hget := Lib.hid (fun (k : Nat) (hk : k < (bs l).size) => bs_get l k hk)
  obtain ⟨N, hN⟩ : ∃ N, N = 512 := ⟨_, rfl⟩
  rw [h, ← hN] at hz
  have e0 : ((N : Int) != 512) = false := by rw [hN]; rfl
  have e1 : (N : Int) = 512 := by omega
  have HN := Lib.hid hN
  have hN2 : N ≤ 512 := by omega
  clear hN h
  generalize bs l = bl at *
  go_enter Tryd.func18, Tryd.ntmps18
  go_wp2
  go_loop [4, 11] (fun t i => ∃ k : Nat, k ≤ N ∧ i = .int .i64 k ∧ t = .int .i64 (hsum l k)) (fun _ i => N - (intOf i).toNat)
  case atStart => exact ⟨0, Nat.zero_le _, rfl, rfl⟩
  case round =>
    obtain ⟨k, hk, rfl, rfl⟩ := hrel
    have hbd := hsum_bd l k
    by_cases hlt : k < N
    · have hkl : k < bl.size := by omega
      obtain ⟨c, hc, hc1, hc2⟩ : ∃ c : Nat, (bl[k].toNat : Int) = c ∧ c = (l.getD k 0).toNat ∧ c < 256 := ⟨_, rfl, by rw [hget.out k hkl], bl[k].toNat_lt⟩
      by_cases hin : k < 148 ∨ 156 ≤ k
      · have HS := Lib.hid (show hsum l (k + 1) = hsum l k + c by rw [hsum, if_pos hin, hc1])
        clear hc1
        generalize hsum l k = q at *
        rcases hin with hin | hin
        · go_wp2
          go_round
          case rel => exact ⟨k + 1, by omega, by go_num, by rw [HS.out]; go_num⟩
          case measure => simp [intOf]; omega
        · have n1 : ¬ k < 148 := by omega
          go_wp2
          go_round
          case rel => exact ⟨k + 1, by omega, by go_num, by rw [HS.out]; go_num⟩
          case measure => simp [intOf]; omega
      · have HS := Lib.hid (show hsum l (k + 1) = hsum l k by rw [hsum, if_neg hin]; rfl)
        have n1 : ¬ k < 148 := by omega
        have n2 : ¬ 156 ≤ k := by omega
        clear hc1 hin
        generalize hsum l k = q at *
        go_wp2
        go_round
        case rel => exact ⟨k + 1, by omega, by go_num, by rw [HS.out]⟩
        case measure => simp [intOf]; omega
    · obtain rfl : k = N := by omega
      go_wp2
      go_ret2
      exact ⟨by rw [HN.out]; rfl, rfl⟩
end Go.Proofs.YtnbggojmbdgkmaaDoor
