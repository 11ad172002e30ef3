/-
  Contracts of small functions: picked, pad.Blocks; the law PadFew. No condition beyond the ranges named.
-/
import Derived.Test.YtpibgdgcgflooaaFrame
import Derived.WalkKit
import Derived.WalkSpells
import Derived.WalkLawsBesides
import Derived.Lib.Hide
namespace Go.Proofs.Ytpibgdgcgflooaa
open Go.RowKit

theorem ret_int {k : IntKind} {a b : Int} (h : a = b) : Ending.returned (.int k a) = .returned (.int k b) := by rw [h]
theorem ret_bool {a b : Bool} (h : a = b) : Ending.returned (.bool a) = .returned (.bool b) := by rw [h]

def pick (n many : Int) : Int := (if n < 0 then -(n + 1) else n) % many

theorem pick_neg {n many : Int} (h : n < 0) : (-(n + 1)).tmod many = pick n many := by
  rw [pick, if_pos h, Int.tmod_eq_emod_of_nonneg (by omega)]
theorem pick_pos {n many : Int} (h : 0 ≤ n) : n % many = pick n many := by
  rw [pick, if_neg (by omega)]
theorem pick_bd (n many : Int) (hm : 1 ≤ many) : 0 ≤ pick n many ∧ pick n many < many := by
  unfold pick
  exact ⟨Int.emod_nonneg _ (by omega), Int.emod_lt_of_pos _ (by omega)⟩

set_option maxHeartbeats 400000 in
theorem picked_any (n many : Int) (hn : I64 n) (hm : 1 ≤ many) (hm2 : many ≤ 9223372036854775807) (w : World) :
    Calls Try.prog 15 #[.int .i64 n, .int .i64 many] w fun e w' => e = .returned (.int .i64 (pick n many)) ∧ w = w' := by
  obtain ⟨hn1, hn2⟩ := hn
  by_cases h : n < 0
  · go_enter Try.func15, Try.ntmps15
    go_wp2
    go_ret
    exact ⟨ret_int ((Int.neg_tmod ..).symm.trans (pick_neg h)), rfl⟩
  · go_enter Try.func15, Try.ntmps15
    go_wp2
    go_ret
    exact ⟨ret_int (pick_pos (by omega)), rfl⟩

def blocks (n : Int) : Int := (n + 512 - 1) / 512

set_option maxHeartbeats 400000 in
theorem Blocks_ok (n : Int) (h0 : 0 ≤ n) (h1 : n ≤ 8589934591) (w : World) :
    Calls Try.prog 16 #[.int .i64 n] w fun e w' => e = .returned (.tuple #[.int .i64 (blocks n), .int .i64 0]) ∧ w = w' := by
  go_enter Try.func16, Try.ntmps16
  go_wp2
  go_ret2
  exact ⟨rfl, rfl⟩

theorem PadFew_walk (w : World) (_hsh : w.ShapedOpen Try.prog) (a : Int) (ha : I64 a) (b : Int) (hb : I64 b) :
    Calls Try.prog 3 #[.int .i64 a, .int .i64 b] w fun e w' => e = .returned (.bool true) ∧ Below w.heap.size w w' := by
  have ⟨a1, a2⟩ := pick_bd a 2147483648 (by omega)
  have ⟨b1, b2⟩ := pick_bd b 2147483648 (by omega)
  go_enter Try.func3, Try.ntmps3
  go_wp2_with fail
  refine (picked_any a _ ha (by omega) (by omega) _).mono ?_
  rintro e w' ⟨rfl, rfl⟩
  go_wp2_with fail
  refine (picked_any b _ hb (by omega) (by omega) _).mono ?_
  rintro e w' ⟨rfl, rfl⟩
  generalize pick a 2147483648 = x at *
  generalize pick b 2147483648 = y at *
  go_wp2_with fail
  refine (Blocks_ok x (by omega) (by omega) _).mono ?_
  rintro e w' ⟨rfl, rfl⟩
  go_wp2_with fail
  refine (Blocks_ok y (by omega) (by omega) _).mono ?_
  rintro e w' ⟨rfl, rfl⟩
  go_wp2_with fail
  refine (Blocks_ok (x + y) (by omega) (by omega) _).mono ?_
  rintro e w' ⟨rfl, rfl⟩
  go_wp2_with fail
  refine (Blocks_ok 1 (by omega) (by omega) _).mono ?_
  rintro e w' ⟨rfl, rfl⟩
  have e1 : (blocks 1 == 1) = true := by decide
  have e2 : decide (blocks (x + y) ≤ blocks x + blocks y) = true := decide_eq_true (by unfold blocks; omega)
  have e3 : decide (blocks x + blocks y - 1 ≤ blocks (x + y)) = true := decide_eq_true (by unfold blocks; omega)
  have e4 : decide (x ≤ blocks x * 512) = true := decide_eq_true (by unfold blocks; omega)
  have e5 : decide (blocks x * 512 < x + 512) = true := decide_eq_true (by unfold blocks; omega)
  have b1 : 0 ≤ blocks x ∧ blocks x ≤ 8589934591 := by unfold blocks; omega
  have b2 : 0 ≤ blocks y ∧ blocks y ≤ 8589934591 := by unfold blocks; omega
  obtain ⟨b11, b12⟩ := b1
  obtain ⟨b21, b22⟩ := b2
  go_wp2_with fail
  go_ret
  exact ⟨rfl, Below.refl _ _⟩

end Go.Proofs.Ytpibgdgcgflooaa
