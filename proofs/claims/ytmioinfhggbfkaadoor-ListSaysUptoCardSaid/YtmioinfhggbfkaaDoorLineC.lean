/-
  list.two, the owner's name of list.Line, strconv.Itoa: what they answer. Condition: the library's table of powers of ten lies as Go laid it.
-/
import Derived.Test.YtmioinfhggbfkaaDoorEnts
import Derived.Test.YtmioinfhggbfkaaDoorList
import Derived.Test.YtmioinfhggbfkaaDoorMeta
import Derived.Deep.RegionHeld3
import Derived.IntWalk
import Derived.Deep.DeepCutAuto
namespace Go.Proofs.YtmioinfhggbfkaaDoor
set_option linter.all false
open Go.RowKit

/-- a number's digits are few -/
theorem itoa_few (n : Int) (h1 : -10000000000000000 < n) (h2 : n < 10000000000000000) : (Lib.itoa n).length ≤ 17 := by
  unfold Lib.itoa
  split
  · have := dec_len 15 n.natAbs (by omega)
    simp only [List.length_cons]; omega
  · have := dec_len 15 n.toNat (by omega)
    omega
theorem Itoa_at (n : Int) (h1 : -10000000000000000 < n) (h2 : n < 10000000000000000) (w : World) (h : P10 w) :
    Calls Tryd.prog 30 #[.int .i64 n] w fun e w' => e = .returned (.string (bs (Lib.itoa n))) ∧ Below w.heap.size w w' := Itoa_any n ⟨by omega, by omega⟩ w h
def twoT (n : Nat) : List UInt8 := Lib.itoa ((n / 10 : Nat) : Int) ++ Lib.itoa ((n % 10 : Nat) : Int)
theorem twoT_few (n : Nat) (h : n ≤ 99) : (twoT n).length ≤ 34 := by
  have h1 := itoa_few ((n / 10 : Nat) : Int) (by omega) (by omega)
  have h2 := itoa_few ((n % 10 : Nat) : Int) (by omega) (by omega)
  unfold twoT
  rw [List.length_append]
  omega
set_option maxHeartbeats 1000000 in
theorem two_at (n : Nat) (h : n ≤ 99) (w : World) (hp : P10 w) :
    Calls Tryd.prog 31 #[.int .i64 n] w fun e w' => e = .returned (.string (bs (twoT n))) ∧ Below w.heap.size w w' := by
  have H1 := Lib.hid (fun w hp => Itoa_at ((n / 10 : Nat) : Int) (by omega) (by omega) w hp)
  have H2 := Lib.hid (fun w hp => Itoa_at ((n % 10 : Nat) : Int) (by omega) (by omega) w hp)
  have z1 := itoa_few ((n / 10 : Nat) : Int) (by omega) (by omega)
  have z2 := itoa_few ((n % 10 : Nat) : Int) (by omega) (by omega)
  have y1 := bs_size (Lib.itoa ((n / 10 : Nat) : Int))
  have y2 := bs_size (Lib.itoa ((n % 10 : Nat) : Int))
  have HT : Hid (bs (Lib.itoa ((n / 10 : Nat) : Int)) ++ bs (Lib.itoa ((n % 10 : Nat) : Int)) = bs (twoT n)) := Lib.hid (bs_append _ _)
  have HP := Lib.hid hp
  clear hp
  generalize bs (Lib.itoa ((n / 10 : Nat) : Int)) = b1 at *
  generalize bs (Lib.itoa ((n % 10 : Nat) : Int)) = b2 at *
  go_enter Tryd.func31, Tryd.ntmps31
  go_wp2_with fail
  refine (H1.out _ HP.out).mono ?_
  rintro e w1 ⟨rfl, h1⟩
  go_wp2_with fail
  refine (H2.out _ (HP.out.below h1)).mono ?_
  rintro e w2 ⟨rfl, h2⟩
  go_wp2_with fail
  go_ret
  exact ⟨by rw [← HT.out]; rfl, h1.trans (h2.mono h1.size)⟩
def whoT (s : List UInt8) (n : Int) : List UInt8 := if s = [] then Lib.itoa n else s
theorem whoT_few (s : List UInt8) (n : Int) (hs : s.length ≤ 60) (h1 : 0 ≤ n) (h2 : n ≤ 1125899906842624) : (whoT s n).length ≤ 60 := by
  have := itoa_few n (by omega) (by omega)
  unfold whoT
  split <;> omega
set_option maxHeartbeats 1000000 in
theorem who_at (s : List UInt8) (n : Int) (h1 : 0 ≤ n) (h2 : n ≤ 1125899906842624) (w : World) (hp : P10 w) :
    Calls Tryd.prog 29 #[.string (bs s), .int .i64 n] w fun e w' => e = .returned (.string (bs (whoT s n))) ∧ Below w.heap.size w w' := by
  by_cases h0 : s = []
  · subst h0
    rw [show bs [] = ⟨#[]⟩ from rfl]
    go_enter Tryd.func29, Tryd.ntmps29
    go_wp2_with fail
    refine (Itoa_at n (by omega) (by omega) _ hp).mono ?_
    rintro e w1 ⟨rfl, b1⟩
    go_wp2_with fail
    go_ret
    exact ⟨by rw [whoT, if_pos rfl]; rfl, b1⟩
  · have t7 : (bs s).toList.isEmpty = false := by rw [bs_toList]; cases s with | nil => exact absurd rfl h0 | cons _ _ => rfl
    go_enter Tryd.func29, Tryd.ntmps29
    go_wp2_with fail
    go_ret
    exact ⟨by rw [whoT, if_neg h0]; rfl, Below.refl _ _⟩

end Go.Proofs.YtmioinfhggbfkaaDoor
