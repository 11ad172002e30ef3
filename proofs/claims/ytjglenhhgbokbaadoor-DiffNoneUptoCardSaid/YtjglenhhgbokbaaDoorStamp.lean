/-
  stamp.Check, stamp.Text, each once; the law StampPlain. Condition: the library's table of powers of ten lies as Go laid it.
-/
import Derived.Test.YtjglenhhgbokbaaDoorDec
import Derived.Test.YtjglenhhgbokbaaDoorTab
import Derived.Test.YtjglenhhgbokbaaDoorStrs
import Derived.Test.YtjglenhhgbokbaaDoorUpBase
import Derived.Test.YtjglenhhgbokbaaDoorField
namespace Go.Proofs.YtjglenhhgbokbaaDoor
open Go.RowKit

def mxS : Int := 1099511627776
theorem mxS_eq : mxS = 1099511627776 := rfl
def timeOk (s n : Int) : Prop := -1099511627776 ≤ s ∧ s ≤ 1099511627776 ∧ 0 ≤ n ∧ n ≤ 999999999
set_option maxHeartbeats 400000 in
theorem SCheck_ok (s n : Int) (h : timeOk s n) (w : World) :
    Calls Tryd.prog 125 #[.int .i64 s, .int .i64 n] w fun e w' => e = .returned (.int .i64 0) ∧ w = w' := by
  obtain ⟨h1, h2, h3, h4⟩ := h
  go_enter Tryd.func125, Tryd.ntmps125
  go_wp2_with fail
  go_ret
  exact ⟨rfl, rfl⟩
set_option maxHeartbeats 800000 in
theorem SCheck_no (s n : Int) (h : ¬ timeOk s n) (w : World) :
    Calls Tryd.prog 125 #[.int .i64 s, .int .i64 n] w fun e w' => e = .returned (.int .i64 4) ∧ w = w' := by
  by_cases h1 : s < -1099511627776
  · go_enter Tryd.func125, Tryd.ntmps125
    go_wp2_with fail
    go_ret
    exact ⟨rfl, rfl⟩
  by_cases h2 : 1099511627776 < s
  · go_enter Tryd.func125, Tryd.ntmps125
    go_wp2_with fail
    go_ret
    exact ⟨rfl, rfl⟩
  by_cases h3 : n < 0
  · go_enter Tryd.func125, Tryd.ntmps125
    go_wp2_with fail
    go_ret
    exact ⟨rfl, rfl⟩
  have h4 : 999999999 < n := by
    unfold timeOk at h
    omega
  go_enter Tryd.func125, Tryd.ntmps125
  go_wp2_with fail
  go_ret
  exact ⟨rfl, rfl⟩

theorem itoa_nat (n : Nat) : Lib.itoa (n : Int) = Lib.decDigits n := Lib.itoa_nonneg n
theorem dec13 (n : Nat) (h : n ≤ 1099511627776) : (Lib.decDigits n).length ≤ 13 := dec_len 12 n (by omega)
theorem dec9 (n : Nat) (h : n < 1000000000) : (Lib.decDigits n).length ≤ 9 := dec_len 8 n (by omega)

/-- what the walk meets behind the sign: the seconds' digits, and those of the parts -/
def Sg (second : Int) : List UInt8 := if second < 0 then [45] else []
theorem textT_eq (second nano : Int) {S F : Nat} (h : absT second nano = (S, F)) : textT second nano = Sg second ++ bodyS S F := by
  unfold textT Sg; rw [h]
theorem text_zero {second nano : Int} {S : Nat} (h : absT second nano = (S, 0)) : bs (Sg second) ++ bs (Lib.decDigits S) = bs (textT second nano) := by
  rw [textT_eq second nano h, bs_append]; simp [bodyS]
theorem text_frac {second nano : Int} {S F : Nat} (h : absT second nano = (S, F)) (hF : F ≠ 0) :
    bs (Sg second) ++ bs (Lib.decDigits S) ++ ⟨#[46]⟩ ++ bs (frac F) = bs (textT second nano) := by
  rw [textT_eq second nano h, show (⟨#[46]⟩ : ByteArray) = bs [46] from rfl, bs_append, bs_append, bs_append]
  unfold bodyS; rw [if_neg hF]; simp
theorem pad_eq (F : Nat) : bs (List.replicate (9 - (Lib.decDigits F).length) 48) ++ bs (Lib.decDigits F) = bs (pad9 F) := bs_append _ _

theorem Repeat_0 (n : Nat) (x : Int) (h : x = n) (h2 : n ≤ 1000) (w : World) :
    Calls Tryd.prog 35 #[.string ⟨#[48]⟩, .int .i64 x] w fun e w' => e = .returned (.string (bs (List.replicate n 48))) ∧ Below w.heap.size w w' := by
  subst h
  exact Repeat_byte 48 n w (by omega)
end Go.Proofs.YtjglenhhgbokbaaDoor
