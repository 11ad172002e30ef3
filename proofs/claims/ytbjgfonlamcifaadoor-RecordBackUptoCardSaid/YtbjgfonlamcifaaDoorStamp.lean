/-
  stamp.Check, stamp.Text, each once; the law StampPlain. Condition: the library's table of powers of ten lies as Go laid it.
-/
import Derived.Test.YtbjgfonlamcifaaDoorDec
import Derived.Test.YtbjgfonlamcifaaDoorTab
import Derived.Test.YtbjgfonlamcifaaDoorStrs
import Derived.Test.YtbjgfonlamcifaaDoorUpBase
import Derived.Test.YtbjgfonlamcifaaDoorField
namespace Go.Proofs.YtbjgfonlamcifaaDoor
open Go.RowKit

def mxS : Int := 1099511627776
theorem mxS_eq : mxS = 1099511627776 := rfl
def timeOk (s n : Int) : Prop := -1099511627776 ≤ s ∧ s ≤ 1099511627776 ∧ 0 ≤ n ∧ n ≤ 999999999
set_option maxHeartbeats 400000 in
theorem SCheck_ok (s n : Int) (h : timeOk s n) (w : World) :
    Calls Tryd.prog 58 #[.int .i64 s, .int .i64 n] w fun e w' => e = .returned (.int .i64 0) ∧ w = w' := by
  obtain ⟨h1, h2, h3, h4⟩ := h
  go_enter Tryd.func58, Tryd.ntmps58
  go_wp2_with fail
  go_ret
  exact ⟨rfl, rfl⟩
set_option maxHeartbeats 800000 in
theorem SCheck_no (s n : Int) (h : ¬ timeOk s n) (w : World) :
    Calls Tryd.prog 58 #[.int .i64 s, .int .i64 n] w fun e w' => e = .returned (.int .i64 4) ∧ w = w' := by
  by_cases h1 : s < -1099511627776
  · go_enter Tryd.func58, Tryd.ntmps58
    go_wp2_with fail
    go_ret
    exact ⟨rfl, rfl⟩
  by_cases h2 : 1099511627776 < s
  · go_enter Tryd.func58, Tryd.ntmps58
    go_wp2_with fail
    go_ret
    exact ⟨rfl, rfl⟩
  by_cases h3 : n < 0
  · go_enter Tryd.func58, Tryd.ntmps58
    go_wp2_with fail
    go_ret
    exact ⟨rfl, rfl⟩
  have h4 : 999999999 < n := by
    unfold timeOk at h
    omega
  go_enter Tryd.func58, Tryd.ntmps58
  go_wp2_with fail
  go_ret
  exact ⟨rfl, rfl⟩

theorem itoa_nat (n : Nat) : Lib.itoa (n : Int) = Lib.decDigits n := Lib.itoa_nonneg n
theorem TrimRight_0 (l : List UInt8) (w : World) (hs : l.length ≤ 1000) :
    Calls Tryd.prog 59 #[.string (bs l), .string ⟨#[48]⟩] w fun e w' => e = .returned (.string (bs (Lib.trimRightB l 48))) ∧ w = w' :=
  (Tryd.strings_TrimRight_one (bs l) 48 (by decide) w (by rw [bs_size]; omega)).mono fun e w' ⟨h1, h2⟩ => ⟨by rw [h1, bs_data]; rfl, h2.symm⟩
theorem dec13 (n : Nat) (h : n ≤ 1099511627776) : (Lib.decDigits n).length ≤ 13 := dec_len 12 n (by omega)
theorem dec9 (n : Nat) (h : n < 1000000000) : (Lib.decDigits n).length ≤ 9 := dec_len 8 n (by omega)

/-- what the walk meets behind the sign: the seconds' digits, and those of the parts -/
def Sg (second : Int) : List UInt8 := if second < 0 then [45] else []
theorem textT_eq (second nano : Int) {S F : Nat} (h : absT second nano = (S, F)) : textT second nano = Sg second ++ bodyS S F := by
  unfold textT Sg; rw [h]
theorem text_zero {second nano : Int} {S : Nat} (h : absT second nano = (S, 0)) : bs (Sg second) ++ bs (Lib.decDigits S) = bs (textT second nano) := by
  rw [textT_eq second nano h, bs_append]; simp [bodyS]
theorem text_frac {second nano : Int} {S F : Nat} (h : absT second nano = (S, F)) (hF : F ≠ 0) :
    bs (Sg second) ++ bs (Lib.decDigits S) ++ ⟨#[46]⟩ ++ bs (frac F) = bs (textT second nano) := by
  rw [textT_eq second nano h, show (⟨#[46]⟩ : ByteArray) = bs [46] from rfl, bs_append, bs_append, bs_append]
  unfold bodyS; rw [if_neg hF]; simp
theorem pad_eq (F : Nat) : bs (List.replicate (9 - (Lib.decDigits F).length) 48) ++ bs (Lib.decDigits F) = bs (pad9 F) := bs_append _ _

theorem Itoa_as (n : Int) (S : Nat) (h : n = S) (h2 : S ≤ 1099511627776) (w : World) (h10 : P10 w) :
    Calls Tryd.prog 18 #[.int .i64 n] w fun e w' => e = .returned (.string (bs (Lib.decDigits S))) ∧ Below w.heap.size w w' := by
  subst h
  exact (Itoa_any S ⟨by omega, by omega⟩ w h10).mono fun e w' ⟨h1, h2⟩ => ⟨by rw [h1, itoa_nat], h2⟩
theorem Repeat_0 (n : Nat) (x : Int) (h : x = n) (h2 : n ≤ 1000) (w : World) :
    Calls Tryd.prog 38 #[.string ⟨#[48]⟩, .int .i64 x] w fun e w' => e = .returned (.string (bs (List.replicate n 48))) ∧ Below w.heap.size w w' := by
  subst h
  exact Repeat_byte 48 n w (by omega)
theorem Trim_pad (F : Nat) (h : F < 1000000000) (w : World) :
    Calls Tryd.prog 59 #[.string (bs (pad9 F)), .string ⟨#[48]⟩] w fun e w' => e = .returned (.string (bs (frac F))) ∧ w = w' :=
  TrimRight_0 (pad9 F) w (by rw [pad9_length F h]; omega)

set_option maxRecDepth 100000 in
set_option maxHeartbeats 1000000 in
theorem Text_negfrac (second nano : Int) (h : timeOk second nano) (hs : second < 0) (hn : 0 < nano) (w : World) (h10 : P10 w) :
    Calls Tryd.prog 25 #[.int .i64 second, .int .i64 nano] w fun e w' => e = .returned (.tuple #[.string (bs (textT second nano)), .int .i64 0]) ∧ Below w.heap.size w w' := by
  have hC := Lib.hid (fun w => SCheck_ok second nano h w)
  obtain ⟨h1, h2, h3, h4⟩ := h
  have H10 := Lib.hid h10
  clear h10
  have sg : bs (Sg second) = ⟨#[45]⟩ := by unfold Sg; rw [if_pos hs]; rfl
  have zg : (ByteArray.mk #[45]).size = 1 := rfl
  obtain ⟨S, hS⟩ := Int.eq_ofNat_of_zero_le (show 0 ≤ -second - 1 by omega)
  obtain ⟨F, hF⟩ := Int.eq_ofNat_of_zero_le (show 0 ≤ 1000000000 - nano by omega)
  have ha : absT second nano = (S, F) := by unfold absT; rw [if_pos hs, if_pos hn, hS, hF]; simp
  have hF1 : F < 1000000000 := by omega
  have fin := text_frac ha (by omega)
  rw [sg] at fin
  have Fin := Lib.hid fin
  have hI1 := Lib.hid (fun w h => Itoa_as (-second - 1) S hS (by omega) w h)
  have hI2 := Lib.hid (fun w h => Itoa_as (1000000000 - nano) F hF (by omega) w h)
  have hp := pad_eq F
  have lS := dec13 S (by omega)
  have lF := dec9 F (by omega)
  have lP := pad9_length F (by omega)
  have lQ := frac_len F (by omega)
  have hT := Lib.hid (fun w => Trim_pad F hF1 w)
  have zS := bs_size (Lib.decDigits S)
  have zF := bs_size (Lib.decDigits F)
  have zP := bs_size (pad9 F)
  have zQ := bs_size (frac F)
  rw [lP] at zP
  have hR := Lib.hid (fun x h w => Repeat_0 (9 - (Lib.decDigits F).length) x h (by omega) w)
  have zR := bs_rep_size 48 (9 - (Lib.decDigits F).length)
  have zz : 9 - (Lib.decDigits F).length ≤ 9 := by omega
  clear sg fin ha lP
  have HS := Lib.hid hS; have HF := Lib.hid hF
  clear hS hF
  generalize bs (List.replicate (9 - (Lib.decDigits F).length) 48) = bR at *
  generalize bs (pad9 F) = bP at *
  generalize bs (frac F) = bQ at *
  generalize (frac F).length = nQ at *
  generalize bs (Lib.decDigits S) = bS at *
  generalize bs (Lib.decDigits F) = bF at *
  generalize (Lib.decDigits S).length = nS at *
  generalize hnF : (Lib.decDigits F).length = nF at *
  clear hnF
  go_enter Tryd.func25, Tryd.ntmps25
  go_wp2_with fail
  refine (hC.out _).mono ?_
  rintro e w' ⟨rfl, rfl⟩
  go_wp2_with fail
  refine (hI1.out _ H10.out).mono ?_
  rintro e w1 ⟨rfl, b1⟩
  go_wp2_with fail
  refine (hI2.out _ (H10.out.below b1)).mono ?_
  rintro e w2 ⟨rfl, b2⟩
  go_wp2_with fail
  refine (hR.out _ (by omega) _).mono ?_
  rintro e w3 ⟨rfl, b3⟩
  go_wp2_with fail
  refine (hT.out _).mono ?_
  rintro e w' ⟨rfl, rfl⟩
  have kb := Lib.hid (b1.trans ((b2.trans (b3.mono b2.size)).mono b1.size))
  clear b1 b2 b3
  go_wp2_with fail
  go_ret2
  exact ⟨ret_si (Fin.out) rfl, kb.out⟩
set_option maxRecDepth 100000 in
set_option maxHeartbeats 1000000 in
theorem Text_posfrac (second nano : Int) (h : timeOk second nano) (hs : ¬ second < 0) (hn : 0 < nano) (w : World) (h10 : P10 w) :
    Calls Tryd.prog 25 #[.int .i64 second, .int .i64 nano] w fun e w' => e = .returned (.tuple #[.string (bs (textT second nano)), .int .i64 0]) ∧ Below w.heap.size w w' := by
  have hC := Lib.hid (fun w => SCheck_ok second nano h w)
  obtain ⟨h1, h2, h3, h4⟩ := h
  have H10 := Lib.hid h10
  clear h10
  have sg : bs (Sg second) = ⟨#[]⟩ := by unfold Sg; rw [if_neg hs]; rfl
  have zg : (ByteArray.mk #[]).size = 0 := rfl
  obtain ⟨S, hS⟩ := Int.eq_ofNat_of_zero_le (show 0 ≤ second by omega)
  obtain ⟨F, hF⟩ := Int.eq_ofNat_of_zero_le (show 0 ≤ nano by omega)
  have ha : absT second nano = (S, F) := by unfold absT; rw [if_neg hs, hS, hF]; simp
  have hF1 : F < 1000000000 := by omega
  have fin := text_frac ha (by omega)
  rw [sg] at fin
  have Fin := Lib.hid fin
  have hI1 := Lib.hid (fun w h => Itoa_as (second) S hS (by omega) w h)
  have hI2 := Lib.hid (fun w h => Itoa_as (nano) F hF (by omega) w h)
  have hp := pad_eq F
  have lS := dec13 S (by omega)
  have lF := dec9 F (by omega)
  have lP := pad9_length F (by omega)
  have lQ := frac_len F (by omega)
  have hT := Lib.hid (fun w => Trim_pad F hF1 w)
  have zS := bs_size (Lib.decDigits S)
  have zF := bs_size (Lib.decDigits F)
  have zP := bs_size (pad9 F)
  have zQ := bs_size (frac F)
  rw [lP] at zP
  have hR := Lib.hid (fun x h w => Repeat_0 (9 - (Lib.decDigits F).length) x h (by omega) w)
  have zR := bs_rep_size 48 (9 - (Lib.decDigits F).length)
  have zz : 9 - (Lib.decDigits F).length ≤ 9 := by omega
  clear sg fin ha lP
  have HS := Lib.hid hS; have HF := Lib.hid hF
  clear hS hF
  generalize bs (List.replicate (9 - (Lib.decDigits F).length) 48) = bR at *
  generalize bs (pad9 F) = bP at *
  generalize bs (frac F) = bQ at *
  generalize (frac F).length = nQ at *
  generalize bs (Lib.decDigits S) = bS at *
  generalize bs (Lib.decDigits F) = bF at *
  generalize (Lib.decDigits S).length = nS at *
  generalize hnF : (Lib.decDigits F).length = nF at *
  clear hnF
  go_enter Tryd.func25, Tryd.ntmps25
  go_wp2_with fail
  refine (hC.out _).mono ?_
  rintro e w' ⟨rfl, rfl⟩
  go_wp2_with fail
  refine (hI1.out _ H10.out).mono ?_
  rintro e w1 ⟨rfl, b1⟩
  go_wp2_with fail
  refine (hI2.out _ (H10.out.below b1)).mono ?_
  rintro e w2 ⟨rfl, b2⟩
  go_wp2_with fail
  refine (hR.out _ (by omega) _).mono ?_
  rintro e w3 ⟨rfl, b3⟩
  go_wp2_with fail
  refine (hT.out _).mono ?_
  rintro e w' ⟨rfl, rfl⟩
  have kb := Lib.hid (b1.trans ((b2.trans (b3.mono b2.size)).mono b1.size))
  clear b1 b2 b3
  go_wp2_with fail
  go_ret2
  exact ⟨ret_si (Fin.out) rfl, kb.out⟩
set_option maxRecDepth 100000 in
set_option maxHeartbeats 1000000 in
theorem Text_neg (second nano : Int) (h : timeOk second nano) (hs : second < 0) (hn : ¬ 0 < nano) (w : World) (h10 : P10 w) :
    Calls Tryd.prog 25 #[.int .i64 second, .int .i64 nano] w fun e w' => e = .returned (.tuple #[.string (bs (textT second nano)), .int .i64 0]) ∧ Below w.heap.size w w' := by
  have hC := Lib.hid (fun w => SCheck_ok second nano h w)
  obtain ⟨h1, h2, h3, h4⟩ := h
  have H10 := Lib.hid h10
  clear h10
  have sg : bs (Sg second) = ⟨#[45]⟩ := by unfold Sg; rw [if_pos hs]; rfl
  have zg : (ByteArray.mk #[45]).size = 1 := rfl
  obtain ⟨S, hS⟩ := Int.eq_ofNat_of_zero_le (show 0 ≤ -second by omega)
  have ha : absT second nano = (S, 0) := by unfold absT; rw [if_pos hs, if_neg hn, hS]; simp; try omega
  have fin := text_zero ha
  rw [sg] at fin
  have Fin := Lib.hid fin
  have hI1 := Lib.hid (fun w h => Itoa_as (-second) S hS (by omega) w h)
  have lS := dec13 S (by omega)
  have zS := bs_size (Lib.decDigits S)
  have hn0 : (nano == 0) = true := by rw [beq_iff_eq]; omega
  clear sg fin ha
  have HS := Lib.hid hS
  clear hS
  generalize bs (Lib.decDigits S) = bS at *
  generalize (Lib.decDigits S).length = nS at *
  go_enter Tryd.func25, Tryd.ntmps25
  go_wp2_with fail
  refine (hC.out _).mono ?_
  rintro e w' ⟨rfl, rfl⟩
  go_wp2_with fail
  refine (hI1.out _ H10.out).mono ?_
  rintro e w1 ⟨rfl, b1⟩
  go_wp2_with fail
  go_ret2
  exact ⟨ret_si (Fin.out) rfl, b1⟩
set_option maxRecDepth 100000 in
set_option maxHeartbeats 1000000 in
theorem Text_pos (second nano : Int) (h : timeOk second nano) (hs : ¬ second < 0) (hn : ¬ 0 < nano) (w : World) (h10 : P10 w) :
    Calls Tryd.prog 25 #[.int .i64 second, .int .i64 nano] w fun e w' => e = .returned (.tuple #[.string (bs (textT second nano)), .int .i64 0]) ∧ Below w.heap.size w w' := by
  have hC := Lib.hid (fun w => SCheck_ok second nano h w)
  obtain ⟨h1, h2, h3, h4⟩ := h
  have H10 := Lib.hid h10
  clear h10
  have sg : bs (Sg second) = ⟨#[]⟩ := by unfold Sg; rw [if_neg hs]; rfl
  have zg : (ByteArray.mk #[]).size = 0 := rfl
  obtain ⟨S, hS⟩ := Int.eq_ofNat_of_zero_le (show 0 ≤ second by omega)
  have ha : absT second nano = (S, 0) := by unfold absT; rw [if_neg hs, hS]; simp; try omega
  have fin := text_zero ha
  rw [sg] at fin
  have Fin := Lib.hid fin
  have hI1 := Lib.hid (fun w h => Itoa_as (second) S hS (by omega) w h)
  have lS := dec13 S (by omega)
  have zS := bs_size (Lib.decDigits S)
  have hn0 : (nano == 0) = true := by rw [beq_iff_eq]; omega
  clear sg fin ha
  have HS := Lib.hid hS
  clear hS
  generalize bs (Lib.decDigits S) = bS at *
  generalize (Lib.decDigits S).length = nS at *
  go_enter Tryd.func25, Tryd.ntmps25
  go_wp2_with fail
  refine (hC.out _).mono ?_
  rintro e w' ⟨rfl, rfl⟩
  go_wp2_with fail
  refine (hI1.out _ H10.out).mono ?_
  rintro e w1 ⟨rfl, b1⟩
  go_wp2_with fail
  go_ret2
  exact ⟨ret_si (Fin.out) rfl, b1⟩
theorem Text_ok (second nano : Int) (h : timeOk second nano) (w : World) (h10 : P10 w) :
    Calls Tryd.prog 25 #[.int .i64 second, .int .i64 nano] w fun e w' => e = .returned (.tuple #[.string (bs (textT second nano)), .int .i64 0]) ∧ Below w.heap.size w w' := by
  by_cases hs : second < 0 <;> by_cases hn : 0 < nano
  · exact Text_negfrac second nano h hs hn w h10
  · exact Text_neg second nano h hs hn w h10
  · exact Text_posfrac second nano h hs hn w h10
  · exact Text_pos second nano h hs hn w h10
set_option maxHeartbeats 400000 in
theorem Text_no (second nano : Int) (h : ¬ timeOk second nano) (w : World) :
    Calls Tryd.prog 25 #[.int .i64 second, .int .i64 nano] w fun e w' => e = .returned (.tuple #[.string (bs []), .int .i64 4]) ∧ w = w' := by
  go_enter Tryd.func25, Tryd.ntmps25
  go_wp2_with fail
  refine (SCheck_no second nano h _).mono ?_
  rintro e w' ⟨rfl, rfl⟩
  go_wp2_with fail
  go_ret2
  exact ⟨rfl, rfl⟩
end Go.Proofs.YtbjgfonlamcifaaDoor
