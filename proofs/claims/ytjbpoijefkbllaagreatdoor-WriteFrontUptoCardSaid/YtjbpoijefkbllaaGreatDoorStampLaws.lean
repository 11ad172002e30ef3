/-
  stamp.Parse as one function of the text; the laws StampBack, StampTurns. Condition: the library's table of powers of ten lies as Go laid it; texts of at most 1048576 bytes.
-/
import Derived.Test.YtjbpoijefkbllaaGreatDoorStampParse
namespace Go.Proofs.YtjbpoijefkbllaaGreatDoor
open Go.RowKit

theorem parse_bad {l : List UInt8} (h : okT l = false) : parseT l = (0, 0, 3) := by unfold parseT; rw [if_neg (by rw [h]; simp)]
theorem parse_no {l : List UInt8} {a b : Int} (ha : aT l = a) (hb : bT l = b) (h : ¬ timeOk a b) : parseT l = (0, 0, 3) := by
  unfold parseT; rw [ha, hb, if_neg (fun x => h x.2.1)]
theorem parse_other {l : List UInt8} {a b : Int} (ha : aT l = a) (hb : bT l = b) (h : textT a b ≠ l) : parseT l = (0, 0, 3) := by
  unfold parseT; rw [ha, hb, if_neg (fun x => h x.2.2)]
theorem parse_yes {l : List UInt8} {a b : Int} (hk : okT l = true) (ha : aT l = a) (hb : bT l = b) (ht : timeOk a b) (h : textT a b = l) : parseT l = (a, b, 0) := by
  unfold parseT; rw [ha, hb, if_pos ⟨hk, ht, h⟩]
def PR (p : Int × Int × Int) : Ending := .returned (.tuple #[.int .i64 p.1, .int .i64 p.2.1, .int .i64 p.2.2])
theorem Parse_any (l : List UInt8) (hl : l.length ≤ 100000000) (w : World) (hm : ML w) (h10 : P10 w) :
    Calls Tryz.prog 106 #[.string (bs l)] w fun e w' => e = PR (parseT l) ∧ Below w.heap.size w w' := by
  cases hdot : dotT l <;> cases hok1 : digOk (wholeT l) 13
  · rw [parse_bad (by unfold okT; rw [hok1]; rfl)]
    exact Parse_bad1 l hl hdot hok1 w hm
  · have hk : okT l = true := by unfold okT; rw [hok1, hdot]; rfl
    have hv : v2T l = 0 := by unfold v2T; rw [hdot]; rfl
    cases hbel : belT l
    · have ha : aT l = (digV (wholeT l) 13 : Int) := by unfold aT; rw [hbel]; rfl
      have hb : bT l = 0 := by unfold bT; rw [hbel, hv]; rfl
      by_cases ht : timeOk (digV (wholeT l) 13 : Int) 0
      · by_cases hx : textT (digV (wholeT l) 13 : Int) 0 = l
        · rw [parse_yes hk ha hb ht hx]; exact Parse_whole_yes l hl hdot hok1 hbel ht hx w hm h10
        · rw [parse_other ha hb hx]; exact Parse_whole_other l hl hdot hok1 hbel ht hx w hm h10
      · rw [parse_no ha hb ht]; exact Parse_whole_no l hl hdot hok1 hbel ht w hm
    · have ha : aT l = -(digV (wholeT l) 13 : Int) := by unfold aT; rw [hbel, hv]; rfl
      have hb : bT l = 0 := by unfold bT; rw [hbel, hv]; rfl
      by_cases ht : timeOk (-(digV (wholeT l) 13 : Int)) 0
      · by_cases hx : textT (-(digV (wholeT l) 13 : Int)) 0 = l
        · rw [parse_yes hk ha hb ht hx]; exact Parse_wholeneg_yes l hl hdot hok1 hbel ht hx w hm h10
        · rw [parse_other ha hb hx]; exact Parse_wholeneg_other l hl hdot hok1 hbel ht hx w hm h10
      · rw [parse_no ha hb ht]; exact Parse_wholeneg_no l hl hdot hok1 hbel ht w hm
  · rw [parse_bad (by unfold okT; rw [hok1]; rfl)]
    cases hok2 : digOk (inT (partT l)) 9
    · exact Parse_bad2 l hl hdot hok1 hok2 w hm
    · exact Parse_bad3 l hl hdot hok1 hok2 w hm
  · cases hok2 : digOk (inT (partT l)) 9
    · rw [parse_bad (by unfold okT; rw [hok1, hok2, hdot]; rfl)]
      exact Parse_bad4 l hl hdot hok1 hok2 w hm
    · have hk : okT l = true := by unfold okT; rw [hok1, hok2, hdot]; rfl
      have hv : v2T l = digV (inT (partT l)) 9 := by unfold v2T; rw [hdot]; rfl
      cases hbel : belT l
      · have ha : aT l = (digV (wholeT l) 13 : Int) := by unfold aT; rw [hbel]; rfl
        have hb : bT l = (digV (inT (partT l)) 9 : Int) := by unfold bT; rw [hbel, hv]; rfl
        by_cases ht : timeOk (digV (wholeT l) 13 : Int) (digV (inT (partT l)) 9 : Int)
        · by_cases hx : textT (digV (wholeT l) 13 : Int) (digV (inT (partT l)) 9 : Int) = l
          · rw [parse_yes hk ha hb ht hx]; exact Parse_dot_yes l hl hdot hok1 hok2 hbel ht hx w hm h10
          · rw [parse_other ha hb hx]; exact Parse_dot_other l hl hdot hok1 hok2 hbel ht hx w hm h10
        · rw [parse_no ha hb ht]; exact Parse_dot_no l hl hdot hok1 hok2 hbel ht w hm
      · by_cases hn : 0 < digV (inT (partT l)) 9
        · have ha : aT l = -(digV (wholeT l) 13 : Int) - 1 := by unfold aT; rw [hbel, hv, if_pos rfl, if_pos hn]; rfl
          have hb : bT l = 1000000000 - (digV (inT (partT l)) 9 : Int) := by unfold bT; rw [hbel, hv, if_pos rfl, if_pos hn]
          by_cases ht : timeOk (-(digV (wholeT l) 13 : Int) - 1) (1000000000 - (digV (inT (partT l)) 9 : Int))
          · by_cases hx : textT (-(digV (wholeT l) 13 : Int) - 1) (1000000000 - (digV (inT (partT l)) 9 : Int)) = l
            · rw [parse_yes hk ha hb ht hx]; exact Parse_dotneg_yes l hl hdot hok1 hok2 hbel hn ht hx w hm h10
            · rw [parse_other ha hb hx]; exact Parse_dotneg_other l hl hdot hok1 hok2 hbel hn ht hx w hm h10
          · rw [parse_no ha hb ht]; exact Parse_dotneg_no l hl hdot hok1 hok2 hbel hn ht w hm
        · have h0 : digV (inT (partT l)) 9 = 0 := by omega
          have ha : aT l = -(digV (wholeT l) 13 : Int) := by unfold aT; rw [hbel, hv, if_pos rfl, if_neg hn]; rfl
          have hb : bT l = 0 := by unfold bT; rw [hbel, hv, if_pos rfl, if_neg hn, h0]; rfl
          by_cases ht : timeOk (-(digV (wholeT l) 13 : Int)) 0
          · by_cases hx : textT (-(digV (wholeT l) 13 : Int)) 0 = l
            · rw [parse_yes hk ha hb ht hx]; exact Parse_dotzero_yes l hl hdot hok1 hok2 hbel h0 ht hx w hm h10
            · rw [parse_other ha hb hx]; exact Parse_dotzero_other l hl hdot hok1 hok2 hbel h0 ht hx w hm h10
          · rw [parse_no ha hb ht]; exact Parse_dotzero_no l hl hdot hok1 hok2 hbel h0 ht w hm

/-! ### what is told is read -/
theorem digOk_dec (n : Nat) (h : n ≤ 1099511627776) : digOk (Lib.decDigits n) 13 = true := by
  have h1 := List.length_pos_iff.2 (dec_ne n)
  have h2 := dec13 n h
  unfold digOk
  rw [decide_eq_true (by omega), decide_eq_true h2, dec_digs]; rfl
theorem digV_dec (n : Nat) (h : n ≤ 1099511627776) : digV (Lib.decDigits n) 13 = n := by
  unfold digV; rw [if_pos (digOk_dec n h), dec_val]
theorem inT_frac (n : Nat) (h : n < 1000000000) : inT (frac n) = pad9 n := frac_back n h
theorem digOk_pad (n : Nat) (h : n < 1000000000) : digOk (pad9 n) 9 = true := by
  unfold digOk; rw [pad9_length n h, pad9_digs]; rfl
theorem digV_pad (n : Nat) (h : n < 1000000000) : digV (pad9 n) 9 = n := by
  unfold digV; rw [if_pos (digOk_pad n h), pad9_val]
theorem parse_text (x y : Int) (h : timeOk x y) : parseT (textT x y) = (x, y, 0) := by
  have hS := absT_S x y h
  have hrest : restT (textT x y) = bodyS (absT x y).1 (absT x y).2 := text_trim x y
  have hbel : belT (textT x y) = decide (x < 0) := text_prefix x y
  have hcut := cut_body (absT x y).1 (absT x y).2
  have hw : wholeT (textT x y) = Lib.decDigits (absT x y).1 := by unfold wholeT; rw [hrest, hcut]
  have hpt : partT (textT x y) = if (absT x y).2 = 0 then [] else frac (absT x y).2 := by unfold partT; rw [hrest, hcut]
  have hdt : dotT (textT x y) = decide ((absT x y).2 ≠ 0) := by unfold dotT; rw [hrest, hcut]
  have hv1 : v1T (textT x y) = (absT x y).1 := by unfold v1T; rw [hw, digV_dec _ hS]
  have hF : (absT x y).2 < 1000000000 := by
    by_cases hy : 0 < y
    · exact (absT_pos x y h hy).2
    · rw [absT_zero x y h hy]; omega
  have hv2 : v2T (textT x y) = (absT x y).2 := by
    unfold v2T
    rw [hdt, hpt]
    by_cases h0 : (absT x y).2 = 0
    · rw [h0]; rfl
    · rw [if_neg h0, decide_eq_true h0, if_pos rfl, inT_frac _ hF, digV_pad _ hF]
  have hk : okT (textT x y) = true := by
    unfold okT
    rw [hw, digOk_dec _ hS, hdt, hpt]
    by_cases h0 : (absT x y).2 = 0
    · rw [h0]; rfl
    · rw [if_neg h0, decide_eq_true h0, inT_frac _ hF, digOk_pad _ hF]; rfl
  obtain ⟨h1, h2, h3, h4⟩ := id h
  have ha : aT (textT x y) = x := by
    unfold aT
    rw [hbel, hv1, hv2]
    by_cases hx : x < 0
    · rw [decide_eq_true hx, if_pos rfl]
      unfold absT
      rw [if_pos hx]
      by_cases hy : 0 < y
      · simp only [if_pos hy]; rw [if_pos (by omega)]; omega
      · simp only [if_neg hy]; rw [if_neg (by omega)]; omega
    · rw [decide_eq_false hx, if_neg (by simp)]
      unfold absT
      rw [if_neg hx]
      simp only; omega
  have hb : bT (textT x y) = y := by
    unfold bT
    rw [hbel, hv2]
    by_cases hx : x < 0
    · rw [decide_eq_true hx, if_pos rfl]
      unfold absT
      rw [if_pos hx]
      by_cases hy : 0 < y
      · simp only [if_pos hy]; rw [if_pos (by omega)]; omega
      · simp only [if_neg hy]; rw [if_neg (by omega)]; omega
    · rw [decide_eq_false hx, if_neg (by simp)]
      unfold absT
      rw [if_neg hx]
      simp only; omega
  exact parse_yes hk ha hb h rfl
theorem dec_5e8 : Lib.decDigits 500000000 = [53, 48, 48, 48, 48, 48, 48, 48, 48] := by
  have step : ∀ (n : Nat) (l : List UInt8), 1 ≤ n → Lib.decDigits n = l → Lib.decDigits (10 * n) = l ++ [48] := by
    intro n l hn h
    rw [dec_big (by omega), show 10 * n / 10 = n by omega, show 10 * n % 10 = 0 by omega, h]; rfl
  have h0 : Lib.decDigits 5 = [53] := dec_small (by omega)
  have h1 := step 5 _ (by omega) h0
  have h2 := step 50 _ (by omega) h1
  have h3 := step 500 _ (by omega) h2
  have h4 := step 5000 _ (by omega) h3
  have h5 := step 50000 _ (by omega) h4
  have h6 := step 500000 _ (by omega) h5
  have h7 := step 5000000 _ (by omega) h6
  have h8 := step 50000000 _ (by omega) h7
  exact h8
theorem text_half : textT (-1) 500000000 = [45, 48, 46, 53] := by
  have ha : absT (-1) 500000000 = (0, 500000000) := by decide
  rw [textT_eq _ _ ha]
  unfold bodyS frac pad9
  rw [dec_5e8, dec_zero]
  decide
theorem parse_half : parseT [45, 48, 46, 53] = (-1, 500000000, 0) := by
  rw [← text_half]
  exact parse_text (-1) 500000000 ⟨by omega, by omega, by omega, by omega⟩
theorem parse_cases (l : List UInt8) : parseT l = (0, 0, 3) ∨ ∃ a b, parseT l = (a, b, 0) ∧ timeOk a b ∧ textT a b = l := by
  unfold parseT
  split
  · rename_i h
    exact .inr ⟨_, _, rfl, h.2.1, h.2.2⟩
  · exact .inl rfl

end Go.Proofs.YtjbpoijefkbllaaGreatDoor
