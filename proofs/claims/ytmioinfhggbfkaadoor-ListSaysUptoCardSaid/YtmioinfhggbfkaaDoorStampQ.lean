/-
  The law StampPlain: what it computes is true. Condition: the library's table of powers of ten lies as Go laid it.
  stamp.digits, stamp.Parse, each once; what is told of a time is read so. Condition: the library's table of powers of ten lies as Go laid it; texts of at most 2^30 bytes.
  stamp.Parse as one function of the text; the laws StampBack, StampTurns. Condition: the library's table of powers of ten lies as Go laid it; texts of at most 1048576 bytes.
-/
import Derived.Test.YtmioinfhggbfkaaDoorMetaS
import Derived.Test.YtmioinfhggbfkaaDoorOctalB
namespace Go.Proofs.YtmioinfhggbfkaaDoor
set_option linter.all false
section
open Go.RowKit

theorem text_prefix (x y : Int) : Lib.hasPrefix (textT x y) [45] = decide (x < 0) := by
  obtain ⟨b, r, e, hb⟩ := body_head (absT x y).1 (absT x y).2
  unfold textT Lib.hasPrefix
  by_cases h : x < 0
  · rw [if_pos h, decide_eq_true h]; rfl
  · rw [if_neg h, decide_eq_false h, e]
    have : (45 == b) = false := by rw [beq_eq_false_iff_ne]; exact fun e => hb e.symm
    simp [List.isPrefixOf, this]
theorem text_trim (x y : Int) : Lib.trimPrefix (textT x y) [45] = bodyS (absT x y).1 (absT x y).2 := by
  unfold Lib.trimPrefix
  rw [text_prefix]
  unfold textT
  by_cases h : x < 0
  · rw [decide_eq_true h, if_pos h, if_pos rfl]; rfl
  · rw [decide_eq_false h, if_neg h]; rfl
theorem absT_pos (x y : Int) (h : timeOk x y) (hy : 0 < y) : (absT x y).2 ≠ 0 ∧ (absT x y).2 < 1000000000 := by
  obtain ⟨h1, h2, h3, h4⟩ := h
  unfold absT
  split
  · simp only [if_pos hy]; omega
  · simp only; omega
theorem absT_zero (x y : Int) (h : timeOk x y) (hy : ¬ 0 < y) : (absT x y).2 = 0 := by
  obtain ⟨h1, h2, h3, h4⟩ := h
  unfold absT
  split
  · simp only [if_neg hy]
  · simp only; omega
theorem absT_S (x y : Int) (h : timeOk x y) : (absT x y).1 ≤ 1099511627776 := by
  obtain ⟨h1, h2, h3, h4⟩ := h
  unfold absT
  split
  · split <;> (simp only; omega)
  · simp only; omega
theorem body_len (S F : Nat) (h : S ≤ 1099511627776) (h2 : F < 1000000000) : (bodyS S F).length ≤ 30 := by
  have := dec13 S h
  have := frac_len F h2
  unfold bodyS
  split <;> simp <;> omega
theorem text_len (x y : Int) (h : timeOk x y) : (textT x y).length ≤ 40 := by
  have h1 := absT_S x y h
  have h2 : (absT x y).2 < 1000000000 := by
    by_cases hy : 0 < y
    · exact (absT_pos x y h hy).2
    · rw [absT_zero x y h hy]; omega
  have := body_len _ _ h1 h2
  unfold textT
  split <;> simp <;> omega
end
section
open Go.RowKit

/-! ### digits, plainly -/
theorem isDig_iff (b : UInt8) : isDig b = true ↔ (48 ≤ (b.toNat : Int) ∧ (b.toNat : Int) ≤ 57) := by
  unfold isDig; simp only [Bool.and_eq_true, decide_eq_true_eq]; omega
theorem valD_bd : ∀ (k : Nat) (l : List UInt8), l.length = k → l.all isDig = true → valD l < 10 ^ k
  | 0, l, h, _ => by
    obtain rfl : l = [] := List.eq_nil_of_length_eq_zero h
    decide
  | k + 1, l, h, hd => by
    rcases List.eq_nil_or_concat l with rfl | ⟨l', b, rfl⟩
    · simp at h
    · rw [List.concat_eq_append] at *
      rw [List.all_append, Bool.and_eq_true] at hd
      have ih := valD_bd k l' (by simp at h; omega) hd.1
      have hb := (isDig_iff b).1 (by simpa using hd.2)
      rw [valD_snoc, Nat.pow_succ]
      omega
theorem valD_13 (l : List UInt8) (h : l.length ≤ 13) (hd : l.all isDig = true) : valD l < 10000000000000 := by
  have h1 := valD_bd l.length l rfl hd
  have h2 : 10 ^ l.length ≤ 10 ^ 13 := Nat.pow_le_pow_right (by omega) h
  have h3 : (10 : Nat) ^ 13 = 10000000000000 := by decide
  omega
def digOk (l : List UInt8) (most : Nat) : Bool := decide (1 ≤ l.length) && decide (l.length ≤ most) && l.all isDig
def digV (l : List UInt8) (most : Nat) : Nat := if digOk l most = true then valD l else 0
theorem digV_bd (l : List UInt8) (most : Nat) (h : most ≤ 13) : digV l most < 10000000000000 := by
  unfold digV
  split
  · rename_i hk
    unfold digOk at hk
    simp only [Bool.and_eq_true, decide_eq_true_eq] at hk
    exact valD_13 l (by omega) hk.2
  · omega
theorem ret_ib {a b : Int} {c d : Bool} (h : a = b) (h' : c = d) : Ending.returned (.tuple #[.int .i64 a, .bool c]) = .returned (.tuple #[.int .i64 b, .bool d]) := by rw [h, h']

/-! ### stamp.Parse, way by way -/
def restT (l : List UInt8) : List UInt8 := Lib.trimPrefix l [45]
def belT (l : List UInt8) : Bool := Lib.hasPrefix l [45]
def wholeT (l : List UInt8) : List UInt8 := (Lib.cut (restT l) [46]).1
def partT (l : List UInt8) : List UInt8 := (Lib.cut (restT l) [46]).2.1
def dotT (l : List UInt8) : Bool := (Lib.cut (restT l) [46]).2.2
def inT (p : List UInt8) : List UInt8 := p ++ List.replicate (9 - p.length) 48
def okT (l : List UInt8) : Bool := digOk (wholeT l) 13 && (!dotT l || digOk (inT (partT l)) 9)
def v1T (l : List UInt8) : Nat := digV (wholeT l) 13
def v2T (l : List UInt8) : Nat := if dotT l = true then digV (inT (partT l)) 9 else 0
def aT (l : List UInt8) : Int := if belT l = true then (if 0 < v2T l then -(v1T l : Int) - 1 else -(v1T l : Int)) else v1T l
def bT (l : List UInt8) : Int := if belT l = true then (if 0 < v2T l then 1000000000 - (v2T l : Int) else v2T l) else v2T l
instance timeOk_dec (s n : Int) : Decidable (timeOk s n) := inferInstanceAs (Decidable (_ ∧ _ ∧ _ ∧ _))
def parseT (l : List UInt8) : Int × Int × Int := if okT l = true ∧ timeOk (aT l) (bT l) ∧ textT (aT l) (bT l) = l then (aT l, bT l, 0) else (0, 0, 3)
theorem restT_le (l : List UInt8) : (restT l).length ≤ l.length := by
  unfold restT Lib.trimPrefix; split
  · rw [List.length_drop]; omega
  · omega
theorem cut_le (l : List UInt8) (sep : List UInt8) : (Lib.cut l sep).1.length ≤ l.length ∧ (Lib.cut l sep).2.1.length ≤ l.length := by
  unfold Lib.cut
  split
  · exact ⟨by rw [List.length_take]; omega, by rw [List.length_drop]; omega⟩
  · exact ⟨Nat.le_refl _, by simp⟩
theorem ret3_i {a b c d : Int} (h1 : a = c) (h2 : b = d) : Ending.returned (.tuple #[.int .i64 a, .int .i64 b, .int .i64 0]) = .returned (.tuple #[.int .i64 c, .int .i64 d, .int .i64 0]) := by rw [h1, h2]

end
section
open Go.RowKit

theorem parse_bad {l : List UInt8} (h : okT l = false) : parseT l = (0, 0, 3) := by unfold parseT; rw [if_neg (by rw [h]; simp)]
theorem parse_no {l : List UInt8} {a b : Int} (ha : aT l = a) (hb : bT l = b) (h : ¬ timeOk a b) : parseT l = (0, 0, 3) := by
  unfold parseT; rw [ha, hb, if_neg (fun x => h x.2.1)]
theorem parse_other {l : List UInt8} {a b : Int} (ha : aT l = a) (hb : bT l = b) (h : textT a b ≠ l) : parseT l = (0, 0, 3) := by
  unfold parseT; rw [ha, hb, if_neg (fun x => h x.2.2)]
theorem parse_yes {l : List UInt8} {a b : Int} (hk : okT l = true) (ha : aT l = a) (hb : bT l = b) (ht : timeOk a b) (h : textT a b = l) : parseT l = (a, b, 0) := by
  unfold parseT; rw [ha, hb, if_pos ⟨hk, ht, h⟩]
def PR (p : Int × Int × Int) : Ending := .returned (.tuple #[.int .i64 p.1, .int .i64 p.2.1, .int .i64 p.2.2])
/-! ### what is told is read -/
theorem digOk_dec (n : Nat) (h : n ≤ 1099511627776) : digOk (Lib.decDigits n) 13 = true := by
  have h1 := List.length_pos_iff.2 (dec_ne n)
  have h2 := dec13 n h
  unfold digOk
  rw [decide_eq_true (by omega), decide_eq_true h2, dec_digs]; rfl
theorem digV_dec (n : Nat) (h : n ≤ 1099511627776) : digV (Lib.decDigits n) 13 = n := by
  unfold digV; rw [if_pos (digOk_dec n h), dec_val]
theorem inT_frac (n : Nat) (h : n < 1000000000) : inT (frac n) = pad9 n := frac_back n h
theorem digOk_pad (n : Nat) (h : n < 1000000000) : digOk (pad9 n) 9 = true := by
  unfold digOk; rw [pad9_length n h, pad9_digs]; rfl
theorem digV_pad (n : Nat) (h : n < 1000000000) : digV (pad9 n) 9 = n := by
  unfold digV; rw [if_pos (digOk_pad n h), pad9_val]
theorem parse_text (x y : Int) (h : timeOk x y) : parseT (textT x y) = (x, y, 0) := by
  have hS := absT_S x y h
  have hrest : restT (textT x y) = bodyS (absT x y).1 (absT x y).2 := text_trim x y
  have hbel : belT (textT x y) = decide (x < 0) := text_prefix x y
  have hcut := cut_body (absT x y).1 (absT x y).2
  have hw : wholeT (textT x y) = Lib.decDigits (absT x y).1 := by unfold wholeT; rw [hrest, hcut]
  have hpt : partT (textT x y) = if (absT x y).2 = 0 then [] else frac (absT x y).2 := by unfold partT; rw [hrest, hcut]
  have hdt : dotT (textT x y) = decide ((absT x y).2 ≠ 0) := by unfold dotT; rw [hrest, hcut]
  have hv1 : v1T (textT x y) = (absT x y).1 := by unfold v1T; rw [hw, digV_dec _ hS]
  have hF : (absT x y).2 < 1000000000 := by
    by_cases hy : 0 < y
    · exact (absT_pos x y h hy).2
    · rw [absT_zero x y h hy]; omega
  have hv2 : v2T (textT x y) = (absT x y).2 := by
    unfold v2T
    rw [hdt, hpt]
    by_cases h0 : (absT x y).2 = 0
    · rw [h0]; rfl
    · rw [if_neg h0, decide_eq_true h0, if_pos rfl, inT_frac _ hF, digV_pad _ hF]
  have hk : okT (textT x y) = true := by
    unfold okT
    rw [hw, digOk_dec _ hS, hdt, hpt]
    by_cases h0 : (absT x y).2 = 0
    · rw [h0]; rfl
    · rw [if_neg h0, decide_eq_true h0, inT_frac _ hF, digOk_pad _ hF]; rfl
  obtain ⟨h1, h2, h3, h4⟩ := id h
  have ha : aT (textT x y) = x := by
    unfold aT
    rw [hbel, hv1, hv2]
    by_cases hx : x < 0
    · rw [decide_eq_true hx, if_pos rfl]
      unfold absT
      rw [if_pos hx]
      by_cases hy : 0 < y
      · simp only [if_pos hy]; rw [if_pos (by omega)]; omega
      · simp only [if_neg hy]; rw [if_neg (by omega)]; omega
    · rw [decide_eq_false hx, if_neg (by simp)]
      unfold absT
      rw [if_neg hx]
      simp only; omega
  have hb : bT (textT x y) = y := by
    unfold bT
    rw [hbel, hv2]
    by_cases hx : x < 0
    · rw [decide_eq_true hx, if_pos rfl]
      unfold absT
      rw [if_pos hx]
      by_cases hy : 0 < y
      · simp only [if_pos hy]; rw [if_pos (by omega)]; omega
      · simp only [if_neg hy]; rw [if_neg (by omega)]; omega
    · rw [decide_eq_false hx, if_neg (by simp)]
      unfold absT
      rw [if_neg hx]
      simp only; omega
  exact parse_yes hk ha hb h rfl
theorem dec_5e8 : Lib.decDigits 500000000 = [53, 48, 48, 48, 48, 48, 48, 48, 48] := by
  have step : ∀ (n : Nat) (l : List UInt8), 1 ≤ n → Lib.decDigits n = l → Lib.decDigits (10 * n) = l ++ [48] := by
    intro n l hn h
    rw [dec_big (by omega), show 10 * n / 10 = n by omega, show 10 * n % 10 = 0 by omega, h]; rfl
  have h0 : Lib.decDigits 5 = [53] := dec_small (by omega)
  have h1 := step 5 _ (by omega) h0
  have h2 := step 50 _ (by omega) h1
  have h3 := step 500 _ (by omega) h2
  have h4 := step 5000 _ (by omega) h3
  have h5 := step 50000 _ (by omega) h4
  have h6 := step 500000 _ (by omega) h5
  have h7 := step 5000000 _ (by omega) h6
  have h8 := step 50000000 _ (by omega) h7
  exact h8
theorem text_half : textT (-1) 500000000 = [45, 48, 46, 53] := by
  have ha : absT (-1) 500000000 = (0, 500000000) := by decide
  rw [textT_eq _ _ ha]
  unfold bodyS frac pad9
  rw [dec_5e8, dec_zero]
  decide
theorem parse_half : parseT [45, 48, 46, 53] = (-1, 500000000, 0) := by
  rw [← text_half]
  exact parse_text (-1) 500000000 ⟨by omega, by omega, by omega, by omega⟩
theorem parse_cases (l : List UInt8) : parseT l = (0, 0, 3) ∨ ∃ a b, parseT l = (a, b, 0) ∧ timeOk a b ∧ textT a b = l := by
  unfold parseT
  split
  · rename_i h
    exact .inr ⟨_, _, rfl, h.2.1, h.2.2⟩
  · exact .inl rfl

end
end Go.Proofs.YtmioinfhggbfkaaDoor
