/-
  Decimal digits of a number, plainly: their value, their first one, how many; a text without the last bytes of one kind. No condition, no program.
  The library's table of powers of ten, as a row lists it; strconv.Itoa. Condition: the table lies as Go laid it.
  stamp.Check, stamp.Text, each once; the law StampPlain. Condition: the library's table of powers of ten lies as Go laid it.
-/
import Derived.Test.YtjglenhhgbokbaaGreatDoorStr
import Derived.Lib.ItoaNum
import Derived.Lib.ItoaMem
import Derived.Lib.TrimByte
import Derived.Lib.IndexMore
import Derived.Test.YtjglenhhgbokbaaGreatDoorShelf
import Derived.LaidSub
import Derived.LaidHandle
import Derived.Lib.AppendIntMem
import Derived.Test.YtjglenhhgbokbaaGreatDoorStrs
import Derived.Test.YtjglenhhgbokbaaGreatDoorUpBase
import Derived.Test.YtjglenhhgbokbaaGreatDoorFields
namespace Go.Proofs.YtjglenhhgbokbaaGreatDoor
section
open Go.RowKit

def isDig (b : UInt8) : Bool := decide (48 ≤ b.toNat) && decide (b.toNat ≤ 57)
def valStep (n : Nat) (b : UInt8) : Nat := 10 * n + (b.toNat - 48)
def valD (l : List UInt8) : Nat := l.foldl valStep 0
theorem valD_snoc (l : List UInt8) (b : UInt8) : valD (l ++ [b]) = 10 * valD l + (b.toNat - 48) := by simp [valD, valStep]
theorem digB (k : Nat) (h : k < 10) : (UInt8.ofNat (48 + k)).toNat = 48 + k := by rw [UInt8.toNat_ofNat']; omega
theorem dec_small {n : Nat} (h : n < 10) : Lib.decDigits n = [UInt8.ofNat (48 + n)] := Lib.decDigits_one h
theorem dec_big {n : Nat} (h : ¬ n < 10) : Lib.decDigits n = Lib.decDigits (n / 10) ++ [UInt8.ofNat (48 + n % 10)] := by rw [Lib.decDigits, dif_neg h]
theorem dec_ind {P : Nat → List UInt8 → Prop} (h1 : ∀ n, n < 10 → P n [UInt8.ofNat (48 + n)]) (h2 : ∀ n, ¬ n < 10 → P (n / 10) (Lib.decDigits (n / 10)) → P n (Lib.decDigits (n / 10) ++ [UInt8.ofNat (48 + n % 10)])) (n : Nat) : P n (Lib.decDigits n) := by
  induction n using Nat.strongRecOn with
  | ind n ih =>
    by_cases h : n < 10
    · rw [dec_small h]; exact h1 n h
    · rw [dec_big h]; exact h2 n h (ih _ (by omega))
theorem dec_val (n : Nat) : valD (Lib.decDigits n) = n := by
  refine dec_ind (P := fun n l => valD l = n) (fun n h => ?_) (fun n h ih => ?_) n
  · have := digB n h
    simp only [valD, valStep, List.foldl_cons, List.foldl_nil]
    omega
  · rw [valD_snoc, ih, digB _ (by omega)]; omega
theorem dec_digs (n : Nat) : (Lib.decDigits n).all isDig = true := by
  refine dec_ind (P := fun _ l => l.all isDig = true) (fun n h => ?_) (fun n h ih => ?_) n
  · have := digB n h
    simp [isDig]; omega
  · have := digB (n % 10) (by omega)
    rw [List.all_append, ih]
    simp [isDig]; omega
theorem dec_ne (n : Nat) : Lib.decDigits n ≠ [] := by
  refine dec_ind (P := fun _ l => l ≠ []) (fun n h => ?_) (fun n h ih => ?_) n <;> simp
theorem dec_head (n : Nat) (h0 : n ≠ 0) : ∃ b r, Lib.decDigits n = b :: r ∧ b ≠ 48 := by
  refine dec_ind (P := fun n l => n ≠ 0 → ∃ b r, l = b :: r ∧ b ≠ 48) (fun n h h0 => ?_) (fun n h ih _ => ?_) n h0
  · refine ⟨_, [], rfl, fun e => ?_⟩
    have := digB n h
    rw [e] at this
    have e2 : (48 : UInt8).toNat = 48 := rfl
    omega
  · obtain ⟨b, r, e, hb⟩ := ih (by omega)
    exact ⟨b, r ++ [_], by rw [e]; rfl, hb⟩
theorem dec_zero : Lib.decDigits 0 = [48] := by rw [dec_small (by omega)]; rfl
theorem dec_len : ∀ (k n : Nat), n < 10 ^ (k + 1) → (Lib.decDigits n).length ≤ k + 1
  | 0, n, h => by rw [dec_small (by simpa using h)]; simp
  | k + 1, n, h => by
    by_cases h1 : n < 10
    · rw [dec_small h1]; simp
    · rw [dec_big h1, List.length_append]
      have h2 : n / 10 < 10 ^ (k + 1) := by
        rw [Nat.div_lt_iff_lt_mul (by omega)]
        rw [Nat.pow_succ] at h
        exact h
      have := dec_len k (n / 10) h2
      simp only [List.length_singleton]
      omega
theorem dec_mem {n : Nat} {b : UInt8} (h : b ∈ Lib.decDigits n) : 48 ≤ b.toNat ∧ b.toNat ≤ 57 := by
  have := List.all_eq_true.1 (dec_digs n) b h
  simpa [isDig] using this
theorem dec_not {n : Nat} {b : UInt8} (h : b.toNat < 48 ∨ 57 < b.toNat) : b ∉ Lib.decDigits n := fun hb => by
  have := dec_mem hb
  omega

theorem trimR_nil (c : UInt8) : Lib.trimRightB [] c = [] := rfl
theorem trimR_snoc (l : List UInt8) (b c : UInt8) : Lib.trimRightB (l ++ [b]) c = if b = c then Lib.trimRightB l c else l ++ [b] := by
  unfold Lib.trimRightB
  rw [List.reverse_append]
  simp only [List.reverse_cons, List.reverse_nil, List.nil_append, List.cons_append]
  by_cases h : b = c
  · rw [List.dropWhile_cons_of_pos (by simpa using h), if_pos h]
  · rw [List.dropWhile_cons_of_neg (by simpa using h), if_neg h]; simp
theorem trimR_split (c : UInt8) (l : List UInt8) : ∃ k, l = Lib.trimRightB l c ++ List.replicate k c ∧ ∀ r x, Lib.trimRightB l c = r ++ [x] → x ≠ c := by
  rcases List.eq_nil_or_concat l with rfl | ⟨l', b, rfl⟩
  · exact ⟨0, rfl, fun r x h => by simp [trimR_nil] at h⟩
  · rw [List.concat_eq_append, trimR_snoc]
    by_cases h : b = c
    · rw [if_pos h]
      obtain ⟨k, e, hx⟩ := trimR_split c l'
      refine ⟨k + 1, ?_, hx⟩
      rw [h, List.replicate_succ', ← List.append_assoc, ← e]
    · rw [if_neg h]
      refine ⟨0, by simp, fun r x e => ?_⟩
      have := List.append_inj_right' e rfl
      simp only [List.cons.injEq, and_true] at this
      rw [← this]; exact h
termination_by l.length
decreasing_by simp_all
theorem trimR_rep (c : UInt8) (k : Nat) (l : List UInt8) (h : ∀ r x, l = r ++ [x] → x ≠ c) : Lib.trimRightB (l ++ List.replicate k c) c = l := by
  induction k with
  | zero =>
    rw [List.replicate_zero, List.append_nil]
    rcases List.eq_nil_or_concat l with rfl | ⟨l', b, rfl⟩
    · rfl
    · rw [List.concat_eq_append] at h ⊢
      rw [trimR_snoc, if_neg (h _ _ rfl)]
  | succ k ih => rw [List.replicate_succ', ← List.append_assoc, trimR_snoc, if_pos rfl, ih]

/-! ### the text of a time -/
def pad9 (n : Nat) : List UInt8 := List.replicate (9 - (Lib.decDigits n).length) 48 ++ Lib.decDigits n
def frac (n : Nat) : List UInt8 := Lib.trimRightB (pad9 n) 48
def bodyS (s f : Nat) : List UInt8 := Lib.decDigits s ++ if f = 0 then [] else 46 :: frac f
def absT (second nano : Int) : Nat × Nat := if second < 0 then (if 0 < nano then ((-second - 1).toNat, (1000000000 - nano).toNat) else ((-second).toNat, 0)) else (second.toNat, nano.toNat)
def textT (second nano : Int) : List UInt8 := (if second < 0 then [45] else []) ++ bodyS (absT second nano).1 (absT second nano).2
theorem pad9_length (n : Nat) (h : n < 1000000000) : (pad9 n).length = 9 := by
  have := dec_len 8 n (by simpa using h)
  simp [pad9]; omega
theorem foldl_rep (k : Nat) : (List.replicate k (48 : UInt8)).foldl valStep 0 = 0 := by
  induction k with
  | zero => rfl
  | succ k ih => rw [List.replicate_succ, List.foldl_cons]; exact ih
theorem pad9_val (n : Nat) : valD (pad9 n) = n := by
  unfold valD pad9
  rw [List.foldl_append, foldl_rep]
  exact dec_val n
theorem pad9_digs (n : Nat) : (pad9 n).all isDig = true := by
  unfold pad9
  rw [List.all_append, dec_digs, Bool.and_true, List.all_eq_true]
  intro x hx
  rw [List.eq_of_mem_replicate hx]; rfl
theorem frac_ne (n : Nat) (h0 : n ≠ 0) : frac n ≠ [] := by
  intro e
  obtain ⟨k, h1, _⟩ := trimR_split 48 (pad9 n)
  rw [show Lib.trimRightB (pad9 n) 48 = [] from e] at h1
  have := pad9_val n
  rw [h1, valD, List.nil_append, foldl_rep] at this
  exact h0 this.symm
theorem frac_len (n : Nat) (h : n < 1000000000) : (frac n).length ≤ 9 := by
  obtain ⟨k, h1, _⟩ := trimR_split 48 (pad9 n)
  have h2 := congrArg List.length h1
  rw [pad9_length n h, List.length_append] at h2
  show (Lib.trimRightB (pad9 n) 48).length ≤ 9
  omega
theorem frac_last (n : Nat) (h0 : n ≠ 0) : ∃ r x, frac n = r ++ [x] ∧ x ≠ 48 := by
  obtain ⟨k, _, h2⟩ := trimR_split 48 (pad9 n)
  rcases List.eq_nil_or_concat (frac n) with e | ⟨r, x, e⟩
  · exact absurd e (frac_ne n h0)
  · rw [List.concat_eq_append] at e
    exact ⟨r, x, e, h2 r x e⟩
theorem frac_back (n : Nat) (h : n < 1000000000) : frac n ++ List.replicate (9 - (frac n).length) 48 = pad9 n := by
  obtain ⟨k, h1, _⟩ := trimR_split 48 (pad9 n)
  have h2 := congrArg List.length h1
  rw [pad9_length n h, List.length_append, List.length_replicate] at h2
  have e : 9 - (frac n).length = k := by unfold frac; omega
  rw [e]; exact h1.symm
theorem cut_at {c : UInt8} {a r : List UInt8} (h : c ∉ a) : Lib.cut (a ++ c :: r) [c] = (a, r, true) := by
  unfold Lib.cut
  rw [Lib.index_one, indexByte_at h, if_pos (by omega)]
  simp only [Int.toNat_natCast, List.length_singleton]
  simp
theorem cut_not {c : UInt8} {a : List UInt8} (h : c ∉ a) : Lib.cut a [c] = (a, [], false) := by
  unfold Lib.cut
  rw [Lib.index_one, indexByte_not h]
  rfl
theorem cut_body (s f : Nat) : Lib.cut (bodyS s f) [46] = (Lib.decDigits s, if f = 0 then [] else frac f, decide (f ≠ 0)) := by
  have h46 : (46 : UInt8) ∉ Lib.decDigits s := dec_not (.inl (by decide))
  unfold bodyS
  by_cases h : f = 0
  · rw [if_pos h, if_pos h, List.append_nil, cut_not h46]; simp [h]
  · rw [if_neg h, if_neg h, cut_at h46]; simp [h]
theorem body_head (s f : Nat) : ∃ b r, bodyS s f = b :: r ∧ b ≠ 45 := by
  have hn := dec_ne s
  unfold bodyS
  cases h : Lib.decDigits s with
  | nil => exact absurd h hn
  | cons b r =>
    refine ⟨b, r ++ _, rfl, fun e => ?_⟩
    have := dec_mem (n := s) (b := b) (by rw [h]; simp)
    rw [e] at this
    exact absurd this.1 (by decide)
end
section
open Go.RowKit

def P10 (w : World) : Prop := Lib.TabIs Tryz.prog w "internal/strconv.uint64pow10" .u64 Lib.pow10Tab
theorem P10.below {w w' : World} (h : P10 w) (hb : Below w.heap.size w w') : P10 w' := Lib.tabBelow_of_tabIs h w' hb
def ten (x : String × DataW Unit) : Bool := x.1 == "internal/strconv.uint64pow10"
end
section
open Go.RowKit

def mxS : Int := 1099511627776
theorem mxS_eq : mxS = 1099511627776 := rfl
def timeOk (s n : Int) : Prop := -1099511627776 ≤ s ∧ s ≤ 1099511627776 ∧ 0 ≤ n ∧ n ≤ 999999999
set_option maxHeartbeats 400000 in
theorem SCheck_ok (s n : Int) (h : timeOk s n) (w : World) :
    Calls Tryz.prog 83 #[.int .i64 s, .int .i64 n] w fun e w' => e = .returned (.int .i64 0) ∧ w = w' := by
  obtain ⟨h1, h2, h3, h4⟩ := h
  go_enter Tryz.func83, Tryz.ntmps83
  go_wp2_with fail
  go_ret
  exact ⟨rfl, rfl⟩
set_option maxHeartbeats 800000 in
theorem SCheck_no (s n : Int) (h : ¬ timeOk s n) (w : World) :
    Calls Tryz.prog 83 #[.int .i64 s, .int .i64 n] w fun e w' => e = .returned (.int .i64 4) ∧ w = w' := by
  by_cases h1 : s < -1099511627776
  · go_enter Tryz.func83, Tryz.ntmps83
    go_wp2_with fail
    go_ret
    exact ⟨rfl, rfl⟩
  by_cases h2 : 1099511627776 < s
  · go_enter Tryz.func83, Tryz.ntmps83
    go_wp2_with fail
    go_ret
    exact ⟨rfl, rfl⟩
  by_cases h3 : n < 0
  · go_enter Tryz.func83, Tryz.ntmps83
    go_wp2_with fail
    go_ret
    exact ⟨rfl, rfl⟩
  have h4 : 999999999 < n := by
    unfold timeOk at h
    omega
  go_enter Tryz.func83, Tryz.ntmps83
  go_wp2_with fail
  go_ret
  exact ⟨rfl, rfl⟩

theorem itoa_nat (n : Nat) : Lib.itoa (n : Int) = Lib.decDigits n := Lib.itoa_nonneg n
theorem dec13 (n : Nat) (h : n ≤ 1099511627776) : (Lib.decDigits n).length ≤ 13 := dec_len 12 n (by omega)
theorem dec9 (n : Nat) (h : n < 1000000000) : (Lib.decDigits n).length ≤ 9 := dec_len 8 n (by omega)

/-- what the walk meets behind the sign: the seconds' digits, and those of the parts -/
def Sg (second : Int) : List UInt8 := if second < 0 then [45] else []
theorem textT_eq (second nano : Int) {S F : Nat} (h : absT second nano = (S, F)) : textT second nano = Sg second ++ bodyS S F := by
  unfold textT Sg; rw [h]
theorem text_zero {second nano : Int} {S : Nat} (h : absT second nano = (S, 0)) : bs (Sg second) ++ bs (Lib.decDigits S) = bs (textT second nano) := by
  rw [textT_eq second nano h, bs_append]; simp [bodyS]
theorem text_frac {second nano : Int} {S F : Nat} (h : absT second nano = (S, F)) (hF : F ≠ 0) :
    bs (Sg second) ++ bs (Lib.decDigits S) ++ ⟨#[46]⟩ ++ bs (frac F) = bs (textT second nano) := by
  rw [textT_eq second nano h, show (⟨#[46]⟩ : ByteArray) = bs [46] from rfl, bs_append, bs_append, bs_append]
  unfold bodyS; rw [if_neg hF]; simp
theorem pad_eq (F : Nat) : bs (List.replicate (9 - (Lib.decDigits F).length) 48) ++ bs (Lib.decDigits F) = bs (pad9 F) := bs_append _ _

theorem Repeat_0 (n : Nat) (x : Int) (h : x = n) (h2 : n ≤ 1000) (w : World) :
    Calls Tryz.prog 27 #[.string ⟨#[48]⟩, .int .i64 x] w fun e w' => e = .returned (.string (bs (List.replicate n 48))) ∧ Below w.heap.size w w' := by
  subst h
  exact Repeat_byte 48 n w (by omega)
end
end Go.Proofs.YtjglenhhgbokbaaGreatDoor
