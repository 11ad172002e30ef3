/-
  The laws GlobMany, GlobSets: what they compute is true. No condition.
-/
import Derived.Test.YtbhglmcblhnphaaDoorGlobPart
import Derived.Test.YtbhglmcblhnphaaDoorFieldLaws
namespace Go.Proofs.YtbhglmcblhnphaaDoor
open Go.RowKit

/-! ### GlobMany, plainly -/
def manyP : Nat → List Piece
  | 0 => []
  | n + 1 => .inl 42 :: .inl 97 :: manyP n
theorem manyP_text (n : Nat) : textPs (manyP n) = Lib.repeatL [42, 97] n := by
  induction n with
  | zero => rfl
  | succ n ih => rw [manyP, textPs_cons, textPs_cons, ih]; rfl
theorem manyP_ok (n : Nat) : ∀ q ∈ manyP n, okP q := by
  induction n with
  | zero => intro q h; cases h
  | succ n ih =>
    intro q h
    rcases List.mem_cons.1 h with rfl | h
    · exact (by decide : (42 : UInt8) ≠ 91)
    · rcases List.mem_cons.1 h with rfl | h
      · exact (by decide : (97 : UInt8) ≠ 91)
      · exact ih q h
theorem manyP_len (n : Nat) : (textPs (manyP n)).length = 2 * n := by
  induction n with
  | zero => rfl
  | succ n ih => rw [manyP, textPs_cons, textPs_cons, List.length_append, List.length_append, ih]; simp [textP]; omega
theorem drop_rep (m j : Nat) : (List.replicate m (97 : UInt8)).drop j = List.replicate (m - j) 97 := by simp
theorem many_fits : ∀ (n m : Nat), globs.glob starP fitsP (manyP (n + 1)) (List.replicate m (97 : UInt8)) = decide (n + 1 ≤ m)
  | n, m => by
    rw [Bool.eq_iff_iff, manyP, globs.glob_star (by rfl), decide_eq_true_eq]
    have step : ∀ j, globs.glob starP fitsP (.inl 97 :: manyP n) ((List.replicate m (97 : UInt8)).drop j) = true ↔ j < m ∧ globs.glob starP fitsP (manyP n) (List.replicate (m - j - 1) 97) = true := by
      intro j
      rw [drop_rep]
      cases h : m - j with
      | zero =>
        rw [List.replicate_zero, globs.glob_sign_nil (by rfl)]
        constructor
        · intro h; cases h
        · intro h; omega
      | succ k =>
        rw [List.replicate_succ, globs.glob_sign (by rfl)]
        have e : fitsP (.inl 97) 97 = true := by decide
        rw [e, Bool.true_and, show k + 1 - 1 = k from rfl]
        constructor
        · intro h2; exact ⟨by omega, h2⟩
        · intro h2; exact h2.2
    constructor
    · rintro ⟨j, _, h⟩
      obtain ⟨h1, h2⟩ := (step j).1 h
      cases n with
      | zero => omega
      | succ n =>
        rw [many_fits n, decide_eq_true_eq] at h2
        omega
    · intro h
      cases n with
      | zero =>
        refine ⟨m - 1, by simp, (step _).2 ⟨by omega, ?_⟩⟩
        rw [show m - (m - 1) - 1 = 0 by omega]; rfl
      | succ n =>
        refine ⟨0, by simp, (step _).2 ⟨by omega, ?_⟩⟩
        rw [many_fits n, decide_eq_true_eq]; omega
theorem never_b (P : List Piece) (m : Nat) : globs.glob starP fitsP (P ++ [.inl 98]) (List.replicate m (97 : UInt8)) = false := by
  induction P generalizing m with
  | nil =>
    cases m with
    | zero => exact globs.glob_sign_nil (by rfl)
    | succ m =>
      rw [List.nil_append, List.replicate_succ, globs.glob_sign (by rfl)]
      rfl
  | cons q P ih =>
    rw [List.cons_append]
    cases hs : starP q
    · cases m with
      | zero => exact globs.glob_sign_nil hs
      | succ m => rw [List.replicate_succ, globs.glob_sign hs, ih]; simp
    · rw [Bool.eq_false_iff]
      intro h
      obtain ⟨j, _, h2⟩ := (globs.glob_star hs).1 h
      rw [drop_rep, ih] at h2
      cases h2
theorem one_part {l : List Piece} {s : List UInt8} (h : starQ l = false) : globs.glob starQ fitsQ [l] [s] = fitsQ l s := by
  rw [globs.glob_sign h]
  show (fitsQ l s && true) = _
  rw [Bool.and_true]
theorem pattern_one {l : List Piece} (h : ∀ q ∈ l, okP q) (h0 : l ≠ []) (hl : (textPs l).length ≤ 400) (hs : (47 : UInt8) ∉ textPs l) : Pattern (textPs l) [l] :=
  ⟨List.length_pos_iff.2 (textPs_ne h0), hl, by rw [splitC_miss hs]; rfl, fun x hx => by rw [List.mem_singleton] at hx; subst hx; exact ⟨h0, h⟩⟩
theorem check_one {s : List UInt8} (h1 : 1 ≤ s.length) (h2 : s.length ≤ 400) (h3 : (0 : UInt8) ∉ s) (h4 : (47 : UInt8) ∉ s) (h5 : badPart s = false) : checkS s = 0 := by
  unfold checkS
  rw [if_neg (by omega), if_neg h3, splitC_miss h4]
  simp [h5]
theorem many_no (n : Nat) : (47 : UInt8) ∉ Lib.repeatL [42, 97] n := by
  induction n with
  | zero => simp [Lib.repeatL]
  | succ n ih => rw [Lib.repeatL]; simp [ih]
theorem many_star (n : Nat) (r : List Piece) : starQ (manyP (n + 1) ++ r) = false := by
  unfold starQ
  rw [beq_eq_false_iff_ne]
  intro e
  have : textPs (manyP (n + 1) ++ r) = 42 :: 97 :: textPs (manyP n ++ r) := rfl
  rw [this] at e
  simp at e
theorem textPs_append (a b : List Piece) : textPs (a ++ b) = textPs a ++ textPs b := by unfold textPs; rw [List.map_append, List.flatten_append]

set_option maxRecDepth 100000 in
set_option maxHeartbeats 1000000 in
theorem GlobMany_walk (w : World) (hsh : w.ShapedOpen Tryd.prog) (a : Int) (ha : I64 a) (b : Int) (hb : I64 b) :
    Calls Tryd.prog 10 #[.int .i64 a, .int .i64 b] w fun e w' => e = .returned (.bool true) ∧ Below w.heap.size w w' := by
  have hm := ML.of_shaped hsh
  clear hsh
  obtain ⟨n, hn, hn2⟩ := pick_nat a 40 (by omega)
  obtain ⟨m, hmm, hm2⟩ := pick_nat b 60 (by omega)
  have hn3 : pick a 40 = n := hn
  have hm3 : pick b 60 = m := hmm
  have HPa := Lib.hid (fun w => picked_any a 40 ha (by omega) (by omega) w)
  have HPb := Lib.hid (fun w => picked_any b 60 hb (by omega) (by omega) w)
  rw [hn3] at HPa
  rw [hm3] at HPb
  clear hn hmm hn3 hm3 ha hb
  have hR1 := Lib.hid (fun w => Repeat_of [42, 97] (n + 1) w (by simp; omega) (by omega))
  have hR2 := Lib.hid (fun w => Repeat_byte 97 (m + 1) w (by omega))
  have ec1 : ((n + 1 : Nat) : Int) = 1 + n := by omega
  have ec2 : ((m + 1 : Nat) : Int) = 1 + m := by omega
  rw [ec1, ← manyP_text] at hR1
  rw [ec2] at hR2
  clear ec1 ec2
  have hl := manyP_len (n + 1)
  have hck : checkS (List.replicate (m + 1) 97) = 0 := check_one (by simp) (by simp; omega) (by simp [List.mem_replicate]) (by simp [List.mem_replicate]) (by
    unfold badPart
    have h1 : (List.replicate (m + 1) (97 : UInt8) == []) = false := by simp
    have h2 : (List.replicate (m + 1) (97 : UInt8) == [46]) = false := by rw [beq_eq_false_iff_ne, List.replicate_succ]; intro e; cases e
    have h3 : (List.replicate (m + 1) (97 : UInt8) == [46, 46]) = false := by rw [beq_eq_false_iff_ne, List.replicate_succ]; intro e; cases e
    rw [h1, h2, h3]; rfl)
  have hsp : splitC 47 (List.replicate (m + 1) (97 : UInt8)) = [List.replicate (m + 1) 97] := splitC_miss (by simp [List.mem_replicate])
  have hF1 := Lib.hid (fun w hm => Fits_ok (textPs (manyP (n + 1))) [manyP (n + 1)] (pattern_one (manyP_ok _) (by simp [manyP]) (by omega) (by rw [manyP_text]; exact many_no _)) (List.replicate (m + 1) 97) hck w hm)
  have hF2 := Lib.hid (fun w hm => Fits_ok (textPs (manyP (n + 1) ++ [.inl 98])) [manyP (n + 1) ++ [.inl 98]] (pattern_one (fun q hq => by
    rcases List.mem_append.1 hq with h | h
    · exact manyP_ok _ q h
    · rw [List.mem_singleton] at h; subst h; exact (by decide : (98 : UInt8) ≠ 91)) (by simp) (by rw [textPs_append, List.length_append, hl]; simp [textPs, textP]; omega) (by
      rw [textPs_append, manyP_text, List.mem_append]
      rintro (h | h)
      · exact many_no _ h
      · simp [textPs, textP] at h)) (List.replicate (m + 1) 97) hck w hm)
  have s1 := many_star n []
  rw [List.append_nil] at s1
  rw [hsp, one_part s1] at hF1
  rw [hsp, one_part (many_star n _)] at hF2
  have v1 : fitsQ (manyP (n + 1)) (List.replicate (m + 1) 97) = decide (n + 1 ≤ m + 1) := many_fits n (m + 1)
  have v2 : fitsQ (manyP (n + 1) ++ [.inl 98]) (List.replicate (m + 1) 97) = false := never_b _ _
  rw [v1] at hF1
  rw [v2] at hF2
  have eb : bs (textPs (manyP (n + 1))) ++ ⟨#[98]⟩ = bs (textPs (manyP (n + 1) ++ [.inl 98])) := by rw [textPs_append]; exact bs_append _ _
  have zl := bs_size (textPs (manyP (n + 1)))
  rw [hl] at zl
  clear hck hsp s1 v1 v2 hl
  generalize bs (textPs (manyP (n + 1) ++ [.inl 98])) = B2 at *
  generalize bs (textPs (manyP (n + 1))) = B1 at *
  generalize bs (List.replicate (m + 1) 97) = Sx at *
  have ed : decide (n + 1 ≤ m + 1) = decide ((1 : Int) + n ≤ 1 + m) := by rw [decide_eq_decide]; omega
  rw [ed] at hF1
  clear ed
  by_cases hle : (1 : Int) + n ≤ 1 + m
  all_goals
    first
      | (have q := decide_eq_true hle; have q2 : decide (n ≤ m) = true := decide_eq_true (by omega); rw [q] at hF1)
      | (have q := decide_eq_false hle; have q2 : decide (n ≤ m) = false := decide_eq_false (by omega); rw [q] at hF1)
    go_enter Tryd.func10, Tryd.ntmps10
    go_wp2_with fail
    refine (HPa.out _).mono ?_
    rintro e w' ⟨rfl, rfl⟩
    go_wp2_with fail
    refine (HPb.out _).mono ?_
    rintro e w' ⟨rfl, rfl⟩
    go_wp2_with fail
    refine (hR1.out _).mono ?_
    rintro e w1 ⟨rfl, b1⟩
    go_wp2_with fail
    refine (hR2.out _).mono ?_
    rintro e w2 ⟨rfl, b2⟩
    have b12 := b1.trans (b2.mono b1.size)
    go_wp2_with fail
    refine (hF1.out _ (hm.below b12)).mono ?_
    rintro e w3 ⟨rfl, b3⟩
    have b13 := b12.trans (b3.mono b12.size)
    go_wp2_with fail
    refine (hF2.out _ (hm.below b13)).mono ?_
    rintro e w4 ⟨rfl, b4⟩
    have b14 := Lib.hid (b13.trans (b4.mono b13.size))
    clear b1 b2 b3 b4 b12 b13
    go_wp2_with fail
    go_ret
    exact ⟨rfl, b14.out⟩

/-! ### GlobSets -/
def barsB : List UInt8 := [47, 93, 33, 45, 42, 63, 91, 0, 46]
theorem byte_of (x : Int) (h : U8 x) : ∃ b : UInt8, x = b.toNat := by
  obtain ⟨h1, h2⟩ := h
  refine ⟨UInt8.ofNat x.toNat, ?_⟩
  rw [UInt8.toNat_ofNat']; omega
theorem Bars_in (c : UInt8) (h : c ∈ barsB) (w : World) :
    Calls Tryd.prog 28 #[.string ⟨#[47, 93, 33, 45, 42, 63, 91, 0, 46]⟩, .int .u8 c.toNat] w fun e w' => ∃ i : Int, 0 ≤ i ∧ e = .returned (.int .i64 i) ∧ w = w' :=
  (IndexByte_of barsB c w).mono fun _ _ ⟨h1, h2⟩ => ⟨_, indexByte_mem h, h1, h2⟩
theorem Bars_out (c : UInt8) (h : c ∉ barsB) (w : World) :
    Calls Tryd.prog 28 #[.string ⟨#[47, 93, 33, 45, 42, 63, 91, 0, 46]⟩, .int .u8 c.toNat] w fun e w' => e = .returned (.int .i64 (-1)) ∧ w = w' :=
  (IndexByte_of barsB c w).mono fun _ _ ⟨h1, h2⟩ => ⟨by rw [h1, indexByte_not h], h2⟩
theorem conv_new (W : World) (l : List UInt8) (g : Nat) (hg : g = W.heap.size) (hl : l ≠ []) :
    (convert 24 9 (.slice (some ⟨g, 0, none⟩) l.length l.length)).run Tryd.prog (W.alloc (.cells (l.map fun b => Value.int .u8 (b.toNat : Int)).toArray 5)) = .ok (.string (bs l)) (W.alloc (.cells (l.map fun b => Value.int .u8 (b.toNat : Int)).toArray 5)) := by
  subst hg
  refine run_convert_bytes_back (P := Tryd.prog) _ 24 9 5 ⟨W.heap.size, 0, none⟩ l.length l Tryd.underlying24 Tryd.underlying5 Tryd.underlying9 (fun j hj => ?_)
  have hB := Blk.new W 5 (l.map fun b => Value.int .u8 (b.toNat : Int)).toArray
  have e : (⟨W.heap.size, 0, none⟩ : Addr).add j = ⟨W.heap.size, j, none⟩ := by unfold Addr.add; split <;> simp_all
  rw [e, hB.cell j]
  simp [List.getElem?_eq_getElem hj]
theorem items_two (lo hi c : UInt8) : items c false [lo, 45, hi] = (decide (lo ≤ c) && decide (c ≤ hi)) := by
  rw [items_range, items_nil, Bool.false_or]
theorem set_fits (neg : Bool) (lo hi c : UInt8) : fitsQ [.inl 120, .inr (neg, lo, [45, hi])] [120, c] = ((decide (lo ≤ c) && decide (c ≤ hi)) != neg) := by
  unfold fitsQ
  rw [globs.glob_sign (by rfl), globs.glob_sign (by rfl)]
  show ((fitsP (.inl 120) 120) && ((items c false [lo, 45, hi] != neg) && true)) = _
  rw [items_two, Bool.and_true]
  rfl
theorem bars_not {b x : UInt8} (h : b ∉ barsB) (hx : x ∈ barsB) : b ≠ x := fun e => h (e ▸ hx)
theorem set_pat (neg : Bool) (lo hi : UInt8) (h1 : lo ∉ barsB) (h2 : hi ∉ barsB) : Pattern (textPs [.inl 120, .inr (neg, lo, [45, hi])]) [[.inl 120, .inr (neg, lo, [45, hi])]] := by
  refine pattern_one ?_ (by simp) ?_ ?_
  · intro q hq
    rcases List.mem_cons.1 hq with rfl | hq
    · exact (by decide : (120 : UInt8) ≠ 91)
    · rw [List.mem_singleton] at hq
      subst hq
      refine ⟨fun _ => bars_not h1 (by decide), ?_, by simp⟩
      have := bars_not (x := 93) h2 (by decide)
      simp only [List.mem_cons, List.not_mem_nil, or_false, not_or]
      exact ⟨by decide, fun e => this e.symm⟩
  · cases neg <;> simp [textPs, textP, setT]
  · have a1 := bars_not (x := 47) h1 (by decide)
    have a2 := bars_not (x := 47) h2 (by decide)
    cases neg <;> simp [textPs, textP, setT] <;> exact ⟨fun e => a1 e.symm, fun e => a2 e.symm⟩

set_option maxRecDepth 100000 in
set_option maxHeartbeats 4000000 in
theorem GlobSets_walk (w : World) (hsh : w.ShapedOpen Tryd.prog) (a : Int) (ha : U8 a) (b : Int) (hb : U8 b) (c : Int) (hc : U8 c) :
    Calls Tryd.prog 7 #[.int .u8 a, .int .u8 b, .int .u8 c] w fun e w' => e = .returned (.bool true) ∧ Below w.heap.size w w' := by
  have hm := ML.of_shaped hsh
  clear hsh
  obtain ⟨lo, rfl⟩ := byte_of a ha
  obtain ⟨hi, rfl⟩ := byte_of b hb
  obtain ⟨ch, rfl⟩ := byte_of c hc
  clear ha hb hc
  by_cases hlo : lo ∈ barsB
  · have hB := Lib.hid (fun w => Bars_in lo hlo w)
    clear hlo
    generalize (lo.toNat : Int) = L at *
    go_enter Tryd.func7, Tryd.ntmps7
    go_wp2_with fail
    refine (hB.out _).mono ?_
    rintro e w' ⟨i, hi0, rfl, rfl⟩
    have d : decide ((0 : Int) ≤ i) = true := decide_eq_true hi0
    go_wp2_with fail
    go_ret
    exact ⟨rfl, Below.refl _ _⟩
  have hB1 := Lib.hid (fun w => Bars_out lo hlo w)
  by_cases hhi : hi ∈ barsB
  · have hB := Lib.hid (fun w => Bars_in hi hhi w)
    clear hlo hhi
    generalize (lo.toNat : Int) = L at *
    generalize (hi.toNat : Int) = G at *
    go_enter Tryd.func7, Tryd.ntmps7
    go_wp2_with fail
    refine (hB1.out _).mono ?_
    rintro e w' ⟨rfl, rfl⟩
    go_wp2_with fail
    refine (hB.out _).mono ?_
    rintro e w' ⟨i, hi0, rfl, rfl⟩
    have d : decide ((0 : Int) ≤ i) = true := decide_eq_true hi0
    go_wp2_with fail
    go_ret
    exact ⟨rfl, Below.refl _ _⟩
  have hB2 := Lib.hid (fun w => Bars_out hi hhi w)
  by_cases h47 : ch = 47
  · have e47 : ((ch.toNat : Int) == 47) = true := byte_eq (d := 47) h47
    clear h47 hlo hhi
    generalize (lo.toNat : Int) = L at *
    generalize (hi.toNat : Int) = G at *
    generalize (ch.toNat : Int) = C at *
    go_enter Tryd.func7, Tryd.ntmps7
    go_wp2_with fail
    refine (hB1.out _).mono ?_
    rintro e w' ⟨rfl, rfl⟩
    go_wp2_with fail
    refine (hB2.out _).mono ?_
    rintro e w' ⟨rfl, rfl⟩
    go_wp2_with fail
    go_ret
    exact ⟨rfl, Below.refl _ _⟩
  have e47 : ((ch.toNat : Int) == 47) = false := byte_ne (d := 47) h47
  by_cases h0 : ch = 0
  · have e0 : ((ch.toNat : Int) == 0) = true := byte_eq (d := 0) h0
    clear h0 h47 hlo hhi
    generalize (lo.toNat : Int) = L at *
    generalize (hi.toNat : Int) = G at *
    generalize (ch.toNat : Int) = C at *
    go_enter Tryd.func7, Tryd.ntmps7
    go_wp2_with fail
    refine (hB1.out _).mono ?_
    rintro e w' ⟨rfl, rfl⟩
    go_wp2_with fail
    refine (hB2.out _).mono ?_
    rintro e w' ⟨rfl, rfl⟩
    go_wp2_with fail
    go_ret
    exact ⟨rfl, Below.refl _ _⟩
  have e0 : ((ch.toNat : Int) == 0) = false := byte_ne (d := 0) h0
  have hck : checkS [120, ch] = 0 := check_one (by simp) (by simp) (by simp; exact fun e => h0 e.symm) (by simp; exact fun e => h47 e.symm) (by
    unfold badPart
    have h2 : ([120, ch] == [46]) = false := by rw [beq_eq_false_iff_ne]; intro e; simp at e
    have h3 : ([120, ch] == [46, 46]) = false := by rw [beq_eq_false_iff_ne]; intro e; simp at e
    rw [h2, h3]; rfl)
  have hsp : splitC 47 [120, ch] = [[120, ch]] := splitC_miss (by simp; exact fun e => h47 e.symm)
  have hF1 := Lib.hid (fun w hm => Fits_ok _ _ (set_pat false lo hi hlo hhi) [120, ch] hck w hm)
  have hF2 := Lib.hid (fun w hm => Fits_ok _ _ (set_pat true lo hi hlo hhi) [120, ch] hck w hm)
  have hF3 := Lib.hid (fun w hm => Fits_form [.inl 120] [97] (by intro q hq; rw [List.mem_singleton] at hq; subst hq; exact (by decide : (120 : UInt8) ≠ 91)) (by decide) (by decide) (by decide) [120, ch] w hm)
  rw [hsp, one_part (by rfl), set_fits] at hF1 hF2
  have x1 : (⟨#[120, 91]⟩ : ByteArray) ++ bs [lo, 45, hi] ++ ⟨#[93]⟩ = bs (textPs [.inl 120, .inr (false, lo, [45, hi])]) := by
    rw [show (⟨#[120, 91]⟩ : ByteArray) = bs [120, 91] from rfl, show (⟨#[93]⟩ : ByteArray) = bs [93] from rfl, bs_append, bs_append]; rfl
  have x2 : (⟨#[120, 91, 33]⟩ : ByteArray) ++ bs [lo, 45, hi] ++ ⟨#[93]⟩ = bs (textPs [.inl 120, .inr (true, lo, [45, hi])]) := by
    rw [show (⟨#[120, 91, 33]⟩ : ByteArray) = bs [120, 91, 33] from rfl, show (⟨#[93]⟩ : ByteArray) = bs [93] from rfl, bs_append, bs_append]; rfl
  have x3 : (⟨#[120, 91, 97]⟩ : ByteArray) = bs (textPs [.inl 120] ++ 91 :: [97]) := rfl
  have zc := bs_size [lo, 45, hi]
  have hc1 := conv_new w [120, ch] w.heap.size rfl (by simp)
  have hc2 := conv_new (w.alloc (.cells #[.int .u8 120, .int .u8 ch.toNat] 5)) [lo, 45, hi] (w.heap.size + 1) (by simp) (by simp)
  have hc3 := fun W => conv_new W [lo, 45, hi] W.heap.size rfl (by simp)
  simp only [List.map_cons, List.map_nil, List.length_cons, List.length_nil] at hc1 hc2 hc3
  rw [show ((120 : UInt8).toNat : Int) = 120 from rfl] at hc1
  rw [show ((45 : UInt8).toNat : Int) = 45 from rfl] at hc2
  simp only [show ((45 : UInt8).toNat : Int) = 45 from rfl] at hc3
  have k1 := le_byte lo ch
  have k2 := le_byte ch hi
  clear hck hsp h0 h47 hlo hhi
  have b0 : Below w.heap.size w ((w.alloc (.cells #[.int .u8 120, .int .u8 ch.toNat] 5)).alloc (.cells #[.int .u8 lo.toNat, .int .u8 45, .int .u8 hi.toNat] 5)) :=
    ((Below.refl _ w).alloc (Nat.le_refl _) _).alloc (by simp) _
  have B0 := Lib.hid b0
  clear b0
  rw [← k1, ← k2] at hF1 hF2
  clear k1 k2
  rw [x3.symm] at hF3
  generalize bs [lo, 45, hi] = sx at *
  generalize bs [120, ch] = sc at *
  generalize bs (textPs [.inl 120, .inr (false, lo, [45, hi])]) = p1 at *
  generalize bs (textPs [.inl 120, .inr (true, lo, [45, hi])]) = p2 at *
  generalize (lo.toNat : Int) = L at *
  generalize (hi.toNat : Int) = G at *
  generalize (ch.toNat : Int) = C at *
  have hq : decide (L ≤ C) = false ∨ (decide (L ≤ C) = true ∧ decide (C ≤ G) = false) ∨ (decide (L ≤ C) = true ∧ decide (C ≤ G) = true) := by
    cases decide (L ≤ C) <;> cases decide (C ≤ G) <;> simp
  rcases hq with q1 | ⟨q1, q2⟩ | ⟨q1, q2⟩
  all_goals
    first | rw [q1, q2] at hF1 hF2 | rw [q1] at hF1 hF2
    simp only [Bool.false_and, Bool.true_and, Bool.and_false, Bool.and_true, bne_self_eq_false] at hF1 hF2
    go_enter Tryd.func7, Tryd.ntmps7
    go_wp2_with fail
    refine (hB1.out _).mono ?_
    rintro e w' ⟨rfl, rfl⟩
    go_wp2_with fail
    refine (hB2.out _).mono ?_
    rintro e w' ⟨rfl, rfl⟩
    go_wp2_with fail
    refine (hF1.out _ (hm.below B0.out)).mono ?_
    rintro e w1 ⟨rfl, b1⟩
    have b11 := Lib.hid (B0.out.trans (b1.mono B0.out.size))
    have hx3 := hc3 w1
    have bx : Below w.heap.size w (w1.alloc (.cells #[.int .u8 L, .int .u8 45, .int .u8 G] 5)) := b11.out.alloc b11.out.size _
    have BX := Lib.hid bx
    clear b1 bx
    go_wp2_with fail
    refine (hF2.out _ (hm.below BX.out)).mono ?_
    rintro e w2 ⟨rfl, b2⟩
    have b12 := Lib.hid (BX.out.trans (b2.mono BX.out.size))
    clear b2
    go_wp2_with fail
    refine (hF3.out _ (hm.below b12.out)).mono ?_
    rintro e w3 ⟨rfl, b3⟩
    have b13 := Lib.hid (b12.out.trans (b3.mono b12.out.size))
    clear b3
    go_wp2_with fail
    go_ret
    exact ⟨rfl, b13.out⟩
end Go.Proofs.YtbhglmcblhnphaaDoor
