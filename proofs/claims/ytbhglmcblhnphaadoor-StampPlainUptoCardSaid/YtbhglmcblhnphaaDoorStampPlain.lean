/-
  The law StampPlain: what it computes is true. Condition: the library's table of powers of ten lies as Go laid it.
-/
import Derived.Test.YtbhglmcblhnphaaDoorStamp
namespace Go.Proofs.YtbhglmcblhnphaaDoor
open Go.RowKit

theorem Cut_at (l a b : List UInt8) (d : Bool) (c : UInt8) (hcut : Lib.cut l [c] = (a, b, d)) (w : World) (hs : l.length < 4294967281) (hm : ML w) :
    Calls Tryd.prog 39 #[.string (bs l), .string ⟨#[c]⟩] w fun e w' => e = .returned (.tuple #[.string (bs a), .string (bs b), .bool d]) ∧ Below w.heap.size w w' := by
  obtain ⟨m, hm⟩ := hm
  refine (Tryd.strings_Cut (bs l) ⟨#[c]⟩ m w (by rw [bs_size]; exact hs) hm).mono fun e w' ⟨h1, n, h2⟩ => ⟨?_, by rw [h2]; exact below_drewN (Below.refl _ _) n⟩
  have e1 : Lib.cut (bs l).data.toList (⟨#[c]⟩ : ByteArray).data.toList = (a, b, d) := by rw [bs_data]; exact hcut
  rw [h1, e1]; rfl
theorem TrimPrefix_at (l a : List UInt8) (p : List UInt8) (h : Lib.trimPrefix l p = a) (w : World) :
    Calls Tryd.prog 40 #[.string (bs l), .string (bs p)] w fun e w' => e = .returned (.string (bs a)) ∧ w = w' :=
  (Tryd.strings_TrimPrefix (bs l) (bs p) w).mono fun e w' ⟨h1, h2⟩ => ⟨by rw [h1, bs_data, bs_data, h]; rfl, h2.symm⟩
theorem HasPrefix_at (l p : List UInt8) (d : Bool) (h : Lib.hasPrefix l p = d) (w : World) :
    Calls Tryd.prog 37 #[.string (bs l), .string (bs p)] w fun e w' => e = .returned (.bool d) ∧ w = w' :=
  (Tryd.strings_HasPrefix (bs l) (bs p) w).mono fun e w' ⟨h1, h2⟩ => ⟨by rw [h1, bs_data, bs_data, h], h2.symm⟩
theorem text_prefix (x y : Int) : Lib.hasPrefix (textT x y) [45] = decide (x < 0) := by
  obtain ⟨b, r, e, hb⟩ := body_head (absT x y).1 (absT x y).2
  unfold textT Lib.hasPrefix
  by_cases h : x < 0
  · rw [if_pos h, decide_eq_true h]; rfl
  · rw [if_neg h, decide_eq_false h, e]
    have : (45 == b) = false := by rw [beq_eq_false_iff_ne]; exact fun e => hb e.symm
    simp [List.isPrefixOf, this]
theorem text_trim (x y : Int) : Lib.trimPrefix (textT x y) [45] = bodyS (absT x y).1 (absT x y).2 := by
  unfold Lib.trimPrefix
  rw [text_prefix]
  unfold textT
  by_cases h : x < 0
  · rw [decide_eq_true h, if_pos h, if_pos rfl]; rfl
  · rw [decide_eq_false h, if_neg h]; rfl
theorem absT_pos (x y : Int) (h : timeOk x y) (hy : 0 < y) : (absT x y).2 ≠ 0 ∧ (absT x y).2 < 1000000000 := by
  obtain ⟨h1, h2, h3, h4⟩ := h
  unfold absT
  split
  · simp only [if_pos hy]; omega
  · simp only; omega
theorem absT_zero (x y : Int) (h : timeOk x y) (hy : ¬ 0 < y) : (absT x y).2 = 0 := by
  obtain ⟨h1, h2, h3, h4⟩ := h
  unfold absT
  split
  · simp only [if_neg hy]
  · simp only; omega
theorem absT_S (x y : Int) (h : timeOk x y) : (absT x y).1 ≤ 1099511627776 := by
  obtain ⟨h1, h2, h3, h4⟩ := h
  unfold absT
  split
  · split <;> (simp only; omega)
  · simp only; omega
theorem body_len (S F : Nat) (h : S ≤ 1099511627776) (h2 : F < 1000000000) : (bodyS S F).length ≤ 30 := by
  have := dec13 S h
  have := frac_len F h2
  unfold bodyS
  split <;> simp <;> omega
theorem text_len (x y : Int) (h : timeOk x y) : (textT x y).length ≤ 40 := by
  have h1 := absT_S x y h
  have h2 : (absT x y).2 < 1000000000 := by
    by_cases hy : 0 < y
    · exact (absT_pos x y h hy).2
    · rw [absT_zero x y h hy]; omega
  have := body_len _ _ h1 h2
  unfold textT
  split <;> simp <;> omega
set_option maxRecDepth 100000 in
set_option maxHeartbeats 2000000 in
theorem StampPlain_walk (w : World) (hsh : w.ShapedOpen Tryd.prog) (h10 : P10 w) (a : Int) (ha : I64 a) (b : Int) (hb : I64 b) :
    Calls Tryd.prog 13 #[.int .i64 a, .int .i64 b] w fun e w' => e = .returned (.bool true) ∧ Below w.heap.size w w' := by
  have hm := ML.of_shaped hsh
  clear hsh
  have ⟨p1, p2⟩ := pick_bd a 2199023255553 (by omega)
  have ⟨q1, q2⟩ := pick_bd b 1000000000 (by omega)
  have hPa := Lib.hid (fun w => picked_any a 2199023255553 ha (by omega) (by omega) w)
  have hPb := Lib.hid (fun w => picked_any b 1000000000 hb (by omega) (by omega) w)
  generalize pick a 2199023255553 = xx at *
  generalize pick b 1000000000 = y at *
  clear ha hb
  obtain ⟨x, hx⟩ : ∃ x, x = xx - 1099511627776 := ⟨_, rfl⟩
  have ht : timeOk x y := ⟨by omega, by omega, by omega, by omega⟩
  have hTx := Lib.hid (fun w => Text_ok x y ht w)
  have hP := Lib.hid (fun w => HasPrefix_at (textT x y) [45] _ (text_prefix x y) w)
  have hTr := Lib.hid (fun w => TrimPrefix_at (textT x y) _ [45] (text_trim x y) w)
  have hS := absT_S x y ht
  have hdz := dec_zero
  have hcut := cut_body (absT x y).1 (absT x y).2
  have hne := dec_ne (absT x y).1
  have hhd := dec_head (absT x y).1
  have hfe : 0 < y → (absT x y).2 ≠ 0 ∧ (absT x y).2 < 1000000000 := absT_pos x y ht
  have hfz : ¬ 0 < y → (absT x y).2 = 0 := absT_zero x y ht
  have hlb : (bodyS (absT x y).1 (absT x y).2).length ≤ 30 := body_len _ _ hS (by
    by_cases hy : 0 < y
    · exact (hfe hy).2
    · rw [hfz hy]; omega)
  generalize (absT x y).1 = S at *
  generalize (absT x y).2 = F at *
  generalize textT x y = T at *
  clear ht
  subst hx
  have H10 := Lib.hid h10
  clear h10
  have HS := Lib.hid hhd
  clear hhd
  have hnw : ¬ (bs (Lib.decDigits S)).toList = [] := by rw [bs_toList]; exact hne
  have hnw2 : (bs (Lib.decDigits S)).toList.isEmpty = false := by simpa using hnw
  have tw : (S = 0 ∧ ((bs (Lib.decDigits S)).toList == [48]) = true) ∨ (S ≠ 0 ∧ ((bs (Lib.decDigits S)).toList == [48]) = false ∧ ∃ h : 0 < (bs (Lib.decDigits S)).size, ∃ c : Int, (((bs (Lib.decDigits S))[0]'h).toNat : Int) = c ∧ ¬ c = 48 ∧ (c == 48) = false ∧ (c != 48) = true) := by
    by_cases hS0 : S = 0
    · exact .inl ⟨hS0, by rw [bs_toList, hS0, hdz]; rfl⟩
    · obtain ⟨b0, r0, e0, hb0⟩ := HS.out hS0
      have hcc : ¬ ((b0.toNat : Int) = 48) := fun e => hb0 (UInt8.toNat.inj (show b0.toNat = 48 by omega))
      refine .inr ⟨hS0, ?_, by rw [bs_size, e0]; simp, b0.toNat, ?_, hcc, beq_eq_false_iff_ne.2 hcc, by rw [bne_iff_ne]; exact hcc⟩
      · rw [bs_toList, e0, beq_eq_false_iff_ne]
        intro e; cases e; exact hb0 rfl
      · rw [bs_get, e0]; rfl
  have zw := bs_size (Lib.decDigits S)
  have lw := dec13 S hS
  have zw2 : 0 < (Lib.decDigits S).length := List.length_pos_iff.2 hne
  have wne : ((bs (Lib.decDigits S)).toList != []) = true := by rw [bs_toList]; simpa using hne
  by_cases hy : 0 < y
  · obtain ⟨f1, f2⟩ := hfe hy
    have hC := Lib.hid (fun w h => Cut_at _ _ _ _ 46 hcut w (by omega) h)
    have eF : decide (F ≠ 0) = true := decide_eq_true f1
    rw [eF, if_neg f1] at hC
    obtain ⟨r, z, hQ, hz⟩ := frac_last F f1
    have hql := frac_len F f2
    have zQ := bs_size (frac F)
    have tq : ¬ (bs (frac F)).toList = [] := by rw [bs_toList]; exact frac_ne F f1
    have tq2 : (bs (frac F)).toList.isEmpty = false := by simpa using tq
    have tq3 : ((bs (frac F)).toList != []) = true := by rw [bne_iff_ne]; exact tq
    have hk : (frac F).length = r.length + 1 := by rw [hQ]; simp
    have tz : ∃ h : r.length < (bs (frac F)).size, ∃ c : Int, (((bs (frac F))[r.length]'h).toNat : Int) = c ∧ ¬ c = 48 := by
      refine ⟨by omega, _, rfl, ?_⟩
      rw [bs_get, hQ]
      have e2 : (r ++ [z]).getD r.length 0 = z := by simp
      rw [e2]
      exact fun e => hz (UInt8.toNat.inj (show z.toNat = 48 by omega))
    rw [hk] at hql zQ
    have ey : decide (0 < y) = true := decide_eq_true hy
    have el : decide ((r.length : Int) + 1 ≤ 9) = true := decide_eq_true (by omega)
    clear hcut hfe hfz eF hQ hk hlb hS f1 f2 hne HS hdz
    generalize bs (frac F) = bQ at *
    generalize r.length = k at *
    generalize bs (Lib.decDigits S) = bS at *
    generalize (Lib.decDigits S).length = nS at *
    obtain ⟨tz1, zc, tz2, tz3⟩ := tz
    have tz4 : (zc == 48) = false := beq_eq_false_iff_ne.2 tz3
    have tz5 : (zc != 48) = true := by rw [bne_iff_ne]; exact tz3
    have tz6 : decide ((k : Int) < k + 1) = true := decide_eq_true (by omega)
    have tz7 : (k : Int) < k + 1 := by omega
    by_cases hx0 : xx - 1099511627776 < 0
    all_goals
      first | (have ex := decide_eq_true hx0; rw [ex] at hP) | (have ex := decide_eq_false hx0; rw [ex] at hP)
      rcases tw with ⟨-, tw1⟩ | ⟨-, tw2, tw3, wc, tw4, tw5, tw6, tw7⟩
    all_goals
      go_enter Tryd.func13, Tryd.ntmps13
      go_wp2_with fail
      refine (hPa.out _).mono ?_
      rintro e w' ⟨rfl, rfl⟩
      go_wp2_with fail
      refine (hPb.out _).mono ?_
      rintro e w' ⟨rfl, rfl⟩
      go_wp2_with fail
      refine (hTx.out _ H10.out).mono ?_
      rintro e w1 ⟨rfl, b1⟩
      go_wp2_with fail
      refine (hTr.out _).mono ?_
      rintro e w' ⟨rfl, rfl⟩
      go_wp2_with fail
      refine (hC.out _ (hm.below b1)).mono ?_
      rintro e w2 ⟨rfl, b2⟩
      go_wp2_with fail
      refine (hP.out _).mono ?_
      rintro e w' ⟨rfl, rfl⟩
      go_wp2_with fail
      go_ret
      exact ⟨rfl, b1.trans (b2.mono b1.size)⟩
  · have hF0 := hfz hy
    subst hF0
    have hC := Lib.hid (fun w h => Cut_at _ _ _ _ 46 hcut w (by omega) h)
    rw [if_pos rfl, show decide ((0 : Nat) ≠ 0) = false from rfl] at hC
    have ey : decide (0 < y) = false := decide_eq_false hy
    clear hcut hfe hfz hlb hS hne HS hdz
    generalize bs (Lib.decDigits S) = bS at *
    generalize (Lib.decDigits S).length = nS at *
    by_cases hx0 : xx - 1099511627776 < 0
    all_goals
      first | (have ex := decide_eq_true hx0; rw [ex] at hP) | (have ex := decide_eq_false hx0; rw [ex] at hP)
      rcases tw with ⟨-, tw1⟩ | ⟨-, tw2, tw3, wc, tw4, tw5, tw6, tw7⟩
    all_goals
      go_enter Tryd.func13, Tryd.ntmps13
      go_wp2_with fail
      refine (hPa.out _).mono ?_
      rintro e w' ⟨rfl, rfl⟩
      go_wp2_with fail
      refine (hPb.out _).mono ?_
      rintro e w' ⟨rfl, rfl⟩
      go_wp2_with fail
      refine (hTx.out _ H10.out).mono ?_
      rintro e w1 ⟨rfl, b1⟩
      go_wp2_with fail
      refine (hTr.out _).mono ?_
      rintro e w' ⟨rfl, rfl⟩
      go_wp2_with fail
      refine (hC.out _ (hm.below b1)).mono ?_
      rintro e w2 ⟨rfl, b2⟩
      go_wp2_with fail
      refine (hP.out _).mono ?_
      rintro e w' ⟨rfl, rfl⟩
      go_wp2_with fail
      go_ret
      exact ⟨rfl, b1.trans (b2.mono b1.size)⟩
end Go.Proofs.YtbhglmcblhnphaaDoor
