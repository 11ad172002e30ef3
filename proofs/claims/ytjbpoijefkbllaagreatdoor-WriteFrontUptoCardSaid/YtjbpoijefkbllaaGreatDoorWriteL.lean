/-
  The laws WriteEnds and WriteFront: what they compute is true. Condition: raw things of the second form's bound; the library's table of powers of ten lies as Go laid it.
-/
import Derived.Test.YtjbpoijefkbllaaGreatDoorArch
import Derived.Test.YtjbpoijefkbllaaGreatDoorMake
import Derived.Test.YtjbpoijefkbllaaGreatDoorTree
import Derived.Deep.QuietTactic
import Derived.BigQuiet
import Derived.IntWalk
namespace Go.Proofs.YtjbpoijefkbllaaGreatDoor
open Go.RowKit

theorem small_plan_ : (planP (filterP smallP [])).length = 3 := by rw [planP_length, filter_none_ small_ok]; rfl
set_option maxRecDepth 100000 in
set_option maxHeartbeats 4000000 in
theorem entriesOf_any (l : List RawS) (v : Value) (most : Nat) (w : World) (hm : ML w) (hl : RawsAt w w.heap.size v l) (hok : ∀ x ∈ l, RawOk x) (hn : l.length ≤ 1048576) (hmost : most ≤ 40) :
    Calls Tryz.prog 10 #[v, .int .i64 most] w fun e w' => ∃ ev, e = .returned (.tuple #[ev, .bool true]) ∧ EntsOwn w' w.heap.size ev (planP (treeP l most)) ∧ Below w.heap.size w w' := by
  have HML : Hid (∀ W, Below w.heap.size w W → ML W) := Lib.hid (fun W hb => hm.below hb)
  have HT := Lib.hid (fun (_ : Unit) => Tree_any l v most w hm hl hok hn hmost)
  have hto := treeP_ok l most hmost
  have HMK := Lib.hid (fun W v1 t (hb : Below w.heap.size w W) (h : NodesAt W v1 t) (ht : TreeOk t) => Make_any v1 (.slice none 0 0) t [] W (fun W' hb' => HML.out W' (hb.trans (hb'.mono hb.size))) h ht (RulesAt.nil W) (by simp))
  have HFN := Lib.hid (filter_none_ hto)
  obtain ⟨Al, cl, rfl, -⟩ := hl
  clear hm hok hn
  generalize treeP l most = t at *
  have HTO := Lib.hid hto
  clear hto
  go_enter Tryz.func10, Tryz.ntmps10
  go_wp2_with fail
  refine (HT.out ()).mono ?_
  rintro e' w1 ⟨tv, rfl, htv, b1⟩
  have B1 := Lib.hid b1
  have H1 := Lib.hid (HMK.out w1 tv t b1 htv.at_ HTO.out)
  obtain ⟨_, At, ct, -, hte, -⟩ := htv.at_
  subst hte
  clear b1 htv HT
  go_wp2_with fail
  refine H1.out.mono ?_
  rintro e' w2 ⟨xv, rfl, hxv, b2⟩
  rw [HFN.out] at hxv
  have B2 := Lib.hid (B1.out.trans (b2.mono B1.out.size))
  have HX2 := Lib.hid (hxv.mono B1.out.size)
  obtain ⟨Ax, cx, hxe, -⟩ := hxv.slice
  subst hxe
  clear b2 hxv H1
  go_wp2_with fail
  refine (Small_any _).mono ?_
  rintro e' w3 ⟨sv, rfl, hsv, b3⟩
  have B3 := Lib.hid (B2.out.trans (b3.mono B2.out.size))
  have HX3 := Lib.hid (HX2.out.below b3)
  have H3 := Lib.hid (HMK.out w3 sv smallP B3.out hsv.at_ small_ok)
  obtain ⟨_, As, cs, -, hse, -⟩ := hsv.at_
  subst hse
  clear b3 hsv HX2
  go_wp2_with fail
  refine H3.out.mono ?_
  rintro e' w4 ⟨ov, rfl, hov, b4⟩
  have B4 := Lib.hid (B3.out.trans (b4.mono B3.out.size))
  have HX4 := Lib.hid (HX3.out.below b4)
  obtain ⟨Ao, co, hoe, -⟩ := hov.slice
  rw [small_plan_] at hoe
  subst hoe
  clear b4 hov H3 HX3
  go_wp2_with fail
  go_ret2
  exact ⟨_, rfl, HX4.out, B4.out⟩

/-! ### slices.IsSorted at []int -/
set_option maxRecDepth 100000 in
set_option maxHeartbeats 4000000 in
theorem IsSortedI_ok (v : Value) (l : List Int) (w : World) (hl : IntsAt .i64 w w.heap.size v l) (hn : l.length ≤ 1000) (hs : ∀ i (h : i + 1 < l.length), l[i] ≤ l[i + 1]) :
    Calls Tryz.prog 28 #[v] w fun e w' => e = .returned (.bool true) ∧ Below w.heap.size w w' := by
  obtain ⟨A, c, rfl, h1, h2, -, hr⟩ := hl
  unfold maxLen at h2
  have HR := Lib.hid hr
  have HS := Lib.hid hs
  clear hr hs
  rcases Nat.eq_zero_or_pos l.length with h0 | h0
  · rw [h0]
    clear h1 hn
    go_enter Tryz.func28, Tryz.ntmps28
    go_wp2_with fail
    go_loopg [3] 0 (fun gg s3 wr => s3 = .int .i64 (-1) ∧ wr = w)
    case atStart => exact ⟨rfl, rfl⟩
    case round =>
      obtain ⟨rfl, rfl⟩ := hrel
      go_wp2_with fail
      go_ret
      exact ⟨rfl, Below.refl _ _⟩
  · obtain ⟨n, hn1⟩ : ∃ n, l.length = n + 1 := ⟨l.length - 1, by omega⟩
    rw [hn1] at h1 ⊢
    have HN := Lib.hid hn1
    clear hn1 h0
    have hn3 : n ≤ 1000 := by have := HN.out; omega
    clear hn
    go_enter Tryz.func28, Tryz.ntmps28
    go_wp2_with fail
    go_loopg [3] n (fun gg s3 wr => ∃ i : Nat, i ≤ n ∧ i ≤ gg ∧ s3 = .int .i64 i ∧ Hid (Below w.heap.size w wr))
    case atStart => exact ⟨n, Nat.le_refl _, by omega, by go_num, Lib.hid (Below.refl _ _)⟩
    case round =>
      obtain ⟨i, hi, hg, rfl, HW⟩ := hrel
      rcases Nat.eq_zero_or_pos i with h0 | h0
      · subst h0
        go_wp2_with fail
        go_ret
        exact ⟨rfl, HW.out⟩
      · obtain ⟨m, rfl⟩ : ∃ m, i = m + 1 := ⟨i - 1, by omega⟩
        clear h0
        have hm1 : m + 1 < l.length := by have := HN.out; omega
        obtain ⟨ad, u, rfl, hb, hu, e1⟩ := (HR.out.keep (w' := wr) (fun p hp => HW.out.cell hp)).at_ hm1
        obtain ⟨ad2, u2, had, _, hu2, e2⟩ := (HR.out.keep (w' := wr) (fun p hp => HW.out.cell hp)).at_ (show m < l.length by omega)
        injection had with had
        subst had
        rw [List.getElem?_map, List.getElem?_eq_getElem hm1] at hu
        rw [List.getElem?_map, List.getElem?_eq_getElem (by omega)] at hu2
        simp only [Option.map_some, Option.some.injEq] at hu hu2
        subst hu hu2
        have hcmp := HS.out m hm1
        have f1 := e1
        have f2 := e2
        obtain ⟨ad3, u3, had, _, _, e3⟩ := (HR.out.keep (w' := wr) (fun p hp => HW.out.cell hp)).at_ (show 0 < l.length by omega)
        injection had with had
        subst had
        have hsp : ad.spot = none := by have := spot_of e3; simpa [Addr.add] using this
        rw [add_step hsp] at f1
        clear e3
        have j1 : ¬ l[m + 1] < l[m] := by omega
        have j2 : decide (l[m + 1] < l[m]) = false := decide_eq_false j1
        have hw : IntKind.i64.wrap (m : Int) = m := IntWalk.i64_in _ (by omega)
        have i1 : (m : Int) < (n : Int) + 1 := by omega
        have i2 : (0 : Int) ≤ (m : Int) := by omega
        have i3 : (m : Int) + 1 < (n : Int) + 1 := by omega
        have i4 : (0 : Int) < (m : Int) + 1 := by omega
        have i5 : (m : Int) < (n : Int) := by omega
        have i6 : m < n := by omega
        have i7 : (0 : Int) ≤ (m : Int) + 1 := by omega
        have i8 : ((m : Int) + 1).toNat = m + 1 := by omega
        clear e1 e2 hcmp
        generalize l[m + 1] = b1 at *
        generalize l[m] = b2 at *
        clear hm1
        have HLS : Hid (∀ W, Calls Tryz.prog 66 #[.int .i64 b1, .int .i64 b2] W fun e w' => e = .returned (.bool false) ∧ ∃ q, w' = W.drewN q) := Lib.hid (fun W => by
          clear f1 f2
          go_enter Tryz.func66, Tryz.ntmps66
          go_wp2
          go_ret
          exact ⟨rfl, 0, rfl⟩)
        go_upto_region 4 with fail
        go_quiet ((go_at_call 66; exact Calls.quiet_of (HLS.out _)))
        have HW2 := Lib.hid (below_drewN HW.out nq)
        clear f1 f2 hw i1 i3
        go_wp2_with fail
        go_roundg m
        case measure => omega
        case rel => exact ⟨m, by omega, Nat.le_refl _, by go_num, HW2⟩

/-! ### lengths -/
theorem padB_mod (l : List UInt8) : (padB l).length % 512 = 0 := by rw [padB_length]; omega
theorem memB_mod {x : EntP} (h : EntOk x) : (memB x).length % 512 = 0 := by
  have h1 := padB_mod x.data
  have h2 := headW_length (packH_ok h)
  have h3 : (memR (packR x)).length % 512 = 0 := by
    unfold memR
    split
    · rfl
    · have h4 := padB_mod (paxT (packR x))
      have h5 := paxT_len (packR_ok h)
      have h6 : (packR x).length * 703 ≤ 7 * 703 := Nat.mul_le_mul_right _ (packR_len x)
      rw [List.length_append, headW_length (paxH_ok _ (by omega))]
      omega
  unfold memB
  rw [List.length_append, List.length_append, h2]
  omega
theorem arcB_mod {l : List EntP} (h : ∀ x ∈ l, EntOk x) : (arcB l).length % 512 = 0 := by
  unfold arcB
  induction l with
  | nil => rfl
  | cons r l ih =>
    have h1 := memB_mod (h r (by simp))
    have h2 := ih (fun x hx => h x (by simp [hx]))
    simp only [List.map_cons, List.flatten_cons, List.length_append]
    omega
theorem arcB_mono (l : List EntP) (k : Nat) : (arcB (l.take k)).length ≤ (arcB (l.take (k + 1))).length := by
  by_cases hk : k < l.length
  · rw [arcB_take hk, List.length_append]; omega
  · rw [List.take_of_length_le (by omega), List.take_of_length_le (by omega)]; exact Nat.le_refl _
theorem plK_at (l : List EntP) (n k : Nat) (h : k < n + 1) : (plK l n)[k]'(by rw [plK_len]; exact h) = ((arcB (l.take k)).length : Int) := by simp [plK]
theorem plK_sorted (l : List EntP) (n : Nat) : ∀ i (h : i + 1 < (plK l n).length), (plK l n)[i] ≤ (plK l n)[i + 1] := fun i h => by
  rw [plK_len] at h
  rw [plK_at l n i (by omega), plK_at l n (i + 1) h]
  have := arcB_mono l i
  omega
theorem trim_end : Lib.trimB endB 0 = [] := (trimB_nil _ _).2 (fun b hb => List.eq_of_mem_replicate hb)

set_option maxRecDepth 100000 in
set_option maxHeartbeats 4000000 in
theorem WriteEnds_walk (w : World) (hsh : w.ShapedOpen Tryz.prog) (h10 : P10 w) (v : Value) (l : List RawS) (hl : RawsAt w w.heap.size v l) (hok : ∀ x ∈ l, RawOk x) (hn : l.length ≤ 1048576) :
    Calls Tryz.prog 8 #[v] w fun e w' => e = .returned (.bool true) ∧ Below w.heap.size w w' := by
  have hm := ML.of_shaped hsh
  clear hsh
  have HML : Hid (∀ W, Below w.heap.size w W → ML W) := Lib.hid (fun W hb => hm.below hb)
  have HP10 : Hid (∀ W, Below w.heap.size w W → P10 W) := Lib.hid (fun W hb => h10.below hb)
  have HE := Lib.hid (entriesOf_any l v 20 w hm hl hok hn (by omega))
  have hpl : (planP (treeP l 20)).length ≤ 20 := by rw [planP_length]; exact treeP_length l 20
  have hoks := plan_ok (treeP_ok l 20 (by omega))
  obtain ⟨Al, cl, rfl, -⟩ := hl
  clear hm h10 hok hn
  generalize planP (treeP l 20) = x at *
  have HOK := Lib.hid hoks
  have hmod := arcB_mod hoks.ent
  have hal := arcB_take_len hoks.ent hoks.len x.length
  rw [List.take_length] at hal
  have HPS := Lib.hid (plK_sorted x x.length)
  have HPA := Lib.hid (plK_at x x.length x.length (by omega))
  have HPL := Lib.hid (plK_len x x.length)
  rw [List.take_length] at HPA
  clear hoks
  go_enter Tryz.func8, Tryz.ntmps8
  go_wp2_with fail
  refine HE.out.mono ?_
  rintro e w1 ⟨ev, rfl, hev, b1⟩
  obtain ⟨xs, hat⟩ := hev.at_
  have HAT := Lib.hid hat
  have HB1 := Lib.hid b1
  have HWA := Lib.hid (WArchive_ok ev x xs w1 (fun W hb => HML.out W (b1.trans (hb.mono b1.size))) (fun W hb => HP10.out W (b1.trans (hb.mono b1.size))) hat HOK.out)
  obtain ⟨Ax, cx, rfl, hcx, -⟩ := hev.slice
  clear b1 hev hat HE
  go_wp2_with fail
  refine HWA.out.mono ?_
  rintro e w2 ⟨bv, rfl, hbv, b2⟩
  have HB2 := Lib.hid (HB1.out.trans (b2.mono HB1.out.size))
  have HWP := Lib.hid (WPlaces_ok _ x xs w2 (fun W hb => HML.out W (HB2.out.trans (hb.mono HB2.out.size))) (fun W hb => HP10.out W (HB2.out.trans (hb.mono HB2.out.size))) (HAT.out.below b2) HOK.out)
  have hL : (arcB x ++ endB).length = (arcB x).length + 1024 := by rw [List.length_append]; rfl
  obtain ⟨g, cb, rfl, -, -⟩ := World.ownsRow.form hbv (by omega)
  have HBV := Lib.hid hbv
  clear hbv b2 HWA HAT
  rw [hL]
  go_wp2_with fail
  refine HWP.out.mono ?_
  rintro e w3 ⟨pv, rfl, hpv, b3⟩
  have HB3 := Lib.hid (HB2.out.trans (b3.mono HB2.out.size))
  have hat3 := (HBV.out.below b3).at_
  have hbp := hat3.part (arcB x).length (arcB x ++ endB).length (by omega) (Nat.le_refl _)
  obtain ⟨_, _, hve, hcb1, hcb2, -⟩ := id hat3
  have hcb3 : (arcB x).length + 1024 ≤ cb := by
    obtain ⟨-, -, rfl⟩ := Value.slice.inj hve
    rw [List.length_map, hL] at hcb1
    exact hcb1
  have hcb4 : cb ≤ 9223372036854775807 := by
    obtain ⟨-, -, rfl⟩ := Value.slice.inj hve
    unfold maxLen at hcb2
    omega
  have hcv := conv_str hbp
  rw [if_neg (by omega), hL, Nat.add_sub_cancel_left, List.drop_left, show endB.take 1024 = endB from List.take_of_length_le (by simp [endB])] at hcv
  have hpi := IntsAt.of_own (base := w2.heap.size) (e := 3) hpv
  have HIS := Lib.hid (fun W (hb : Below w3.heap.size w3 W) => IsSortedI_ok pv (plK x x.length) W ((hpi.below hb).more hb.size) (by rw [HPL.out]; omega) HPS.out)
  obtain ⟨ad, u, hpe, had, hu, hpc⟩ : ∃ ad u, (∃ cp, pv = .slice (some ad) (plK x x.length).length cp) ∧ ad.block < w3.heap.size ∧ ((plK x x.length).map (Value.int .i64))[x.length]? = some u ∧ w3.cell? (ad.add x.length) = some u := by
    obtain ⟨A, c, rfl, -, -, -, hr⟩ := hpi
    obtain ⟨ad, u, rfl, h1, h2, h3⟩ := hr.at_ (show x.length < (plK x x.length).length by rw [HPL.out]; omega)
    exact ⟨ad, u, ⟨c, rfl⟩, h1, h2, h3⟩
  obtain ⟨cp, rfl⟩ := hpe
  rw [List.getElem?_map, List.getElem?_eq_getElem (by rw [HPL.out]; omega), HPA.out] at hu
  obtain rfl : Value.int .i64 ((arcB x).length : Int) = u := by simpa using hu
  rw [HPL.out] at HIS ⊢
  have HTR := Lib.hid (fun W => Trim_nul endB W (by simp [endB]))
  rw [trim_end] at HTR
  have HPC := Lib.hid (fun W (hb : Below w3.heap.size w3 W) => (hb.cell (p := ad.add x.length) (by rw [block_of_add]; exact had)).trans hpc)
  clear hve hcb1 hcb2 hat3 hbp hpi hu hpv hL HBV HWP HPS HPA HPL b3 HOK
  generalize plK x x.length = PL at *
  generalize (arcB x).length = a at *
  generalize x.length = n at *
  have t1 : ((a : Int) + 1024).tmod 512 = 0 := by rw [Int.tmod_eq_emod_of_nonneg (by omega)]; omega
  have t2 : (((a : Int) + 1024).tmod 512 == 0) = true := by rw [t1]; rfl
  have t3 : (bs []).toList = [] := bs_toList []
  have t4 : (bs []).toList.isEmpty = true := by rw [t3]; rfl
  have t5 : ((n : Int) + 1 == (n : Int) + 1) = true := beq_self_eq_true _
  have t6 : ((a : Int) == (a : Int)) = true := beq_self_eq_true _
  have hnz : (n : Int) < (n : Int) + 1 := by omega
  rw [add_flat, Nat.zero_add] at hcv
  generalize bs endB = bE at *
  generalize bs [] = b0 at *
  go_wp2_with fail
  refine (HTR.out _).mono ?_
  rintro e w4 ⟨rfl, b4⟩
  have c4 := HPC.out _ b4
  have HB4 := Lib.hid (HB3.out.trans (b4.mono HB3.out.size))
  have HIS4 := Lib.hid (HIS.out _ b4)
  clear b4 hcv hpc HIS HPC
  go_wp2_with fail
  refine HIS4.out.mono ?_
  rintro e w5 ⟨rfl, b5⟩
  have HB5 := Lib.hid (HB4.out.trans (b5.mono HB4.out.size))
  clear b5 c4
  go_wp2_with fail
  go_ret
  exact ⟨rfl, HB5.out⟩
end Go.Proofs.YtjbpoijefkbllaaGreatDoor
