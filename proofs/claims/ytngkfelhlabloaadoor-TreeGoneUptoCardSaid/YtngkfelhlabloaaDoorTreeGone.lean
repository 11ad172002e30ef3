/-
  The law TreeGone: what it computes is true. Condition: raw things of the second form's bound.
-/
import Derived.Test.YtngkfelhlabloaaDoorTreeFound
import Derived.Test.YtngkfelhlabloaaDoorRemove
namespace Go.Proofs.YtngkfelhlabloaaDoor
open Go.RowKit

theorem gone_find {t : List NodeP} (hn : (t.map (·.path)).Nodup) (s : List UInt8) {y : NodeP} (hy : y ∈ t) : (goneB s y = true ∧ findP (removeP t s) y.path = none) ∨ (goneB s y = false ∧ ∃ k, findP (removeP t s) y.path = some k) := by
  have one : ∀ z ∈ t, z.path = y.path → z = y := fun z hz e => by
    obtain ⟨i, hi, rfl⟩ := List.getElem_of_mem hz
    obtain ⟨j, hj, rfl⟩ := List.getElem_of_mem hy
    have := nodup_at hn hi hj e
    subst this
    rfl
  cases hg : goneB s y with
  | true =>
    refine .inl ⟨rfl, findP_none.2 (fun z hz e => ?_)⟩
    unfold removeP at hz
    rw [List.mem_filter] at hz
    have := one z hz.1 e
    subst this
    rw [hg] at hz
    exact absurd hz.2 (by simp)
  | false =>
    refine .inr ⟨rfl, ?_⟩
    cases hq : findP (removeP t s) y.path with
    | some k => exact ⟨k, rfl⟩
    | none =>
      rw [findP_none] at hq
      have hm : y ∈ removeP t s := by
        unfold removeP
        rw [List.mem_filter]
        exact ⟨hy, by simp [hg]⟩
      exact absurd rfl (hq y hm)
theorem gone_cases (s : List UInt8) (y : NodeP) : (goneB s y = true ∧ y.path = s) ∨ (goneB s y = true ∧ y.path ≠ s ∧ inB y.path s = true) ∨ (goneB s y = false ∧ y.path ≠ s ∧ inB y.path s = false) := by
  unfold goneB
  by_cases h : y.path = s
  · exact .inl ⟨by simp [h], h⟩
  · cases hi : inB y.path s with
    | true => exact .inr (.inl ⟨by simp, h, rfl⟩)
    | false => exact .inr (.inr ⟨by simp [h], h, rfl⟩)
set_option maxRecDepth 100000 in
set_option maxHeartbeats 8000000 in
theorem TreeGone_walk (w : World) (hsh : w.ShapedOpen Tryd.prog) (v : Value) (l : List RawS) (hl : RawsAt w w.heap.size v l) (hok : ∀ x ∈ l, RawOk x) (hn : l.length ≤ 1048576) (a : Int) (ha : I64 a) :
    Calls Tryd.prog 14 #[v, .int .i64 a] w fun e w' => e = .returned (.bool true) ∧ Below w.heap.size w w' := by
  have hm := ML.of_shaped hsh
  clear hsh
  have HT := Lib.hid (fun (_ : Unit) => Tree_any l v 30 w hm hl hok hn (by omega))
  have hto := treeP_ok l 30 (by omega)
  have HML : Hid (∀ W, Below w.heap.size w W → ML W) := Lib.hid (fun W hb => hm.below hb)
  have HGR : Hid (∀ W, Below w.heap.size w W → Calls Tryd.prog 30 #[] W fun e w' => e = .returned (.bool true) ∧ Below W.heap.size W w') := Lib.hid (fun W hb => Grows_any W (hm.below hb))
  clear hm hl hok hn
  generalize treeP l 30 = t at *
  have HTO := Lib.hid hto
  have hlen := hto.len
  clear hto
  go_enter Tryd.func14, Tryd.ntmps14
  go_wp2_with fail
  refine (HT.out ()).mono ?_
  rintro e' w1 ⟨tv, rfl, htv, b1⟩
  have B1 := Lib.hid b1
  have HTV1 := Lib.hid htv.at_
  clear b1 htv HT
  obtain ⟨_, At, ct, -, hte, hct1, hct2, -⟩ := HTV1.out
  subst hte
  unfold maxLen at hct2
  go_wp2_with fail
  refine (HGR.out _ B1.out).mono ?_
  rintro e' w2 ⟨rfl, b2⟩
  have B2 := Lib.hid (B1.out.trans (b2.mono B1.out.size))
  have HTV := Lib.hid (HTV1.out.below b2)
  clear b2 HTV1
  by_cases h0 : t.length = 0
  · have q1 : ((t.length : Int) == 0) = true := by simp [h0]
    have q2 : (t.length == 0) = true := by simp [h0]
    clear h0
    go_wp2_with fail
    refine (HGR.out _ B2.out).mono ?_
    rintro e' w3 ⟨rfl, b3⟩
    have B3 := Lib.hid (B2.out.trans (b3.mono B2.out.size))
    clear b3
    go_wp2_with fail
    go_ret
    exact ⟨rfl, B3.out⟩
  · have q1 : ((t.length : Int) == 0) = false := by rw [beq_eq_false_iff_ne]; omega
    have q2 : (t.length == 0) = false := by rw [beq_eq_false_iff_ne]; exact h0
    have hpos : 0 < t.length := by omega
    obtain ⟨kk, hkk, bkk⟩ := pick_nat a t.length hpos
    have PKK := Lib.hid (fun w => picked_any a t.length ha (by omega) (by omega) w)
    rw [hkk] at PKK
    clear hkk h0
    have hkz : (kk : Int) < (t.length : Int) := by omega
    have hk0 : (0 : Int) ≤ (kk : Int) := by omega
    obtain ⟨ad, Ax, cx, rfl, hb, -, e0, -⟩ := node_read HTV.out bkk
    have hfs := findP_at (sorted_nodup HTO.out.sorted) bkk
    have hsl := (HTO.out.node t[kk] (List.getElem_mem _)).path.2
    obtain ⟨s, hs⟩ : ∃ s, s = t[kk].path := ⟨_, rfl⟩
    rw [← hs] at e0 hfs hsl
    clear hs
    have HRM := Lib.hid (Remove_any _ t s w2 (HML.out _ B2.out) HTV.out HTO.out.node HTO.out.chk hsl kk hfs)
    have HGF := Lib.hid (fun y (hy : y ∈ t) => gone_find (sorted_nodup HTO.out.sorted) s hy)
    have HIN : Hid (∀ (q : List UInt8) W, Calls Tryd.prog 41 #[.string (bs q), .string (bs s)] W fun e w' => e = .returned (.bool (inB q s)) ∧ W = w') := Lib.hid (fun q W => by
      have h := In_any (bs q) (bs s) (by rw [bs_size]; omega) W
      rw [bs_data, bs_data] at h
      exact h)
    clear hfs
    go_wp2_with fail
    refine (PKK.out _).mono ?_
    rintro e' w' ⟨rfl, rfl⟩
    go_wp2_with fail
    refine HRM.out.mono ?_
    rintro e' w3 ⟨xv, rfl, hxv, b3⟩
    have B3 := Lib.hid (B2.out.trans (b3.mono B2.out.size))
    have HTV3 := Lib.hid (HTV.out.below b3)
    have HXV := Lib.hid hxv.at_
    obtain ⟨_, Ap, cp, -, hpe, hcp1, hcp2, -⟩ := HXV.out
    subst hpe
    clear b3 hxv HRM e0 q1 q2 HGR
    go_wp2_with fail
    go_loopg [41] t.length (fun gg s41 wr => ∃ j : Nat, j ≤ t.length ∧ t.length - j ≤ gg ∧ s41 = .int .i64 j ∧ Hid (Below w3.heap.size w3 wr))
    case atStart => exact ⟨0, Nat.zero_le _, by omega, rfl, Lib.hid (Below.refl _ _)⟩
    case round =>
      obtain ⟨j, hj, hg, rfl, HW⟩ := hrel
      by_cases hlt : j < t.length
      · have hltz : (j : Int) < (t.length : Int) := by omega
        obtain ⟨ad2, Ax, cx, had, hb2, hdx, e0, e1, e2, e3, e4, e5, e6, e7, e8, e9, e10, e11⟩ := node_read (HTV3.out.below HW.out) hlt
        injection had with had
        subst had
        have hmem : t[j] ∈ t := List.getElem_mem _
        obtain ⟨n, hnx⟩ : ∃ n, n = t[j] := ⟨_, rfl⟩
        rw [← hnx] at hdx hmem e0 e1 e2 e3 e4 e5 e6 e7 e8 e9 e10 e11
        clear hnx
        have hgf := HGF.out n hmem
        have hgc := gone_cases s n
        obtain ⟨np, nk, ns, nt, ⟨o1, o2, o3, o4, o5, o6, o7⟩, nd⟩ := n
        simp only at hgf hgc e0 e1 e2 e3 e4 e5 e6 e7 e8 e9 e10 e11
        obtain ⟨W2, hW2⟩ : ∃ W2, W2 = wr.alloc (.cells #[.string (bs np), .int .i64 nk, .int .i64 ns, .string (bs nt), .int .i64 o1, .int .i64 o2, .int .i64 o3, .string (bs o4), .string (bs o5), .int .i64 o6, .int .i64 o7, .slice Ax (nd.length) cx] 46) := ⟨_, rfl⟩
        have b2 : Below wr.heap.size wr W2 := by rw [hW2]; exact (Below.refl _ _).alloc (Nat.le_refl _) _
        have K2 : Blk W2 wr.heap.size 46 (nodeC (⟨np, nk, ns, nt, ⟨o1, o2, o3, o4, o5, o6, o7⟩, nd⟩, .slice Ax nd.length cx)).toArray := by rw [hW2]; exact Blk.new _ _ _
        have HB2 := Lib.hid (HW.out.trans (b2.mono HW.out.size))
        have HK2 := Lib.hid K2
        have HFN := Lib.hid (Find_any _ _ np W2 (HXV.out.below HB2.out))
        clear b2 K2 hdx hmem
        go_upto_region 11 with fail
        rw [← hW2]
        clear hW2 e0 e1 e2 e3 e4 e5 e6 e7 e8 e9 e10 e11
        have c0 : W2.cell? ⟨wr.heap.size, 0, none⟩ = some (.string (bs np)) := HK2.out.cell 0
        rcases hgc with ⟨hg1, hg2⟩ | ⟨hg1, hg2, hg3⟩ | ⟨hg1, hg2, hg3⟩
        · have hfn : findP (removeP t s) np = none := by
            rcases hgf with ⟨_, h⟩ | ⟨h, _⟩
            · exact h
            · rw [h] at hg1; cases hg1
          rw [hfn] at HFN
          unfold findR at HFN
          subst hg2
          clear hgf hg1 hfn
          go_wp2_with fail
          refine HFN.out.mono ?_
          rintro e' w5 ⟨rfl, b5⟩
          have HB5 := Lib.hid (HB2.out.trans (b5.mono HB2.out.size))
          have c0 : w5.cell? ⟨wr.heap.size, 0, none⟩ = some (.string (bs np)) := (HK2.out.below b5 HK2.out.lt).cell 0
          clear b5 HFN
          go_wp2_with fail
          go_roundg (t.length - (j + 1))
          case measure => omega
          case rel => exact ⟨j + 1, by omega, by omega, by go_num, HB5⟩
        · have hfn : findP (removeP t s) np = none := by
            rcases hgf with ⟨_, h⟩ | ⟨h, _⟩
            · exact h
            · rw [h] at hg1; cases hg1
          rw [hfn] at HFN
          unfold findR at HFN
          have r1 : ((bs np).toList != (bs s).toList) = true := by rw [bs_toList, bs_toList]; simp [hg2]
          have r2 : ((bs np).toList == (bs s).toList) = false := by rw [bs_toList, bs_toList]; simp [hg2]
          have HI := Lib.hid (fun W => HIN.out np W)
          rw [hg3] at HI
          clear hgf hg1 hg2 hg3 hfn
          go_wp2_with fail
          refine HFN.out.mono ?_
          rintro e' w5 ⟨rfl, b5⟩
          have HB5 := Lib.hid (HB2.out.trans (b5.mono HB2.out.size))
          have c0 : w5.cell? ⟨wr.heap.size, 0, none⟩ = some (.string (bs np)) := (HK2.out.below b5 HK2.out.lt).cell 0
          clear b5 HFN
          go_wp2_with fail
          refine (HI.out _).mono ?_
          rintro e' w' ⟨rfl, rfl⟩
          go_wp2_with fail
          go_roundg (t.length - (j + 1))
          case measure => omega
          case rel => exact ⟨j + 1, by omega, by omega, by go_num, HB5⟩
        · have hfn : ∃ k, findP (removeP t s) np = some k := by
            rcases hgf with ⟨h, _⟩ | ⟨_, h⟩
            · rw [h] at hg1; cases hg1
            · exact h
          obtain ⟨k2, hfn⟩ := hfn
          rw [hfn] at HFN
          unfold findR at HFN
          have r1 : ((bs np).toList != (bs s).toList) = true := by rw [bs_toList, bs_toList]; simp [hg2]
          have r2 : ((bs np).toList == (bs s).toList) = false := by rw [bs_toList, bs_toList]; simp [hg2]
          have HI := Lib.hid (fun W => HIN.out np W)
          rw [hg3] at HI
          clear hgf hg1 hg2 hg3 hfn
          go_wp2_with fail
          refine HFN.out.mono ?_
          rintro e' w5 ⟨rfl, b5⟩
          have HB5 := Lib.hid (HB2.out.trans (b5.mono HB2.out.size))
          have c0 : w5.cell? ⟨wr.heap.size, 0, none⟩ = some (.string (bs np)) := (HK2.out.below b5 HK2.out.lt).cell 0
          clear b5 HFN
          go_wp2_with fail
          refine (HI.out _).mono ?_
          rintro e' w' ⟨rfl, rfl⟩
          go_wp2_with fail
          go_roundg (t.length - (j + 1))
          case measure => omega
          case rel => exact ⟨j + 1, by omega, by omega, by go_num, HB5⟩
      · obtain rfl : j = t.length := by omega
        go_wp2_with fail
        go_ret
        exact ⟨rfl, B3.out.trans (HW.out.mono B3.out.size)⟩
end Go.Proofs.YtngkfelhlabloaaDoor
