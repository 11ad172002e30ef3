/-
  The law TreeGood: what it computes is true. Condition: raw things of the second form's bound.
-/
import Derived.Test.YtngkfelhlabloaaDoorTreeFound
import Derived.Test.YtngkfelhlabloaaDoorRemove
namespace Go.Proofs.YtngkfelhlabloaaDoor
open Go.RowKit

/-- a tree that may be, as it lies in memory -/
def GoodAt (W : World) (v : Value) : Prop := ∃ t : List NodeP, TreeOk t ∧ NodesAt W v t
theorem GoodAt.below {W W' : World} {v : Value} (h : GoodAt W v) (hb : Below W.heap.size W W') : GoodAt W' v := by
  obtain ⟨t, h1, h2⟩ := h
  exact ⟨t, h1, h2.below hb⟩
set_option maxRecDepth 100000 in
set_option maxHeartbeats 8000000 in
theorem TreeGood_walk (w : World) (hsh : w.ShapedOpen Tryd.prog) (v : Value) (l : List RawS) (hl : RawsAt w w.heap.size v l) (hok : ∀ x ∈ l, RawOk x) (hn : l.length ≤ 1048576) (v2 : Value) (l2 : List RawS) (hl2 : RawsAt w w.heap.size v2 l2) (hok2 : ∀ x ∈ l2, RawOk x) (hn2 : l2.length ≤ 1048576) (a : Int) (ha : I64 a) :
    Calls Tryd.prog 12 #[v, v2, .int .i64 a] w fun e w' => e = .returned (.bool true) ∧ Below w.heap.size w w' := by
  have hm := ML.of_shaped hsh
  clear hsh
  have HT := Lib.hid (fun (_ : Unit) => Tree_any l v 20 w hm hl hok hn (by omega))
  have HT2 : Hid (∀ W, Below w.heap.size w W → Calls Tryd.prog 20 #[v2, .int .i64 6] W fun e w' => ∃ tv, e = .returned tv ∧ NodesOwn w' W.heap.size tv (treeP l2 6) ∧ Below W.heap.size W w') := Lib.hid (fun W hb => Tree_any l2 v2 6 W (hm.below hb) ((hl2.below hb).more hb.size) hok2 hn2 (by omega))
  have hto := treeP_ok l 20 (by omega)
  have hso := treeP_ok l2 6 (by omega)
  have HML : Hid (∀ W, Below w.heap.size w W → ML W) := Lib.hid (fun W hb => hm.below hb)
  have HGR : Hid (∀ W, Below w.heap.size w W → Calls Tryd.prog 30 #[] W fun e w' => e = .returned (.bool true) ∧ Below W.heap.size W w') := Lib.hid (fun W hb => Grows_any W (hm.below hb))
  clear hm hl hok hn hl2 hok2 hn2
  generalize treeP l 20 = t at *
  generalize treeP l2 6 = s at *
  have HTO := Lib.hid hto
  have HSO := Lib.hid hso
  have hlens := hso.len
  have HCK : Hid (∀ t W tv, TreeOk t → Below w.heap.size w W → NodesAt W tv t → Calls Tryd.prog 39 #[tv] W fun e w' => e = .returned (.int .i64 0) ∧ Below W.heap.size W w') := Lib.hid (fun t W tv ht hb h => by
    have := TCheck_any tv t W (HML.out W hb) h ht.node
    rw [ht.chk] at this
    exact this)
  have HPT : Hid (∀ W tv x, Below w.heap.size w W → GoodAt W tv → x.1 ∈ s → DataAt W 0 x.2 x.1.data → Calls Tryd.prog 31 #[tv, .agg (nodeC x).toArray] W fun e w' => (∃ xv, e = .returned (.tuple #[xv, .int .i64 0]) ∧ GoodAt w' xv ∧ Below W.heap.size W w') ∨ (∃ c, c ≠ 0 ∧ e = .returned (.tuple #[.slice none 0 0, .int .i64 c]) ∧ Below W.heap.size W w')) := Lib.hid (fun W tv x hb h hx hd => by
    obtain ⟨t, ht, h⟩ := h
    have hno := HSO.out.node _ hx
    refine (Put_any tv t x W (HML.out W hb) h ht.node hno hd ht.chk _ rfl).mono ?_
    rintro e w' (⟨h1, xv, h2, h3, h4⟩ | ⟨h1, h2, h3⟩)
    · refine .inl ⟨xv, h2, ⟨_, TreeOk.of_chk h1 (fun y hy => ?_), h3.at_⟩, h4⟩
      rcases putP_mem hy with rfl | h5
      · exact hno
      · exact ht.node y h5
    · exact .inr ⟨_, h1, h2, h3⟩)
  clear hto hso
  go_enter Tryd.func12, Tryd.ntmps12
  go_wp2_with fail
  refine (HT.out ()).mono ?_
  rintro e' w1 ⟨tv, rfl, htv, b1⟩
  have B1 := Lib.hid b1
  have HTV1 := Lib.hid htv.at_
  clear b1 htv HT
  go_wp2_with fail
  refine (HGR.out _ B1.out).mono ?_
  rintro e' w2 ⟨rfl, b2⟩
  have B2 := Lib.hid (B1.out.trans (b2.mono B1.out.size))
  have HTV2 := Lib.hid (HTV1.out.below b2)
  clear b2 HTV1
  go_wp2_with fail
  refine (HCK.out t _ _ HTO.out B2.out HTV2.out).mono ?_
  rintro e' w2' ⟨rfl, b2'⟩
  have B2' := Lib.hid (B2.out.trans (b2'.mono B2.out.size))
  have HTV2' := Lib.hid (HTV2.out.below b2')
  clear b2' HTV2
  go_wp2_with fail
  refine (HT2.out _ B2'.out).mono ?_
  rintro e' w3 ⟨mv, rfl, hmv, b3⟩
  have B3 := Lib.hid (B2'.out.trans (b3.mono B2'.out.size))
  have HTV : Hid (GoodAt w3 tv) := Lib.hid ⟨t, HTO.out, HTV2'.out.below b3⟩
  have HMV := Lib.hid hmv.at_
  obtain ⟨_, Am, cm, -, hme, hcm1, hcm2, -⟩ := HMV.out
  subst hme
  unfold maxLen at hcm2
  clear b3 hmv HTV2' HT2 HGR HTO
  go_wp2_with fail
  go_loopg [7, 26] s.length (fun gg s7 s26 wr => ∃ k : Nat, k ≤ s.length ∧ s.length - k ≤ gg ∧ s26 = .int .i64 k ∧ Hid (Below w3.heap.size w3 wr) ∧ Hid (GoodAt wr s7))
  case atStart => exact ⟨0, Nat.zero_le _, by omega, rfl, Lib.hid (Below.refl _ _), HTV⟩
  case round =>
    obtain ⟨k, hk, hg, rfl, HW, HG⟩ := hrel
    by_cases hlt : k < s.length
    · have hltz : (k : Int) < (s.length : Int) := by omega
      obtain ⟨ad, Ax, cx, rfl, hb, hdx, e0, e1, e2, e3, e4, e5, e6, e7, e8, e9, e10, e11⟩ := node_read (HMV.out.below HW.out) hlt
      have hmem : s[k] ∈ s := List.getElem_mem _
      obtain ⟨n, hnx⟩ : ∃ n, n = s[k] := ⟨_, rfl⟩
      rw [← hnx] at hdx hmem e0 e1 e2 e3 e4 e5 e6 e7 e8 e9 e10 e11
      clear hnx
      obtain ⟨np, nk, ns, nt, ⟨o1, o2, o3, o4, o5, o6, o7⟩, nd⟩ := n
      simp only at hdx e0 e1 e2 e3 e4 e5 e6 e7 e8 e9 e10 e11
      obtain ⟨W2, hW2⟩ : ∃ W2, W2 = wr.alloc (.cells #[.string (bs np), .int .i64 nk, .int .i64 ns, .string (bs nt), .int .i64 o1, .int .i64 o2, .int .i64 o3, .string (bs o4), .string (bs o5), .int .i64 o6, .int .i64 o7, .slice Ax nd.length cx] 46) := ⟨_, rfl⟩
      have b2 : Below wr.heap.size wr W2 := by rw [hW2]; exact (Below.refl _ _).alloc (Nat.le_refl _) _
      have K2 : Blk W2 wr.heap.size 46 (nodeC (⟨np, nk, ns, nt, ⟨o1, o2, o3, o4, o5, o6, o7⟩, nd⟩, .slice Ax nd.length cx)).toArray := by rw [hW2]; exact Blk.new _ _ _
      have HW2 := Lib.hid (HW.out.trans (b2.mono HW.out.size))
      have HK2 := Lib.hid K2
      have HG2 := Lib.hid (HG.out.below b2)
      have HPN := Lib.hid (HPT.out W2 u7 (⟨np, nk, ns, nt, ⟨o1, o2, o3, o4, o5, o6, o7⟩, nd⟩, .slice Ax nd.length cx) (B3.out.trans (HW2.out.mono B3.out.size)) HG2.out hmem (hdx.below b2))
      unfold nodeC at HPN
      simp only at HPN
      clear b2 K2 hdx hmem
      go_upto_region 7 with fail
      rw [← hW2]
      clear hW2 e0 e1 e2 e3 e4 e5 e6 e7 e8 e9 e10 e11
      obtain ⟨c0, c1, c2, c3, c4, c5, c6, c7, c8, c9, c10, c11⟩ := HK2.out.node
      go_wp2_with fail
      refine HPN.out.mono ?_
      rintro e' w4 hput
      clear c0 c1 c2 c3 c4 c5 c6 c7 c8 c9 c10 c11 HPN
      rcases hput with ⟨xv, rfl, hxv, b4⟩ | ⟨cc, hcc, rfl, b4⟩
      · have HB4 := Lib.hid (HW2.out.trans (b4.mono HW2.out.size))
        have HX4 := Lib.hid hxv
        obtain ⟨t2, ht2, hx2⟩ := hxv
        have HCC := Lib.hid (HCK.out t2 w4 xv ht2 (B3.out.trans (HB4.out.mono B3.out.size)) hx2)
        clear b4 ht2 hx2
        go_wp2_with fail
        refine HCC.out.mono ?_
        rintro e' w5 ⟨rfl, b5⟩
        have HB5 := Lib.hid (HB4.out.trans (b5.mono HB4.out.size))
        have HX5 := Lib.hid (HX4.out.below b5)
        clear b5
        go_wp2_with fail
        go_roundg (s.length - (k + 1))
        case measure => omega
        case rel => exact ⟨k + 1, by omega, by omega, by go_num, HB5, HX5⟩
      · have HB4 := Lib.hid (HW2.out.trans (b4.mono HW2.out.size))
        have HX4 := Lib.hid (HG2.out.below b4)
        obtain ⟨t2, ht2, hx2⟩ := HX4.out
        have HCC := Lib.hid (HCK.out t2 w4 u7 ht2 (B3.out.trans (HB4.out.mono B3.out.size)) hx2)
        have q1 : (cc == 0) = false := by simp [hcc]
        have q2 : (cc != 0) = true := by simp [hcc]
        clear b4 ht2 hx2 hcc
        go_wp2_with fail
        refine HCC.out.mono ?_
        rintro e' w5 ⟨rfl, b5⟩
        have HB5 := Lib.hid (HB4.out.trans (b5.mono HB4.out.size))
        have HX5 := Lib.hid (HX4.out.below b5)
        clear b5
        go_wp2_with fail
        go_roundg (s.length - (k + 1))
        case measure => omega
        case rel => exact ⟨k + 1, by omega, by omega, by go_num, HB5, HX5⟩
    · obtain rfl : k = s.length := by omega
      obtain ⟨t2, ht2, hx2⟩ := HG.out
      obtain ⟨_, At, ct, -, hte, hct1, hct2, -⟩ := id hx2
      subst hte
      unfold maxLen at hct2
      have HT2 := Lib.hid ht2
      have HX2 := Lib.hid hx2
      have hl40 := ht2.len
      have BW := Lib.hid (B3.out.trans (HW.out.mono B3.out.size))
      clear ht2 hx2 HG
      by_cases h0 : t2.length = 0
      · have q1 : ((t2.length : Int) == 0) = true := by rw [beq_iff_eq]; omega
        have q2 : (t2.length == 0) = true := by rw [beq_iff_eq]; exact h0
        clear h0
        go_wp2_with fail
        go_ret
        exact ⟨rfl, BW.out⟩
      · have q1 : ((t2.length : Int) == 0) = false := by rw [beq_eq_false_iff_ne]; omega
        have q2 : (t2.length == 0) = false := by rw [beq_eq_false_iff_ne]; exact h0
        have hpos : 0 < t2.length := by omega
        obtain ⟨kk, hkk, bkk⟩ := pick_nat a t2.length hpos
        have PKK := Lib.hid (fun w => picked_any a t2.length ha (by omega) (by omega) w)
        rw [hkk] at PKK
        clear hkk h0
        have hkz : (kk : Int) < (t2.length : Int) := by omega
        have hk0 : (0 : Int) ≤ (kk : Int) := by omega
        obtain ⟨ad, Ax, cx, rfl, hb, -, e0, -⟩ := node_read HX2.out bkk
        have hfs := findP_at (sorted_nodup HT2.out.sorted) bkk
        have hnk := HT2.out.node t2[kk] (List.getElem_mem _)
        have hless := remove_less (List.getElem_mem bkk)
        have hrok := remove_ok HT2.out (path_ne hnk)
        have hsl := hnk.path.2
        obtain ⟨p, hp⟩ : ∃ p, p = t2[kk].path := ⟨_, rfl⟩
        rw [← hp] at e0 hfs hsl hless hrok
        clear hp hnk
        have HRM := Lib.hid (Remove_any _ t2 p wr (HML.out _ BW.out) HX2.out HT2.out.node HT2.out.chk hsl kk hfs)
        have HRK := Lib.hid hrok
        clear hfs hrok
        go_wp2_with fail
        refine (PKK.out _).mono ?_
        rintro e' w' ⟨rfl, rfl⟩
        go_wp2_with fail
        refine HRM.out.mono ?_
        rintro e' w5 ⟨xv, rfl, hxv, b5⟩
        have HB5 := Lib.hid (BW.out.trans (b5.mono BW.out.size))
        have HCC := Lib.hid (HCK.out _ w5 xv HRK.out HB5.out hxv.at_)
        obtain ⟨_, Ap, cp, -, rfl, -⟩ := hxv.at_
        clear b5 hxv HRM e0 q1 q2
        have hlessz : ((removeP t2 p).length : Int) < (t2.length : Int) := by omega
        generalize (removeP t2 p).length = m at *
        go_wp2_with fail
        refine HCC.out.mono ?_
        rintro e' w6 ⟨rfl, b6⟩
        have HB6 := Lib.hid (HB5.out.trans (b6.mono HB5.out.size))
        clear b6
        go_wp2_with fail
        go_ret
        exact ⟨rfl, HB6.out⟩
end Go.Proofs.YtngkfelhlabloaaDoor
