/-
  The law TreeFound: what it computes is true. Condition: raw things of the second form's bound.
-/
import Derived.Test.YtngkfelhlabloaaDoorGrows
import Derived.Test.YtngkfelhlabloaaDoorTree
namespace Go.Proofs.YtngkfelhlabloaaDoor
open Go.RowKit

/-! ### plainly -/
theorem cmpP_zero {a b : List UInt8} (h : cmpP a b = 0) : a = b := parts_inj (cmpL_zero h)
theorem put_find {t : List NodeP} {n : NodeP} (hp : chkT (putP t n) = 0) : ∃ (i : Nat) (hi : i < (putP t n).length), findP (putP t n) n.path = some i ∧ (putP t n)[i] = n := by
  have hn : n ∈ putP t n := by unfold putP; simp
  obtain ⟨i, hi, he⟩ := List.getElem_of_mem hn
  refine ⟨i, hi, ?_, he⟩
  have := findP_at (sorted_nodup (chk_sorted hp)) hi
  rw [he] at this
  exact this
theorem put_mem {t : List NodeP} {n y : NodeP} (hy : y ∈ t) (hne : y.path ≠ n.path) : y ∈ putP t n := by
  obtain ⟨j, hj, rfl⟩ := List.getElem_of_mem hy
  unfold putP
  rw [List.mem_append, List.mem_cons]
  by_cases h1 : j < lowP t n.path
  · left
    rw [List.mem_take_iff_getElem]
    exact ⟨j, by omega, rfl⟩
  · right; right
    rw [List.mem_drop_iff_getElem]
    by_cases h2 : hasAt t n.path = true
    · rw [if_pos h2]
      have h3 : j ≠ lowP t n.path := by
        rintro rfl
        unfold hasAt at h2
        rw [decide_eq_true_eq] at h2
        exact hne (cmpP_zero h2.2)
      exact ⟨j - (lowP t n.path + 1), by omega, by congr 1; omega⟩
    · rw [if_neg h2]
      exact ⟨j - lowP t n.path, by omega, by congr 1; omega⟩
theorem put_keep {t : List NodeP} {n y : NodeP} (hp : chkT (putP t n) = 0) (hy : y ∈ t) : ∃ (i : Nat) (hi : i < (putP t n).length), findP (putP t n) y.path = some i ∧ (y.path ≠ n.path → (putP t n)[i] = y) := by
  by_cases h : y.path = n.path
  · obtain ⟨i, hi, h1, _⟩ := put_find hp
    exact ⟨i, hi, by rw [h]; exact h1, fun a => absurd h a⟩
  · obtain ⟨i, hi, he⟩ := List.getElem_of_mem (put_mem hy h)
    refine ⟨i, hi, ?_, fun _ => he⟩
    have := findP_at (sorted_nodup (chk_sorted hp)) hi
    rw [he] at this
    exact this
theorem sameB_self (x : NodeP) : sameB x x = true := by unfold sameB; simp
/-- a node, read: its cells and its data's slice -/
theorem node_read {w : World} {A : Option Addr} {n c : Nat} {l : List NodeP} (h : NodesAt w (.slice A n c) l) {k : Nat} (hk : k < l.length) :
    ∃ (ad : Addr) (Ax : Option Addr) (cx : Nat), A = some ad ∧ ad.block < w.heap.size ∧ DataAt w 0 (.slice Ax l[k].data.length cx) l[k].data ∧
      w.cell? (ad.add (k * 12)) = some (.string (bs l[k].path)) ∧
      w.cell? ⟨(ad.add (k * 12)).block, (ad.add (k * 12)).off + 1, none⟩ = some (.int .i64 l[k].kind) ∧
      w.cell? ⟨(ad.add (k * 12)).block, (ad.add (k * 12)).off + 2, none⟩ = some (.int .i64 l[k].same) ∧
      w.cell? ⟨(ad.add (k * 12)).block, (ad.add (k * 12)).off + 3, none⟩ = some (.string (bs l[k].target)) ∧
      w.cell? ⟨(ad.add (k * 12)).block, (ad.add (k * 12)).off + 4, none⟩ = some (.int .i64 l[k].mt.mode) ∧
      w.cell? ⟨(ad.add (k * 12)).block, (ad.add (k * 12)).off + 5, none⟩ = some (.int .i64 l[k].mt.uid) ∧
      w.cell? ⟨(ad.add (k * 12)).block, (ad.add (k * 12)).off + 6, none⟩ = some (.int .i64 l[k].mt.gid) ∧
      w.cell? ⟨(ad.add (k * 12)).block, (ad.add (k * 12)).off + 7, none⟩ = some (.string (bs l[k].mt.user)) ∧
      w.cell? ⟨(ad.add (k * 12)).block, (ad.add (k * 12)).off + 8, none⟩ = some (.string (bs l[k].mt.group)) ∧
      w.cell? ⟨(ad.add (k * 12)).block, (ad.add (k * 12)).off + 9, none⟩ = some (.int .i64 l[k].mt.second) ∧
      w.cell? ⟨(ad.add (k * 12)).block, (ad.add (k * 12)).off + 10, none⟩ = some (.int .i64 l[k].mt.nano) ∧
      w.cell? ⟨(ad.add (k * 12)).block, (ad.add (k * 12)).off + 11, none⟩ = some (.slice Ax l[k].data.length cx) := by
  obtain ⟨xs, A', c', h0, h1, h2, h3, h4, h5, h6⟩ := h
  injection h1 with e1 e2 e3
  subst e1 e2 e3
  have hxl : xs.length = l.length := by rw [← h0, List.length_map]
  have hkx : k < xs.length := by omega
  obtain ⟨ad, e, hb, e0, e1, e2, e3, e4, e5, e6, e7, e8, e9, e10, e11⟩ := load_node h5 hkx hk
  have hxk : xs[k].1 = l[k] := by subst h0; simp
  have hd := h6 xs[k] (List.getElem_mem _)
  obtain ⟨Ax, cx, hde, -⟩ := id hd
  rw [hde] at hd e11
  rw [hxk] at hd e0 e1 e2 e3 e4 e5 e6 e7 e8 e9 e10 e11
  exact ⟨ad, Ax, cx, e, hb, hd, e0, e1, e2, e3, e4, e5, e6, e7, e8, e9, e10, e11⟩

set_option maxRecDepth 100000 in
set_option maxHeartbeats 8000000 in
theorem TreeFound_walk (w : World) (hsh : w.ShapedOpen Tryd.prog) (v : Value) (l : List RawS) (hl : RawsAt w w.heap.size v l) (hok : ∀ x ∈ l, RawOk x) (hn : l.length ≤ 1048576) (v2 : Value) (l2 : List RawS) (hl2 : RawsAt w w.heap.size v2 l2) (hok2 : ∀ x ∈ l2, RawOk x) (hn2 : l2.length ≤ 1048576) :
    Calls Tryd.prog 8 #[v, v2] w fun e w' => e = .returned (.bool true) ∧ Below w.heap.size w w' := by
  have hm := ML.of_shaped hsh
  clear hsh
  have HT := Lib.hid (fun (_ : Unit) => Tree_any l v 20 w hm hl hok hn (by omega))
  have HT2 : Hid (∀ W, Below w.heap.size w W → Calls Tryd.prog 20 #[v2, .int .i64 6] W fun e w' => ∃ tv, e = .returned tv ∧ NodesOwn w' W.heap.size tv (treeP l2 6) ∧ Below W.heap.size W w') := Lib.hid (fun W hb => Tree_any l2 v2 6 W (hm.below hb) ((hl2.below hb).more hb.size) hok2 hn2 (by omega))
  have hto := treeP_ok l 20 (by omega)
  have hso := treeP_ok l2 6 (by omega)
  have HML : Hid (∀ W, Below w.heap.size w W → ML W) := Lib.hid (fun W hb => hm.below hb)
  have HGR : Hid (∀ W, Below w.heap.size w W → Calls Tryd.prog 30 #[] W fun e w' => e = .returned (.bool true) ∧ Below W.heap.size W w') := Lib.hid (fun W hb => Grows_any W (hm.below hb))
  clear hm hl hok hn hl2 hok2 hn2
  generalize treeP l 20 = t at *
  generalize treeP l2 6 = s at *
  have HTO := Lib.hid hto
  have HSO := Lib.hid hso
  have hlen := hto.len
  have hlens := hso.len
  have HPT : Hid (∀ W tv x, Below w.heap.size w W → NodesAt W tv t → x.1 ∈ s → DataAt W 0 x.2 x.1.data → Calls Tryd.prog 31 #[tv, .agg (nodeC x).toArray] W (PutPost W.heap.size (putP t x.1) (chkT (putP t x.1)) W)) := Lib.hid (fun W tv x hb h hx hd => Put_any tv t x W (HML.out W hb) h HTO.out.node (HSO.out.node _ hx) hd HTO.out.chk _ rfl)
  clear hto hso
  go_enter Tryd.func8, Tryd.ntmps8
  go_wp2_with fail
  refine (HT.out ()).mono ?_
  rintro e' w1 ⟨tv, rfl, htv, b1⟩
  have B1 := Lib.hid b1
  have HTV1 := Lib.hid htv.at_
  clear b1 htv HT
  go_wp2_with fail
  refine (HGR.out _ B1.out).mono ?_
  rintro e' w2 ⟨rfl, b2⟩
  have B2 := Lib.hid (B1.out.trans (b2.mono B1.out.size))
  have HTV2 := Lib.hid (HTV1.out.below b2)
  clear b2 HTV1
  go_wp2_with fail
  refine (HT2.out _ B2.out).mono ?_
  rintro e' w3 ⟨mv, rfl, hmv, b3⟩
  have B3 := Lib.hid (B2.out.trans (b3.mono B2.out.size))
  have HTV := Lib.hid (HTV2.out.below b3)
  have HMV := Lib.hid hmv.at_
  obtain ⟨_, At, ct, -, hte, hct1, hct2, -⟩ := HTV.out
  obtain ⟨_, Am, cm, -, hme, hcm1, hcm2, -⟩ := HMV.out
  subst hte hme
  unfold maxLen at hct2 hcm2
  clear b3 hmv HTV2 HT2 HGR
  go_wp2_with fail
  go_loopg [23] s.length (fun gg s23 wr => ∃ k : Nat, k ≤ s.length ∧ s.length - k ≤ gg ∧ s23 = .int .i64 k ∧ Hid (Below w3.heap.size w3 wr))
  case atStart => exact ⟨0, Nat.zero_le _, by omega, rfl, Lib.hid (Below.refl _ _)⟩
  case round =>
    obtain ⟨k, hk, hg, rfl, HW⟩ := hrel
    by_cases hlt : k < s.length
    · have hltz : (k : Int) < (s.length : Int) := by omega
      obtain ⟨ad, Ax, cx, rfl, hb, hdx, e0, e1, e2, e3, e4, e5, e6, e7, e8, e9, e10, e11⟩ := node_read (HMV.out.below HW.out) hlt
      have hmem : s[k] ∈ s := List.getElem_mem _
      obtain ⟨n, hnx⟩ : ∃ n, n = s[k] := ⟨_, rfl⟩
      rw [← hnx] at hdx hmem e0 e1 e2 e3 e4 e5 e6 e7 e8 e9 e10 e11
      clear hnx
      obtain ⟨np, nk, ns, nt, ⟨o1, o2, o3, o4, o5, o6, o7⟩, nd⟩ := n
      simp only at hdx e0 e1 e2 e3 e4 e5 e6 e7 e8 e9 e10 e11
      obtain ⟨W2, hW2⟩ : ∃ W2, W2 = wr.alloc (.cells #[.string (bs np), .int .i64 nk, .int .i64 ns, .string (bs nt), .int .i64 o1, .int .i64 o2, .int .i64 o3, .string (bs o4), .string (bs o5), .int .i64 o6, .int .i64 o7, .slice Ax nd.length cx] 46) := ⟨_, rfl⟩
      have b2 : Below wr.heap.size wr W2 := by rw [hW2]; exact (Below.refl _ _).alloc (Nat.le_refl _) _
      have K2 : Blk W2 wr.heap.size 46 (nodeC (⟨np, nk, ns, nt, ⟨o1, o2, o3, o4, o5, o6, o7⟩, nd⟩, .slice Ax nd.length cx)).toArray := by rw [hW2]; exact Blk.new _ _ _
      have HW2 := Lib.hid (HW.out.trans (b2.mono HW.out.size))
      have HK2 := Lib.hid K2
      have HD2 := Lib.hid (hdx.below b2)
      have HPN := Lib.hid (HPT.out W2 _ (⟨np, nk, ns, nt, ⟨o1, o2, o3, o4, o5, o6, o7⟩, nd⟩, .slice Ax nd.length cx) (B3.out.trans (HW2.out.mono B3.out.size)) (HTV.out.below HW2.out) hmem (hdx.below b2))
      unfold nodeC at HPN
      simp only at HPN
      clear b2 K2 hdx hmem
      go_upto_region 7 with fail
      rw [← hW2]
      clear hW2 e0 e1 e2 e3 e4 e5 e6 e7 e8 e9 e10 e11
      obtain ⟨c0, c1, c2, c3, c4, c5, c6, c7, c8, c9, c10, c11⟩ := HK2.out.node
      go_wp2_with fail
      refine HPN.out.mono ?_
      rintro e' w4 hput
      clear c0 c1 c2 c3 c4 c5 c6 c7 c8 c9 c10 c11
      rcases hput with ⟨hcc, xv, rfl, hxv, b4⟩ | ⟨hcc, rfl, b4⟩
      · -- it was put
        have HB4 := Lib.hid (HW2.out.trans (b4.mono HW2.out.size))
        have HK4 := Lib.hid (HK2.out.below b4 HK2.out.lt)
        have HD4 := Lib.hid (HD2.out.below b4)
        have HXV := Lib.hid hxv.at_
        obtain ⟨i, hi, hfi, hxi⟩ := put_find hcc
        have HKEEP := Lib.hid (fun y (hy : y ∈ t) => put_keep (y := y) hcc hy)
        clear b4 hxv hcc HPN
        generalize putP t ⟨np, nk, ns, nt, ⟨o1, o2, o3, o4, o5, o6, o7⟩, nd⟩ = P at *
        obtain ⟨_, Ap, cp, -, hpe, hcp1, hcp2, -⟩ := HXV.out
        subst hpe
        unfold maxLen at hcp2
        have HFN := Lib.hid (Find_any _ _ np w4 HXV.out)
        rw [hfi] at HFN
        unfold findR at HFN
        have HXI := Lib.hid hxi
        clear hfi hxi
        have c0 : w4.cell? ⟨wr.heap.size, 0, none⟩ = some (.string (bs np)) := HK4.out.cell 0
        go_wp2_with fail
        refine HFN.out.mono ?_
        rintro e' w5 ⟨rfl, b5⟩
        have HB5 := Lib.hid (HB4.out.trans (b5.mono HB4.out.size))
        have HK5 := Lib.hid (HK4.out.below b5 HK4.out.lt)
        have HX5 := Lib.hid (HXV.out.below b5)
        have HD5 := Lib.hid (HD4.out.below b5)
        clear c0 b5 HFN
        -- the first look
        obtain ⟨pd, Ay, cy, rfl, hpb, hdy, f0, f1, f2, f3, f4, f5, f6, f7, f8, f9, f10, f11⟩ := node_read HX5.out hi
        rw [HXI.out] at hdy f0 f1 f2 f3 f4 f5 f6 f7 f8 f9 f10 f11
        simp only at hdy f0 f1 f2 f3 f4 f5 f6 f7 f8 f9 f10 f11
        obtain ⟨c0, c1, c2, c3, c4, c5, c6, c7, c8, c9, c10, c11⟩ := HK5.out.node
        have HSN := Lib.hid (fun d os => Calls.regrown_of (w := w5) (d := d) (os := os) (SameNode_any (⟨np, nk, ns, nt, ⟨o1, o2, o3, o4, o5, o6, o7⟩, nd⟩, .slice Ay nd.length cy) (⟨np, nk, ns, nt, ⟨o1, o2, o3, o4, o5, o6, o7⟩, nd⟩, .slice Ax nd.length cx) _ (hdy.below (below_regrown w5 d os)) (HD5.out.below (below_regrown w5 d os))))
        rw [sameB_self] at HSN
        unfold nodeC at HSN
        simp only at HSN
        have i1 : (0 : Int) ≤ (i : Int) := by omega
        have i2 : (i : Int) < (P.length : Int) := by omega
        have f0 := fun d os => cell_regrown f0 d os
        have c0 := fun d os => cell_regrown c0 d os
        have f1 := fun d os => cell_regrown f1 d os
        have c1 := fun d os => cell_regrown c1 d os
        have f2 := fun d os => cell_regrown f2 d os
        have c2 := fun d os => cell_regrown c2 d os
        have f3 := fun d os => cell_regrown f3 d os
        have c3 := fun d os => cell_regrown c3 d os
        have f4 := fun d os => cell_regrown f4 d os
        have c4 := fun d os => cell_regrown c4 d os
        have f5 := fun d os => cell_regrown f5 d os
        have c5 := fun d os => cell_regrown c5 d os
        have f6 := fun d os => cell_regrown f6 d os
        have c6 := fun d os => cell_regrown c6 d os
        have f7 := fun d os => cell_regrown f7 d os
        have c7 := fun d os => cell_regrown c7 d os
        have f8 := fun d os => cell_regrown f8 d os
        have c8 := fun d os => cell_regrown c8 d os
        have f9 := fun d os => cell_regrown f9 d os
        have c9 := fun d os => cell_regrown c9 d os
        have f10 := fun d os => cell_regrown f10 d os
        have c10 := fun d os => cell_regrown c10 d os
        have f11 := fun d os => cell_regrown f11 d os
        have c11 := fun d os => cell_regrown c11 d os
        clear hdy hpb
        go_upto_region 10 with fail
        refine wp_region_quiet_below mixed_ok (by kernel_rfl) ?_
        repeat (go_big_quiet_step (exact HSN.out _ _))
        refine wpQuiet_nil ?_
        intro _ hw'
        obtain ⟨⟨dq, osq⟩, hw''⟩ := hw'
        subst hw''
        have HB6 := Lib.hid (HB5.out.trans ((below_regrown w5 dq osq).mono HB5.out.size))
        have HK6 := Lib.hid (HK5.out.below (below_regrown w5 dq osq) HK5.out.lt)
        have HX6 := Lib.hid (HX5.out.below (below_regrown w5 dq osq))
        clear f0 f1 f2 f3 f4 f5 f6 f7 f8 f9 f10 f11 c0 c1 c2 c3 c4 c5 c6 c7 c8 c9 c10 c11 HSN i1 i2
        generalize Sort.grow (redrawn w5 dq) osq = w6 at *
        obtain ⟨g7, hg7⟩ : ∃ g7, g7 = wr.heap.size := ⟨_, rfl⟩
        rw [← hg7] at HK6 ⊢
        clear hg7
        go_wp2_with fail
        go_loopg [55] t.length (fun gg s55 wr' => ∃ j : Nat, j ≤ t.length ∧ t.length - j ≤ gg ∧ s55 = .int .i64 j ∧ Hid (Below w6.heap.size w6 wr'))
        case atStart => exact ⟨0, Nat.zero_le _, by omega, rfl, Lib.hid (Below.refl _ _)⟩
        case round =>
          obtain ⟨j, hj, hgj, rfl, HV⟩ := hrel
          by_cases hlj : j < t.length
          · have hljz : (j : Int) < (t.length : Int) := by omega
            obtain ⟨td, Ay, cy, rfl, htb, hdy, e0, e1, e2, e3, e4, e5, e6, e7, e8, e9, e10, e11⟩ := node_read (HTV.out.below (HB6.out.trans (HV.out.mono HB6.out.size))) hlj
            have hmem : t[j] ∈ t := List.getElem_mem _
            obtain ⟨y, hyx⟩ : ∃ y, y = t[j] := ⟨_, rfl⟩
            rw [← hyx] at hdy hmem e0 e1 e2 e3 e4 e5 e6 e7 e8 e9 e10 e11
            clear hyx
            obtain ⟨i2, hi2, hf2, hx2⟩ := HKEEP.out y hmem
            obtain ⟨mp, mk, ms, mt, ⟨p1, p2, p3, p4, p5, p6, p7⟩, md⟩ := y
            simp only at hdy hf2 hx2 e0 e1 e2 e3 e4 e5 e6 e7 e8 e9 e10 e11
            obtain ⟨W7, hW7⟩ : ∃ W7, W7 = wr.alloc (.cells #[.string (bs mp), .int .i64 mk, .int .i64 ms, .string (bs mt), .int .i64 p1, .int .i64 p2, .int .i64 p3, .string (bs p4), .string (bs p5), .int .i64 p6, .int .i64 p7, .slice Ay md.length cy] 46) := ⟨_, rfl⟩
            have b7 : Below wr.heap.size wr W7 := by rw [hW7]; exact (Below.refl _ _).alloc (Nat.le_refl _) _
            have K7 : Blk W7 wr.heap.size 46 (nodeC (⟨mp, mk, ms, mt, ⟨p1, p2, p3, p4, p5, p6, p7⟩, md⟩, .slice Ay md.length cy)).toArray := by rw [hW7]; exact Blk.new _ _ _
            have HB7 := Lib.hid (HV.out.trans (b7.mono HV.out.size))
            have HK7 := Lib.hid K7
            have HX7 := Lib.hid (HX6.out.below HB7.out)
            have HN7 := Lib.hid (HK6.out.below HB7.out HK6.out.lt)
            have HDY7 := Lib.hid (hdy.below b7)
            have HF7 := Lib.hid (Find_any _ _ mp W7 HX7.out)
            rw [hf2] at HF7
            unfold findR at HF7
            have HX2 := Lib.hid hx2
            clear b7 K7 hdy hmem hf2 hx2
            go_upto_region 15 with fail
            rw [← hW7]
            clear hW7 e0 e1 e2 e3 e4 e5 e6 e7 e8 e9 e10 e11
            have c0 : W7.cell? ⟨wr.heap.size, 0, none⟩ = some (.string (bs mp)) := HK7.out.cell 0
            go_wp2_with fail
            refine HF7.out.mono ?_
            rintro e' w8 ⟨rfl, b8⟩
            have HB8 := Lib.hid (HB7.out.trans (b8.mono HB7.out.size))
            have HK8 := Lib.hid (HK7.out.below b8 HK7.out.lt)
            have HN8 := Lib.hid (HN7.out.below b8 HN7.out.lt)
            have HX8 := Lib.hid (HX7.out.below b8)
            have HDY8 := Lib.hid (HDY7.out.below b8)
            clear b8 c0 HF7
            have d0 : w8.cell? ⟨g7, 0, none⟩ = some (.string (bs np)) := HN8.out.cell 0
            have d0 := fun d os => cell_regrown d0 d os
            obtain ⟨c0, c1, c2, c3, c4, c5, c6, c7, c8, c9, c10, c11⟩ := HK8.out.node
            have c0 := fun d os => cell_regrown c0 d os
            have c1 := fun d os => cell_regrown c1 d os
            have c2 := fun d os => cell_regrown c2 d os
            have c3 := fun d os => cell_regrown c3 d os
            have c4 := fun d os => cell_regrown c4 d os
            have c5 := fun d os => cell_regrown c5 d os
            have c6 := fun d os => cell_regrown c6 d os
            have c7 := fun d os => cell_regrown c7 d os
            have c8 := fun d os => cell_regrown c8 d os
            have c9 := fun d os => cell_regrown c9 d os
            have c10 := fun d os => cell_regrown c10 d os
            have c11 := fun d os => cell_regrown c11 d os
            by_cases hpe : mp = np
            · subst hpe
              go_upto_region 16 with fail
              refine wp_region_quiet_below mixed_ok (by kernel_rfl) ?_
              repeat (go_big_quiet_step (fail))
              refine wpQuiet_nil ?_
              intro _ hw'
              obtain ⟨⟨dq, osq⟩, hw''⟩ := hw'
              subst hw''
              have HB9 := Lib.hid (HB8.out.trans ((below_regrown w8 dq osq).mono HB8.out.size))
              clear d0 c0 c1 c2 c3 c4 c5 c6 c7 c8 c9 c10 c11
              generalize Sort.grow (redrawn w8 dq) osq = w9 at *
              go_wp2_with fail
              go_roundg (t.length - (j + 1))
              case measure => omega
              case rel => exact ⟨j + 1, by omega, by omega, by go_num, HB9⟩
            · have hxe := HX2.out hpe
              have q1 : ((bs mp).toList != (bs np).toList) = true := by rw [bs_toList, bs_toList]; simp [hpe]
              have q2 : ((bs mp).toList == (bs np).toList) = false := by rw [bs_toList, bs_toList]; simp [hpe]
              obtain ⟨pd2, Az, cz, hpd, hpb, hdz, f0, f1, f2, f3, f4, f5, f6, f7, f8, f9, f10, f11⟩ := node_read HX8.out hi2
              injection hpd with hpd
              subst hpd
              rw [hxe] at hdz f0 f1 f2 f3 f4 f5 f6 f7 f8 f9 f10 f11
              simp only at hdz f0 f1 f2 f3 f4 f5 f6 f7 f8 f9 f10 f11
              have HSN := Lib.hid (fun d os => Calls.regrown_of (w := w8) (d := d) (os := os) (SameNode_any (⟨mp, mk, ms, mt, ⟨p1, p2, p3, p4, p5, p6, p7⟩, md⟩, .slice Az md.length cz) (⟨mp, mk, ms, mt, ⟨p1, p2, p3, p4, p5, p6, p7⟩, md⟩, .slice Ay md.length cy) _ (hdz.below (below_regrown w8 d os)) (HDY8.out.below (below_regrown w8 d os))))
              rw [sameB_self] at HSN
              unfold nodeC at HSN
              simp only at HSN
              have i1 : (0 : Int) ≤ (i2 : Int) := by omega
              have i3 : (i2 : Int) < (P.length : Int) := by omega
              have f0 := fun d os => cell_regrown f0 d os
              have f1 := fun d os => cell_regrown f1 d os
              have f2 := fun d os => cell_regrown f2 d os
              have f3 := fun d os => cell_regrown f3 d os
              have f4 := fun d os => cell_regrown f4 d os
              have f5 := fun d os => cell_regrown f5 d os
              have f6 := fun d os => cell_regrown f6 d os
              have f7 := fun d os => cell_regrown f7 d os
              have f8 := fun d os => cell_regrown f8 d os
              have f9 := fun d os => cell_regrown f9 d os
              have f10 := fun d os => cell_regrown f10 d os
              have f11 := fun d os => cell_regrown f11 d os
              clear hdz hpb hxe hpe
              go_upto_region 16 with fail
              refine wp_region_quiet_below mixed_ok (by kernel_rfl) ?_
              repeat (go_big_quiet_step (exact HSN.out _ _))
              refine wpQuiet_nil ?_
              intro _ hw'
              obtain ⟨⟨dq, osq⟩, hw''⟩ := hw'
              subst hw''
              have HB9 := Lib.hid (HB8.out.trans ((below_regrown w8 dq osq).mono HB8.out.size))
              clear d0 c0 c1 c2 c3 c4 c5 c6 c7 c8 c9 c10 c11 f0 f1 f2 f3 f4 f5 f6 f7 f8 f9 f10 f11 HSN i1 i3 q1 q2
              generalize Sort.grow (redrawn w8 dq) osq = w9 at *
              go_wp2_with fail
              go_roundg (t.length - (j + 1))
              case measure => omega
              case rel => exact ⟨j + 1, by omega, by omega, by go_num, HB9⟩
          · obtain rfl : j = t.length := by omega
            go_wp2_with fail
            go_roundg (s.length - (k + 1))
            case measure => omega
            case rel => exact ⟨k + 1, by omega, by omega, by go_num, Lib.hid (HB6.out.trans (HV.out.mono HB6.out.size))⟩
      · have q1 : (chkT (putP t ⟨np, nk, ns, nt, ⟨o1, o2, o3, o4, o5, o6, o7⟩, nd⟩) == 0) = false := by simp [hcc]
        have HB4 := Lib.hid (HW2.out.trans (b4.mono HW2.out.size))
        clear b4 hcc HPN
        generalize chkT (putP t ⟨np, nk, ns, nt, ⟨o1, o2, o3, o4, o5, o6, o7⟩, nd⟩) = cc at *
        go_wp2_with fail
        go_roundg (s.length - (k + 1))
        case measure => omega
        case rel => exact ⟨k + 1, by omega, by omega, by go_num, HB4⟩
    · obtain rfl : k = s.length := by omega
      go_wp2_with fail
      go_ret
      exact ⟨rfl, B3.out.trans (HW.out.mono B3.out.size)⟩
end Go.Proofs.YtngkfelhlabloaaDoor
