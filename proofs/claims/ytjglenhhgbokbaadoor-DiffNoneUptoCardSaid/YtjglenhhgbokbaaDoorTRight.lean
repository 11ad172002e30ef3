/-
  tree.Right over nodes that may be. No condition beyond the world's shape.
-/
import Derived.Test.YtjglenhhgbokbaaDoorTreeV
namespace Go.Proofs.YtjglenhhgbokbaaDoor
open Go.RowKit

set_option maxRecDepth 100000 in
set_option maxHeartbeats 2000000 in
theorem TRight_ok (x : NodeP) (h : NodeOk x) (A : Option Addr) (c : Nat) (w : World) (hm : ML w) :
    Calls Tryd.prog 78 #[.agg (nodeC (x, .slice A x.data.length c)).toArray] w fun e w' => e = .returned (.int .i64 0) ∧ Below w.heap.size w w' := by
  obtain ⟨path, kind, same, target, ⟨md, ud, gd, us, gr, sc, nn⟩, data⟩ := x
  obtain ⟨⟨p1, p2⟩, hmt, ⟨s1, s2, s3⟩, hk, ⟨d1, d2⟩, hn, ⟨t1, t2⟩⟩ := h
  simp only at p1 p2 hmt s1 s2 s3 hk d1 d2 hn t1 t2
  have HP := Lib.hid (fun w hm => Check_any path w (by omega) hm)
  rw [p1] at HP
  have HM := Lib.hid (fun w => MCheck_ok _ hmt w)
  have HML : Hid (∀ w', Below w.heap.size w w' → ML w') := Lib.hid (fun w' hb => hm.below hb)
  unfold nodeC
  unfold metaCells at HM
  simp only at HM ⊢
  have z := bs_size target
  generalize bs path = bp at *
  generalize bs us = bu at *
  generalize bs gr = bg at *
  clear hmt p1 p2 hm
  obtain ⟨W0, hW0⟩ : ∃ W0, W0 = w.alloc (.cells #[.string bp, .int .i64 kind, .int .i64 same, .string (bs target), .int .i64 md, .int .i64 ud, .int .i64 gd, .string bu, .string bg, .int .i64 sc, .int .i64 nn, .slice A data.length c] 36) := ⟨_, rfl⟩
  have hB : Blk W0 w.heap.size 36 #[.string bp, .int .i64 kind, .int .i64 same, .string (bs target), .int .i64 md, .int .i64 ud, .int .i64 gd, .string bu, .string bg, .int .i64 sc, .int .i64 nn, .slice A data.length c] := by rw [hW0]; exact Blk.new w _ _
  have hb0 : Below w.heap.size w W0 := by rw [hW0]; exact (Below.refl _ w).alloc (Nat.le_refl _) _
  have HB := Lib.hid hB
  have HB0 := Lib.hid hb0
  clear hB hb0
  rcases hk with rfl | rfl | rfl
  · obtain rfl := hn (by omega)
    clear hn t2 d2 t1 z s3
    rw [show bs [] = ⟨#[]⟩ from rfl] at *
    go_enter Tryd.func78, Tryd.ntmps78
    go_upto_region 1 with fail
    rw [← hW0]
    have HW0 := Lib.hid hW0
    clear hW0
    have e0 := HB.out.cell 0
    have z0 := HB.out.frozen 0
    simp only [List.getElem?_toArray, List.getElem?_cons_zero] at e0
    go_wp2_with fail
    refine (HP.out _ (HML.out _ HB0.out)).mono ?_
    rintro e w1 ⟨rfl, hb1⟩
    have HB1 := Lib.hid (HB.out.below hb1 HB.out.lt)
    have HBW := Lib.hid (HB0.out.trans (hb1.mono HB0.out.size))
    clear e0 z0 hb1
    have e0 := HB1.out.cell 0
    have z0 := HB1.out.frozen 0
    have e1 := HB1.out.cell 1
    have z1 := HB1.out.frozen 1
    have e2 := HB1.out.cell 2
    have z2 := HB1.out.frozen 2
    have e3 := HB1.out.cell 3
    have z3 := HB1.out.frozen 3
    have e4 := HB1.out.cell 4
    have z4 := HB1.out.frozen 4
    have e5 := HB1.out.cell 5
    have z5 := HB1.out.frozen 5
    have e6 := HB1.out.cell 6
    have z6 := HB1.out.frozen 6
    have e7 := HB1.out.cell 7
    have z7 := HB1.out.frozen 7
    have e8 := HB1.out.cell 8
    have z8 := HB1.out.frozen 8
    have e9 := HB1.out.cell 9
    have z9 := HB1.out.frozen 9
    have e10 := HB1.out.cell 10
    have z10 := HB1.out.frozen 10
    have e11 := HB1.out.cell 11
    have z11 := HB1.out.frozen 11
    simp only [List.getElem?_toArray, List.getElem?_cons_zero, List.getElem?_cons_succ] at e0 e1 e2 e3 e4 e5 e6 e7 e8 e9 e10 e11
    go_wp2_with fail
    refine (HM.out _).mono ?_
    rintro e w2 ⟨rfl, hb2⟩
    have HB2 := Lib.hid (HB1.out.below hb2 HB1.out.lt)
    have HBX := Lib.hid (HBW.out.trans (hb2.mono HBW.out.size))
    clear e0 e1 e2 e3 e4 e5 e6 e7 e8 e9 e10 e11 z0 z1 z2 z3 z4 z5 z6 z7 z8 z9 z10 z11 hb2
    have e0 := HB2.out.cell 0
    have z0 := HB2.out.frozen 0
    have e1 := HB2.out.cell 1
    have z1 := HB2.out.frozen 1
    have e2 := HB2.out.cell 2
    have z2 := HB2.out.frozen 2
    have e3 := HB2.out.cell 3
    have z3 := HB2.out.frozen 3
    have e4 := HB2.out.cell 4
    have z4 := HB2.out.frozen 4
    have e5 := HB2.out.cell 5
    have z5 := HB2.out.frozen 5
    have e6 := HB2.out.cell 6
    have z6 := HB2.out.frozen 6
    have e7 := HB2.out.cell 7
    have z7 := HB2.out.frozen 7
    have e8 := HB2.out.cell 8
    have z8 := HB2.out.frozen 8
    have e9 := HB2.out.cell 9
    have z9 := HB2.out.frozen 9
    have e10 := HB2.out.cell 10
    have z10 := HB2.out.frozen 10
    have e11 := HB2.out.cell 11
    have z11 := HB2.out.frozen 11
    simp only [List.getElem?_toArray, List.getElem?_cons_zero, List.getElem?_cons_succ] at e0 e1 e2 e3 e4 e5 e6 e7 e8 e9 e10 e11
    go_wp2_with fail
    go_ret
    exact ⟨rfl, HBX.out⟩
  · obtain rfl := hn (by omega)
    obtain rfl := d2 (by omega)
    obtain rfl := s3 (by omega)
    rw [List.length_nil] at HB hW0 ⊢
    clear hn t2 d2 t1 z s3 s1 s2
    rw [show bs [] = ⟨#[]⟩ from rfl] at *
    go_enter Tryd.func78, Tryd.ntmps78
    go_upto_region 1 with fail
    rw [← hW0]
    have HW0 := Lib.hid hW0
    clear hW0
    have e0 := HB.out.cell 0
    have z0 := HB.out.frozen 0
    simp only [List.getElem?_toArray, List.getElem?_cons_zero] at e0
    go_wp2_with fail
    refine (HP.out _ (HML.out _ HB0.out)).mono ?_
    rintro e w1 ⟨rfl, hb1⟩
    have HB1 := Lib.hid (HB.out.below hb1 HB.out.lt)
    have HBW := Lib.hid (HB0.out.trans (hb1.mono HB0.out.size))
    clear e0 z0 hb1
    have e0 := HB1.out.cell 0
    have z0 := HB1.out.frozen 0
    have e1 := HB1.out.cell 1
    have z1 := HB1.out.frozen 1
    have e2 := HB1.out.cell 2
    have z2 := HB1.out.frozen 2
    have e3 := HB1.out.cell 3
    have z3 := HB1.out.frozen 3
    have e4 := HB1.out.cell 4
    have z4 := HB1.out.frozen 4
    have e5 := HB1.out.cell 5
    have z5 := HB1.out.frozen 5
    have e6 := HB1.out.cell 6
    have z6 := HB1.out.frozen 6
    have e7 := HB1.out.cell 7
    have z7 := HB1.out.frozen 7
    have e8 := HB1.out.cell 8
    have z8 := HB1.out.frozen 8
    have e9 := HB1.out.cell 9
    have z9 := HB1.out.frozen 9
    have e10 := HB1.out.cell 10
    have z10 := HB1.out.frozen 10
    have e11 := HB1.out.cell 11
    have z11 := HB1.out.frozen 11
    simp only [List.getElem?_toArray, List.getElem?_cons_zero, List.getElem?_cons_succ] at e0 e1 e2 e3 e4 e5 e6 e7 e8 e9 e10 e11
    go_wp2_with fail
    refine (HM.out _).mono ?_
    rintro e w2 ⟨rfl, hb2⟩
    have HB2 := Lib.hid (HB1.out.below hb2 HB1.out.lt)
    have HBX := Lib.hid (HBW.out.trans (hb2.mono HBW.out.size))
    clear e0 e1 e2 e3 e4 e5 e6 e7 e8 e9 e10 e11 z0 z1 z2 z3 z4 z5 z6 z7 z8 z9 z10 z11 hb2
    have e0 := HB2.out.cell 0
    have z0 := HB2.out.frozen 0
    have e1 := HB2.out.cell 1
    have z1 := HB2.out.frozen 1
    have e2 := HB2.out.cell 2
    have z2 := HB2.out.frozen 2
    have e3 := HB2.out.cell 3
    have z3 := HB2.out.frozen 3
    have e4 := HB2.out.cell 4
    have z4 := HB2.out.frozen 4
    have e5 := HB2.out.cell 5
    have z5 := HB2.out.frozen 5
    have e6 := HB2.out.cell 6
    have z6 := HB2.out.frozen 6
    have e7 := HB2.out.cell 7
    have z7 := HB2.out.frozen 7
    have e8 := HB2.out.cell 8
    have z8 := HB2.out.frozen 8
    have e9 := HB2.out.cell 9
    have z9 := HB2.out.frozen 9
    have e10 := HB2.out.cell 10
    have z10 := HB2.out.frozen 10
    have e11 := HB2.out.cell 11
    have z11 := HB2.out.frozen 11
    simp only [List.getElem?_toArray, List.getElem?_cons_zero, List.getElem?_cons_succ] at e0 e1 e2 e3 e4 e5 e6 e7 e8 e9 e10 e11
    go_wp2_with fail
    go_ret
    exact ⟨rfl, HBX.out⟩
  · obtain ⟨t3, t4⟩ := t2 rfl
    obtain rfl := d2 (by omega)
    obtain rfl := s3 (by omega)
    rw [List.length_nil] at HB hW0 ⊢
    have t7 : (bs target).toList.isEmpty = false := by rw [bs_toList]; cases target with | nil => exact absurd rfl t3 | cons _ _ => rfl
    have t6 : target.length ≠ 0 := fun h => t3 (List.length_eq_zero_iff.1 h)
    have HI := Lib.hid (fun w => IndexByte_nul target w)
    rw [indexByte_not t4] at HI
    clear hn t2 d2 t3 t4 s3 s1 s2
    generalize bs target = bt at *
    go_enter Tryd.func78, Tryd.ntmps78
    go_upto_region 1 with fail
    rw [← hW0]
    have HW0 := Lib.hid hW0
    clear hW0
    have e0 := HB.out.cell 0
    have z0 := HB.out.frozen 0
    simp only [List.getElem?_toArray, List.getElem?_cons_zero] at e0
    go_wp2_with fail
    refine (HP.out _ (HML.out _ HB0.out)).mono ?_
    rintro e w1 ⟨rfl, hb1⟩
    have HB1 := Lib.hid (HB.out.below hb1 HB.out.lt)
    have HBW := Lib.hid (HB0.out.trans (hb1.mono HB0.out.size))
    clear e0 z0 hb1
    have e0 := HB1.out.cell 0
    have z0 := HB1.out.frozen 0
    have e1 := HB1.out.cell 1
    have z1 := HB1.out.frozen 1
    have e2 := HB1.out.cell 2
    have z2 := HB1.out.frozen 2
    have e3 := HB1.out.cell 3
    have z3 := HB1.out.frozen 3
    have e4 := HB1.out.cell 4
    have z4 := HB1.out.frozen 4
    have e5 := HB1.out.cell 5
    have z5 := HB1.out.frozen 5
    have e6 := HB1.out.cell 6
    have z6 := HB1.out.frozen 6
    have e7 := HB1.out.cell 7
    have z7 := HB1.out.frozen 7
    have e8 := HB1.out.cell 8
    have z8 := HB1.out.frozen 8
    have e9 := HB1.out.cell 9
    have z9 := HB1.out.frozen 9
    have e10 := HB1.out.cell 10
    have z10 := HB1.out.frozen 10
    have e11 := HB1.out.cell 11
    have z11 := HB1.out.frozen 11
    simp only [List.getElem?_toArray, List.getElem?_cons_zero, List.getElem?_cons_succ] at e0 e1 e2 e3 e4 e5 e6 e7 e8 e9 e10 e11
    go_wp2_with fail
    refine (HM.out _).mono ?_
    rintro e w2 ⟨rfl, hb2⟩
    have HB2 := Lib.hid (HB1.out.below hb2 HB1.out.lt)
    have HBX := Lib.hid (HBW.out.trans (hb2.mono HBW.out.size))
    clear e0 e1 e2 e3 e4 e5 e6 e7 e8 e9 e10 e11 z0 z1 z2 z3 z4 z5 z6 z7 z8 z9 z10 z11 hb2
    have e0 := HB2.out.cell 0
    have z0 := HB2.out.frozen 0
    have e1 := HB2.out.cell 1
    have z1 := HB2.out.frozen 1
    have e2 := HB2.out.cell 2
    have z2 := HB2.out.frozen 2
    have e3 := HB2.out.cell 3
    have z3 := HB2.out.frozen 3
    have e4 := HB2.out.cell 4
    have z4 := HB2.out.frozen 4
    have e5 := HB2.out.cell 5
    have z5 := HB2.out.frozen 5
    have e6 := HB2.out.cell 6
    have z6 := HB2.out.frozen 6
    have e7 := HB2.out.cell 7
    have z7 := HB2.out.frozen 7
    have e8 := HB2.out.cell 8
    have z8 := HB2.out.frozen 8
    have e9 := HB2.out.cell 9
    have z9 := HB2.out.frozen 9
    have e10 := HB2.out.cell 10
    have z10 := HB2.out.frozen 10
    have e11 := HB2.out.cell 11
    have z11 := HB2.out.frozen 11
    simp only [List.getElem?_toArray, List.getElem?_cons_zero, List.getElem?_cons_succ] at e0 e1 e2 e3 e4 e5 e6 e7 e8 e9 e10 e11
    go_wp2_with fail
    refine (HI.out _).mono ?_
    rintro e w' ⟨rfl, rfl⟩
    go_wp2_with fail
    go_ret
    exact ⟨rfl, HBX.out⟩
end Go.Proofs.YtjglenhhgbokbaaDoor
