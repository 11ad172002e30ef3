/-
  Entries of raw things, plainly: their paths are made of names, at most 400 bytes long. No condition.
  plan.Right over entries that may be. No condition beyond the world's shape.
-/
import Derived.Test.YtphmhmdcaafmdaaGreatDoorNearG
import Derived.Test.YtphmhmdcaafmdaaGreatDoorMetaS
import Derived.Test.YtphmhmdcaafmdaaGreatDoorPathW
namespace Go.Proofs.YtphmhmdcaafmdaaGreatDoor
set_option linter.all false
section
open Go.RowKit
structure EntP where
  path : List UInt8
  kind : Int
  target : List UInt8
  mt : MetaP
  data : List UInt8
def entC (x : EntP) (dv : Value) : List Value := [.string (bs x.path), .int .i64 x.kind, .string (bs x.target), .int .i64 x.mt.mode, .int .i64 x.mt.uid, .int .i64 x.mt.gid, .string (bs x.mt.user), .string (bs x.mt.group), .int .i64 x.mt.second, .int .i64 x.mt.nano, dv]
def wrapI (x : Int) : Int := if 9223372036854775807 < x then x - 18446744073709551616 else x
def nmA (x : Int) : List UInt8 := namesL.getD (pick x 11).toNat []
def entPath (a : Int) : Nat → List UInt8
  | 0 => nmA a
  | k + 1 => entPath a k ++ 47 :: nmA (wrapI (a + k))
def entP (r : RawS) : EntP :=
  ⟨entPath r.a (pick r.b 5).toNat, 1 + pick r.kind 4, if 1 + pick r.kind 4 = 3 ∨ 1 + pick r.kind 4 = 4 then 116 :: List.replicate (pick r.b 150).toNat 117 else [], metaOf r,
    if 1 + pick r.kind 4 = 1 then Lib.repeatL (cleanS r.text 40) (pick r.b 40).toNat else []⟩
theorem nmA_mem (x : Int) : nmA x ∈ namesL := by
  have h := pick_bd x 11 (by omega)
  unfold nmA
  rw [List.getD_eq_getElem?_getD, List.getElem?_eq_getElem (by rw [show namesL.length = 11 from rfl]; omega)]
  exact List.getElem_mem _
theorem entPath_ok (a : Int) : ∀ k, PartsOk (entPath a k)
  | 0 => by
    obtain ⟨n1, n2, _⟩ := namesL_ok _ (nmA_mem a)
    refine ⟨n1, fun q hq => ?_⟩
    rw [entPath, splitC_miss n2, List.mem_singleton] at hq
    rw [hq]; exact nmA_mem a
  | k + 1 => by
    obtain ⟨_, n2, _⟩ := namesL_ok _ (nmA_mem (wrapI (a + k)))
    refine ⟨by simp [entPath], fun q hq => ?_⟩
    rw [entPath, splitC_append, splitC_miss n2] at hq
    rcases List.mem_append.1 hq with hq | hq
    · exact (entPath_ok a k).2 q hq
    · rw [List.mem_singleton] at hq
      rw [hq]; exact nmA_mem _
def lenN (i : Nat) : Nat := if i = 8 then 130 else if i = 7 then 60 else 5
theorem nmA_length (x : Int) : (nmA x).length ≤ lenN (pick x 11).toNat := by
  have h := pick_bd x 11 (by omega)
  unfold nmA
  obtain ⟨k, hk⟩ : ∃ k : Nat, pick x 11 = k := ⟨(pick x 11).toNat, by omega⟩
  rw [hk] at h ⊢
  rw [Int.toNat_natCast]
  rcases (show k = 0 ∨ k = 1 ∨ k = 2 ∨ k = 3 ∨ k = 4 ∨ k = 5 ∨ k = 6 ∨ k = 7 ∨ k = 8 ∨ k = 9 ∨ k = 10 by omega) with rfl | rfl | rfl | rfl | rfl | rfl | rfl | rfl | rfl | rfl | rfl <;> decide +kernel
theorem four_names (a : Int) (h : I64 a) : lenN (pick a 11).toNat + lenN (pick (wrapI (a + 0)) 11).toNat + lenN (pick (wrapI (a + 1)) 11).toNat + lenN (pick (wrapI (a + 2)) 11).toNat + lenN (pick (wrapI (a + 3)) 11).toNat ≤ 396 := by
  obtain ⟨h1, h2⟩ := h
  by_cases hb : 0 ≤ a ∧ a ≤ 9223372036854775804
  · have e : ∀ j : Int, 0 ≤ j → j ≤ 3 → pick (wrapI (a + j)) 11 = (a % 11 + j) % 11 := fun j _ _ => by
      rw [show wrapI (a + j) = a + j from if_neg (by omega)]; unfold pick; rw [if_neg (by omega)]; omega
    rw [e 0 (by omega) (by omega), e 1 (by omega) (by omega), e 2 (by omega) (by omega), e 3 (by omega) (by omega), show pick a 11 = a % 11 by unfold pick; rw [if_neg (by omega)]]
    obtain ⟨k, hk, _⟩ : ∃ k : Nat, a % 11 = k ∧ k < 11 := ⟨(a % 11).toNat, by omega, by omega⟩
    rw [hk]
    rcases (show k = 0 ∨ k = 1 ∨ k = 2 ∨ k = 3 ∨ k = 4 ∨ k = 5 ∨ k = 6 ∨ k = 7 ∨ k = 8 ∨ k = 9 ∨ k = 10 by omega) with rfl | rfl | rfl | rfl | rfl | rfl | rfl | rfl | rfl | rfl | rfl <;> decide
  · by_cases hc : a ≤ -4
    · have e : ∀ j : Int, 0 ≤ j → j ≤ 3 → pick (wrapI (a + j)) 11 = ((-(a + 1)) % 11 + 11 - j) % 11 := fun j _ _ => by
        rw [show wrapI (a + j) = a + j from if_neg (by omega)]; unfold pick; rw [if_pos (by omega)]; omega
      rw [e 0 (by omega) (by omega), e 1 (by omega) (by omega), e 2 (by omega) (by omega), e 3 (by omega) (by omega), show pick a 11 = (-(a + 1)) % 11 by unfold pick; rw [if_pos (by omega)]]
      obtain ⟨k, hk, _⟩ : ∃ k : Nat, (-(a + 1)) % 11 = k ∧ k < 11 := ⟨((-(a + 1)) % 11).toNat, by omega, by omega⟩
      rw [hk]
      rcases (show k = 0 ∨ k = 1 ∨ k = 2 ∨ k = 3 ∨ k = 4 ∨ k = 5 ∨ k = 6 ∨ k = 7 ∨ k = 8 ∨ k = 9 ∨ k = 10 by omega) with rfl | rfl | rfl | rfl | rfl | rfl | rfl | rfl | rfl | rfl | rfl <;> decide
    · rcases (show a = -3 ∨ a = -2 ∨ a = -1 ∨ a = 9223372036854775805 ∨ a = 9223372036854775806 ∨ a = 9223372036854775807 by omega) with rfl | rfl | rfl | rfl | rfl | rfl <;> decide
theorem entPath_length (a : Int) (h : I64 a) (k : Nat) (hk : k ≤ 4) : (entPath a k).length ≤ 400 := by
  have hf := four_names a h
  have l := nmA_length a
  have l0 := nmA_length (wrapI (a + 0))
  have l1 := nmA_length (wrapI (a + 1))
  have l2 := nmA_length (wrapI (a + 2))
  have l3 := nmA_length (wrapI (a + 3))
  rcases (show k = 0 ∨ k = 1 ∨ k = 2 ∨ k = 3 ∨ k = 4 by omega) with rfl | rfl | rfl | rfl | rfl <;>
    simp only [entPath, List.length_append, List.length_cons, show ((0 : Nat) : Int) = 0 from rfl, show ((1 : Nat) : Int) = 1 from rfl, show ((2 : Nat) : Int) = 2 from rfl, show ((3 : Nat) : Int) = 3 from rfl] <;> omega
end
section
open Go.RowKit
structure EntOk (x : EntP) : Prop where
  path : checkS x.path = 0 ∧ x.path.length ≤ 400
  mt : MetaOk x.mt
  kind : x.kind = 1 ∨ x.kind = 2 ∨ x.kind = 3 ∨ x.kind = 4
  data : x.data.length ≤ 2000 ∧ (x.kind ≠ 1 → x.data = [])
  none : (x.kind = 1 ∨ x.kind = 2) → x.target = []
  target : x.target.length ≤ 400 ∧ ((x.kind = 3 ∨ x.kind = 4) → x.target ≠ [] ∧ (0 : UInt8) ∉ x.target) ∧ (x.kind = 4 → checkS x.target = 0)
set_option maxRecDepth 100000 in
set_option maxHeartbeats 2000000 in
theorem PRight_ok (x : EntP) (h : EntOk x) (A : Option Addr) (c : Nat) (w : World) (hm : ML w) :
    Calls Tryz.prog 46 #[.agg (entC x (.slice A x.data.length c)).toArray] w fun e w' => e = .returned (.int .i64 0) ∧ Below w.heap.size w w' := by
  obtain ⟨path, kind, target, ⟨md, ud, gd, us, gr, sc, nn⟩, data⟩ := x
  obtain ⟨⟨p1, p2⟩, hmt, hk, ⟨d1, d2⟩, hn, ⟨t1, t2, t6⟩⟩ := h
  simp only at p1 p2 hmt hk d1 d2 hn t1 t2 t6
  have HP := Lib.hid (fun w hm => Check_any path w (by omega) hm)
  rw [p1] at HP
  have HM := Lib.hid (fun w => MCheck_ok _ hmt w)
  have HML : Hid (∀ w', Below w.heap.size w w' → ML w') := Lib.hid (fun w' hb => hm.below hb)
  unfold entC
  unfold metaCells at HM
  simp only at HM ⊢
  have z := bs_size target
  generalize bs path = bp at *
  generalize bs us = bu at *
  generalize bs gr = bg at *
  clear hmt p1 p2 hm
  obtain ⟨W0, hW0⟩ : ∃ W0, W0 = w.alloc (.cells #[.string bp, .int .i64 kind, .string (bs target), .int .i64 md, .int .i64 ud, .int .i64 gd, .string bu, .string bg, .int .i64 sc, .int .i64 nn, .slice A data.length c] 58) := ⟨_, rfl⟩
  have hB : Blk W0 w.heap.size 58 #[.string bp, .int .i64 kind, .string (bs target), .int .i64 md, .int .i64 ud, .int .i64 gd, .string bu, .string bg, .int .i64 sc, .int .i64 nn, .slice A data.length c] := by rw [hW0]; exact Blk.new w _ _
  have hb0 : Below w.heap.size w W0 := by rw [hW0]; exact (Below.refl _ w).alloc (Nat.le_refl _) _
  have HB := Lib.hid hB
  have HB0 := Lib.hid hb0
  clear hB hb0
  rcases hk with rfl | rfl | rfl | rfl
  · obtain rfl := hn (.inl rfl)
    clear hn t2 t6 d2 t1 z
    have HI := Lib.hid (fun w => IndexByte_nul [] w)
    rw [show Lib.indexByte [] 0 = -1 from rfl] at HI
    rw [show bs [] = ⟨#[]⟩ from rfl] at *
    go_enter Tryz.func46, Tryz.ntmps46
    go_upto_region 1 with fail
    rw [← hW0]
    have HW0 := Lib.hid hW0
    clear hW0
    have e0 := HB.out.cell 0
    have z0 := HB.out.frozen 0
    simp only [List.getElem?_toArray, List.getElem?_cons_zero] at e0
    go_wp2_with fail
    refine (HP.out _ (HML.out _ HB0.out)).mono ?_
    rintro e w1 ⟨rfl, hb1⟩
    have HB1 := Lib.hid (HB.out.below hb1 HB.out.lt)
    have HBW := Lib.hid (HB0.out.trans (hb1.mono HB0.out.size))
    clear e0 z0 hb1
    have e0 := HB1.out.cell 0
    have e1 := HB1.out.cell 1
    have e2 := HB1.out.cell 2
    have e3 := HB1.out.cell 3
    have e4 := HB1.out.cell 4
    have e5 := HB1.out.cell 5
    have e6 := HB1.out.cell 6
    have e7 := HB1.out.cell 7
    have e8 := HB1.out.cell 8
    have e9 := HB1.out.cell 9
    have e10 := HB1.out.cell 10
    have z0 := HB1.out.frozen 0
    have z1 := HB1.out.frozen 1
    have z2 := HB1.out.frozen 2
    have z3 := HB1.out.frozen 3
    have z4 := HB1.out.frozen 4
    have z5 := HB1.out.frozen 5
    have z6 := HB1.out.frozen 6
    have z7 := HB1.out.frozen 7
    have z8 := HB1.out.frozen 8
    have z9 := HB1.out.frozen 9
    have z10 := HB1.out.frozen 10
    simp only [List.getElem?_toArray, List.getElem?_cons_zero, List.getElem?_cons_succ] at e0 e1 e2 e3 e4 e5 e6 e7 e8 e9 e10
    go_wp2_with fail
    refine (HM.out _).mono ?_
    rintro e w2 ⟨rfl, hb2⟩
    have HB2 := Lib.hid (HB1.out.below hb2 HB1.out.lt)
    have HBX := Lib.hid (HBW.out.trans (hb2.mono HBW.out.size))
    clear e0 e1 e2 e3 e4 e5 e6 e7 e8 e9 e10 z0 z1 z2 z3 z4 z5 z6 z7 z8 z9 z10 hb2
    have e0 := HB2.out.cell 0
    have e1 := HB2.out.cell 1
    have e2 := HB2.out.cell 2
    have e3 := HB2.out.cell 3
    have e4 := HB2.out.cell 4
    have e5 := HB2.out.cell 5
    have e6 := HB2.out.cell 6
    have e7 := HB2.out.cell 7
    have e8 := HB2.out.cell 8
    have e9 := HB2.out.cell 9
    have e10 := HB2.out.cell 10
    have z0 := HB2.out.frozen 0
    have z1 := HB2.out.frozen 1
    have z2 := HB2.out.frozen 2
    have z3 := HB2.out.frozen 3
    have z4 := HB2.out.frozen 4
    have z5 := HB2.out.frozen 5
    have z6 := HB2.out.frozen 6
    have z7 := HB2.out.frozen 7
    have z8 := HB2.out.frozen 8
    have z9 := HB2.out.frozen 9
    have z10 := HB2.out.frozen 10
    simp only [List.getElem?_toArray, List.getElem?_cons_zero, List.getElem?_cons_succ] at e0 e1 e2 e3 e4 e5 e6 e7 e8 e9 e10
    go_wp2_with fail
    refine (HI.out _).mono ?_
    rintro e w' ⟨rfl, rfl⟩
    go_wp2_with fail
    go_ret
    exact ⟨rfl, HBX.out⟩
  · obtain rfl := hn (.inr rfl)
    obtain rfl := d2 (by omega)
    rw [List.length_nil] at HB hW0 ⊢
    clear hn t2 t6 d2 t1 z
    have HI := Lib.hid (fun w => IndexByte_nul [] w)
    rw [show Lib.indexByte [] 0 = -1 from rfl] at HI
    rw [show bs [] = ⟨#[]⟩ from rfl] at *
    go_enter Tryz.func46, Tryz.ntmps46
    go_upto_region 1 with fail
    rw [← hW0]
    have HW0 := Lib.hid hW0
    clear hW0
    have e0 := HB.out.cell 0
    have z0 := HB.out.frozen 0
    simp only [List.getElem?_toArray, List.getElem?_cons_zero] at e0
    go_wp2_with fail
    refine (HP.out _ (HML.out _ HB0.out)).mono ?_
    rintro e w1 ⟨rfl, hb1⟩
    have HB1 := Lib.hid (HB.out.below hb1 HB.out.lt)
    have HBW := Lib.hid (HB0.out.trans (hb1.mono HB0.out.size))
    clear e0 z0 hb1
    have e0 := HB1.out.cell 0
    have e1 := HB1.out.cell 1
    have e2 := HB1.out.cell 2
    have e3 := HB1.out.cell 3
    have e4 := HB1.out.cell 4
    have e5 := HB1.out.cell 5
    have e6 := HB1.out.cell 6
    have e7 := HB1.out.cell 7
    have e8 := HB1.out.cell 8
    have e9 := HB1.out.cell 9
    have e10 := HB1.out.cell 10
    have z0 := HB1.out.frozen 0
    have z1 := HB1.out.frozen 1
    have z2 := HB1.out.frozen 2
    have z3 := HB1.out.frozen 3
    have z4 := HB1.out.frozen 4
    have z5 := HB1.out.frozen 5
    have z6 := HB1.out.frozen 6
    have z7 := HB1.out.frozen 7
    have z8 := HB1.out.frozen 8
    have z9 := HB1.out.frozen 9
    have z10 := HB1.out.frozen 10
    simp only [List.getElem?_toArray, List.getElem?_cons_zero, List.getElem?_cons_succ] at e0 e1 e2 e3 e4 e5 e6 e7 e8 e9 e10
    go_wp2_with fail
    refine (HM.out _).mono ?_
    rintro e w2 ⟨rfl, hb2⟩
    have HB2 := Lib.hid (HB1.out.below hb2 HB1.out.lt)
    have HBX := Lib.hid (HBW.out.trans (hb2.mono HBW.out.size))
    clear e0 e1 e2 e3 e4 e5 e6 e7 e8 e9 e10 z0 z1 z2 z3 z4 z5 z6 z7 z8 z9 z10 hb2
    have e0 := HB2.out.cell 0
    have e1 := HB2.out.cell 1
    have e2 := HB2.out.cell 2
    have e3 := HB2.out.cell 3
    have e4 := HB2.out.cell 4
    have e5 := HB2.out.cell 5
    have e6 := HB2.out.cell 6
    have e7 := HB2.out.cell 7
    have e8 := HB2.out.cell 8
    have e9 := HB2.out.cell 9
    have e10 := HB2.out.cell 10
    have z0 := HB2.out.frozen 0
    have z1 := HB2.out.frozen 1
    have z2 := HB2.out.frozen 2
    have z3 := HB2.out.frozen 3
    have z4 := HB2.out.frozen 4
    have z5 := HB2.out.frozen 5
    have z6 := HB2.out.frozen 6
    have z7 := HB2.out.frozen 7
    have z8 := HB2.out.frozen 8
    have z9 := HB2.out.frozen 9
    have z10 := HB2.out.frozen 10
    simp only [List.getElem?_toArray, List.getElem?_cons_zero, List.getElem?_cons_succ] at e0 e1 e2 e3 e4 e5 e6 e7 e8 e9 e10
    go_wp2_with fail
    refine (HI.out _).mono ?_
    rintro e w' ⟨rfl, rfl⟩
    go_wp2_with fail
    go_ret
    exact ⟨rfl, HBX.out⟩
  · obtain ⟨t3, t4⟩ := t2 (.inl rfl)
    clear t6
    obtain rfl := d2 (by omega)
    rw [List.length_nil] at HB hW0 ⊢
    have t7 : (bs target).toList.isEmpty = false := by rw [bs_toList]; cases target with | nil => exact absurd rfl t3 | cons _ _ => rfl
    have t6 : target.length ≠ 0 := fun h => t3 (List.length_eq_zero_iff.1 h)
    have HI := Lib.hid (fun w => IndexByte_nul target w)
    rw [indexByte_not t4] at HI
    clear hn t2 d2 t3 t4
    generalize bs target = bt at *
    go_enter Tryz.func46, Tryz.ntmps46
    go_upto_region 1 with fail
    rw [← hW0]
    have HW0 := Lib.hid hW0
    clear hW0
    have e0 := HB.out.cell 0
    have z0 := HB.out.frozen 0
    simp only [List.getElem?_toArray, List.getElem?_cons_zero] at e0
    go_wp2_with fail
    refine (HP.out _ (HML.out _ HB0.out)).mono ?_
    rintro e w1 ⟨rfl, hb1⟩
    have HB1 := Lib.hid (HB.out.below hb1 HB.out.lt)
    have HBW := Lib.hid (HB0.out.trans (hb1.mono HB0.out.size))
    clear e0 z0 hb1
    have e0 := HB1.out.cell 0
    have e1 := HB1.out.cell 1
    have e2 := HB1.out.cell 2
    have e3 := HB1.out.cell 3
    have e4 := HB1.out.cell 4
    have e5 := HB1.out.cell 5
    have e6 := HB1.out.cell 6
    have e7 := HB1.out.cell 7
    have e8 := HB1.out.cell 8
    have e9 := HB1.out.cell 9
    have e10 := HB1.out.cell 10
    have z0 := HB1.out.frozen 0
    have z1 := HB1.out.frozen 1
    have z2 := HB1.out.frozen 2
    have z3 := HB1.out.frozen 3
    have z4 := HB1.out.frozen 4
    have z5 := HB1.out.frozen 5
    have z6 := HB1.out.frozen 6
    have z7 := HB1.out.frozen 7
    have z8 := HB1.out.frozen 8
    have z9 := HB1.out.frozen 9
    have z10 := HB1.out.frozen 10
    simp only [List.getElem?_toArray, List.getElem?_cons_zero, List.getElem?_cons_succ] at e0 e1 e2 e3 e4 e5 e6 e7 e8 e9 e10
    go_wp2_with fail
    refine (HM.out _).mono ?_
    rintro e w2 ⟨rfl, hb2⟩
    have HB2 := Lib.hid (HB1.out.below hb2 HB1.out.lt)
    have HBX := Lib.hid (HBW.out.trans (hb2.mono HBW.out.size))
    clear e0 e1 e2 e3 e4 e5 e6 e7 e8 e9 e10 z0 z1 z2 z3 z4 z5 z6 z7 z8 z9 z10 hb2
    have e0 := HB2.out.cell 0
    have e1 := HB2.out.cell 1
    have e2 := HB2.out.cell 2
    have e3 := HB2.out.cell 3
    have e4 := HB2.out.cell 4
    have e5 := HB2.out.cell 5
    have e6 := HB2.out.cell 6
    have e7 := HB2.out.cell 7
    have e8 := HB2.out.cell 8
    have e9 := HB2.out.cell 9
    have e10 := HB2.out.cell 10
    have z0 := HB2.out.frozen 0
    have z1 := HB2.out.frozen 1
    have z2 := HB2.out.frozen 2
    have z3 := HB2.out.frozen 3
    have z4 := HB2.out.frozen 4
    have z5 := HB2.out.frozen 5
    have z6 := HB2.out.frozen 6
    have z7 := HB2.out.frozen 7
    have z8 := HB2.out.frozen 8
    have z9 := HB2.out.frozen 9
    have z10 := HB2.out.frozen 10
    simp only [List.getElem?_toArray, List.getElem?_cons_zero, List.getElem?_cons_succ] at e0 e1 e2 e3 e4 e5 e6 e7 e8 e9 e10
    go_wp2_with fail
    refine (HI.out _).mono ?_
    rintro e w' ⟨rfl, rfl⟩
    go_wp2_with fail
    go_ret
    exact ⟨rfl, HBX.out⟩
  · obtain ⟨t3, t4⟩ := t2 (.inr rfl)
    have t5 := t6 rfl
    clear t6
    obtain rfl := d2 (by omega)
    rw [List.length_nil] at HB hW0 ⊢
    have t7 : (bs target).toList.isEmpty = false := by rw [bs_toList]; cases target with | nil => exact absurd rfl t3 | cons _ _ => rfl
    have t6 : target.length ≠ 0 := fun h => t3 (List.length_eq_zero_iff.1 h)
    have HT := Lib.hid (fun w hm => Check_any target w (by omega) hm)
    rw [t5] at HT
    clear hn t2 d2 t3 t4 t5
    generalize bs target = bt at *
    go_enter Tryz.func46, Tryz.ntmps46
    go_upto_region 1 with fail
    rw [← hW0]
    have HW0 := Lib.hid hW0
    clear hW0
    have e0 := HB.out.cell 0
    have z0 := HB.out.frozen 0
    simp only [List.getElem?_toArray, List.getElem?_cons_zero] at e0
    go_wp2_with fail
    refine (HP.out _ (HML.out _ HB0.out)).mono ?_
    rintro e w1 ⟨rfl, hb1⟩
    have HB1 := Lib.hid (HB.out.below hb1 HB.out.lt)
    have HBW := Lib.hid (HB0.out.trans (hb1.mono HB0.out.size))
    clear e0 z0 hb1
    have e0 := HB1.out.cell 0
    have e1 := HB1.out.cell 1
    have e2 := HB1.out.cell 2
    have e3 := HB1.out.cell 3
    have e4 := HB1.out.cell 4
    have e5 := HB1.out.cell 5
    have e6 := HB1.out.cell 6
    have e7 := HB1.out.cell 7
    have e8 := HB1.out.cell 8
    have e9 := HB1.out.cell 9
    have e10 := HB1.out.cell 10
    have z0 := HB1.out.frozen 0
    have z1 := HB1.out.frozen 1
    have z2 := HB1.out.frozen 2
    have z3 := HB1.out.frozen 3
    have z4 := HB1.out.frozen 4
    have z5 := HB1.out.frozen 5
    have z6 := HB1.out.frozen 6
    have z7 := HB1.out.frozen 7
    have z8 := HB1.out.frozen 8
    have z9 := HB1.out.frozen 9
    have z10 := HB1.out.frozen 10
    simp only [List.getElem?_toArray, List.getElem?_cons_zero, List.getElem?_cons_succ] at e0 e1 e2 e3 e4 e5 e6 e7 e8 e9 e10
    go_wp2_with fail
    refine (HM.out _).mono ?_
    rintro e w2 ⟨rfl, hb2⟩
    have HB2 := Lib.hid (HB1.out.below hb2 HB1.out.lt)
    have HBX := Lib.hid (HBW.out.trans (hb2.mono HBW.out.size))
    clear e0 e1 e2 e3 e4 e5 e6 e7 e8 e9 e10 z0 z1 z2 z3 z4 z5 z6 z7 z8 z9 z10 hb2
    have e0 := HB2.out.cell 0
    have e1 := HB2.out.cell 1
    have e2 := HB2.out.cell 2
    have e3 := HB2.out.cell 3
    have e4 := HB2.out.cell 4
    have e5 := HB2.out.cell 5
    have e6 := HB2.out.cell 6
    have e7 := HB2.out.cell 7
    have e8 := HB2.out.cell 8
    have e9 := HB2.out.cell 9
    have e10 := HB2.out.cell 10
    have z0 := HB2.out.frozen 0
    have z1 := HB2.out.frozen 1
    have z2 := HB2.out.frozen 2
    have z3 := HB2.out.frozen 3
    have z4 := HB2.out.frozen 4
    have z5 := HB2.out.frozen 5
    have z6 := HB2.out.frozen 6
    have z7 := HB2.out.frozen 7
    have z8 := HB2.out.frozen 8
    have z9 := HB2.out.frozen 9
    have z10 := HB2.out.frozen 10
    simp only [List.getElem?_toArray, List.getElem?_cons_zero, List.getElem?_cons_succ] at e0 e1 e2 e3 e4 e5 e6 e7 e8 e9 e10
    go_wp2_with fail
    refine (HT.out _ (HML.out _ HBX.out)).mono ?_
    rintro e w3 ⟨rfl, hb3⟩
    have HBY := Lib.hid (HBX.out.trans (hb3.mono HBX.out.size))
    clear hb3
    go_wp2_with fail
    go_ret
    exact ⟨rfl, HBY.out⟩
end
end Go.Proofs.YtphmhmdcaafmdaaGreatDoor
