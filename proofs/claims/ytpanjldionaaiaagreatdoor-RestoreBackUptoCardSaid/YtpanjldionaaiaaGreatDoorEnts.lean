/-
  What is in a directory stands right behind it: plainly. No condition.
  The paths of what creelkeep.Tree grows: made of its names. Plainly: no condition.
  Entries of raw things, plainly: their paths are made of names, at most 400 bytes long. No condition.
  plan.Right over entries that may be. No condition beyond the world's shape.
-/
import Derived.Test.YtpanjldionaaiaaGreatDoorPathW
import Derived.Test.YtpanjldionaaiaaGreatDoorSum
import Derived.Test.YtpanjldionaaiaaGreatDoorMetaS
namespace Go.Proofs.YtpanjldionaaiaaGreatDoor
set_option linter.all false
section
theorem splitC_append (c : UInt8) : ∀ (a r : List UInt8), splitC c (a ++ c :: r) = splitC c a ++ splitC c r := by
  intro a
  induction a with
  | nil => intro r; rw [List.nil_append, splitC]; simp [splitC]
  | cons b a ih =>
    intro r
    rw [List.cons_append, splitC, splitC, ih r]
    by_cases e : b = c
    · rw [if_pos e, if_pos e]; rfl
    · rw [if_neg e, if_neg e]
      cases h : splitC c a with
      | nil => exact absurd h (splitC_ne c a)
      | cons x y => rfl
theorem cmpL_front : ∀ (a : List (List UInt8)) {b : List (List UInt8)}, b ≠ [] → cmpL a (a ++ b) = -1
  | [], b, h => by cases b with | nil => exact absurd rfl h | cons x y => rfl
  | x :: a, b, h => by rw [List.cons_append, cmpL, if_pos (cmpB_self x)]; exact cmpL_front a h
theorem inB_iff {e d : List UInt8} (hd : d ≠ []) : inB e d = true ↔ ∃ r, e = d ++ 47 :: r := by
  have h1 : inB e d = Lib.hasPrefix e (d ++ [47]) := by
    unfold inB
    cases d with
    | nil => exact absurd rfl hd
    | cons b d => simp
  rw [h1]
  constructor
  · intro h
    have h2 : (d ++ [47]).isPrefixOf e = true := h
    rw [List.isPrefixOf_iff_prefix] at h2
    obtain ⟨r, hr⟩ := h2
    exact ⟨r, by rw [← hr]; simp⟩
  · rintro ⟨r, rfl⟩
    have := hasPrefix_append_in (d ++ [47]) r
    rwa [List.append_assoc] at this
theorem near_less {e d : List UInt8} (hd : d ≠ []) (h : inB e d = true) : cmpP d e = -1 := by
  obtain ⟨r, rfl⟩ := (inB_iff hd).1 h
  unfold cmpP partsS
  rw [if_neg hd, if_neg (by simp), splitC_append]
  exact cmpL_front _ (splitC_ne _ _)
end
section
open Go.RowKit
def PartsOk (p : List UInt8) : Prop := p ≠ [] ∧ ∀ q ∈ splitC 47 p, q ∈ namesL
theorem namesL_ok : ∀ n ∈ namesL, n ≠ [] ∧ (47 : UInt8) ∉ n ∧ (0 : UInt8) ∉ n ∧ n ≠ [46] ∧ n ≠ [46, 46] ∧ (91 : UInt8) ∉ n ∧ (42 : UInt8) ∉ n ∧ (63 : UInt8) ∉ n := by
  intro n hn
  simp only [namesL, List.mem_cons, List.mem_nil_iff, or_false] at hn
  rcases hn with rfl | rfl | rfl | rfl | rfl | rfl | rfl | rfl | rfl | rfl | rfl
  all_goals first | decide | (refine ⟨by simp, ?_, ?_, ?_, ?_, ?_, ?_, ?_⟩ <;> first | (rw [List.mem_replicate]; simp) | (intro h; have := congrArg List.length h; simp at this))
theorem names_mem (r : RawS) : namesL.getD (pick r.a 11).toNat [] ∈ namesL := by
  have h := pick_bd r.a 11 (by omega)
  rw [List.getD_eq_getElem?_getD, List.getElem?_eq_getElem (by rw [show namesL.length = 11 from rfl]; omega)]
  exact List.getElem_mem _
theorem growPath_ok {dirs : List (List UInt8)} (hd : ∀ d ∈ dirs, d = [] ∨ PartsOk d) (r : RawS) : PartsOk (growPath dirs r) := by
  have hn := names_mem r
  obtain ⟨n1, n2, _⟩ := namesL_ok _ hn
  unfold growPath
  generalize namesL.getD (pick r.a 11).toNat [] = n at *
  have hdd : dirs.getD (pick r.b dirs.length).toNat [] = [] ∨ PartsOk (dirs.getD (pick r.b dirs.length).toNat []) := by
    rw [List.getD_eq_getElem?_getD]
    rcases hq : dirs[(pick r.b dirs.length).toNat]? with _ | d
    · exact .inl rfl
    · exact hd d (List.mem_of_getElem? hq)
  generalize dirs.getD (pick r.b dirs.length).toNat [] = d at *
  unfold upS
  split
  · rw [List.nil_append]
    refine ⟨n1, fun q hq => ?_⟩
    rw [splitC_miss n2, List.mem_singleton] at hq
    rw [hq]; exact hn
  · next hne =>
    rcases hdd with h | ⟨_, h⟩
    · exact absurd h hne
    · rw [List.append_assoc, List.singleton_append]
      refine ⟨by simp, fun q hq => ?_⟩
      rw [splitC_append, splitC_miss n2] at hq
      rcases List.mem_append.1 hq with hq | hq
      · exact h q hq
      · rw [List.mem_singleton] at hq
        rw [hq]; exact hn
structure GrowPOk (s : TreeS) : Prop where
  paths : ∀ x ∈ s.t, PartsOk x.path
  dirs : ∀ d ∈ s.dirs, d = [] ∨ PartsOk d
theorem growPOk_step {most : Nat} {s : TreeS} (h : GrowPOk s) (r : RawS) : GrowPOk (growStep most s r) := by
  unfold growStep
  split
  · exact h
  · split
    · exact h
    · obtain ⟨j, y, n, ds, e, hn, hds, hy⟩ := growKind_form s r (growPath s.dirs r) (pick r.kind 7).toNat
      have hp := growPath_ok h.dirs r
      rw [e]
      have hm : (s.t.set j y ++ [n]).map (·.path) = s.t.map (·.path) ++ [growPath s.dirs r] := by rw [List.map_append, set_paths hy, List.map_cons, hn]; rfl
      refine ⟨fun x hx => ?_, fun d hd => ?_⟩
      · have hx2 : x.path ∈ (s.t.set j y ++ [n]).map (·.path) := List.mem_map_of_mem hx
        rw [hm] at hx2
        rcases List.mem_append.1 hx2 with a | a
        · obtain ⟨z, hz, ez⟩ := List.mem_map.1 a
          rw [← ez]; exact h.paths z hz
        · rw [List.mem_singleton] at a; rw [a]; exact hp
      · rcases List.mem_append.1 hd with hd | hd
        · exact h.dirs d hd
        · rcases hds with rfl | rfl
          · simp at hd
          · rw [List.mem_singleton] at hd; subst hd; exact .inr hp
theorem growPOk_all (most : Nat) : ∀ (l : List RawS) {s : TreeS}, GrowPOk s → GrowPOk (l.foldl (growStep most) s)
  | [], _, h => h
  | r :: l, _, h => growPOk_all most l (growPOk_step h r)
theorem treeP_parts (l : List RawS) (most : Nat) : ∀ x ∈ treeP l most, PartsOk x.path ∧ x.path.length ≤ 400 := fun x hx => by
  have hx2 := (treeP_perm l most).subset hx
  exact ⟨(growPOk_all most l (s := ⟨[], [[]]⟩) ⟨by simp, by simp⟩).paths x hx2, (growOk_all most l (growOk_start most)).path x hx2⟩
end
end Go.Proofs.YtpanjldionaaiaaGreatDoor
namespace Go.Proofs.YtpanjldionaaiaaGreatDoor
set_option linter.all false
section
open Go.RowKit
structure EntP where
  path : List UInt8
  kind : Int
  target : List UInt8
  mt : MetaP
  data : List UInt8
def entC (x : EntP) (dv : Value) : List Value := [.string (bs x.path), .int .i64 x.kind, .string (bs x.target), .int .i64 x.mt.mode, .int .i64 x.mt.uid, .int .i64 x.mt.gid, .string (bs x.mt.user), .string (bs x.mt.group), .int .i64 x.mt.second, .int .i64 x.mt.nano, dv]
end
section
open Go.RowKit
structure EntOk (x : EntP) : Prop where
  path : checkS x.path = 0 ∧ x.path.length ≤ 400
  mt : MetaOk x.mt
  kind : x.kind = 1 ∨ x.kind = 2 ∨ x.kind = 3 ∨ x.kind = 4
  data : x.data.length ≤ 2000 ∧ (x.kind ≠ 1 → x.data = [])
  none : (x.kind = 1 ∨ x.kind = 2) → x.target = []
  target : x.target.length ≤ 400 ∧ ((x.kind = 3 ∨ x.kind = 4) → x.target ≠ [] ∧ (0 : UInt8) ∉ x.target) ∧ (x.kind = 4 → checkS x.target = 0)
set_option maxRecDepth 100000 in
set_option maxHeartbeats 2000000 in
theorem PRight_ok (x : EntP) (h : EntOk x) (A : Option Addr) (c : Nat) (w : World) (hm : ML w) :
    Calls Tryz.prog 74 #[.agg (entC x (.slice A x.data.length c)).toArray] w fun e w' => e = .returned (.int .i64 0) ∧ Below w.heap.size w w' := by
  obtain ⟨path, kind, target, ⟨md, ud, gd, us, gr, sc, nn⟩, data⟩ := x
  obtain ⟨⟨p1, p2⟩, hmt, hk, ⟨d1, d2⟩, hn, ⟨t1, t2, t6⟩⟩ := h
  simp only at p1 p2 hmt hk d1 d2 hn t1 t2 t6
  have HP := Lib.hid (fun w hm => Check_any path w (by omega) hm)
  rw [p1] at HP
  have HM := Lib.hid (fun w => MCheck_ok _ hmt w)
  have HML : Hid (∀ w', Below w.heap.size w w' → ML w') := Lib.hid (fun w' hb => hm.below hb)
  unfold entC
  unfold metaCells at HM
  simp only at HM ⊢
  have z := bs_size target
  generalize bs path = bp at *
  generalize bs us = bu at *
  generalize bs gr = bg at *
  clear hmt p1 p2 hm
  obtain ⟨W0, hW0⟩ : ∃ W0, W0 = w.alloc (.cells #[.string bp, .int .i64 kind, .string (bs target), .int .i64 md, .int .i64 ud, .int .i64 gd, .string bu, .string bg, .int .i64 sc, .int .i64 nn, .slice A data.length c] 40) := ⟨_, rfl⟩
  have hB : Blk W0 w.heap.size 40 #[.string bp, .int .i64 kind, .string (bs target), .int .i64 md, .int .i64 ud, .int .i64 gd, .string bu, .string bg, .int .i64 sc, .int .i64 nn, .slice A data.length c] := by rw [hW0]; exact Blk.new w _ _
  have hb0 : Below w.heap.size w W0 := by rw [hW0]; exact (Below.refl _ w).alloc (Nat.le_refl _) _
  have HB := Lib.hid hB
  have HB0 := Lib.hid hb0
  clear hB hb0
  rcases hk with rfl | rfl | rfl | rfl
  · obtain rfl := hn (.inl rfl)
    clear hn t2 t6 d2 t1 z
    have HI := Lib.hid (fun w => IndexByte_nul [] w)
    rw [show Lib.indexByte [] 0 = -1 from rfl] at HI
    rw [show bs [] = ⟨#[]⟩ from rfl] at *
    go_enter Tryz.func74, Tryz.ntmps74
    go_upto_region 1 with fail
    rw [← hW0]
    have HW0 := Lib.hid hW0
    clear hW0
    have e0 := HB.out.cell 0
    have z0 := HB.out.frozen 0
    simp only [List.getElem?_toArray, List.getElem?_cons_zero] at e0
    go_wp2_with fail
    refine (HP.out _ (HML.out _ HB0.out)).mono ?_
    rintro e w1 ⟨rfl, hb1⟩
    have HB1 := Lib.hid (HB.out.below hb1 HB.out.lt)
    have HBW := Lib.hid (HB0.out.trans (hb1.mono HB0.out.size))
    clear e0 z0 hb1
    have e0 := HB1.out.cell 0
    have e1 := HB1.out.cell 1
    have e2 := HB1.out.cell 2
    have e3 := HB1.out.cell 3
    have e4 := HB1.out.cell 4
    have e5 := HB1.out.cell 5
    have e6 := HB1.out.cell 6
    have e7 := HB1.out.cell 7
    have e8 := HB1.out.cell 8
    have e9 := HB1.out.cell 9
    have e10 := HB1.out.cell 10
    have z0 := HB1.out.frozen 0
    have z1 := HB1.out.frozen 1
    have z2 := HB1.out.frozen 2
    have z3 := HB1.out.frozen 3
    have z4 := HB1.out.frozen 4
    have z5 := HB1.out.frozen 5
    have z6 := HB1.out.frozen 6
    have z7 := HB1.out.frozen 7
    have z8 := HB1.out.frozen 8
    have z9 := HB1.out.frozen 9
    have z10 := HB1.out.frozen 10
    simp only [List.getElem?_toArray, List.getElem?_cons_zero, List.getElem?_cons_succ] at e0 e1 e2 e3 e4 e5 e6 e7 e8 e9 e10
    go_wp2_with fail
    refine (HM.out _).mono ?_
    rintro e w2 ⟨rfl, hb2⟩
    have HB2 := Lib.hid (HB1.out.below hb2 HB1.out.lt)
    have HBX := Lib.hid (HBW.out.trans (hb2.mono HBW.out.size))
    clear e0 e1 e2 e3 e4 e5 e6 e7 e8 e9 e10 z0 z1 z2 z3 z4 z5 z6 z7 z8 z9 z10 hb2
    have e0 := HB2.out.cell 0
    have e1 := HB2.out.cell 1
    have e2 := HB2.out.cell 2
    have e3 := HB2.out.cell 3
    have e4 := HB2.out.cell 4
    have e5 := HB2.out.cell 5
    have e6 := HB2.out.cell 6
    have e7 := HB2.out.cell 7
    have e8 := HB2.out.cell 8
    have e9 := HB2.out.cell 9
    have e10 := HB2.out.cell 10
    have z0 := HB2.out.frozen 0
    have z1 := HB2.out.frozen 1
    have z2 := HB2.out.frozen 2
    have z3 := HB2.out.frozen 3
    have z4 := HB2.out.frozen 4
    have z5 := HB2.out.frozen 5
    have z6 := HB2.out.frozen 6
    have z7 := HB2.out.frozen 7
    have z8 := HB2.out.frozen 8
    have z9 := HB2.out.frozen 9
    have z10 := HB2.out.frozen 10
    simp only [List.getElem?_toArray, List.getElem?_cons_zero, List.getElem?_cons_succ] at e0 e1 e2 e3 e4 e5 e6 e7 e8 e9 e10
    go_wp2_with fail
    refine (HI.out _).mono ?_
    rintro e w' ⟨rfl, rfl⟩
    go_wp2_with fail
    go_ret
    exact ⟨rfl, HBX.out⟩
  · obtain rfl := hn (.inr rfl)
    obtain rfl := d2 (by omega)
    rw [List.length_nil] at HB hW0 ⊢
    clear hn t2 t6 d2 t1 z
    have HI := Lib.hid (fun w => IndexByte_nul [] w)
    rw [show Lib.indexByte [] 0 = -1 from rfl] at HI
    rw [show bs [] = ⟨#[]⟩ from rfl] at *
    go_enter Tryz.func74, Tryz.ntmps74
    go_upto_region 1 with fail
    rw [← hW0]
    have HW0 := Lib.hid hW0
    clear hW0
    have e0 := HB.out.cell 0
    have z0 := HB.out.frozen 0
    simp only [List.getElem?_toArray, List.getElem?_cons_zero] at e0
    go_wp2_with fail
    refine (HP.out _ (HML.out _ HB0.out)).mono ?_
    rintro e w1 ⟨rfl, hb1⟩
    have HB1 := Lib.hid (HB.out.below hb1 HB.out.lt)
    have HBW := Lib.hid (HB0.out.trans (hb1.mono HB0.out.size))
    clear e0 z0 hb1
    have e0 := HB1.out.cell 0
    have e1 := HB1.out.cell 1
    have e2 := HB1.out.cell 2
    have e3 := HB1.out.cell 3
    have e4 := HB1.out.cell 4
    have e5 := HB1.out.cell 5
    have e6 := HB1.out.cell 6
    have e7 := HB1.out.cell 7
    have e8 := HB1.out.cell 8
    have e9 := HB1.out.cell 9
    have e10 := HB1.out.cell 10
    have z0 := HB1.out.frozen 0
    have z1 := HB1.out.frozen 1
    have z2 := HB1.out.frozen 2
    have z3 := HB1.out.frozen 3
    have z4 := HB1.out.frozen 4
    have z5 := HB1.out.frozen 5
    have z6 := HB1.out.frozen 6
    have z7 := HB1.out.frozen 7
    have z8 := HB1.out.frozen 8
    have z9 := HB1.out.frozen 9
    have z10 := HB1.out.frozen 10
    simp only [List.getElem?_toArray, List.getElem?_cons_zero, List.getElem?_cons_succ] at e0 e1 e2 e3 e4 e5 e6 e7 e8 e9 e10
    go_wp2_with fail
    refine (HM.out _).mono ?_
    rintro e w2 ⟨rfl, hb2⟩
    have HB2 := Lib.hid (HB1.out.below hb2 HB1.out.lt)
    have HBX := Lib.hid (HBW.out.trans (hb2.mono HBW.out.size))
    clear e0 e1 e2 e3 e4 e5 e6 e7 e8 e9 e10 z0 z1 z2 z3 z4 z5 z6 z7 z8 z9 z10 hb2
    have e0 := HB2.out.cell 0
    have e1 := HB2.out.cell 1
    have e2 := HB2.out.cell 2
    have e3 := HB2.out.cell 3
    have e4 := HB2.out.cell 4
    have e5 := HB2.out.cell 5
    have e6 := HB2.out.cell 6
    have e7 := HB2.out.cell 7
    have e8 := HB2.out.cell 8
    have e9 := HB2.out.cell 9
    have e10 := HB2.out.cell 10
    have z0 := HB2.out.frozen 0
    have z1 := HB2.out.frozen 1
    have z2 := HB2.out.frozen 2
    have z3 := HB2.out.frozen 3
    have z4 := HB2.out.frozen 4
    have z5 := HB2.out.frozen 5
    have z6 := HB2.out.frozen 6
    have z7 := HB2.out.frozen 7
    have z8 := HB2.out.frozen 8
    have z9 := HB2.out.frozen 9
    have z10 := HB2.out.frozen 10
    simp only [List.getElem?_toArray, List.getElem?_cons_zero, List.getElem?_cons_succ] at e0 e1 e2 e3 e4 e5 e6 e7 e8 e9 e10
    go_wp2_with fail
    refine (HI.out _).mono ?_
    rintro e w' ⟨rfl, rfl⟩
    go_wp2_with fail
    go_ret
    exact ⟨rfl, HBX.out⟩
  · obtain ⟨t3, t4⟩ := t2 (.inl rfl)
    clear t6
    obtain rfl := d2 (by omega)
    rw [List.length_nil] at HB hW0 ⊢
    have t7 : (bs target).toList.isEmpty = false := by rw [bs_toList]; cases target with | nil => exact absurd rfl t3 | cons _ _ => rfl
    have t6 : target.length ≠ 0 := fun h => t3 (List.length_eq_zero_iff.1 h)
    have HI := Lib.hid (fun w => IndexByte_nul target w)
    rw [indexByte_not t4] at HI
    clear hn t2 d2 t3 t4
    generalize bs target = bt at *
    go_enter Tryz.func74, Tryz.ntmps74
    go_upto_region 1 with fail
    rw [← hW0]
    have HW0 := Lib.hid hW0
    clear hW0
    have e0 := HB.out.cell 0
    have z0 := HB.out.frozen 0
    simp only [List.getElem?_toArray, List.getElem?_cons_zero] at e0
    go_wp2_with fail
    refine (HP.out _ (HML.out _ HB0.out)).mono ?_
    rintro e w1 ⟨rfl, hb1⟩
    have HB1 := Lib.hid (HB.out.below hb1 HB.out.lt)
    have HBW := Lib.hid (HB0.out.trans (hb1.mono HB0.out.size))
    clear e0 z0 hb1
    have e0 := HB1.out.cell 0
    have e1 := HB1.out.cell 1
    have e2 := HB1.out.cell 2
    have e3 := HB1.out.cell 3
    have e4 := HB1.out.cell 4
    have e5 := HB1.out.cell 5
    have e6 := HB1.out.cell 6
    have e7 := HB1.out.cell 7
    have e8 := HB1.out.cell 8
    have e9 := HB1.out.cell 9
    have e10 := HB1.out.cell 10
    have z0 := HB1.out.frozen 0
    have z1 := HB1.out.frozen 1
    have z2 := HB1.out.frozen 2
    have z3 := HB1.out.frozen 3
    have z4 := HB1.out.frozen 4
    have z5 := HB1.out.frozen 5
    have z6 := HB1.out.frozen 6
    have z7 := HB1.out.frozen 7
    have z8 := HB1.out.frozen 8
    have z9 := HB1.out.frozen 9
    have z10 := HB1.out.frozen 10
    simp only [List.getElem?_toArray, List.getElem?_cons_zero, List.getElem?_cons_succ] at e0 e1 e2 e3 e4 e5 e6 e7 e8 e9 e10
    go_wp2_with fail
    refine (HM.out _).mono ?_
    rintro e w2 ⟨rfl, hb2⟩
    have HB2 := Lib.hid (HB1.out.below hb2 HB1.out.lt)
    have HBX := Lib.hid (HBW.out.trans (hb2.mono HBW.out.size))
    clear e0 e1 e2 e3 e4 e5 e6 e7 e8 e9 e10 z0 z1 z2 z3 z4 z5 z6 z7 z8 z9 z10 hb2
    have e0 := HB2.out.cell 0
    have e1 := HB2.out.cell 1
    have e2 := HB2.out.cell 2
    have e3 := HB2.out.cell 3
    have e4 := HB2.out.cell 4
    have e5 := HB2.out.cell 5
    have e6 := HB2.out.cell 6
    have e7 := HB2.out.cell 7
    have e8 := HB2.out.cell 8
    have e9 := HB2.out.cell 9
    have e10 := HB2.out.cell 10
    have z0 := HB2.out.frozen 0
    have z1 := HB2.out.frozen 1
    have z2 := HB2.out.frozen 2
    have z3 := HB2.out.frozen 3
    have z4 := HB2.out.frozen 4
    have z5 := HB2.out.frozen 5
    have z6 := HB2.out.frozen 6
    have z7 := HB2.out.frozen 7
    have z8 := HB2.out.frozen 8
    have z9 := HB2.out.frozen 9
    have z10 := HB2.out.frozen 10
    simp only [List.getElem?_toArray, List.getElem?_cons_zero, List.getElem?_cons_succ] at e0 e1 e2 e3 e4 e5 e6 e7 e8 e9 e10
    go_wp2_with fail
    refine (HI.out _).mono ?_
    rintro e w' ⟨rfl, rfl⟩
    go_wp2_with fail
    go_ret
    exact ⟨rfl, HBX.out⟩
  · obtain ⟨t3, t4⟩ := t2 (.inr rfl)
    have t5 := t6 rfl
    clear t6
    obtain rfl := d2 (by omega)
    rw [List.length_nil] at HB hW0 ⊢
    have t7 : (bs target).toList.isEmpty = false := by rw [bs_toList]; cases target with | nil => exact absurd rfl t3 | cons _ _ => rfl
    have t6 : target.length ≠ 0 := fun h => t3 (List.length_eq_zero_iff.1 h)
    have HT := Lib.hid (fun w hm => Check_any target w (by omega) hm)
    rw [t5] at HT
    clear hn t2 d2 t3 t4 t5
    generalize bs target = bt at *
    go_enter Tryz.func74, Tryz.ntmps74
    go_upto_region 1 with fail
    rw [← hW0]
    have HW0 := Lib.hid hW0
    clear hW0
    have e0 := HB.out.cell 0
    have z0 := HB.out.frozen 0
    simp only [List.getElem?_toArray, List.getElem?_cons_zero] at e0
    go_wp2_with fail
    refine (HP.out _ (HML.out _ HB0.out)).mono ?_
    rintro e w1 ⟨rfl, hb1⟩
    have HB1 := Lib.hid (HB.out.below hb1 HB.out.lt)
    have HBW := Lib.hid (HB0.out.trans (hb1.mono HB0.out.size))
    clear e0 z0 hb1
    have e0 := HB1.out.cell 0
    have e1 := HB1.out.cell 1
    have e2 := HB1.out.cell 2
    have e3 := HB1.out.cell 3
    have e4 := HB1.out.cell 4
    have e5 := HB1.out.cell 5
    have e6 := HB1.out.cell 6
    have e7 := HB1.out.cell 7
    have e8 := HB1.out.cell 8
    have e9 := HB1.out.cell 9
    have e10 := HB1.out.cell 10
    have z0 := HB1.out.frozen 0
    have z1 := HB1.out.frozen 1
    have z2 := HB1.out.frozen 2
    have z3 := HB1.out.frozen 3
    have z4 := HB1.out.frozen 4
    have z5 := HB1.out.frozen 5
    have z6 := HB1.out.frozen 6
    have z7 := HB1.out.frozen 7
    have z8 := HB1.out.frozen 8
    have z9 := HB1.out.frozen 9
    have z10 := HB1.out.frozen 10
    simp only [List.getElem?_toArray, List.getElem?_cons_zero, List.getElem?_cons_succ] at e0 e1 e2 e3 e4 e5 e6 e7 e8 e9 e10
    go_wp2_with fail
    refine (HM.out _).mono ?_
    rintro e w2 ⟨rfl, hb2⟩
    have HB2 := Lib.hid (HB1.out.below hb2 HB1.out.lt)
    have HBX := Lib.hid (HBW.out.trans (hb2.mono HBW.out.size))
    clear e0 e1 e2 e3 e4 e5 e6 e7 e8 e9 e10 z0 z1 z2 z3 z4 z5 z6 z7 z8 z9 z10 hb2
    have e0 := HB2.out.cell 0
    have e1 := HB2.out.cell 1
    have e2 := HB2.out.cell 2
    have e3 := HB2.out.cell 3
    have e4 := HB2.out.cell 4
    have e5 := HB2.out.cell 5
    have e6 := HB2.out.cell 6
    have e7 := HB2.out.cell 7
    have e8 := HB2.out.cell 8
    have e9 := HB2.out.cell 9
    have e10 := HB2.out.cell 10
    have z0 := HB2.out.frozen 0
    have z1 := HB2.out.frozen 1
    have z2 := HB2.out.frozen 2
    have z3 := HB2.out.frozen 3
    have z4 := HB2.out.frozen 4
    have z5 := HB2.out.frozen 5
    have z6 := HB2.out.frozen 6
    have z7 := HB2.out.frozen 7
    have z8 := HB2.out.frozen 8
    have z9 := HB2.out.frozen 9
    have z10 := HB2.out.frozen 10
    simp only [List.getElem?_toArray, List.getElem?_cons_zero, List.getElem?_cons_succ] at e0 e1 e2 e3 e4 e5 e6 e7 e8 e9 e10
    go_wp2_with fail
    refine (HT.out _ (HML.out _ HBX.out)).mono ?_
    rintro e w3 ⟨rfl, hb3⟩
    have HBY := Lib.hid (HBX.out.trans (hb3.mono HBX.out.size))
    clear hb3
    go_wp2_with fail
    go_ret
    exact ⟨rfl, HBY.out⟩
end
end Go.Proofs.YtpanjldionaaiaaGreatDoor
