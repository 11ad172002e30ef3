/-
  slices.SortStableFunc over at most 39 nodes by path.Compare: a row of the call's own, sorted in place. Condition: paths of at most 400 bytes.
-/
import Derived.Test.YtpanjldionaaiaaDoorSymM
namespace Go.Proofs.YtpanjldionaaiaaDoor
set_option linter.all false
open Go.RowKit Go.Sort Go.Shelf Go.Lib
/-- an insertion sort over a part of a row -/
theorem InsA_any (B D g n cap : Nat) (hn : n ≤ 1000) (P X S : List NodeV) (a b : Nat) (ha : a = P.length) (hb : b = a + X.length) (w : World) (hm : ML w) (hg0 : 0 ≠ g) (h : NRow B D g n cap (P ++ (X ++ S)) w) :
    Calls Tryd.prog 55 #[.slice (some ⟨g, 0, none⟩) n cap, .int .i64 a, .int .i64 b, .func (.func 29) #[] #[]] w fun e w' =>
      e = .returned (.tuple #[]) ∧ (∃ Z : List NodeV, Z.Perm X ∧ SrtC cmN Z ∧ NRow B D g n cap (P ++ (Z ++ S)) w') ∧ w.grownBy w' (some g) := by
  have hyl := h.len
  have hd0 := h.data
  have hp := h.short
  obtain ⟨xs, hxs⟩ : ∃ xs, xs = P ++ (X ++ S) := ⟨_, rfl⟩
  rw [← hxs] at h hyl hd0 hp
  obtain ⟨h1, h2⟩ := h.own
  rcases h2 with ⟨e, _⟩ | ⟨g', cap', cur, hv, hbg, hg, hnc, hmx, hsz, htk⟩
  · cases e
  obtain ⟨hv1, -, hv3⟩ := Value.slice.inj hv
  have hv1 := congrArg Addr.block (Option.some.inj hv1)
  simp only at hv1
  subst hv1 hv3
  have hs : ∀ x ∈ xs, x.1.path.length ≤ 400 ∧ x.2.oneCell' = true := fun x hx2 => ⟨hp x hx2, by
    obtain ⟨A, c, e, _⟩ := hd0 x hx2
    rw [e]; rfl⟩
  obtain ⟨d, hd1⟩ : ∃ d : Array ShortN, d.toList.map (·.1) = xs := ⟨(xs.attach.map fun x => (⟨x.1, hs x.1 x.2⟩ : ShortN)).toArray, by
    rw [List.toList_toArray, List.map_map]
    exact List.attach_map_subtype_val xs⟩
  have hds : d.size = n := by rw [← hyl, ← hd1, List.length_map, Array.length_toList]
  have hbn : b ≤ n := by rw [← hyl, hxs]; simp only [List.length_append]; omega
  have hH : HoldsK shortC 12 w g 0 d := holds_nodes hg (by rw [hds, hd1]; exact htk)
  have hcon := AnyQ.insertionSortCmpFunc { Tryd.laysSortNode with } 12 Tryd.isAgg40 Tryd.sizeOf40 shortC (fun _ => rfl) short_one pathCmp 29 #[] g 0 cap a b d w eg_lessA (lessA_lays g d.size w hm hg0) hH (heap_lt hg) (by omega) (by omega) (by omega)
  rw [hds] at hcon
  refine hcon.mono ?_
  rintro e w' ⟨rfl, n', os, rfl⟩
  obtain ⟨⟨p1, p0, p2⟩, hso⟩ := insertionSort_holds (lt := ltOf pathCmp) path_swo d a b (by omega) (by omega)
  generalize insertionSort (ltOf pathCmp) d a b = d' at *
  have hds' : d'.size = n := by rw [p1, hds]
  have hgr := grownBy_sortedK (w := w) (g := g) (n := n') (os := os) d'
  have e0 : d'.toList.map (·.1) = P ++ ((((d'.extract a b).toList).map (·.1)) ++ S) := by
    have hsplit : ∀ z : Array ShortN, z.size = n → z.toList = (z.toList.take a) ++ ((z.extract a b).toList ++ z.toList.drop b) := fun z hz => by
      rw [Array.toList_extract, List.extract_eq_drop_take]
      have e : z.toList.drop b = (z.toList.drop a).drop (b - a) := by rw [List.drop_drop]; congr 1; omega
      rw [e, List.take_append_drop, List.take_append_drop]
    have hget : ∀ i, (i < a ∨ b ≤ i) → d'.toList[i]? = d.toList[i]? := fun i hi => by
      rcases Nat.lt_or_ge i n with hlt | hge
      · have := p0 i (by omega)
        rw [getElem!_pos d' i (by omega), getElem!_pos d i (by omega)] at this
        rw [Array.getElem?_toList, Array.getElem?_toList, Array.getElem?_eq_getElem (by omega), Array.getElem?_eq_getElem (by omega), this]
      · rw [List.getElem?_eq_none (by rw [Array.length_toList]; omega), List.getElem?_eq_none (by rw [Array.length_toList]; omega)]
    have ht : d'.toList.take a = d.toList.take a := List.ext_getElem? fun i => by
      rw [List.getElem?_take, List.getElem?_take]
      split
      · exact hget i (.inl (by omega))
      · rfl
    have hdr : d'.toList.drop b = d.toList.drop b := List.ext_getElem? fun i => by
      rw [List.getElem?_drop, List.getElem?_drop]
      exact hget _ (.inr (by omega))
    rw [hsplit d' hds', ht, hdr]
    have f1 : (d.toList.take a).map (·.1) = P := by rw [List.map_take, hd1, hxs, ha, List.take_left]
    have f2 : (d.toList.drop b).map (·.1) = S := by
      rw [List.map_drop, hd1, hxs, hb, ha, ← List.append_assoc, ← List.length_append, List.drop_left]
    rw [List.map_append, List.map_append, f1, f2]
  have e1 : ((d.extract a b).toList).map (·.1) = X := by
    rw [Array.toList_extract, List.extract_eq_drop_take, List.map_take, List.map_drop, hd1, hxs, hb, ha, List.drop_left, Nat.add_sub_cancel_left, List.take_left]
  have hperm : (((d'.extract a b).toList).map (·.1)).Perm X := by
    rw [← e1]
    exact p2.map _
  have hmem : ∀ y ∈ d'.toList.map (·.1), y ∈ xs := fun y hy => by
    rw [e0] at hy
    rw [hxs]
    simp only [List.mem_append] at hy ⊢
    rcases hy with h | h | h
    · exact .inl h
    · exact .inr (.inl (hperm.subset h))
    · exact .inr (.inr h)
  refine ⟨rfl, ⟨_, hperm, ?_, ?_⟩, hgr⟩
  · unfold SrtC
    rw [List.pairwise_iff_getElem]
    intro i j hi hj hij
    simp only [List.length_map, Array.length_toList, Array.size_extract] at hi hj
    have hq := hso (a + i) (a + j) (by omega) (by omega) (by omega)
    rw [getElem!_pos d' (a + j) (by omega), getElem!_pos d' (a + i) (by omega), lt_path] at hq
    simp only [decide_eq_false_iff_not, Int.not_lt] at hq
    have a1 : cmpP d'[a + j].1.1.path d'[a + i].1.1.path = -cmpP d'[a + i].1.1.path d'[a + j].1.1.path := cmpL_neg _ _
    simp only [List.getElem_map, Array.getElem_toList, Array.getElem_extract]
    unfold cmN
    omega
  · rw [← e0]
    refine ⟨⟨by rw [flat_length nodeC_length, List.length_map, Array.length_toList, hds'], .inr ⟨g, cap, _, rfl, hbg, heap_sortedK d' hg, hnc, hmx, by simp [putCells, hsz], ?_⟩⟩, by rw [List.length_map, Array.length_toList, hds'], fun y hy => ?_, fun y hy => hp y (hmem y hy)⟩
    · have := take_flatK cur d' (by rw [hds', hsz]; exact Nat.mul_le_mul_right _ hnc)
      rw [hds'] at this
      exact this
    · refine (hd0 y (hmem y hy)).kept (U8Kept.grown hgr (fun k hk => ?_))
      cases hk
      exact ⟨cur, _, _, hg, by decide⟩
def Sorted2 (B D g n cap : Nat) (d : List NodeV) (W : World) : Prop := ∃ d' : List NodeV, d'.Perm d ∧ SrtC cmN d' ∧ NRow B D g n cap d' W
set_option maxRecDepth 100000 in
set_option maxHeartbeats 4000000 in
theorem StableA_any (B D g n cap : Nat) (hn : n ≤ 39) (d : List NodeV) (w : World) (hm : ∀ W, w.grownBy W (some g) → ML W) (hg0 : 0 ≠ g) (h : NRow B D g n cap d w) :
    Calls Tryd.prog 48 #[.slice (some ⟨g, 0, none⟩) n cap, .int .i64 n, .func (.func 29) #[] #[]] w fun e w' => e = .returned (.tuple #[]) ∧ Sorted2 B D g n cap d w' ∧ w.grownBy w' (some g) := by
  have hl := h.len
  by_cases h20 : n < 20
  · have HI : Hid (Calls Tryd.prog 55 #[.slice (some ⟨g, 0, none⟩) n cap, .int .i64 0, .int .i64 n, .func (.func 29) #[] #[]] w fun e w' => e = .returned (.tuple #[]) ∧ Sorted2 B D g n cap d w' ∧ w.grownBy w' (some g)) := Lib.hid ((InsA_any B D g n cap (by omega) [] d [] 0 n rfl (by omega) w (hm w (World.grownBy.refl _ _)) hg0 (by simpa using h)).mono fun e w' ⟨e1, ⟨Z, e2, e3, e4⟩, e5⟩ => ⟨e1, ⟨Z, e2, e3, by simpa using e4⟩, e5⟩)
    have t1 : ¬ (20 : Int) ≤ (n : Int) := by omega
    have t2 : decide ((20 : Int) ≤ (n : Int)) = false := decide_eq_false t1
    have t3 : ¬ (20 : Int) < (n : Int) := by omega
    clear hm hg0 h hl h20 hn
    go_enter Tryd.func48, Tryd.ntmps48
    go_wp2_with fail
    refine wp_loop_rounds 1 ?_
    rw [rounds_succ]
    go_wp2_with fail
    refine HI.out.mono ?_
    rintro e w1 ⟨rfl, hz⟩
    have HZ := Lib.hid hz
    clear hz HI
    go_wp2_with fail
    refine wp_loop_rounds 1 ?_
    rw [rounds_succ]
    go_wp2_with fail
    go_end0
    exact ⟨rfl, HZ.out⟩
  · have e20 : d = d.take 20 ++ d.drop 20 := (List.take_append_drop _ _).symm
    have l1 : (d.take 20).length = 20 := by rw [List.length_take]; omega
    have l2 : (d.drop 20).length = n - 20 := by rw [List.length_drop]; omega
    generalize d.take 20 = X at *
    generalize d.drop 20 = Y at *
    have HI1 : Hid (Calls Tryd.prog 55 #[.slice (some ⟨g, 0, none⟩) n cap, .int .i64 0, .int .i64 20, .func (.func 29) #[] #[]] w fun e w' => e = .returned (.tuple #[]) ∧ (∃ X', X'.Perm X ∧ SrtC cmN X' ∧ NRow B D g n cap (X' ++ Y) w') ∧ w.grownBy w' (some g)) := Lib.hid ((InsA_any B D g n cap (by omega) [] X Y 0 20 rfl (by omega) w (hm w (World.grownBy.refl _ _)) hg0 (by rw [List.nil_append, ← e20]; exact h)).mono fun e w' ⟨e1, ⟨Z, e2, e3, e4⟩, e5⟩ => ⟨e1, ⟨Z, e2, e3, by simpa using e4⟩, e5⟩)
    have HI2 : Hid (∀ W, ((∃ X', X'.Perm X ∧ SrtC cmN X' ∧ NRow B D g n cap (X' ++ Y) W) ∧ w.grownBy W (some g)) → Calls Tryd.prog 55 #[.slice (some ⟨g, 0, none⟩) n cap, .int .i64 20, .int .i64 n, .func (.func 29) #[] #[]] W fun e w' => e = .returned (.tuple #[]) ∧ (∃ X' Y', X'.Perm X ∧ SrtC cmN X' ∧ Y'.Perm Y ∧ SrtC cmN Y' ∧ NRow B D g n cap (X' ++ Y') w') ∧ w.grownBy w' (some g)) := Lib.hid (fun W ⟨⟨X', p1, s1, r1⟩, hg⟩ => by
      have := p1.length_eq
      exact (InsA_any B D g n cap (by omega) X' Y [] 20 n (by omega) (by omega) W (hm W hg) hg0 (by simpa using r1)).mono fun e w' ⟨e1, ⟨Z, e2, e3, e4⟩, e5⟩ => ⟨e1, ⟨X', Z, p1, s1, e2, e3, by simpa using e4⟩, hg.trans e5⟩)
    have HSY : Hid (∀ W, ((∃ X' Y', X'.Perm X ∧ SrtC cmN X' ∧ Y'.Perm Y ∧ SrtC cmN Y' ∧ NRow B D g n cap (X' ++ Y') W) ∧ w.grownBy W (some g)) → 20 < n → Calls Tryd.prog 71 #[.slice (some ⟨g, 0, none⟩) n cap, .int .i64 0, .int .i64 20, .int .i64 n, .func (.func 29) #[] #[]] W fun e w' => e = .returned (.tuple #[]) ∧ Sorted2 B D g n cap d w' ∧ w.grownBy w' (some g)) := Lib.hid (fun W ⟨⟨X', Y', p1, s1, p2, s2, r1⟩, hg⟩ hlt => by
      have q1 := p1.length_eq
      have q2 := p2.length_eq
      refine (SymM_all B D g n cap (by omega) 1000 [] X' Y' [] 0 20 n W rfl (by omega) (by omega) (by omega) (fun e => by rw [e] at q1; simp at q1; omega) (fun e => by rw [e] at q2; simp at q2; omega) s1 s2 (by simpa using r1) (ml_row hm hg)).mono fun e w' ⟨e1, d', ⟨Z, hZ, z1, z2⟩, e3, e4⟩ => ⟨e1, ⟨d', ?_, ?_, e3⟩, hg.trans e4⟩
      · rw [hZ, e20]; simpa using z1.trans (p1.append p2)
      · rw [hZ]; simpa using z2)
    have HEQ : Hid (∀ W, (∃ X' Y', X'.Perm X ∧ SrtC cmN X' ∧ Y'.Perm Y ∧ SrtC cmN Y' ∧ NRow B D g n cap (X' ++ Y') W) → n = 20 → Sorted2 B D g n cap d W) := Lib.hid (fun W ⟨X', Y', p1, s1, p2, s2, r1⟩ e => by
      have q2 := p2.length_eq
      obtain rfl := List.eq_nil_of_length_eq_zero (show Y'.length = 0 by omega)
      obtain rfl := List.eq_nil_of_length_eq_zero (show Y.length = 0 by omega)
      exact ⟨X', by rw [e20]; simpa using p1, s1, by simpa using r1⟩)
    clear hm hg0 h hl l1 l2 e20
    have t1 : (20 : Int) ≤ (n : Int) := by omega
    have t2 : decide ((20 : Int) ≤ (n : Int)) = true := decide_eq_true t1
    have t3 : ¬ (40 : Int) ≤ (n : Int) := by omega
    have t4 : decide ((40 : Int) ≤ (n : Int)) = false := decide_eq_false t3
    have t5 : ¬ (40 : Int) < (n : Int) := by omega
    have t6 : decide ((40 : Int) < (n : Int)) = false := decide_eq_false t5
    by_cases h21 : 20 < n
    · have t7 : (20 : Int) < (n : Int) := by omega
      have t8 : decide ((20 : Int) < (n : Int)) = true := decide_eq_true t7
      clear HEQ hn h20
      go_enter Tryd.func48, Tryd.ntmps48
      go_wp2_with fail
      refine wp_loop_rounds 2 ?_
      rw [rounds_succ]
      go_wp2_with fail
      refine HI1.out.mono ?_
      rintro e w1 ⟨rfl, hz⟩
      have HZ1 := Lib.hid hz
      clear hz HI1
      go_wp2_with fail
      rw [rounds_succ]
      go_wp2_with fail
      refine (HI2.out _ HZ1.out).mono ?_
      rintro e w2 ⟨rfl, hz⟩
      have HZ2 := Lib.hid hz
      clear hz HI2 HZ1
      go_wp2_with fail
      refine wp_loop_rounds 2 ?_
      rw [rounds_succ]
      go_wp2_with fail
      refine wp_loop_rounds 1 ?_
      rw [rounds_succ]
      go_wp2_with fail
      refine (HSY.out _ HZ2.out h21).mono ?_
      rintro e w3 ⟨rfl, hz⟩
      have HZ3 := Lib.hid hz
      clear hz HSY HZ2
      go_wp2_with fail
      rw [rounds_succ]
      go_wp2_with fail
      go_end0
      exact ⟨rfl, HZ3.out⟩
    · have t7 : ¬ (20 : Int) < (n : Int) := by omega
      have t8 : decide ((20 : Int) < (n : Int)) = false := decide_eq_false t7
      have HN := Lib.hid (show n = 20 by omega)
      clear HSY hn h20 h21
      go_enter Tryd.func48, Tryd.ntmps48
      go_wp2_with fail
      refine wp_loop_rounds 2 ?_
      rw [rounds_succ]
      go_wp2_with fail
      refine HI1.out.mono ?_
      rintro e w1 ⟨rfl, hz⟩
      have HZ1 := Lib.hid hz
      clear hz HI1
      go_wp2_with fail
      rw [rounds_succ]
      go_wp2_with fail
      refine (HI2.out _ HZ1.out).mono ?_
      rintro e w2 ⟨rfl, hz⟩
      have HZ2 := Lib.hid hz
      clear hz HI2 HZ1
      go_wp2_with fail
      refine wp_loop_rounds 1 ?_
      rw [rounds_succ]
      go_wp2_with fail
      go_end0
      exact ⟨rfl, HEQ.out _ HZ2.out.1 HN.out, HZ2.out.2⟩
set_option maxHeartbeats 2000000 in
theorem SortA_any (B D g n cap : Nat) (hn : n ≤ 39) (d : List NodeV) (w : World) (hm : ∀ W, w.grownBy W (some g) → ML W) (hg0 : 0 ≠ g) (h : NRow B D g n cap d w) :
    Calls Tryd.prog 28 #[.slice (some ⟨g, 0, none⟩) n cap, .func (.func 29) #[] #[]] w fun e w' => e = .returned (.tuple #[]) ∧ Sorted2 B D g n cap d w' ∧ w.grownBy w' (some g) := by
  have H1 := Lib.hid (StableA_any B D g n cap hn d w hm hg0 h)
  clear hm hg0 h
  go_enter Tryd.func28, Tryd.ntmps28
  go_wp2_with fail
  refine H1.out.mono ?_
  rintro e w1 ⟨rfl, h1⟩
  have H := Lib.hid h1
  clear h1 H1
  go_wp2_with fail
  go_end0
  exact ⟨rfl, H.out⟩
end Go.Proofs.YtpanjldionaaiaaDoor
