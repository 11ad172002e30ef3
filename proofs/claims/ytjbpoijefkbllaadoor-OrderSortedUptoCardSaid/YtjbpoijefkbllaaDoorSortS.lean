/-
  slices.SortStableFunc over at most 20 nodes by path.Compare: a row of the call's own, sorted in place. Condition: paths of at most 400 bytes.
-/
import Derived.Test.YtjbpoijefkbllaaDoorSortN
namespace Go.Proofs.YtjbpoijefkbllaaDoor
open Go.RowKit Go.Sort Go.Shelf Go.Lib

theorem Parts_grow (l : List UInt8) (w : World) (hs : l.length < 4294967281) (hm : ML w) :
    Calls Tryd.prog 45 #[.string (bs l)] w fun e w' => ∃ v, e = .returned v ∧ StrsAt w' w'.heap.size v (partsS l) ∧ ∃ os, w' = grow w os := by
  by_cases h : l = []
  · have fin := Lib.hid (show partsS l = [] from if_pos h)
    subst h
    have t0 : (bs []).toList = [] := bs_toList []
    go_enter Tryd.func45, Tryd.ntmps45
    go_wp2_with fail
    go_ret
    exact ⟨_, rfl, by rw [fin.out]; exact StrsAt.nil _ _, #[], (grow_empty _).symm⟩
  · have fin := Lib.hid (show partsS l = splitC 47 l from if_neg h)
    have t0 : ¬ (bs l).toList = [] := by rw [bs_toList]; exact h
    have t1 : (bs l).toList.isEmpty = false := by rw [bs_toList]; cases l <;> simp at h ⊢
    go_enter Tryd.func45, Tryd.ntmps45
    go_wp2_with fail
    refine (split_grow l _ hs hm).mono ?_
    rintro e w1 ⟨v, rfl, hv, os, rfl⟩
    go_wp2_with fail
    go_ret
    exact ⟨_, rfl, by rw [fin.out]; exact hv, os, rfl⟩
theorem Compare_grow (a b : List UInt8) (w : World) (ha : a.length < 4294967281) (hb : b.length < 4294967281) (hm : ML w) :
    Calls Tryd.prog 52 #[.string (bs a), .string (bs b)] w fun e w' => e = .returned (.int .i64 (cmpP a b)) ∧ ∃ os, w' = grow w os := by
  have HA := Lib.hid (fun w hm => Parts_grow a w ha hm)
  have HB := Lib.hid (fun w hm => Parts_grow b w hb hm)
  have HM := Lib.hid (fun os => hm.below (below_grow w os))
  have HM0 := Lib.hid hm
  clear hm ha hb
  go_enter Tryd.func52, Tryd.ntmps52
  go_wp2_with fail
  refine (HA.out _ HM0.out).mono ?_
  rintro e w1 ⟨v1, rfl, h1, os1, rfl⟩
  have H1 := Lib.hid h1
  clear h1
  go_wp2_with fail
  refine (HB.out _ (HM.out os1)).mono ?_
  rintro e w2 ⟨v2, rfl, h2, os2, rfl⟩
  have H2 := Lib.hid h2
  clear h2
  go_wp2_with fail
  refine (CompareS_any v1 v2 (partsS a) (partsS b) (grow (grow w os1) os2).heap.size _ ((H1.out.below (below_grow _ os2)).more (by simp [grow])) H2.out).mono ?_
  rintro e w3 ⟨rfl, rfl⟩
  go_wp2_with fail
  go_ret
  exact ⟨rfl, os1 ++ os2, grow_grow _ _ _⟩
/-- the closure over two nodes -/
theorem lessP_grow (x y : NodeV) (w : World) (ha : x.1.path.length < 4294967281) (hb : y.1.path.length < 4294967281) (hm : ML w) :
    Calls Tryd.prog 51 #[.agg (nodeC x).toArray, .agg (nodeC y).toArray] w fun e w' => e = .returned (.int .i64 (cmpP x.1.path y.1.path)) ∧ ∃ q os, w' = grow (w.drewN q) os := by
  obtain ⟨⟨p, k, s, t, ⟨m1, m2, m3, m4, m5, m6, m7⟩, d⟩, dv⟩ := x
  obtain ⟨⟨p', k', s', t', ⟨n1, n2, n3, n4, n5, n6, n7⟩, d'⟩, dv'⟩ := y
  simp only at ha hb
  have HL := Lib.hid (fun w hm => Compare_grow p p' w ha hb hm)
  have HM := Lib.hid (fun o1 o2 => (hm.grow #[o1]).grow #[o2])
  clear ha hb hm
  unfold nodeC
  simp only
  generalize cmpP p p' = c at *
  generalize bs p = bp at *
  generalize bs p' = bp' at *
  go_enter Tryd.func51, Tryd.ntmps51
  go_wp2_with fail
  rw [alloc_eq_grow, alloc_eq_grow]
  refine (HL.out _ (HM.out _ _)).mono ?_
  rintro e w1 ⟨rfl, os, rfl⟩
  go_wp2_with fail
  go_ret
  exact ⟨rfl, 0, _, (grow_grow _ _ _).trans (grow_grow _ _ _)⟩
def pathCmp (x y : ShortN) : Int := cmpP x.1.1.path y.1.1.path
theorem lt_path (x y : ShortN) : ltOf pathCmp x y = decide (cmpP x.1.1.path y.1.1.path < 0) := rfl
theorem path_swo : SWO (ltOf pathCmp) where
  irrefl x := by rw [lt_path, show cmpP x.1.1.path x.1.1.path = 0 from cmpL_self _]; rfl
  trans x y z h1 h2 := by
    rw [lt_path] at *
    simp only [decide_eq_true_eq] at *
    have h3 : cmpP x.1.1.path z.1.1.path ≤ 0 := cmpL_le _ (partsS y.1.1.path) _ (show cmpP x.1.1.path y.1.1.path ≤ 0 by omega) (show cmpP y.1.1.path z.1.1.path ≤ 0 by omega)
    rcases Int.lt_or_eq_of_le h3 with h | h
    · exact h
    · have e : partsS x.1.1.path = partsS z.1.1.path := cmpL_zero h
      have a1 : cmpP y.1.1.path x.1.1.path = -cmpP x.1.1.path y.1.1.path := cmpL_neg _ _
      have a2 : cmpP y.1.1.path x.1.1.path = cmpP y.1.1.path z.1.1.path := by unfold cmpP; rw [e]
      omega
  ntrans x y z h1 h2 := by
    rw [lt_path] at *
    simp only [decide_eq_false_iff_not, Int.not_lt] at *
    have a1 : cmpP y.1.1.path x.1.1.path = -cmpP x.1.1.path y.1.1.path := cmpL_neg _ _
    have a2 : cmpP z.1.1.path y.1.1.path = -cmpP y.1.1.path z.1.1.path := cmpL_neg _ _
    have a3 : cmpP z.1.1.path x.1.1.path = -cmpP x.1.1.path z.1.1.path := cmpL_neg _ _
    have : cmpP z.1.1.path x.1.1.path ≤ 0 := cmpL_le _ (partsS y.1.1.path) _ (show cmpP z.1.1.path y.1.1.path ≤ 0 by omega) (show cmpP y.1.1.path x.1.1.path ≤ 0 by omega)
    omega
theorem lessP_lays (g size : Nat) (w : World) (hm : ML w) (hg : 0 ≠ g) : CmpLays Tryd.prog 51 #[] shortC 12 pathCmp g 0 size w :=
  fun m os dk _ x y => lessP_grow x.1 y.1 _ (by have := x.2.1; omega) (by have := y.2.1; omega) (hm.sorted hg)
theorem eg_lessP : ∀ args w, (callFunc 51 args).run Tryd.prog w = .ok (.enter 51 args) w := enters_of Tryd.func51 (by kernel_rfl) rfl
/-- an insertion sort: over all, or over nothing -/
theorem Ins_any (v : Value) (l : List NodeP) (base a b : Nat) (w : World) (hm : ML w) (hbase : 0 < base) (h : NodesOwn w base v l) (hp : ∀ x ∈ l, x.path.length ≤ 400) (hlen : l.length ≤ 1000000) (hab : a ≤ b) (hbl : b ≤ l.length) (hc : (a = 0 ∧ b = l.length) ∨ a = b) :
    Calls Tryd.prog 113 #[v, .int .i64 a, .int .i64 b, .func (.func 51) #[] #[]] w fun e w' =>
      e = .returned (.tuple #[]) ∧ (∃ m : List NodeP, m.Perm l ∧ (a = 0 → b = l.length → m.Pairwise (fun x y => cmpP x.path y.path ≤ 0)) ∧ (a = b → m = l) ∧ NodesOwn w' base v m) ∧ w.grownBy w' v.ownBlock := by
  obtain ⟨xs, hx, hown, hd⟩ := h
  obtain ⟨h1, h2⟩ := hown
  rcases h2 with ⟨rfl, h0⟩ | ⟨g, cap, cur, rfl, hb, hg, hn, hmx, hsz, htk⟩
  · obtain rfl : l = [] := List.eq_nil_of_length_eq_zero h0
    simp only [List.length_nil] at hbl
    obtain rfl : b = 0 := by omega
    obtain rfl : a = 0 := by omega
    have fin : Hid (NodesOwn w base (.slice none 0 0) []) := Lib.hid ⟨[], rfl, ⟨by simp, .inl ⟨rfl, rfl⟩⟩, by simp⟩
    clear hp hx hd h1 h0 hc hab hbl hlen hm hbase
    go_enter Tryd.func113, Tryd.ntmps113
    go_wp2_with fail
    refine wp_loop_rounds 1 ?_
    rw [rounds_succ]
    go_wp2_with fail
    go_end0
    exact ⟨rfl, ⟨[], List.Perm.refl _, fun _ _ => List.Pairwise.nil, fun _ => rfl, fin.out⟩, World.grownBy.refl _ _⟩
  · have hs : ∀ x ∈ xs, x.1.path.length ≤ 400 ∧ x.2.oneCell' = true := fun x hx2 => ⟨hp x.1 (by rw [← hx]; exact List.mem_map_of_mem hx2), by
      obtain ⟨A, c, e, _⟩ := hd x hx2
      rw [e]; rfl⟩
    have hxl : xs.length = l.length := by rw [← hx, List.length_map]
    obtain ⟨d, hd1⟩ : ∃ d : Array ShortN, d.toList.map (·.1) = xs := ⟨(xs.attach.map fun x => (⟨x.1, hs x.1 x.2⟩ : ShortN)).toArray, by
      rw [List.toList_toArray, List.map_map]
      exact List.attach_map_subtype_val xs⟩
    have hds : d.size = l.length := by rw [← hxl, ← hd1, List.length_map, Array.length_toList]
    have hne : 0 ≠ g := by omega
    have hH : HoldsK shortC 12 w g 0 d := holds_nodes hg (by rw [hds, hd1]; exact htk)
    have hcon := AnyQ.insertionSortCmpFunc { Tryd.laysSortNode with } 12 Tryd.isAgg31 Tryd.sizeOf31 shortC (fun _ => rfl) short_one pathCmp 51 #[] g 0 cap a b d w eg_lessP (lessP_lays g d.size w hm hne) hH (heap_lt hg) hab (by omega) (by omega)
    rw [hds] at hcon
    refine hcon.mono ?_
    rintro e w' ⟨rfl, n, os, rfl⟩
    obtain ⟨⟨p1, p0, p2⟩, hso⟩ := insertionSort_holds (lt := ltOf pathCmp) path_swo d a b hab (by omega)
    generalize insertionSort (ltOf pathCmp) d a b = d' at *
    have hds' : d'.size = l.length := by rw [p1, hds]
    have hsame : a = b → d' = d := fun e => by
      subst e
      refine Array.ext p1 fun i h1 h2 => ?_
      have := p0 i (by omega)
      rw [getElem!_pos d' i h1, getElem!_pos d i h2] at this
      exact this
    have p3 : d'.toList.Perm d.toList := by
      rcases hc with ⟨rfl, rfl⟩ | e
      · have e1 : d'.extract 0 l.length = d' := by rw [← hds, ← p1]; simp
        have e2 : d.extract 0 l.length = d := by rw [← hds]; simp
        rw [e1, e2] at p2
        exact p2
      · rw [hsame e]
    have p4 : (d'.toList.map (·.1)).Perm xs := by rw [← hd1]; exact p3.map _
    have hgr := grownBy_sortedK (w := w) (g := g) (n := n) (os := os) d'
    refine ⟨rfl, ⟨(d'.toList.map (·.1)).map (·.1), ?_, ?_, ?_, d'.toList.map (·.1), rfl, ?_, ?_⟩, hgr⟩
    · have := p4.map (·.1)
      rw [hx] at this
      exact this
    · rintro rfl rfl
      rw [List.pairwise_iff_getElem]
      intro i j hi hj hij
      simp only [List.length_map, Array.length_toList] at hi hj
      have hq := hso i j (Nat.zero_le _) hij (by omega)
      rw [getElem!_pos d' j hj, getElem!_pos d' i hi, lt_path] at hq
      simp only [decide_eq_false_iff_not, Int.not_lt] at hq
      have a1 : cmpP d'[j].1.1.path d'[i].1.1.path = -cmpP d'[i].1.1.path d'[j].1.1.path := cmpL_neg _ _
      simp only [List.getElem_map, Array.getElem_toList]
      omega
    · intro e
      rw [hsame e, hd1, hx]
    · simp only [List.length_map, Array.length_toList, hds']
      refine ⟨by rw [flat_length nodeC_length, List.length_map, Array.length_toList, hds'], .inr ⟨g, cap, _, rfl, hb, heap_sortedK d' hg, hn, hmx, by simp [putCells, hsz], ?_⟩⟩
      have := take_flatK cur d' (by rw [hds', hsz]; exact Nat.mul_le_mul_right _ hn)
      rw [hds'] at this
      exact this
    · intro x hx2
      refine (hd x (p4.subset hx2)).kept (U8Kept.grown hgr (fun k hk => ?_))
      cases hk
      exact ⟨cur, _, _, hg, by decide⟩
set_option maxHeartbeats 2000000 in
theorem StableC_any (v : Value) (l : List NodeP) (base : Nat) (w : World) (hm : ∀ W, w.grownBy W v.ownBlock → ML W) (hbase : 0 < base) (h : NodesOwn w base v l) (hp : ∀ x ∈ l, x.path.length ≤ 400) (hlen : l.length ≤ 20) :
    Calls Tryd.prog 85 #[v, .int .i64 l.length, .func (.func 51) #[] #[]] w fun e w' =>
      e = .returned (.tuple #[]) ∧ (∃ m : List NodeP, m.Perm l ∧ m.Pairwise (fun x y => cmpP x.path y.path ≤ 0) ∧ NodesOwn w' base v m) ∧ w.grownBy w' v.ownBlock := by
  have H1 := Lib.hid (Ins_any v l base 0 l.length w (hm w (World.grownBy.refl _ _)) hbase h hp (by omega) (Nat.zero_le _) (Nat.le_refl _) (.inl ⟨rfl, rfl⟩))
  have HML := Lib.hid hm
  have HP := Lib.hid hp
  have HBS := Lib.hid hbase
  clear hm hp h hbase
  by_cases h20 : l.length = 20
  · rw [h20] at H1 ⊢
    have HL20 := Lib.hid h20
    clear h20 hlen
    go_enter Tryd.func85, Tryd.ntmps85
    go_wp2_with fail
    refine wp_loop_rounds 2 ?_
    rw [rounds_succ]
    go_wp2_with fail
    refine H1.out.mono ?_
    rintro e w1 ⟨rfl, ⟨m, hm1, hm2, -, hm3⟩, hg⟩
    have H2 := Lib.hid (Ins_any v m base 20 20 w1 (HML.out _ hg) HBS.out hm3 (fun x hx => HP.out x (hm1.subset hx)) (by rw [hm1.length_eq, HL20.out]; omega) (Nat.le_refl _) (by rw [hm1.length_eq, HL20.out]; omega) (.inr rfl))
    have HM1 := Lib.hid hm1
    have HM2 := Lib.hid (hm2 trivial trivial)
    have HG := Lib.hid hg
    clear hm1 hm2 hm3 hg H1
    go_wp2_with fail
    rw [rounds_succ]
    go_wp2_with fail
    refine H2.out.mono ?_
    rintro e w2 ⟨rfl, ⟨m2, -, -, hme, hm3⟩, hg⟩
    obtain rfl := hme trivial
    have HM3 := Lib.hid hm3
    have HG2 := Lib.hid (HG.out.trans hg)
    clear hme hm3 hg H2
    go_wp2_with fail
    refine wp_loop_rounds 1 ?_
    rw [rounds_succ]
    go_wp2_with fail
    go_end0
    exact ⟨rfl, ⟨_, HM1.out, HM2.out, HM3.out⟩, HG2.out⟩
  · obtain ⟨n, hn⟩ : ∃ n, n = l.length := ⟨_, rfl⟩
    rw [← hn] at H1 h20 hlen ⊢
    have HN := Lib.hid hn
    clear hn
    have hlt : n < 20 := by omega
    have hn0 : (0 : Int) ≤ (n : Int) := by omega
    have t1 : ¬ (20 : Int) ≤ (n : Int) := by omega
    have t2 : decide ((20 : Int) ≤ (n : Int)) = false := decide_eq_false t1
    have t3 : decide ((20 : Int) < (n : Int)) = false := by apply decide_eq_false; omega
    clear h20 hlen
    go_enter Tryd.func85, Tryd.ntmps85
    go_wp2_with fail
    refine wp_loop_rounds 1 ?_
    rw [rounds_succ]
    go_wp2_with fail
    refine H1.out.mono ?_
    rintro e w1 ⟨rfl, ⟨m, hm1, hm2, -, hm3⟩, hg⟩
    have HM1 := Lib.hid hm1
    have HM2 := Lib.hid (hm2 trivial trivial)
    have HM3 := Lib.hid hm3
    have HG := Lib.hid hg
    clear hm1 hm2 hm3 hg H1
    go_wp2_with fail
    refine wp_loop_rounds 1 ?_
    rw [rounds_succ]
    go_wp2_with fail
    go_end0
    exact ⟨rfl, ⟨_, HM1.out, HM2.out, HM3.out⟩, HG.out⟩
theorem SortS_any (v : Value) (l : List NodeP) (base : Nat) (w : World) (hm : ∀ W, w.grownBy W v.ownBlock → ML W) (hbase : 0 < base) (h : NodesOwn w base v l) (hp : ∀ x ∈ l, x.path.length ≤ 400) (hlen : l.length ≤ 20) :
    Calls Tryd.prog 50 #[v, .func (.func 51) #[] #[]] w fun e w' =>
      e = .returned (.tuple #[]) ∧ (∃ m : List NodeP, m.Perm l ∧ m.Pairwise (fun x y => cmpP x.path y.path ≤ 0) ∧ NodesOwn w' base v m) ∧ w.grownBy w' v.ownBlock := by
  have H1 := Lib.hid (StableC_any v l base w hm hbase h hp hlen)
  obtain ⟨xs, hx, hown, -⟩ := h
  obtain ⟨A, c, rfl, hc1, hc2, -⟩ := ownsRow_read hown
  unfold maxLen at hc2
  clear hm hbase hp hown hx
  go_enter Tryd.func50, Tryd.ntmps50
  go_wp2_with fail
  refine H1.out.mono ?_
  rintro e w1 ⟨rfl, h1⟩
  have H := Lib.hid h1
  clear h1 H1
  go_wp2_with fail
  go_end0
  exact ⟨rfl, H.out⟩
end Go.Proofs.YtjbpoijefkbllaaDoor
