/-
  creelkeep.Tree's small callees: names, less, the closure over two nodes. Condition: paths below 2^32.
-/
import Derived.Test.YtjglenhhgbokbaaDoorGrow
import Derived.Sort.Grow
namespace Go.Proofs.YtjglenhhgbokbaaDoor
open Go.RowKit Go.Sort

theorem split_grow (l : List UInt8) (w : World) (hs : l.length < 4294967281) (hm : ML w) :
    Calls Tryd.prog 77 #[.string (bs l), .string ⟨#[47]⟩] w fun e w' => ∃ v, e = .returned v ∧ StrsAt w' w'.heap.size v (splitC 47 l) ∧ ∃ os, w' = grow w os := by
  obtain ⟨m, hm⟩ := hm
  refine (Tryd.strings_Split (bs l) ⟨#[47]⟩ m w (by rw [bs_size]; exact hs) hm (by decide)).mono ?_
  rintro e w' ⟨rfl, rfl⟩
  have hk : Lib.countB (bs l) ⟨#[47]⟩ = Lib.countB (bs l) ⟨#[47]⟩ := rfl
  have hlen := Lib.splitB_all ⟨#[47]⟩ (by decide) 0 _ (bs l) hk
  have hdat := Lib.splitB_data ⟨#[47]⟩ 0 (Lib.countB (bs l) ⟨#[47]⟩) (bs l)
  have hsp : Lib.splitK [47] 0 (Lib.countB (bs l) ⟨#[47]⟩) l = splitC 47 l := by
    have := split_eq 47 l.length l (Nat.le_refl _)
    unfold Lib.split at this
    exact this
  rw [bs_data] at hdat
  have hdat := hdat.trans hsp
  generalize Lib.splitB ⟨#[47]⟩ 0 (Lib.countB (bs l) ⟨#[47]⟩) (bs l) = P at *
  have hP : P.map Value.string = (splitC 47 l).map fun s => Value.string (bs s) := by
    rw [← hdat, List.map_map]
    apply List.map_congr_left
    intro x _
    rfl
  have hl2 : (splitC 47 l).length = Lib.countB (bs l) ⟨#[47]⟩ + 1 := by rw [← hlen, ← hdat, List.length_map]
  have hl3 := splitC_length 47 l
  have ho : StrsOwn (w.alloc (.cells (P.map Value.string).toArray 9)) w.heap.size (.slice (some ⟨w.heap.size, 0, none⟩) (Lib.countB (bs l) ⟨#[47]⟩ + 1) (Lib.countB (bs l) ⟨#[47]⟩ + 1)) (splitC 47 l) := by
    refine ⟨_, _, by rw [hl2], Nat.le_refl _, by simp, by omega, by simp only [maxLen]; omega, fun j u hu => ?_⟩
    rw [hP, World.cell?_alloc_mark]
    simpa using hu
  exact ⟨_, rfl, ho.at_, _, alloc_eq_grow _ _⟩
theorem below_grow (w : World) (os : Array Obj) : Below w.heap.size w (grow w os) :=
  ⟨rfl, rfl, rfl, by simp [grow], fun k hk => heap_grow_old w os hk⟩
set_option maxHeartbeats 400000 in
theorem less_grow (a b : List UInt8) (w : World) (ha : a.length < 4294967281) (hb : b.length < 4294967281) (hm : ML w) :
    Calls Tryd.prog 40 #[.string (bs a), .string (bs b)] w fun e w' => e = .returned (.int .i64 (cmpS a b)) ∧ ∃ os, w' = grow w os := by
  have HA := Lib.hid (fun w hm => split_grow a w ha hm)
  have HB := Lib.hid (fun w hm => split_grow b w hb hm)
  have HM := Lib.hid (fun os => hm.below (below_grow w os))
  have HM0 := Lib.hid hm
  clear hm ha hb
  go_enter Tryd.func40, Tryd.ntmps40
  go_wp2_with fail
  refine (HA.out _ HM0.out).mono ?_
  rintro e w1 ⟨v1, rfl, h1, os1, rfl⟩
  have H1 := Lib.hid h1
  clear h1
  go_wp2_with fail
  refine (HB.out _ (HM.out os1)).mono ?_
  rintro e w2 ⟨v2, rfl, h2, os2, rfl⟩
  have H2 := Lib.hid h2
  clear h2
  go_wp2_with fail
  refine (CompareS_any v1 v2 (splitC 47 a) (splitC 47 b) (grow (grow w os1) os2).heap.size _ ((H1.out.below (below_grow _ os2)).more (by simp [grow])) H2.out).mono ?_
  rintro e w3 ⟨rfl, rfl⟩
  go_wp2_with fail
  go_ret
  exact ⟨rfl, os1 ++ os2, grow_grow _ _ _⟩
theorem ML.grow {w : World} (h : ML w) (os : Array Obj) : ML (grow w os) := h.below (below_grow w os)
set_option maxHeartbeats 400000 in
/-- the closure over two nodes -/
theorem lessN_grow (x y : NodeV) (w : World) (ha : x.1.path.length < 4294967281) (hb : y.1.path.length < 4294967281) (hm : ML w) :
    Calls Tryd.prog 39 #[.agg (nodeC x).toArray, .agg (nodeC y).toArray] w fun e w' => e = .returned (.int .i64 (cmpS x.1.path y.1.path)) ∧ ∃ q os, w' = grow (w.drewN q) os := by
  obtain ⟨⟨p, k, s, t, ⟨m1, m2, m3, m4, m5, m6, m7⟩, d⟩, dv⟩ := x
  obtain ⟨⟨p', k', s', t', ⟨n1, n2, n3, n4, n5, n6, n7⟩, d'⟩, dv'⟩ := y
  simp only at ha hb
  have HL := Lib.hid (fun w hm => less_grow p p' w ha hb hm)
  have HM := Lib.hid (fun o1 o2 => (hm.grow #[o1]).grow #[o2])
  clear ha hb hm
  unfold nodeC
  simp only
  generalize cmpS p p' = c at *
  generalize bs p = bp at *
  generalize bs p' = bp' at *
  go_enter Tryd.func39, Tryd.ntmps39
  go_wp2_with fail
  rw [alloc_eq_grow, alloc_eq_grow]
  refine (HL.out _ (HM.out _ _)).mono ?_
  rintro e w1 ⟨rfl, os, rfl⟩
  go_wp2_with fail
  go_ret
  exact ⟨rfl, 0, _, (grow_grow _ _ _).trans (grow_grow _ _ _)⟩

theorem namesL_length : namesL.length = 11 := rfl
set_option maxHeartbeats 400000 in
theorem names_any (w : World) :
    Calls Tryd.prog 33 #[] w fun e w' => ∃ v, e = .returned v ∧ StrsOwn w' w.heap.size v namesL ∧ Below w.heap.size w w' := by
  have H1 : Hid (∀ w, Calls Tryd.prog 35 #[.string ⟨#[110]⟩, .int .i64 60] w fun e w' => e = .returned (.string (bs (List.replicate 60 110))) ∧ Below w.heap.size w w') := Lib.hid (fun w => Repeat_byte 110 60 w (by omega))
  have H2 : Hid (∀ w, Calls Tryd.prog 35 #[.string ⟨#[109]⟩, .int .i64 130] w fun e w' => e = .returned (.string (bs (List.replicate 130 109))) ∧ Below w.heap.size w w') := Lib.hid (fun w => Repeat_byte 109 130 w (by omega))
  have fin : Hid (namesL.map (fun s => Value.string (bs s)) = [.string ⟨#[97]⟩, .string ⟨#[98]⟩, .string ⟨#[97, 98]⟩, .string ⟨#[66]⟩, .string ⟨#[120, 32, 121]⟩, .string ⟨#[195, 169]⟩, .string ⟨#[99, 46, 116, 120, 116]⟩, .string (bs (List.replicate 60 110)), .string (bs (List.replicate 130 109)), .string ⟨#[97, 33]⟩, .string ⟨#[45]⟩]) := Lib.hid rfl
  generalize bs (List.replicate 60 110) = b1 at *
  generalize bs (List.replicate 130 109) = b2 at *
  go_enter Tryd.func33, Tryd.ntmps33
  go_wp2_with fail
  refine (H1.out _).mono ?_
  rintro e w1 ⟨rfl, c1⟩
  have B1 := Lib.hid c1
  clear c1
  go_wp2_with fail
  refine (H2.out _).mono ?_
  rintro e w2 ⟨rfl, c2⟩
  have B2 := Lib.hid (B1.out.trans (c2.mono B1.out.size))
  clear c2
  go_wp2_with fail
  go_ret
  refine ⟨_, rfl, ⟨w2.heap.size, 11, rfl, B2.out.size, by simp, Nat.le_refl _, by simp [maxLen], fun j u hu => ?_⟩, B2.out.alloc B2.out.size _⟩
  rw [fin.out] at hu
  rw [World.cell?_alloc_mark]
  simpa using hu
end Go.Proofs.YtjglenhhgbokbaaDoor
