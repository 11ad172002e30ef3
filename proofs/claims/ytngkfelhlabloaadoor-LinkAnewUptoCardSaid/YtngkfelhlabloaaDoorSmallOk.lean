/-
  The closed tree may be; slices.Equal over rows of ints and of strings. No condition beyond short rows.
-/
import Derived.Test.YtngkfelhlabloaaDoorNamesL
namespace Go.Proofs.YtngkfelhlabloaaDoor
open Go.RowKit

theorem metaZ_ok : MetaOk metaZ := ⟨by decide, by decide, by decide, by decide, by decide, by unfold timeOk metaZ; decide⟩
theorem small_ok : TreeOk smallP where
  len := by decide
  node := by
    intro x hx
    simp only [smallP, List.mem_cons, List.mem_nil_iff, or_false] at hx
    rcases hx with rfl | rfl | rfl
    all_goals exact ⟨by decide, metaZ_ok, by decide, by decide, by decide, by decide, by decide⟩
  sorted := by decide
  up := by decide
  alike := by
    intro x hx y hy h
    simp only [smallP, List.mem_cons, List.mem_nil_iff, or_false] at hx
    rcases hx with rfl | rfl | rfl
    all_goals exact absurd rfl h
theorem chk_small : chkT smallP = 0 := small_ok.chk

set_option maxHeartbeats 400000 in
theorem EqI_any (v1 v2 : Value) (x y : List Int) (b1 b2 : Nat) (w : World) (h1 : IntsOwn w b1 v1 x) (h2 : IntsOwn w b2 v2 y) :
    Calls Tryd.prog 23 #[v1, v2] w fun e w' => e = .returned (.bool (x == y)) ∧ Below w.heap.size w w' := by
  obtain ⟨A1, c1, rfl, k1, m1⟩ := h1.slice_
  obtain ⟨A2, c2, rfl, k2, m2⟩ := h2.slice_
  unfold maxLen at m1 m2
  by_cases hl : x.length = y.length
  · rcases Nat.eq_zero_or_pos x.length with h0 | h0
    · rw [h0]
      refine (Tryd.slices_Equal_int_empty A1 A2 c1 y.length c2 w (by omega)).mono ?_
      rintro e w' ⟨rfl, rfl⟩
      refine ⟨?_, Below.refl _ _⟩
      obtain rfl : x = [] := List.eq_nil_of_length_eq_zero h0
      obtain rfl : y = [] := List.eq_nil_of_length_eq_zero (by simpa using hl.symm)
      rfl
    · obtain ⟨g1, d1, e1, _, _⟩ := World.ownsRow.form h1 h0
      obtain ⟨g2, d2, e2, _, _⟩ := World.ownsRow.form h2 (by omega)
      injection e1 with e1 _ e1'
      injection e2 with e2 _ e2'
      subst e1 e2
      have hc : ∀ {g c b : Nat} {l : List Int}, IntsOwn w b (.slice (some ⟨g, 0, none⟩) l.length c) l → ∀ j, j < l.length → w.cell? ⟨g, 0 + j, none⟩ = some (.int .i64 (l.getD j 0)) := fun {g c b l} h j hj => by
        obtain ⟨ad, e, hc⟩ := h.load hj
        injection e with e
        subst e
        rw [add_flat] at hc
        rw [hc, List.getD_eq_getElem?_getD, List.getElem?_eq_getElem hj]; rfl
      refine (Tryd.slices_Equal_int g1 0 x.length c1 g2 0 y.length c2 x y w (Nat.le_refl _) (Nat.le_refl _) (by omega) (by omega) (hc h1) (hc h2)).mono ?_
      rintro e w' ⟨rfl, q, rfl⟩
      refine ⟨by rw [List.take_length, List.take_length], below_drewN (Below.refl _ _) q⟩
  · refine (Tryd.slices_Equal_int_lens A1 A2 x.length c1 y.length c2 w hl).mono ?_
    rintro e w' ⟨rfl, rfl⟩
    refine ⟨?_, Below.refl _ _⟩
    have : (x == y) = false := by
      rw [beq_eq_false_iff_ne]
      rintro rfl
      exact hl rfl
    rw [this]
theorem ints_lit (w : World) (l : List Int) (base : Nat) (h : base ≤ w.heap.size) (hl : l.length ≤ 1000) : IntsOwn (w.alloc (.cells (l.map (Value.int .i64)).toArray 3)) base (.slice (some ⟨w.heap.size, 0, none⟩) l.length l.length) l :=
  ⟨by simp, .inr ⟨w.heap.size, l.length, _, rfl, h, heap_alloc_new w _, Nat.le_refl _, by simp only [maxLen]; omega, by simp, by simp [List.take_of_length_le]⟩⟩
/-- .. a law's tree, and the closed one, as a walk makes them -/
theorem treeP_node (l : List RawS) (most : Nat) (hm : most ≤ 40) : ∀ x ∈ treeP l most, NodeOk x := (treeP_ok l most hm).node
theorem treeP_len (l : List RawS) (most : Nat) (hm : most ≤ 40) : (treeP l most).length ≤ 40 := (treeP_ok l most hm).len
end Go.Proofs.YtngkfelhlabloaaDoor
