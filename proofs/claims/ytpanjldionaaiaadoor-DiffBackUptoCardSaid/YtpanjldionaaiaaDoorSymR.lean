/-
  The stable sort's swaps of two nodes, each a region by itself: two loads and two stores of whole nodes, in whatever order; the row of nodes while it is sorted. Condition: paths of at most 400 bytes.
-/
import Derived.Test.YtpanjldionaaiaaDoorSymP
import Derived.Test.YtpanjldionaaiaaDoorSortN
import Derived.Test.YtpanjldionaaiaaDoorTreeR
import Derived.Test.YtpanjldionaaiaaDoorTCheck
import Derived.Deep.MidRow
import Derived.Shelf.SlSortCmp.InsertionK
import Derived.Orders
import Derived.RegionTactic
import Derived.BigRegion
namespace Go.Proofs.YtpanjldionaaiaaDoor
set_option linter.all false
open Go.RowKit Go.Sort Go.Lib
section
variable {P : Program} {op : Oper} {a : Act} {w w' : World} {K : Act → World → Prop} {Q : Exit → Act → World → Prop}
theorem wp_load_run (ty : TypeId) (x : Operand) (ho : op.op = .load ty x) (q v : Value) (hx : a.eval x = q) (hr : (Instr.loadAt ty q).run P w = .ok v w) (h : K (a.put op.dst v) w) : op.wp P a w K Q := by
  unfold Oper.wp execOp
  simp only [ho, hx, hr, Sem.run_bind, Sem.run_pure, Result.andThen_ok]
  exact h
theorem wp_store_run (ty : TypeId) (x y : Operand) (ho : op.op = .store ty x y) (q v : Value) (hx : a.eval x = q) (hy : a.eval y = v) (hr : (Instr.storeAt ty q v).run P w = .ok () w') (h : K (a.put op.dst undef) w') : op.wp P a w K Q := by
  unfold Oper.wp execOp
  simp only [ho, hx, hy, hr, Sem.run_bind, Sem.run_pure, Result.andThen_ok]
  exact h
end
/-- a row of nodes while it is sorted -/
structure NRow (B D g n cap : Nat) (d : List NodeV) (W : World) : Prop where
  own : W.ownsRow B 40 12 (.slice (some ⟨g, 0, none⟩) n cap) n (d.flatMap nodeC)
  len : d.length = n
  data : ∀ y ∈ d, DataAt W D y.2 y.1.data
  short : ∀ y ∈ d, y.1.path.length ≤ 400
theorem NRow.block {B D g n cap : Nat} {d : List NodeV} {W : World} (h : NRow B D g n cap d W) : ∃ cur fr, W.heap[g]? = some (.cells cur 40 fr) := by
  obtain ⟨_, h2⟩ := h.own
  rcases h2 with ⟨e, _⟩ | ⟨g', cap', cur, hv, hb, hg, -⟩
  · cases e
  · obtain ⟨hv1, -, -⟩ := Value.slice.inj hv
    have hv1 := congrArg Addr.block (Option.some.inj hv1)
    simp only at hv1
    subst hv1
    exact ⟨cur, _, hg⟩
theorem NRow.below {B D g n cap : Nat} {d : List NodeV} {W W' : World} (h : NRow B D g n cap d W) (hb : Below W.heap.size W W') : NRow B D g n cap d W' :=
  ⟨ownsRow_below h.own hb, h.len, fun y hy => (h.data y hy).below hb, h.short⟩
theorem grownBy_below {w w' : World} {row : Option Nat} (h : Below w.heap.size w w') : w.grownBy w' row := ⟨h.os, h.tape, h.output, h.size, fun k hk _ => h.block k hk⟩
theorem there_holds {W : World} {g : Nat} {F : Array Value} (h : Holds id W g 0 F) {o n : Nat} (hs : o + n ≤ F.size) : W.there g o n := fun c hc => by
  have := h (o + c) (by omega)
  simp only [Nat.zero_add] at this
  exact ⟨by rw [this.1]; rfl, this.2⟩
theorem swp_list {α : Type} [Inhabited α] (d : Array α) {i j : Nat} (hi : i < d.size) (hj : j < d.size) : (swp d i j).toList = (d.toList.set i (d.toList[j]'hj)).set j (d.toList[i]'hi) := by
  unfold swp
  rw [Array.toList_setIfInBounds, Array.toList_setIfInBounds, getElem!_pos d j hj, getElem!_pos d i hi]
  simp
/-- two of them swapped -/
def swap1 (d : List NodeV) (i j : Nat) : List NodeV := if h : i < d.length ∧ j < d.length then (d.set i (d[j]'h.2)).set j (d[i]'h.1) else d
/-- a load of one -/
theorem NRow.load {B D g n cap : Nat} {d : List NodeV} {W : World} (h : NRow B D g n cap d W) {i : Nat} (hi : i < n) : (Instr.loadAt 40 (.pointer (some ⟨g, i * 12, none⟩))).run Tryd.prog W = .ok (.agg (nodeC (d[i]'(by rw [h.len]; exact hi))).toArray) W := by
  have hil : i < d.length := by rw [h.len]; exact hi
  have hinf : (Tryd.prog.info? 40).map (·.size) = some 12 := by kernel_rfl
  obtain ⟨_, h2⟩ := h.own
  rcases h2 with ⟨e, _⟩ | ⟨g', cap', cur, hv, hb, hg, hn, hmx, hsz, htk⟩
  · cases e
  obtain ⟨hv1, -, -⟩ := Value.slice.inj hv
  have hv1 := congrArg Addr.block (Option.some.inj hv1)
  simp only at hv1
  subst hv1
  refine run_loadAt_mid W g (i * 12) 40 (nodeC d[i]) _ (fun c v hv => ?_) Tryd.underlying40 rfl hinf
  have hc12 : c < 12 := by have := (List.getElem?_eq_some_iff.1 hv).1; rwa [nodeC_length] at this
  unfold World.cell?
  rw [hg]
  simp only [Option.isSome_none]
  have h3 : (d.flatMap nodeC)[i * 12 + c]? = some v := by
    rw [flat_get nodeC_length d i c hc12, List.getElem?_eq_getElem hil]
    exact hv
  rw [← htk, List.getElem?_take] at h3
  split at h3
  · simpa using h3
  · cases h3
theorem NRow.swap {B D g n cap i j : Nat} {d : List NodeV} {w : World} (h : NRow B D g n cap d w) (hi : i < n) (hj : j < n) :
    ∃ cI cJ : List Value,
      (Instr.loadAt 40 (.pointer (some ⟨g, j * 12, none⟩))).run Tryd.prog w.drew = .ok (.agg cJ.toArray) w.drew ∧ (Instr.loadAt 40 (.pointer (some ⟨g, i * 12, none⟩))).run Tryd.prog w.drew = .ok (.agg cI.toArray) w.drew ∧
      (Instr.storeAt 40 (.pointer (some ⟨g, i * 12, none⟩)) (.agg cJ.toArray)).run Tryd.prog w.drew = .ok () (w.drew.setCells g (i * 12) cJ) ∧
      (Instr.storeAt 40 (.pointer (some ⟨g, j * 12, none⟩)) (.agg cI.toArray)).run Tryd.prog (w.drew.setCells g (i * 12) cJ) = .ok () ((w.drew.setCells g (i * 12) cJ).setCells g (j * 12) cI) ∧
      w.grownBy ((w.drew.setCells g (i * 12) cJ).setCells g (j * 12) cI) (some g) ∧ NRow B D g n cap (swap1 d i j) ((w.drew.setCells g (i * 12) cJ).setCells g (j * 12) cI) := by
  have hyl := h.len
  have hd0 := h.data
  have hp := h.short
  obtain ⟨h1, h2⟩ := h.own
  rcases h2 with ⟨e, _⟩ | ⟨g', cap', cur, hv, hb, hg, hn, hmx, hsz, htk⟩
  · cases e
  obtain ⟨hv1, -, hv3⟩ := Value.slice.inj hv
  have hv1 := congrArg Addr.block (Option.some.inj hv1)
  simp only at hv1
  subst hv1 hv3
  have hs : ∀ x ∈ d, x.1.path.length ≤ 400 ∧ x.2.oneCell' = true := fun x hx2 => ⟨hp x hx2, by
    obtain ⟨A, c, e, _⟩ := hd0 x hx2
    rw [e]; rfl⟩
  obtain ⟨a, hd1⟩ : ∃ a : Array ShortN, a.toList.map (·.1) = d := ⟨(d.attach.map fun x => (⟨x.1, hs x.1 x.2⟩ : ShortN)).toArray, by
    rw [List.toList_toArray, List.map_map]
    exact List.attach_map_subtype_val d⟩
  have hds : a.size = n := by rw [← hyl, ← hd1, List.length_map, Array.length_toList]
  have hH : HoldsK shortC 12 w g 0 a := holds_nodes hg (by rw [hds, hd1]; exact htk)
  have hHd : HoldsK shortC 12 w.drew g 0 a := hH
  have bnd : ∀ x, x < a.size → x * 12 + 12 ≤ a.size * 12 := fun x hx => by omega
  have hci : ∀ x, x < a.size → w.drew.rangeAt g (x * 12) (shortC a[x]!) := fun x hx c v hv => by
    have h := HoldsK.cells hHd (fun _ => rfl) hx c v hv
    rwa [Addr.add_mid, Nat.zero_add] at h
  have hinf : (Tryd.prog.info? 40).map (·.size) = some 12 := by kernel_rfl
  have lj := run_loadAt_mid w.drew g (j * 12) 40 (shortC a[j]!) _ (hci j (by omega)) Tryd.underlying40 rfl hinf
  have li := run_loadAt_mid w.drew g (i * 12) 40 (shortC a[i]!) _ (hci i (by omega)) Tryd.underlying40 rfl hinf
  have hone : ∀ x : ShortN, (shortC x).toArray.all (·.oneCell') = true := fun x => Array.all_eq_true_iff_forall_mem.2 (fun v hv => short_one x v (by simpa using hv))
  have s1 := run_storeAt_mid (P := Tryd.prog) w.drew g (i * 12) 40 (shortC a[j]!).toArray (there_holds hHd (by rw [size_flatK]; exact bnd i (by omega))) hinf (hone _)
  have s2 := run_storeAt_mid (P := Tryd.prog) (w.drew.setCells g (i * 12) (shortC a[j]!)) g (j * 12) 40 (shortC a[i]!).toArray (there_holds (F := setMany (flatK shortC 12 a) (i * 12) (shortC a[j]!)) (by
    have h := holds_setCells_c hHd (i * 12) (shortC a[j]!) (by rw [size_flatK]; exact bnd i (by omega))
    rwa [Nat.zero_add] at h) (by rw [size_setMany, size_flatK]; exact bnd j (by omega))) hinf (hone _)
  have hw0 : w = sortWorldK shortC 12 w g 0 0 a #[] := by unfold sortWorldK; rw [grow_empty]; exact (putRowK_self shortC 12 w g 0 a hH).symm
  have hsw := sortWorldK_swp_c shortC 12 w g 0 (fun _ => rfl) 0 a #[] (heap_lt hg) i j (by omega) (by omega)
  rw [← hw0] at hsw
  simp only [Nat.zero_add] at hsw
  refine ⟨_, _, lj, li, s1, s2, ?_⟩
  rw [hsw]
  have hgr := grownBy_sortedK (w := w) (g := g) (n := 1) (os := #[]) (swp a i j)
  have hsz2 : (swp a i j).size = n := by rw [size_swp]; exact hds
  have hil : i < a.size := by omega
  have hjl : j < a.size := by omega
  have hsl : (swp a i j).toList.map (·.1) = swap1 d i j := by
    rw [swp_list a hil hjl]
    unfold swap1
    rw [dif_pos ⟨by omega, by omega⟩]
    subst hd1
    simp [List.map_set]
  have hmem : ∀ y ∈ swap1 d i j, y ∈ d := fun y hy => by
    unfold swap1 at hy
    rw [dif_pos ⟨by omega, by omega⟩] at hy
    rcases List.mem_or_eq_of_mem_set hy with hy | rfl
    · rcases List.mem_or_eq_of_mem_set hy with hy | rfl
      · exact hy
      · exact List.getElem_mem _
    · exact List.getElem_mem _
  refine ⟨hgr, ⟨by rw [flat_length nodeC_length, ← hsl, List.length_map, Array.length_toList, hsz2], .inr ⟨g, cap, _, rfl, hb, heap_sortedK _ hg, hn, hmx, by simp [putCells, hsz], ?_⟩⟩, by rw [← hsl, List.length_map, Array.length_toList, hsz2], fun y hy => ?_, fun y hy => hp y (hmem y hy)⟩
  · have := take_flatK cur (swp a i j) (by rw [hsz2, hsz]; exact Nat.mul_le_mul_right _ hn)
    rw [hsz2] at this
    rw [← hsl]
    exact this
  · refine (hd0 y (hmem y hy)).kept (U8Kept.grown hgr (fun k hk => ?_))
    cases hk
    exact ⟨cur, _, _, hg, by decide⟩
noncomputable def code_sr : Code := ((Tryd.f94.body.bind (regionAt 3)).getD .skip)
set_option maxRecDepth 1000000 in
set_option maxHeartbeats 4000000 in
theorem reg_sr (g n cap i j : Nat) (cI cJ : List Value) (hi : i < n) (hj : j < n) (W : World) (a b k : Nat) (hai : IntKind.i64.wrap ((a : Int) + (k : Int)) = (i : Int)) (hbj : IntKind.i64.wrap ((b : Int) + (k : Int)) = (j : Int))
    (lj : (Instr.loadAt 40 (.pointer (some ⟨g, j * 12, none⟩))).run Tryd.prog W.drew = .ok (.agg cJ.toArray) W.drew) (li : (Instr.loadAt 40 (.pointer (some ⟨g, i * 12, none⟩))).run Tryd.prog W.drew = .ok (.agg cI.toArray) W.drew)
    (s1 : (Instr.storeAt 40 (.pointer (some ⟨g, i * 12, none⟩)) (.agg cJ.toArray)).run Tryd.prog W.drew = .ok () (W.drew.setCells g (i * 12) cJ))
    (s2 : (Instr.storeAt 40 (.pointer (some ⟨g, j * 12, none⟩)) (.agg cI.toArray)).run Tryd.prog (W.drew.setCells g (i * 12) cJ) = .ok () ((W.drew.setCells g (i * 12) cJ).setCells g (j * 12) cI))
    (Q : Exit → Act → World → Prop) (hQ : ∀ c (a : Act) (d : Nat) v w, Q (.panic c) (a.put (some d) v) w → Q (.panic c) a w)
    (c3 c4 c5 c6 c7 c8 c9 c11 c12 c13 c14 c15 c16 c17 c18 c19 c20 c21 c22 c23 c24 c25 c26 c27 c28 c29 c30 c31 c32 c33 c34 c35 c36 c37 : Value)
    (hK : Q .normal ⟨#[(.slice (some ⟨g, 0, none⟩) n cap), (.int .i64 (a : Int)), (.int .i64 (b : Int)), c3, c4, c5, c6, c7, c8, c9, (.int .i64 (k : Int)), c11, c12, c13, c14, c15, (.slice (some ⟨g, 0, none⟩) n cap), (.int .i64 (a : Int)), (.int .i64 (k : Int)), (.int .i64 (i : Int)), (.slice (some ⟨g, 0, none⟩) n cap), (.int .i64 (b : Int)), (.int .i64 (k : Int)), (.int .i64 (j : Int)), (.slice (some ⟨g, 0, none⟩) n cap), (.int .i64 (b : Int)), (.int .i64 (k : Int)), (.int .i64 (j : Int)), (.pointer (some ⟨g, j * 12, none⟩)), (.agg cJ.toArray), (.slice (some ⟨g, 0, none⟩) n cap), (.int .i64 (a : Int)), (.int .i64 (k : Int)), (.int .i64 (i : Int)), (.pointer (some ⟨g, i * 12, none⟩)), (.agg cI.toArray), (.pointer (some ⟨g, i * 12, none⟩)), (.pointer (some ⟨g, j * 12, none⟩))], []⟩ ((W.drew.setCells g (i * 12) cJ).setCells g (j * 12) cI)) :
    Code.wp Tryd.prog code_sr Q ⟨#[(.slice (some ⟨g, 0, none⟩) n cap), (.int .i64 (a : Int)), (.int .i64 (b : Int)), c3, c4, c5, c6, c7, c8, c9, (.int .i64 (k : Int)), c11, c12, c13, c14, c15, c16, c17, c18, c19, c20, c21, c22, c23, c24, c25, c26, c27, c28, c29, c30, c31, c32, c33, c34, c35, c36, c37], []⟩ W := by
  have mixed : Tryd.prog.follows Departure.mixedOrders = true := mixed_ok
  have hi1 : (i : Int) < (n : Int) := by omega
  have hj1 : (j : Int) < (n : Int) := by omega
  have hi0 : (0 : Int) ≤ (i : Int) := by omega
  have hj0 : (0 : Int) ≤ (j : Int) := by omega
  have HL := Lib.hid lj
  have HI := Lib.hid li
  have HS1 := Lib.hid s1
  have HS2 := Lib.hid s2
  have HK := Lib.hid hK
  clear lj li s1 s2 hK
  conv => arg 2; whnf
  refine wp_region_any mixed ?_
  show wpAny _ _ _ _ _ _ _ W.drew
  refine wpAny_take (i := 0) (v := ?v0sr) rfl (by kernel_rfl) (by kernel_rfl) (by kernel_rfl) (fun _ _ _ h => hQ _ _ _ _ _ h) (Or.inl ⟨by rfl, ?hy0sr⟩) ?rest0sr
  case hy0sr => (intro w; go_simp; try with_reducible rfl)
  simp only [Act.put, List.setIfInBounds_toArray, List.set_cons_zero, List.set_cons_succ, List.getElem_toArray, List.getElem_cons_zero]
  refine wpAny_take (i := 1) (v := ?v1sr) rfl (by kernel_rfl) (by kernel_rfl) (by kernel_rfl) (fun _ _ _ h => hQ _ _ _ _ _ h) (Or.inl ⟨by rfl, ?hy1sr⟩) ?rest1sr
  case hy1sr => (intro w; go_simp; try with_reducible rfl)
  simp only [Act.put, List.setIfInBounds_toArray, List.set_cons_zero, List.set_cons_succ, List.getElem_toArray, List.getElem_cons_zero, List.getElem_cons_succ]
  refine wpAny_take (i := 2) (v := ?v2sr) rfl (by kernel_rfl) (by kernel_rfl) (by kernel_rfl) (fun _ _ _ h => hQ _ _ _ _ _ h) (Or.inl ⟨by rfl, ?hy2sr⟩) ?rest2sr
  case hy2sr => (intro w; go_simp; try with_reducible rfl)
  simp only [Act.put, List.setIfInBounds_toArray, List.set_cons_zero, List.set_cons_succ, List.getElem_toArray, List.getElem_cons_zero, List.getElem_cons_succ]
  refine wpAny_take (i := 3) (v := ?v3sr) rfl (by kernel_rfl) (by kernel_rfl) (by kernel_rfl) (fun _ _ _ h => hQ _ _ _ _ _ h) (Or.inl ⟨by rfl, ?hy3sr⟩) ?rest3sr
  case hy3sr => (intro w; go_simp; try with_reducible rfl)
  simp only [Act.put, List.setIfInBounds_toArray, List.set_cons_zero, List.set_cons_succ, List.getElem_toArray, List.getElem_cons_zero, List.getElem_cons_succ]
  refine wpAny_take (i := 4) (v := ?v4sr) rfl (by kernel_rfl) (by kernel_rfl) (by kernel_rfl) (fun _ _ _ h => hQ _ _ _ _ _ h) (Or.inl ⟨by rfl, ?hy4sr⟩) ?rest4sr
  case hy4sr => (intro w; go_simp; try with_reducible rfl)
  simp only [Act.put, List.setIfInBounds_toArray, List.set_cons_zero, List.set_cons_succ, List.getElem_toArray, List.getElem_cons_zero, List.getElem_cons_succ]
  refine wpAny_take (i := 5) (v := ?v5sr) rfl (by kernel_rfl) (by kernel_rfl) (by kernel_rfl) (fun _ _ _ h => hQ _ _ _ _ _ h) (Or.inl ⟨by rfl, ?hy5sr⟩) ?rest5sr
  case hy5sr => (intro w; go_simp; try with_reducible rfl)
  simp only [Act.put, List.setIfInBounds_toArray, List.set_cons_zero, List.set_cons_succ, List.getElem_toArray, List.getElem_cons_zero, List.getElem_cons_succ]
  refine wpAny_take (i := 6) (v := ?v6sr) rfl (by kernel_rfl) (by kernel_rfl) (by kernel_rfl) (fun _ _ _ h => hQ _ _ _ _ _ h) (Or.inl ⟨by rfl, ?hy6sr⟩) ?rest6sr
  case hy6sr => (intro w; go_simp; try with_reducible rfl)
  simp only [Act.put, List.setIfInBounds_toArray, List.set_cons_zero, List.set_cons_succ, List.getElem_toArray, List.getElem_cons_zero, List.getElem_cons_succ]
  refine wpAny_take (i := 7) (v := ?v7sr) rfl (by kernel_rfl) (by kernel_rfl) (by kernel_rfl) (fun _ _ _ h => hQ _ _ _ _ _ h) (Or.inl ⟨by rfl, ?hy7sr⟩) ?rest7sr
  case hy7sr => (intro w; go_simp; try with_reducible rfl)
  simp only [Act.put, List.setIfInBounds_toArray, List.set_cons_zero, List.set_cons_succ, List.getElem_toArray, List.getElem_cons_zero, List.getElem_cons_succ]
  refine wpAny_take (i := 8) (v := ?v8sr) rfl (by kernel_rfl) (by kernel_rfl) (by kernel_rfl) (fun _ _ _ h => hQ _ _ _ _ _ h) (Or.inl ⟨by rfl, ?hy8sr⟩) ?rest8sr
  case hy8sr => (intro w; go_simp; try with_reducible rfl)
  simp only [Act.put, List.setIfInBounds_toArray, List.set_cons_zero, List.set_cons_succ, List.getElem_toArray, List.getElem_cons_zero, List.getElem_cons_succ]
  refine wpAny_take (i := 9) (v := ?v9sr) rfl (by kernel_rfl) (by kernel_rfl) (by kernel_rfl) (fun _ _ _ h => hQ _ _ _ _ _ h) (Or.inl ⟨by rfl, ?hy9sr⟩) ?rest9sr
  case hy9sr => (intro w; go_simp; try with_reducible rfl)
  simp only [Act.put, List.setIfInBounds_toArray, List.set_cons_zero, List.set_cons_succ, List.getElem_toArray, List.getElem_cons_zero, List.getElem_cons_succ]
  refine wpAny_take (i := 10) (v := ?v10sr) rfl (by kernel_rfl) (by kernel_rfl) (by kernel_rfl) (fun _ _ _ h => hQ _ _ _ _ _ h) (Or.inl ⟨by rfl, ?hy10sr⟩) ?rest10sr
  case hy10sr => (intro w; go_simp; try with_reducible rfl)
  simp only [Act.put, List.setIfInBounds_toArray, List.set_cons_zero, List.set_cons_succ, List.getElem_toArray, List.getElem_cons_zero, List.getElem_cons_succ]
  refine wpAny_take (i := 11) (v := ?v11sr) rfl (by kernel_rfl) (by kernel_rfl) (by kernel_rfl) (fun _ _ _ h => hQ _ _ _ _ _ h) (Or.inl ⟨by rfl, ?hy11sr⟩) ?rest11sr
  case hy11sr => (intro w; go_simp; try with_reducible rfl)
  simp only [Act.put, List.setIfInBounds_toArray, List.set_cons_zero, List.set_cons_succ, List.getElem_toArray, List.getElem_cons_zero, List.getElem_cons_succ]
  refine wpAny_take (i := 12) (v := ?v12sr) rfl (by kernel_rfl) (by kernel_rfl) (by kernel_rfl) (fun _ _ _ h => hQ _ _ _ _ _ h) (Or.inl ⟨by rfl, ?hy12sr⟩) ?rest12sr
  case hy12sr => (intro w; go_simp; try with_reducible rfl)
  simp only [Act.put, List.setIfInBounds_toArray, List.set_cons_zero, List.set_cons_succ, List.getElem_toArray, List.getElem_cons_zero, List.getElem_cons_succ]
  refine wpAny_take (i := 14) (v := ?v14sr) rfl (by kernel_rfl) (by kernel_rfl) (by kernel_rfl) (fun _ _ _ h => hQ _ _ _ _ _ h) (Or.inl ⟨by rfl, ?hy14sr⟩) ?rest14sr
  case hy14sr => (intro w; go_simp; try with_reducible rfl)
  simp only [Act.put, List.setIfInBounds_toArray, List.set_cons_zero, List.set_cons_succ, List.getElem_toArray, List.getElem_cons_zero, List.getElem_cons_succ]
  refine wpAny_take (i := 15) (v := ?v15sr) rfl (by kernel_rfl) (by kernel_rfl) (by kernel_rfl) (fun _ _ _ h => hQ _ _ _ _ _ h) (Or.inl ⟨by rfl, ?hy15sr⟩) ?rest15sr
  case hy15sr => (intro w; go_simp; try with_reducible rfl)
  simp only [Act.put, List.setIfInBounds_toArray, List.set_cons_zero, List.set_cons_succ, List.getElem_toArray, List.getElem_cons_zero, List.getElem_cons_succ]
  refine wpAny_take (i := 16) (v := ?v16sr) rfl (by kernel_rfl) (by kernel_rfl) (by kernel_rfl) (fun _ _ _ h => hQ _ _ _ _ _ h) (Or.inl ⟨by rfl, ?hy16sr⟩) ?rest16sr
  case hy16sr => (intro w; go_simp; try with_reducible rfl)
  simp only [Act.put, List.setIfInBounds_toArray, List.set_cons_zero, List.set_cons_succ, List.getElem_toArray, List.getElem_cons_zero, List.getElem_cons_succ]
  refine wpAny_take (i := 17) (v := ?v17sr) rfl (by kernel_rfl) (by kernel_rfl) (by kernel_rfl) (fun _ _ _ h => hQ _ _ _ _ _ h) (Or.inl ⟨by rfl, ?hy17sr⟩) ?rest17sr
  case hy17sr => (intro w; go_simp; try with_reducible rfl)
  simp only [Act.put, List.setIfInBounds_toArray, List.set_cons_zero, List.set_cons_succ, List.getElem_toArray, List.getElem_cons_zero, List.getElem_cons_succ]
  refine wpAny_take (i := 18) (v := ?v18sr) rfl (by kernel_rfl) (by kernel_rfl) (by kernel_rfl) (fun _ _ _ h => hQ _ _ _ _ _ h) (Or.inl ⟨by rfl, ?hy18sr⟩) ?rest18sr
  case hy18sr => (intro w; go_simp; try with_reducible rfl)
  simp only [Act.put, List.setIfInBounds_toArray, List.set_cons_zero, List.set_cons_succ, List.getElem_toArray, List.getElem_cons_zero, List.getElem_cons_succ]
  refine wpAny_ready (rs := [13, 19]) (by kernel_rfl) (by simp) (AllReady.cons rfl (fun K hK => ?_) (AllReady.cons rfl (fun K hK => ?_) AllReady.nil))
  · rw [if_pos (by rfl)]
    refine wp_load_run _ _ rfl _ _ rfl HL.out ?_
    refine hK _ _ ?_
    simp only [Act.put, List.setIfInBounds_toArray, List.set_cons_zero, List.set_cons_succ]
    clear hK
    refine wpAny_ready (rs := [19]) (by kernel_rfl) (by simp) (AllReady.cons rfl (fun K hK => ?_) AllReady.nil)
    rw [if_pos (by rfl)]
    refine wp_load_run _ _ rfl _ _ rfl HI.out ?_
    refine hK _ _ ?_
    simp only [Act.put, List.setIfInBounds_toArray, List.set_cons_zero, List.set_cons_succ]
    clear hK
    refine wpAny_take (i := 20) (v := ?v20x13sr) rfl (by kernel_rfl) (by kernel_rfl) (by kernel_rfl) (fun _ _ _ h => hQ _ _ _ _ _ h) (Or.inl ⟨by rfl, ?hy20x13sr⟩) ?rest20x13sr
    case hy20x13sr => (intro w; go_simp; try with_reducible rfl)
    simp only [Act.put, List.setIfInBounds_toArray, List.set_cons_zero, List.set_cons_succ, List.getElem_toArray, List.getElem_cons_zero, List.getElem_cons_succ]
    refine wpAny_ready (rs := [21]) (by kernel_rfl) (by simp) (AllReady.cons rfl (fun K hK => ?_) AllReady.nil)
    rw [if_pos (by rfl)]
    refine wp_store_run _ _ _ rfl _ _ rfl rfl HS1.out ?_
    refine hK _ _ ?_
    simp only [Act.put]
    clear hK
    refine wpAny_take (i := 22) (v := ?v22x13sr) rfl (by kernel_rfl) (by kernel_rfl) (by kernel_rfl) (fun _ _ _ h => hQ _ _ _ _ _ h) (Or.inl ⟨by rfl, ?hy22x13sr⟩) ?rest22x13sr
    case hy22x13sr => (intro w; go_simp; try with_reducible rfl)
    simp only [Act.put, List.setIfInBounds_toArray, List.set_cons_zero, List.set_cons_succ, List.getElem_toArray, List.getElem_cons_zero, List.getElem_cons_succ]
    refine wpAny_ready (rs := [23]) (by kernel_rfl) (by simp) (AllReady.cons rfl (fun K hK => ?_) AllReady.nil)
    rw [if_pos (by rfl)]
    refine wp_store_run _ _ _ rfl _ _ rfl rfl HS2.out ?_
    refine hK _ _ ?_
    simp only [Act.put]
    exact wpAny_done (by kernel_rfl) HK.out _
  · rw [if_pos (by rfl)]
    refine wp_load_run _ _ rfl _ _ rfl HI.out ?_
    refine hK _ _ ?_
    simp only [Act.put, List.setIfInBounds_toArray, List.set_cons_zero, List.set_cons_succ]
    clear hK
    refine wpAny_ready (rs := [13]) (by kernel_rfl) (by simp) (AllReady.cons rfl (fun K hK => ?_) AllReady.nil)
    rw [if_pos (by rfl)]
    refine wp_load_run _ _ rfl _ _ rfl HL.out ?_
    refine hK _ _ ?_
    simp only [Act.put, List.setIfInBounds_toArray, List.set_cons_zero, List.set_cons_succ]
    clear hK
    refine wpAny_take (i := 20) (v := ?v20x19sr) rfl (by kernel_rfl) (by kernel_rfl) (by kernel_rfl) (fun _ _ _ h => hQ _ _ _ _ _ h) (Or.inl ⟨by rfl, ?hy20x19sr⟩) ?rest20x19sr
    case hy20x19sr => (intro w; go_simp; try with_reducible rfl)
    simp only [Act.put, List.setIfInBounds_toArray, List.set_cons_zero, List.set_cons_succ, List.getElem_toArray, List.getElem_cons_zero, List.getElem_cons_succ]
    refine wpAny_ready (rs := [21]) (by kernel_rfl) (by simp) (AllReady.cons rfl (fun K hK => ?_) AllReady.nil)
    rw [if_pos (by rfl)]
    refine wp_store_run _ _ _ rfl _ _ rfl rfl HS1.out ?_
    refine hK _ _ ?_
    simp only [Act.put]
    clear hK
    refine wpAny_take (i := 22) (v := ?v22x19sr) rfl (by kernel_rfl) (by kernel_rfl) (by kernel_rfl) (fun _ _ _ h => hQ _ _ _ _ _ h) (Or.inl ⟨by rfl, ?hy22x19sr⟩) ?rest22x19sr
    case hy22x19sr => (intro w; go_simp; try with_reducible rfl)
    simp only [Act.put, List.setIfInBounds_toArray, List.set_cons_zero, List.set_cons_succ, List.getElem_toArray, List.getElem_cons_zero, List.getElem_cons_succ]
    refine wpAny_ready (rs := [23]) (by kernel_rfl) (by simp) (AllReady.cons rfl (fun K hK => ?_) AllReady.nil)
    rw [if_pos (by rfl)]
    refine wp_store_run _ _ _ rfl _ _ rfl rfl HS2.out ?_
    refine hK _ _ ?_
    simp only [Act.put]
    exact wpAny_done (by kernel_rfl) HK.out _
noncomputable def code_m1 : Code := ((Tryd.f71.body.bind (regionAt 11)).getD .skip)
set_option maxRecDepth 1000000 in
set_option maxHeartbeats 4000000 in
theorem reg_m1 (g n cap i j : Nat) (cI cJ : List Value) (hi : i < n) (hj : j < n) (W : World) (hij : IntKind.i64.wrap ((i : Int) + 1) = (j : Int))
    (lj : (Instr.loadAt 40 (.pointer (some ⟨g, j * 12, none⟩))).run Tryd.prog W.drew = .ok (.agg cJ.toArray) W.drew) (li : (Instr.loadAt 40 (.pointer (some ⟨g, i * 12, none⟩))).run Tryd.prog W.drew = .ok (.agg cI.toArray) W.drew)
    (s1 : (Instr.storeAt 40 (.pointer (some ⟨g, i * 12, none⟩)) (.agg cJ.toArray)).run Tryd.prog W.drew = .ok () (W.drew.setCells g (i * 12) cJ))
    (s2 : (Instr.storeAt 40 (.pointer (some ⟨g, j * 12, none⟩)) (.agg cI.toArray)).run Tryd.prog (W.drew.setCells g (i * 12) cJ) = .ok () ((W.drew.setCells g (i * 12) cJ).setCells g (j * 12) cI))
    (Q : Exit → Act → World → Prop) (hQ : ∀ c (a : Act) (d : Nat) v w, Q (.panic c) (a.put (some d) v) w → Q (.panic c) a w)
    (c1 c2 c3 c4 c5 c6 c7 c8 c9 c10 c11 c12 c14 c15 c16 c17 c18 c19 c20 c21 c22 c23 c24 c25 c26 c27 c28 c29 c30 c31 c32 c33 c34 c35 c36 c37 c38 c39 c40 c41 c42 c43 c44 c45 c46 c47 c48 c49 c50 c51 c52 c53 c54 c55 c56 c57 c58 c59 c60 c61 c62 c63 c64 c65 c66 c67 c68 c69 c70 c71 c72 c73 c74 c75 c76 c77 c78 c79 c80 c81 c82 c83 c84 c85 c86 c87 c88 c89 c90 c91 c92 c93 c94 c95 c96 c97 c98 c99 c100 c101 c102 c103 c104 c105 c106 c107 c108 c109 c110 c111 c112 c113 c114 c115 c116 c117 c118 c119 c120 c121 c122 c123 c124 c125 c126 c127 c128 c129 c130 c131 c132 c133 c134 c135 c136 c137 c138 c139 c140 c141 c142 c143 c144 c145 c146 c147 c148 c149 c150 c151 c152 c153 c154 c155 c156 c157 c158 c159 c160 c161 c162 c163 c164 c165 c166 c167 c168 c169 c170 c171 c172 c173 c174 c175 c176 c177 c178 c179 c180 c181 c182 c183 c184 c185 c186 c187 c188 c189 c190 c191 c192 c193 c194 c195 c196 c197 c198 c199 c200 c201 c202 c203 c204 c205 c206 c207 c208 c209 c210 c211 c212 c213 c214 c215 c216 c217 c218 c219 : Value)
    (hK : Q .normal ⟨#[(.slice (some ⟨g, 0, none⟩) n cap), c1, c2, c3, c4, c5, c6, c7, c8, c9, c10, c11, c12, (.int .i64 (i : Int)), c14, c15, c16, c17, c18, c19, c20, c21, c22, c23, c24, c25, c26, c27, c28, c29, c30, c31, c32, c33, c34, c35, c36, c37, c38, c39, c40, c41, c42, c43, c44, c45, c46, c47, c48, c49, c50, c51, c52, c53, c54, c55, c56, c57, c58, c59, c60, (.slice (some ⟨g, 0, none⟩) n cap), (.int .i64 (i : Int)), (.slice (some ⟨g, 0, none⟩) n cap), (.int .i64 (i : Int)), (.int .i64 (j : Int)), (.slice (some ⟨g, 0, none⟩) n cap), (.int .i64 (i : Int)), (.int .i64 (j : Int)), (.pointer (some ⟨g, j * 12, none⟩)), (.agg cJ.toArray), (.slice (some ⟨g, 0, none⟩) n cap), (.int .i64 (i : Int)), (.pointer (some ⟨g, i * 12, none⟩)), (.agg cI.toArray), (.pointer (some ⟨g, i * 12, none⟩)), (.pointer (some ⟨g, j * 12, none⟩)), c77, c78, c79, c80, c81, c82, c83, c84, c85, c86, c87, c88, c89, c90, c91, c92, c93, c94, c95, c96, c97, c98, c99, c100, c101, c102, c103, c104, c105, c106, c107, c108, c109, c110, c111, c112, c113, c114, c115, c116, c117, c118, c119, c120, c121, c122, c123, c124, c125, c126, c127, c128, c129, c130, c131, c132, c133, c134, c135, c136, c137, c138, c139, c140, c141, c142, c143, c144, c145, c146, c147, c148, c149, c150, c151, c152, c153, c154, c155, c156, c157, c158, c159, c160, c161, c162, c163, c164, c165, c166, c167, c168, c169, c170, c171, c172, c173, c174, c175, c176, c177, c178, c179, c180, c181, c182, c183, c184, c185, c186, c187, c188, c189, c190, c191, c192, c193, c194, c195, c196, c197, c198, c199, c200, c201, c202, c203, c204, c205, c206, c207, c208, c209, c210, c211, c212, c213, c214, c215, c216, c217, c218, c219], []⟩ ((W.drew.setCells g (i * 12) cJ).setCells g (j * 12) cI)) :
    Code.wp Tryd.prog code_m1 Q ⟨#[(.slice (some ⟨g, 0, none⟩) n cap), c1, c2, c3, c4, c5, c6, c7, c8, c9, c10, c11, c12, (.int .i64 (i : Int)), c14, c15, c16, c17, c18, c19, c20, c21, c22, c23, c24, c25, c26, c27, c28, c29, c30, c31, c32, c33, c34, c35, c36, c37, c38, c39, c40, c41, c42, c43, c44, c45, c46, c47, c48, c49, c50, c51, c52, c53, c54, c55, c56, c57, c58, c59, c60, c61, c62, c63, c64, c65, c66, c67, c68, c69, c70, c71, c72, c73, c74, c75, c76, c77, c78, c79, c80, c81, c82, c83, c84, c85, c86, c87, c88, c89, c90, c91, c92, c93, c94, c95, c96, c97, c98, c99, c100, c101, c102, c103, c104, c105, c106, c107, c108, c109, c110, c111, c112, c113, c114, c115, c116, c117, c118, c119, c120, c121, c122, c123, c124, c125, c126, c127, c128, c129, c130, c131, c132, c133, c134, c135, c136, c137, c138, c139, c140, c141, c142, c143, c144, c145, c146, c147, c148, c149, c150, c151, c152, c153, c154, c155, c156, c157, c158, c159, c160, c161, c162, c163, c164, c165, c166, c167, c168, c169, c170, c171, c172, c173, c174, c175, c176, c177, c178, c179, c180, c181, c182, c183, c184, c185, c186, c187, c188, c189, c190, c191, c192, c193, c194, c195, c196, c197, c198, c199, c200, c201, c202, c203, c204, c205, c206, c207, c208, c209, c210, c211, c212, c213, c214, c215, c216, c217, c218, c219], []⟩ W := by
  have mixed : Tryd.prog.follows Departure.mixedOrders = true := mixed_ok
  have hi1 : (i : Int) < (n : Int) := by omega
  have hj1 : (j : Int) < (n : Int) := by omega
  have hi0 : (0 : Int) ≤ (i : Int) := by omega
  have hj0 : (0 : Int) ≤ (j : Int) := by omega
  have HL := Lib.hid lj
  have HI := Lib.hid li
  have HS1 := Lib.hid s1
  have HS2 := Lib.hid s2
  have HK := Lib.hid hK
  clear lj li s1 s2 hK
  conv => arg 2; whnf
  refine wp_region_any mixed ?_
  show wpAny _ _ _ _ _ _ _ W.drew
  refine wpAny_take (i := 0) (v := ?v0m1) rfl (by kernel_rfl) (by kernel_rfl) (by kernel_rfl) (fun _ _ _ h => hQ _ _ _ _ _ h) (Or.inl ⟨by rfl, ?hy0m1⟩) ?rest0m1
  case hy0m1 => (intro w; go_simp; try with_reducible rfl)
  simp only [Act.put, List.setIfInBounds_toArray, List.set_cons_zero, List.set_cons_succ, List.getElem_toArray, List.getElem_cons_zero]
  refine wpAny_take (i := 1) (v := ?v1m1) rfl (by kernel_rfl) (by kernel_rfl) (by kernel_rfl) (fun _ _ _ h => hQ _ _ _ _ _ h) (Or.inl ⟨by rfl, ?hy1m1⟩) ?rest1m1
  case hy1m1 => (intro w; go_simp; try with_reducible rfl)
  simp only [Act.put, List.setIfInBounds_toArray, List.set_cons_zero, List.set_cons_succ, List.getElem_toArray, List.getElem_cons_zero, List.getElem_cons_succ]
  refine wpAny_take (i := 2) (v := ?v2m1) rfl (by kernel_rfl) (by kernel_rfl) (by kernel_rfl) (fun _ _ _ h => hQ _ _ _ _ _ h) (Or.inl ⟨by rfl, ?hy2m1⟩) ?rest2m1
  case hy2m1 => (intro w; go_simp; try with_reducible rfl)
  simp only [Act.put, List.setIfInBounds_toArray, List.set_cons_zero, List.set_cons_succ, List.getElem_toArray, List.getElem_cons_zero, List.getElem_cons_succ]
  refine wpAny_take (i := 3) (v := ?v3m1) rfl (by kernel_rfl) (by kernel_rfl) (by kernel_rfl) (fun _ _ _ h => hQ _ _ _ _ _ h) (Or.inl ⟨by rfl, ?hy3m1⟩) ?rest3m1
  case hy3m1 => (intro w; go_simp; try with_reducible rfl)
  simp only [Act.put, List.setIfInBounds_toArray, List.set_cons_zero, List.set_cons_succ, List.getElem_toArray, List.getElem_cons_zero, List.getElem_cons_succ]
  refine wpAny_take (i := 4) (v := ?v4m1) rfl (by kernel_rfl) (by kernel_rfl) (by kernel_rfl) (fun _ _ _ h => hQ _ _ _ _ _ h) (Or.inl ⟨by rfl, ?hy4m1⟩) ?rest4m1
  case hy4m1 => (intro w; go_simp; try with_reducible rfl)
  simp only [Act.put, List.setIfInBounds_toArray, List.set_cons_zero, List.set_cons_succ, List.getElem_toArray, List.getElem_cons_zero, List.getElem_cons_succ]
  refine wpAny_take (i := 5) (v := ?v5m1) rfl (by kernel_rfl) (by kernel_rfl) (by kernel_rfl) (fun _ _ _ h => hQ _ _ _ _ _ h) (Or.inl ⟨by rfl, ?hy5m1⟩) ?rest5m1
  case hy5m1 => (intro w; go_simp; try with_reducible rfl)
  simp only [Act.put, List.setIfInBounds_toArray, List.set_cons_zero, List.set_cons_succ, List.getElem_toArray, List.getElem_cons_zero, List.getElem_cons_succ]
  refine wpAny_take (i := 6) (v := ?v6m1) rfl (by kernel_rfl) (by kernel_rfl) (by kernel_rfl) (fun _ _ _ h => hQ _ _ _ _ _ h) (Or.inl ⟨by rfl, ?hy6m1⟩) ?rest6m1
  case hy6m1 => (intro w; go_simp; try with_reducible rfl)
  simp only [Act.put, List.setIfInBounds_toArray, List.set_cons_zero, List.set_cons_succ, List.getElem_toArray, List.getElem_cons_zero, List.getElem_cons_succ]
  refine wpAny_take (i := 7) (v := ?v7m1) rfl (by kernel_rfl) (by kernel_rfl) (by kernel_rfl) (fun _ _ _ h => hQ _ _ _ _ _ h) (Or.inl ⟨by rfl, ?hy7m1⟩) ?rest7m1
  case hy7m1 => (intro w; go_simp; try with_reducible rfl)
  simp only [Act.put, List.setIfInBounds_toArray, List.set_cons_zero, List.set_cons_succ, List.getElem_toArray, List.getElem_cons_zero, List.getElem_cons_succ]
  refine wpAny_take (i := 8) (v := ?v8m1) rfl (by kernel_rfl) (by kernel_rfl) (by kernel_rfl) (fun _ _ _ h => hQ _ _ _ _ _ h) (Or.inl ⟨by rfl, ?hy8m1⟩) ?rest8m1
  case hy8m1 => (intro w; go_simp; try with_reducible rfl)
  simp only [Act.put, List.setIfInBounds_toArray, List.set_cons_zero, List.set_cons_succ, List.getElem_toArray, List.getElem_cons_zero, List.getElem_cons_succ]
  refine wpAny_take (i := 10) (v := ?v10m1) rfl (by kernel_rfl) (by kernel_rfl) (by kernel_rfl) (fun _ _ _ h => hQ _ _ _ _ _ h) (Or.inl ⟨by rfl, ?hy10m1⟩) ?rest10m1
  case hy10m1 => (intro w; go_simp; try with_reducible rfl)
  simp only [Act.put, List.setIfInBounds_toArray, List.set_cons_zero, List.set_cons_succ, List.getElem_toArray, List.getElem_cons_zero, List.getElem_cons_succ]
  refine wpAny_take (i := 11) (v := ?v11m1) rfl (by kernel_rfl) (by kernel_rfl) (by kernel_rfl) (fun _ _ _ h => hQ _ _ _ _ _ h) (Or.inl ⟨by rfl, ?hy11m1⟩) ?rest11m1
  case hy11m1 => (intro w; go_simp; try with_reducible rfl)
  simp only [Act.put, List.setIfInBounds_toArray, List.set_cons_zero, List.set_cons_succ, List.getElem_toArray, List.getElem_cons_zero, List.getElem_cons_succ]
  refine wpAny_take (i := 12) (v := ?v12m1) rfl (by kernel_rfl) (by kernel_rfl) (by kernel_rfl) (fun _ _ _ h => hQ _ _ _ _ _ h) (Or.inl ⟨by rfl, ?hy12m1⟩) ?rest12m1
  case hy12m1 => (intro w; go_simp; try with_reducible rfl)
  simp only [Act.put, List.setIfInBounds_toArray, List.set_cons_zero, List.set_cons_succ, List.getElem_toArray, List.getElem_cons_zero, List.getElem_cons_succ]
  refine wpAny_ready (rs := [9, 13]) (by kernel_rfl) (by simp) (AllReady.cons rfl (fun K hK => ?_) (AllReady.cons rfl (fun K hK => ?_) AllReady.nil))
  · rw [if_pos (by rfl)]
    refine wp_load_run _ _ rfl _ _ rfl HL.out ?_
    refine hK _ _ ?_
    simp only [Act.put, List.setIfInBounds_toArray, List.set_cons_zero, List.set_cons_succ]
    clear hK
    refine wpAny_ready (rs := [13]) (by kernel_rfl) (by simp) (AllReady.cons rfl (fun K hK => ?_) AllReady.nil)
    rw [if_pos (by rfl)]
    refine wp_load_run _ _ rfl _ _ rfl HI.out ?_
    refine hK _ _ ?_
    simp only [Act.put, List.setIfInBounds_toArray, List.set_cons_zero, List.set_cons_succ]
    clear hK
    refine wpAny_take (i := 14) (v := ?v14x9m1) rfl (by kernel_rfl) (by kernel_rfl) (by kernel_rfl) (fun _ _ _ h => hQ _ _ _ _ _ h) (Or.inl ⟨by rfl, ?hy14x9m1⟩) ?rest14x9m1
    case hy14x9m1 => (intro w; go_simp; try with_reducible rfl)
    simp only [Act.put, List.setIfInBounds_toArray, List.set_cons_zero, List.set_cons_succ, List.getElem_toArray, List.getElem_cons_zero, List.getElem_cons_succ]
    refine wpAny_ready (rs := [15]) (by kernel_rfl) (by simp) (AllReady.cons rfl (fun K hK => ?_) AllReady.nil)
    rw [if_pos (by rfl)]
    refine wp_store_run _ _ _ rfl _ _ rfl rfl HS1.out ?_
    refine hK _ _ ?_
    simp only [Act.put]
    clear hK
    refine wpAny_take (i := 16) (v := ?v16x9m1) rfl (by kernel_rfl) (by kernel_rfl) (by kernel_rfl) (fun _ _ _ h => hQ _ _ _ _ _ h) (Or.inl ⟨by rfl, ?hy16x9m1⟩) ?rest16x9m1
    case hy16x9m1 => (intro w; go_simp; try with_reducible rfl)
    simp only [Act.put, List.setIfInBounds_toArray, List.set_cons_zero, List.set_cons_succ, List.getElem_toArray, List.getElem_cons_zero, List.getElem_cons_succ]
    refine wpAny_ready (rs := [17]) (by kernel_rfl) (by simp) (AllReady.cons rfl (fun K hK => ?_) AllReady.nil)
    rw [if_pos (by rfl)]
    refine wp_store_run _ _ _ rfl _ _ rfl rfl HS2.out ?_
    refine hK _ _ ?_
    simp only [Act.put]
    exact wpAny_done (by kernel_rfl) HK.out _
  · rw [if_pos (by rfl)]
    refine wp_load_run _ _ rfl _ _ rfl HI.out ?_
    refine hK _ _ ?_
    simp only [Act.put, List.setIfInBounds_toArray, List.set_cons_zero, List.set_cons_succ]
    clear hK
    refine wpAny_ready (rs := [9]) (by kernel_rfl) (by simp) (AllReady.cons rfl (fun K hK => ?_) AllReady.nil)
    rw [if_pos (by rfl)]
    refine wp_load_run _ _ rfl _ _ rfl HL.out ?_
    refine hK _ _ ?_
    simp only [Act.put, List.setIfInBounds_toArray, List.set_cons_zero, List.set_cons_succ]
    clear hK
    refine wpAny_take (i := 14) (v := ?v14x13m1) rfl (by kernel_rfl) (by kernel_rfl) (by kernel_rfl) (fun _ _ _ h => hQ _ _ _ _ _ h) (Or.inl ⟨by rfl, ?hy14x13m1⟩) ?rest14x13m1
    case hy14x13m1 => (intro w; go_simp; try with_reducible rfl)
    simp only [Act.put, List.setIfInBounds_toArray, List.set_cons_zero, List.set_cons_succ, List.getElem_toArray, List.getElem_cons_zero, List.getElem_cons_succ]
    refine wpAny_ready (rs := [15]) (by kernel_rfl) (by simp) (AllReady.cons rfl (fun K hK => ?_) AllReady.nil)
    rw [if_pos (by rfl)]
    refine wp_store_run _ _ _ rfl _ _ rfl rfl HS1.out ?_
    refine hK _ _ ?_
    simp only [Act.put]
    clear hK
    refine wpAny_take (i := 16) (v := ?v16x13m1) rfl (by kernel_rfl) (by kernel_rfl) (by kernel_rfl) (fun _ _ _ h => hQ _ _ _ _ _ h) (Or.inl ⟨by rfl, ?hy16x13m1⟩) ?rest16x13m1
    case hy16x13m1 => (intro w; go_simp; try with_reducible rfl)
    simp only [Act.put, List.setIfInBounds_toArray, List.set_cons_zero, List.set_cons_succ, List.getElem_toArray, List.getElem_cons_zero, List.getElem_cons_succ]
    refine wpAny_ready (rs := [17]) (by kernel_rfl) (by simp) (AllReady.cons rfl (fun K hK => ?_) AllReady.nil)
    rw [if_pos (by rfl)]
    refine wp_store_run _ _ _ rfl _ _ rfl rfl HS2.out ?_
    refine hK _ _ ?_
    simp only [Act.put]
    exact wpAny_done (by kernel_rfl) HK.out _
noncomputable def code_m2 : Code := ((Tryd.f71.body.bind (regionAt 23)).getD .skip)
set_option maxRecDepth 1000000 in
set_option maxHeartbeats 4000000 in
theorem reg_m2 (g n cap i j : Nat) (cI cJ : List Value) (hi : i < n) (hj : j < n) (W : World) (hij : IntKind.i64.wrap ((i : Int) - 1) = (j : Int))
    (lj : (Instr.loadAt 40 (.pointer (some ⟨g, j * 12, none⟩))).run Tryd.prog W.drew = .ok (.agg cJ.toArray) W.drew) (li : (Instr.loadAt 40 (.pointer (some ⟨g, i * 12, none⟩))).run Tryd.prog W.drew = .ok (.agg cI.toArray) W.drew)
    (s1 : (Instr.storeAt 40 (.pointer (some ⟨g, i * 12, none⟩)) (.agg cJ.toArray)).run Tryd.prog W.drew = .ok () (W.drew.setCells g (i * 12) cJ))
    (s2 : (Instr.storeAt 40 (.pointer (some ⟨g, j * 12, none⟩)) (.agg cI.toArray)).run Tryd.prog (W.drew.setCells g (i * 12) cJ) = .ok () ((W.drew.setCells g (i * 12) cJ).setCells g (j * 12) cI))
    (Q : Exit → Act → World → Prop) (hQ : ∀ c (a : Act) (d : Nat) v w, Q (.panic c) (a.put (some d) v) w → Q (.panic c) a w)
    (c1 c2 c3 c4 c5 c6 c7 c8 c9 c10 c11 c12 c13 c14 c15 c16 c18 c19 c20 c21 c22 c23 c24 c25 c26 c27 c28 c29 c30 c31 c32 c33 c34 c35 c36 c37 c38 c39 c40 c41 c42 c43 c44 c45 c46 c47 c48 c49 c50 c51 c52 c53 c54 c55 c56 c57 c58 c59 c60 c61 c62 c63 c64 c65 c66 c67 c68 c69 c70 c71 c72 c73 c74 c75 c76 c77 c78 c79 c80 c81 c82 c83 c84 c85 c86 c87 c88 c89 c90 c91 c92 c93 c94 c95 c96 c97 c98 c99 c100 c101 c102 c103 c104 c105 c106 c107 c108 c109 c110 c111 c112 c113 c114 c115 c116 c117 c118 c119 c120 c121 c122 c123 c124 c125 c126 c127 c128 c129 c130 c131 c132 c133 c134 c135 c136 c137 c138 c139 c140 c141 c142 c143 c144 c145 c146 c147 c148 c149 c150 c151 c152 c153 c154 c155 c156 c157 c158 c159 c160 c161 c162 c163 c164 c165 c166 c167 c168 c169 c170 c171 c172 c173 c174 c175 c176 c177 c178 c179 c180 c181 c182 c183 c184 c185 c186 c187 c188 c189 c190 c191 c192 c193 c194 c195 c196 c197 c198 c199 c200 c201 c202 c203 c204 c205 c206 c207 c208 c209 c210 c211 c212 c213 c214 c215 c216 c217 c218 c219 : Value)
    (hK : Q .normal ⟨#[(.slice (some ⟨g, 0, none⟩) n cap), c1, c2, c3, c4, c5, c6, c7, c8, c9, c10, c11, c12, c13, c14, c15, c16, (.int .i64 (i : Int)), c18, c19, c20, c21, c22, c23, c24, c25, c26, c27, c28, c29, c30, c31, c32, c33, c34, c35, c36, c37, c38, c39, c40, c41, c42, c43, c44, c45, c46, c47, c48, c49, c50, c51, c52, c53, c54, c55, c56, c57, c58, c59, c60, c61, c62, c63, c64, c65, c66, c67, c68, c69, c70, c71, c72, c73, c74, c75, c76, c77, c78, c79, c80, c81, c82, c83, c84, c85, c86, c87, c88, c89, c90, c91, c92, c93, c94, c95, c96, c97, c98, c99, c100, c101, c102, c103, c104, c105, c106, c107, c108, c109, c110, c111, c112, (.slice (some ⟨g, 0, none⟩) n cap), (.int .i64 (i : Int)), (.slice (some ⟨g, 0, none⟩) n cap), (.int .i64 (i : Int)), (.int .i64 (j : Int)), (.slice (some ⟨g, 0, none⟩) n cap), (.int .i64 (i : Int)), (.int .i64 (j : Int)), (.pointer (some ⟨g, j * 12, none⟩)), (.agg cJ.toArray), (.slice (some ⟨g, 0, none⟩) n cap), (.int .i64 (i : Int)), (.pointer (some ⟨g, i * 12, none⟩)), (.agg cI.toArray), (.pointer (some ⟨g, i * 12, none⟩)), (.pointer (some ⟨g, j * 12, none⟩)), c129, c130, c131, c132, c133, c134, c135, c136, c137, c138, c139, c140, c141, c142, c143, c144, c145, c146, c147, c148, c149, c150, c151, c152, c153, c154, c155, c156, c157, c158, c159, c160, c161, c162, c163, c164, c165, c166, c167, c168, c169, c170, c171, c172, c173, c174, c175, c176, c177, c178, c179, c180, c181, c182, c183, c184, c185, c186, c187, c188, c189, c190, c191, c192, c193, c194, c195, c196, c197, c198, c199, c200, c201, c202, c203, c204, c205, c206, c207, c208, c209, c210, c211, c212, c213, c214, c215, c216, c217, c218, c219], []⟩ ((W.drew.setCells g (i * 12) cJ).setCells g (j * 12) cI)) :
    Code.wp Tryd.prog code_m2 Q ⟨#[(.slice (some ⟨g, 0, none⟩) n cap), c1, c2, c3, c4, c5, c6, c7, c8, c9, c10, c11, c12, c13, c14, c15, c16, (.int .i64 (i : Int)), c18, c19, c20, c21, c22, c23, c24, c25, c26, c27, c28, c29, c30, c31, c32, c33, c34, c35, c36, c37, c38, c39, c40, c41, c42, c43, c44, c45, c46, c47, c48, c49, c50, c51, c52, c53, c54, c55, c56, c57, c58, c59, c60, c61, c62, c63, c64, c65, c66, c67, c68, c69, c70, c71, c72, c73, c74, c75, c76, c77, c78, c79, c80, c81, c82, c83, c84, c85, c86, c87, c88, c89, c90, c91, c92, c93, c94, c95, c96, c97, c98, c99, c100, c101, c102, c103, c104, c105, c106, c107, c108, c109, c110, c111, c112, c113, c114, c115, c116, c117, c118, c119, c120, c121, c122, c123, c124, c125, c126, c127, c128, c129, c130, c131, c132, c133, c134, c135, c136, c137, c138, c139, c140, c141, c142, c143, c144, c145, c146, c147, c148, c149, c150, c151, c152, c153, c154, c155, c156, c157, c158, c159, c160, c161, c162, c163, c164, c165, c166, c167, c168, c169, c170, c171, c172, c173, c174, c175, c176, c177, c178, c179, c180, c181, c182, c183, c184, c185, c186, c187, c188, c189, c190, c191, c192, c193, c194, c195, c196, c197, c198, c199, c200, c201, c202, c203, c204, c205, c206, c207, c208, c209, c210, c211, c212, c213, c214, c215, c216, c217, c218, c219], []⟩ W := by
  have mixed : Tryd.prog.follows Departure.mixedOrders = true := mixed_ok
  have hi1 : (i : Int) < (n : Int) := by omega
  have hj1 : (j : Int) < (n : Int) := by omega
  have hi0 : (0 : Int) ≤ (i : Int) := by omega
  have hj0 : (0 : Int) ≤ (j : Int) := by omega
  have HL := Lib.hid lj
  have HI := Lib.hid li
  have HS1 := Lib.hid s1
  have HS2 := Lib.hid s2
  have HK := Lib.hid hK
  clear lj li s1 s2 hK
  conv => arg 2; whnf
  refine wp_region_any mixed ?_
  show wpAny _ _ _ _ _ _ _ W.drew
  refine wpAny_take (i := 0) (v := ?v0m2) rfl (by kernel_rfl) (by kernel_rfl) (by kernel_rfl) (fun _ _ _ h => hQ _ _ _ _ _ h) (Or.inl ⟨by rfl, ?hy0m2⟩) ?rest0m2
  case hy0m2 => (intro w; go_simp; try with_reducible rfl)
  simp only [Act.put, List.setIfInBounds_toArray, List.set_cons_zero, List.set_cons_succ, List.getElem_toArray, List.getElem_cons_zero]
  refine wpAny_take (i := 1) (v := ?v1m2) rfl (by kernel_rfl) (by kernel_rfl) (by kernel_rfl) (fun _ _ _ h => hQ _ _ _ _ _ h) (Or.inl ⟨by rfl, ?hy1m2⟩) ?rest1m2
  case hy1m2 => (intro w; go_simp; try with_reducible rfl)
  simp only [Act.put, List.setIfInBounds_toArray, List.set_cons_zero, List.set_cons_succ, List.getElem_toArray, List.getElem_cons_zero, List.getElem_cons_succ]
  refine wpAny_take (i := 2) (v := ?v2m2) rfl (by kernel_rfl) (by kernel_rfl) (by kernel_rfl) (fun _ _ _ h => hQ _ _ _ _ _ h) (Or.inl ⟨by rfl, ?hy2m2⟩) ?rest2m2
  case hy2m2 => (intro w; go_simp; try with_reducible rfl)
  simp only [Act.put, List.setIfInBounds_toArray, List.set_cons_zero, List.set_cons_succ, List.getElem_toArray, List.getElem_cons_zero, List.getElem_cons_succ]
  refine wpAny_take (i := 3) (v := ?v3m2) rfl (by kernel_rfl) (by kernel_rfl) (by kernel_rfl) (fun _ _ _ h => hQ _ _ _ _ _ h) (Or.inl ⟨by rfl, ?hy3m2⟩) ?rest3m2
  case hy3m2 => (intro w; go_simp; try with_reducible rfl)
  simp only [Act.put, List.setIfInBounds_toArray, List.set_cons_zero, List.set_cons_succ, List.getElem_toArray, List.getElem_cons_zero, List.getElem_cons_succ]
  refine wpAny_take (i := 4) (v := ?v4m2) rfl (by kernel_rfl) (by kernel_rfl) (by kernel_rfl) (fun _ _ _ h => hQ _ _ _ _ _ h) (Or.inl ⟨by rfl, ?hy4m2⟩) ?rest4m2
  case hy4m2 => (intro w; go_simp; try with_reducible rfl)
  simp only [Act.put, List.setIfInBounds_toArray, List.set_cons_zero, List.set_cons_succ, List.getElem_toArray, List.getElem_cons_zero, List.getElem_cons_succ]
  refine wpAny_take (i := 5) (v := ?v5m2) rfl (by kernel_rfl) (by kernel_rfl) (by kernel_rfl) (fun _ _ _ h => hQ _ _ _ _ _ h) (Or.inl ⟨by rfl, ?hy5m2⟩) ?rest5m2
  case hy5m2 => (intro w; go_simp; try with_reducible rfl)
  simp only [Act.put, List.setIfInBounds_toArray, List.set_cons_zero, List.set_cons_succ, List.getElem_toArray, List.getElem_cons_zero, List.getElem_cons_succ]
  refine wpAny_take (i := 6) (v := ?v6m2) rfl (by kernel_rfl) (by kernel_rfl) (by kernel_rfl) (fun _ _ _ h => hQ _ _ _ _ _ h) (Or.inl ⟨by rfl, ?hy6m2⟩) ?rest6m2
  case hy6m2 => (intro w; go_simp; try with_reducible rfl)
  simp only [Act.put, List.setIfInBounds_toArray, List.set_cons_zero, List.set_cons_succ, List.getElem_toArray, List.getElem_cons_zero, List.getElem_cons_succ]
  refine wpAny_take (i := 7) (v := ?v7m2) rfl (by kernel_rfl) (by kernel_rfl) (by kernel_rfl) (fun _ _ _ h => hQ _ _ _ _ _ h) (Or.inl ⟨by rfl, ?hy7m2⟩) ?rest7m2
  case hy7m2 => (intro w; go_simp; try with_reducible rfl)
  simp only [Act.put, List.setIfInBounds_toArray, List.set_cons_zero, List.set_cons_succ, List.getElem_toArray, List.getElem_cons_zero, List.getElem_cons_succ]
  refine wpAny_take (i := 8) (v := ?v8m2) rfl (by kernel_rfl) (by kernel_rfl) (by kernel_rfl) (fun _ _ _ h => hQ _ _ _ _ _ h) (Or.inl ⟨by rfl, ?hy8m2⟩) ?rest8m2
  case hy8m2 => (intro w; go_simp; try with_reducible rfl)
  simp only [Act.put, List.setIfInBounds_toArray, List.set_cons_zero, List.set_cons_succ, List.getElem_toArray, List.getElem_cons_zero, List.getElem_cons_succ]
  refine wpAny_take (i := 10) (v := ?v10m2) rfl (by kernel_rfl) (by kernel_rfl) (by kernel_rfl) (fun _ _ _ h => hQ _ _ _ _ _ h) (Or.inl ⟨by rfl, ?hy10m2⟩) ?rest10m2
  case hy10m2 => (intro w; go_simp; try with_reducible rfl)
  simp only [Act.put, List.setIfInBounds_toArray, List.set_cons_zero, List.set_cons_succ, List.getElem_toArray, List.getElem_cons_zero, List.getElem_cons_succ]
  refine wpAny_take (i := 11) (v := ?v11m2) rfl (by kernel_rfl) (by kernel_rfl) (by kernel_rfl) (fun _ _ _ h => hQ _ _ _ _ _ h) (Or.inl ⟨by rfl, ?hy11m2⟩) ?rest11m2
  case hy11m2 => (intro w; go_simp; try with_reducible rfl)
  simp only [Act.put, List.setIfInBounds_toArray, List.set_cons_zero, List.set_cons_succ, List.getElem_toArray, List.getElem_cons_zero, List.getElem_cons_succ]
  refine wpAny_take (i := 12) (v := ?v12m2) rfl (by kernel_rfl) (by kernel_rfl) (by kernel_rfl) (fun _ _ _ h => hQ _ _ _ _ _ h) (Or.inl ⟨by rfl, ?hy12m2⟩) ?rest12m2
  case hy12m2 => (intro w; go_simp; try with_reducible rfl)
  simp only [Act.put, List.setIfInBounds_toArray, List.set_cons_zero, List.set_cons_succ, List.getElem_toArray, List.getElem_cons_zero, List.getElem_cons_succ]
  refine wpAny_ready (rs := [9, 13]) (by kernel_rfl) (by simp) (AllReady.cons rfl (fun K hK => ?_) (AllReady.cons rfl (fun K hK => ?_) AllReady.nil))
  · rw [if_pos (by rfl)]
    refine wp_load_run _ _ rfl _ _ rfl HL.out ?_
    refine hK _ _ ?_
    simp only [Act.put, List.setIfInBounds_toArray, List.set_cons_zero, List.set_cons_succ]
    clear hK
    refine wpAny_ready (rs := [13]) (by kernel_rfl) (by simp) (AllReady.cons rfl (fun K hK => ?_) AllReady.nil)
    rw [if_pos (by rfl)]
    refine wp_load_run _ _ rfl _ _ rfl HI.out ?_
    refine hK _ _ ?_
    simp only [Act.put, List.setIfInBounds_toArray, List.set_cons_zero, List.set_cons_succ]
    clear hK
    refine wpAny_take (i := 14) (v := ?v14x9m2) rfl (by kernel_rfl) (by kernel_rfl) (by kernel_rfl) (fun _ _ _ h => hQ _ _ _ _ _ h) (Or.inl ⟨by rfl, ?hy14x9m2⟩) ?rest14x9m2
    case hy14x9m2 => (intro w; go_simp; try with_reducible rfl)
    simp only [Act.put, List.setIfInBounds_toArray, List.set_cons_zero, List.set_cons_succ, List.getElem_toArray, List.getElem_cons_zero, List.getElem_cons_succ]
    refine wpAny_ready (rs := [15]) (by kernel_rfl) (by simp) (AllReady.cons rfl (fun K hK => ?_) AllReady.nil)
    rw [if_pos (by rfl)]
    refine wp_store_run _ _ _ rfl _ _ rfl rfl HS1.out ?_
    refine hK _ _ ?_
    simp only [Act.put]
    clear hK
    refine wpAny_take (i := 16) (v := ?v16x9m2) rfl (by kernel_rfl) (by kernel_rfl) (by kernel_rfl) (fun _ _ _ h => hQ _ _ _ _ _ h) (Or.inl ⟨by rfl, ?hy16x9m2⟩) ?rest16x9m2
    case hy16x9m2 => (intro w; go_simp; try with_reducible rfl)
    simp only [Act.put, List.setIfInBounds_toArray, List.set_cons_zero, List.set_cons_succ, List.getElem_toArray, List.getElem_cons_zero, List.getElem_cons_succ]
    refine wpAny_ready (rs := [17]) (by kernel_rfl) (by simp) (AllReady.cons rfl (fun K hK => ?_) AllReady.nil)
    rw [if_pos (by rfl)]
    refine wp_store_run _ _ _ rfl _ _ rfl rfl HS2.out ?_
    refine hK _ _ ?_
    simp only [Act.put]
    exact wpAny_done (by kernel_rfl) HK.out _
  · rw [if_pos (by rfl)]
    refine wp_load_run _ _ rfl _ _ rfl HI.out ?_
    refine hK _ _ ?_
    simp only [Act.put, List.setIfInBounds_toArray, List.set_cons_zero, List.set_cons_succ]
    clear hK
    refine wpAny_ready (rs := [9]) (by kernel_rfl) (by simp) (AllReady.cons rfl (fun K hK => ?_) AllReady.nil)
    rw [if_pos (by rfl)]
    refine wp_load_run _ _ rfl _ _ rfl HL.out ?_
    refine hK _ _ ?_
    simp only [Act.put, List.setIfInBounds_toArray, List.set_cons_zero, List.set_cons_succ]
    clear hK
    refine wpAny_take (i := 14) (v := ?v14x13m2) rfl (by kernel_rfl) (by kernel_rfl) (by kernel_rfl) (fun _ _ _ h => hQ _ _ _ _ _ h) (Or.inl ⟨by rfl, ?hy14x13m2⟩) ?rest14x13m2
    case hy14x13m2 => (intro w; go_simp; try with_reducible rfl)
    simp only [Act.put, List.setIfInBounds_toArray, List.set_cons_zero, List.set_cons_succ, List.getElem_toArray, List.getElem_cons_zero, List.getElem_cons_succ]
    refine wpAny_ready (rs := [15]) (by kernel_rfl) (by simp) (AllReady.cons rfl (fun K hK => ?_) AllReady.nil)
    rw [if_pos (by rfl)]
    refine wp_store_run _ _ _ rfl _ _ rfl rfl HS1.out ?_
    refine hK _ _ ?_
    simp only [Act.put]
    clear hK
    refine wpAny_take (i := 16) (v := ?v16x13m2) rfl (by kernel_rfl) (by kernel_rfl) (by kernel_rfl) (fun _ _ _ h => hQ _ _ _ _ _ h) (Or.inl ⟨by rfl, ?hy16x13m2⟩) ?rest16x13m2
    case hy16x13m2 => (intro w; go_simp; try with_reducible rfl)
    simp only [Act.put, List.setIfInBounds_toArray, List.set_cons_zero, List.set_cons_succ, List.getElem_toArray, List.getElem_cons_zero, List.getElem_cons_succ]
    refine wpAny_ready (rs := [17]) (by kernel_rfl) (by simp) (AllReady.cons rfl (fun K hK => ?_) AllReady.nil)
    rw [if_pos (by rfl)]
    refine wp_store_run _ _ _ rfl _ _ rfl rfl HS2.out ?_
    refine hK _ _ ?_
    simp only [Act.put]
    exact wpAny_done (by kernel_rfl) HK.out _
end Go.Proofs.YtpanjldionaaiaaDoor
