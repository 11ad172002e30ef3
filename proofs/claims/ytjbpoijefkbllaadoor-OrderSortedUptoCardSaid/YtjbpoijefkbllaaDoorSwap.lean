/-
  OrderSorted's swap of two nodes, a region by itself: two loads and two stores of whole nodes, in whatever order. No condition.
-/
import Derived.Test.YtjbpoijefkbllaaDoorOrderS
import Derived.Test.YtjbpoijefkbllaaDoorTreeR
import Derived.Deep.MidRow
import Derived.Orders
import Derived.RegionTactic
import Derived.BigRegion
namespace Go.Proofs.YtjbpoijefkbllaaDoor
open Go.RowKit

noncomputable def code7 : Code := ((Tryd.f3.body.bind (regionAt 7)).getD .skip)
section
variable {P : Program} {op : Oper} {a : Act} {w w' : World} {K : Act → World → Prop} {Q : Exit → Act → World → Prop}
theorem wp_load_run (ty : TypeId) (x : Operand) (ho : op.op = .load ty x) (q v : Value) (hx : a.eval x = q) (hr : (Instr.loadAt ty q).run P w = .ok v w) (h : K (a.put op.dst v) w) : op.wp P a w K Q := by
  unfold Oper.wp execOp
  simp only [ho, hx, hr, Sem.run_bind, Sem.run_pure, Result.andThen_ok]
  exact h
theorem wp_store_run (ty : TypeId) (x y : Operand) (ho : op.op = .store ty x y) (q v : Value) (hx : a.eval x = q) (hy : a.eval y = v) (hr : (Instr.storeAt ty q v).run P w = .ok () w') (h : K (a.put op.dst undef) w') : op.wp P a w K Q := by
  unfold Oper.wp execOp
  simp only [ho, hx, hy, hr, Sem.run_bind, Sem.run_pure, Result.andThen_ok]
  exact h
end
set_option maxRecDepth 1000000 in
set_option maxHeartbeats 4000000 in
theorem swap_reg (g n cap i j : Nat) (cI cJ : List Value) (hi : i < n) (hj : j < n) (W : World)
    (lj : (Instr.loadAt 31 (.pointer (some ⟨g, j * 12, none⟩))).run Tryd.prog W.drew = .ok (.agg cJ.toArray) W.drew) (li : (Instr.loadAt 31 (.pointer (some ⟨g, i * 12, none⟩))).run Tryd.prog W.drew = .ok (.agg cI.toArray) W.drew)
    (s1 : (Instr.storeAt 31 (.pointer (some ⟨g, i * 12, none⟩)) (.agg cJ.toArray)).run Tryd.prog W.drew = .ok () (W.drew.setCells g (i * 12) cJ))
    (s2 : (Instr.storeAt 31 (.pointer (some ⟨g, j * 12, none⟩)) (.agg cI.toArray)).run Tryd.prog (W.drew.setCells g (i * 12) cJ) = .ok () ((W.drew.setCells g (i * 12) cJ).setCells g (j * 12) cI))
    (Q : Exit → Act → World → Prop) (hQ : ∀ c (a : Act) (d : Nat) v w, Q (.panic c) (a.put (some d) v) w → Q (.panic c) a w)
    (c0 c1 c2 c3 c4 c5 c9 c10 c11 c12 c13 c14 c15 c16 c17 c18 c19 c20 c21 c22 c23 c24 c25 c26 c27 c28 c29 c30 c31 c32 c33 c34 c35 c36 c37 c38 c39 c40 c41 c42 c43 c44 c45 c46 c47 c48 c49 c50 c51 c52 c53 c54 c55 c56 c57 c58 c59 c60 c61 c62 c63 c64 c65 c66 c67 c68 c69 c70 c71 c72 c73 c74 c75 c76 c77 c78 c79 c80 c81 c82 c83 c84 c85 c86 c87 c88 c89 c90 c91 c92 c93 c94 c95 c96 c97 c98 c99 c100 c101 : Value)
    (hK : Q .normal ⟨#[c0, c1, c2, c3, c4, c5, (.slice (some ⟨g, 0, none⟩) n cap), (.int .i64 (i : Int)), (.int .i64 (j : Int)), c9, c10, c11, c12, c13, c14, c15, c16, c17, c18, c19, c20, c21, c22, c23, c24, c25, c26, c27, c28, c29, c30, c31, c32, c33, c34, c35, c36, c37, c38, c39, c40, (.slice (some ⟨g, 0, none⟩) n cap), (.int .i64 (i : Int)), (.slice (some ⟨g, 0, none⟩) n cap), (.int .i64 (j : Int)), (.slice (some ⟨g, 0, none⟩) n cap), (.int .i64 (j : Int)), (.pointer (some ⟨g, j * 12, none⟩)), (.agg cJ.toArray), (.slice (some ⟨g, 0, none⟩) n cap), (.int .i64 (i : Int)), (.pointer (some ⟨g, i * 12, none⟩)), (.agg cI.toArray), (.pointer (some ⟨g, i * 12, none⟩)), (.pointer (some ⟨g, j * 12, none⟩)), c55, c56, c57, c58, c59, c60, c61, c62, c63, c64, c65, c66, c67, c68, c69, c70, c71, c72, c73, c74, c75, c76, c77, c78, c79, c80, c81, c82, c83, c84, c85, c86, c87, c88, c89, c90, c91, c92, c93, c94, c95, c96, c97, c98, c99, c100, c101], []⟩ ((W.drew.setCells g (i * 12) cJ).setCells g (j * 12) cI)) :
    Code.wp Tryd.prog code7 Q ⟨#[c0, c1, c2, c3, c4, c5, (.slice (some ⟨g, 0, none⟩) n cap), (.int .i64 (i : Int)), (.int .i64 (j : Int)), c9, c10, c11, c12, c13, c14, c15, c16, c17, c18, c19, c20, c21, c22, c23, c24, c25, c26, c27, c28, c29, c30, c31, c32, c33, c34, c35, c36, c37, c38, c39, c40, c41, c42, c43, c44, c45, c46, c47, c48, c49, c50, c51, c52, c53, c54, c55, c56, c57, c58, c59, c60, c61, c62, c63, c64, c65, c66, c67, c68, c69, c70, c71, c72, c73, c74, c75, c76, c77, c78, c79, c80, c81, c82, c83, c84, c85, c86, c87, c88, c89, c90, c91, c92, c93, c94, c95, c96, c97, c98, c99, c100, c101], []⟩ W := by
  have mixed : Tryd.prog.follows Departure.mixedOrders = true := mixed_ok
  have hi1 : (i : Int) < (n : Int) := by omega
  have hj1 : (j : Int) < (n : Int) := by omega
  have hi0 : (0 : Int) ≤ (i : Int) := by omega
  have hj0 : (0 : Int) ≤ (j : Int) := by omega
  have HL := Lib.hid lj
  have HI := Lib.hid li
  have HS1 := Lib.hid s1
  have HS2 := Lib.hid s2
  have HK := Lib.hid hK
  clear lj li s1 s2 hK
  conv => arg 2; whnf
  refine wp_region_any mixed ?_
  show wpAny _ _ _ _ _ _ _ W.drew
  refine wpAny_take (i := 0) (v := ?v0) rfl (by kernel_rfl) (by kernel_rfl) (by kernel_rfl) (fun _ _ _ h => hQ _ _ _ _ _ h) (Or.inl ⟨by rfl, ?hy0⟩) ?rest0
  case hy0 => (intro w; go_simp; try with_reducible rfl)
  simp only [Act.put, List.setIfInBounds_toArray, List.set_cons_zero, List.set_cons_succ, List.getElem_toArray, List.getElem_cons_zero]
  refine wpAny_take (i := 1) (v := ?v1) rfl (by kernel_rfl) (by kernel_rfl) (by kernel_rfl) (fun _ _ _ h => hQ _ _ _ _ _ h) (Or.inl ⟨by rfl, ?hy1⟩) ?rest1
  case hy1 => (intro w; go_simp; try with_reducible rfl)
  simp only [Act.put, List.setIfInBounds_toArray, List.set_cons_zero, List.set_cons_succ, List.getElem_toArray, List.getElem_cons_zero, List.getElem_cons_succ]
  refine wpAny_take (i := 2) (v := ?v2) rfl (by kernel_rfl) (by kernel_rfl) (by kernel_rfl) (fun _ _ _ h => hQ _ _ _ _ _ h) (Or.inl ⟨by rfl, ?hy2⟩) ?rest2
  case hy2 => (intro w; go_simp; try with_reducible rfl)
  simp only [Act.put, List.setIfInBounds_toArray, List.set_cons_zero, List.set_cons_succ, List.getElem_toArray, List.getElem_cons_zero, List.getElem_cons_succ]
  refine wpAny_take (i := 3) (v := ?v3) rfl (by kernel_rfl) (by kernel_rfl) (by kernel_rfl) (fun _ _ _ h => hQ _ _ _ _ _ h) (Or.inl ⟨by rfl, ?hy3⟩) ?rest3
  case hy3 => (intro w; go_simp; try with_reducible rfl)
  simp only [Act.put, List.setIfInBounds_toArray, List.set_cons_zero, List.set_cons_succ, List.getElem_toArray, List.getElem_cons_zero, List.getElem_cons_succ]
  refine wpAny_take (i := 4) (v := ?v4) rfl (by kernel_rfl) (by kernel_rfl) (by kernel_rfl) (fun _ _ _ h => hQ _ _ _ _ _ h) (Or.inl ⟨by rfl, ?hy4⟩) ?rest4
  case hy4 => (intro w; go_simp; try with_reducible rfl)
  simp only [Act.put, List.setIfInBounds_toArray, List.set_cons_zero, List.set_cons_succ, List.getElem_toArray, List.getElem_cons_zero, List.getElem_cons_succ]
  refine wpAny_take (i := 5) (v := ?v5) rfl (by kernel_rfl) (by kernel_rfl) (by kernel_rfl) (fun _ _ _ h => hQ _ _ _ _ _ h) (Or.inl ⟨by rfl, ?hy5⟩) ?rest5
  case hy5 => (intro w; go_simp; try with_reducible rfl)
  simp only [Act.put, List.setIfInBounds_toArray, List.set_cons_zero, List.set_cons_succ, List.getElem_toArray, List.getElem_cons_zero, List.getElem_cons_succ]
  refine wpAny_take (i := 6) (v := ?v6) rfl (by kernel_rfl) (by kernel_rfl) (by kernel_rfl) (fun _ _ _ h => hQ _ _ _ _ _ h) (Or.inl ⟨by rfl, ?hy6⟩) ?rest6
  case hy6 => (intro w; go_simp; try with_reducible rfl)
  simp only [Act.put, List.setIfInBounds_toArray, List.set_cons_zero, List.set_cons_succ, List.getElem_toArray, List.getElem_cons_zero, List.getElem_cons_succ]
  refine wpAny_take (i := 8) (v := ?v8) rfl (by kernel_rfl) (by kernel_rfl) (by kernel_rfl) (fun _ _ _ h => hQ _ _ _ _ _ h) (Or.inl ⟨by rfl, ?hy8⟩) ?rest8
  case hy8 => (intro w; go_simp; try with_reducible rfl)
  simp only [Act.put, List.setIfInBounds_toArray, List.set_cons_zero, List.set_cons_succ, List.getElem_toArray, List.getElem_cons_zero, List.getElem_cons_succ]
  refine wpAny_take (i := 9) (v := ?v9) rfl (by kernel_rfl) (by kernel_rfl) (by kernel_rfl) (fun _ _ _ h => hQ _ _ _ _ _ h) (Or.inl ⟨by rfl, ?hy9⟩) ?rest9
  case hy9 => (intro w; go_simp; try with_reducible rfl)
  simp only [Act.put, List.setIfInBounds_toArray, List.set_cons_zero, List.set_cons_succ, List.getElem_toArray, List.getElem_cons_zero, List.getElem_cons_succ]
  refine wpAny_take (i := 10) (v := ?v10) rfl (by kernel_rfl) (by kernel_rfl) (by kernel_rfl) (fun _ _ _ h => hQ _ _ _ _ _ h) (Or.inl ⟨by rfl, ?hy10⟩) ?rest10
  case hy10 => (intro w; go_simp; try with_reducible rfl)
  simp only [Act.put, List.setIfInBounds_toArray, List.set_cons_zero, List.set_cons_succ, List.getElem_toArray, List.getElem_cons_zero, List.getElem_cons_succ]
  refine wpAny_ready (rs := [7, 11]) (by kernel_rfl) (by simp) (AllReady.cons rfl (fun K hK => ?_) (AllReady.cons rfl (fun K hK => ?_) AllReady.nil))
  · rw [if_pos (by rfl)]
    refine wp_load_run _ _ rfl _ _ rfl HL.out ?_
    refine hK _ _ ?_
    simp only [Act.put, List.setIfInBounds_toArray, List.set_cons_zero, List.set_cons_succ]
    clear hK
    refine wpAny_ready (rs := [11]) (by kernel_rfl) (by simp) (AllReady.cons rfl (fun K hK => ?_) AllReady.nil)
    rw [if_pos (by rfl)]
    refine wp_load_run _ _ rfl _ _ rfl HI.out ?_
    refine hK _ _ ?_
    simp only [Act.put, List.setIfInBounds_toArray, List.set_cons_zero, List.set_cons_succ]
    clear hK
    refine wpAny_take (i := 12) (v := ?v12x7) rfl (by kernel_rfl) (by kernel_rfl) (by kernel_rfl) (fun _ _ _ h => hQ _ _ _ _ _ h) (Or.inl ⟨by rfl, ?hy12x7⟩) ?rest12x7
    case hy12x7 => (intro w; go_simp; try with_reducible rfl)
    simp only [Act.put, List.setIfInBounds_toArray, List.set_cons_zero, List.set_cons_succ, List.getElem_toArray, List.getElem_cons_zero, List.getElem_cons_succ]
    refine wpAny_ready (rs := [13]) (by kernel_rfl) (by simp) (AllReady.cons rfl (fun K hK => ?_) AllReady.nil)
    rw [if_pos (by rfl)]
    refine wp_store_run _ _ _ rfl _ _ rfl rfl HS1.out ?_
    refine hK _ _ ?_
    simp only [Act.put]
    refine wpAny_take (i := 14) (v := ?v14x7) rfl (by kernel_rfl) (by kernel_rfl) (by kernel_rfl) (fun _ _ _ h => hQ _ _ _ _ _ h) (Or.inl ⟨by rfl, ?hy14x7⟩) ?rest14x7
    case hy14x7 => (intro w; go_simp; try with_reducible rfl)
    simp only [Act.put, List.setIfInBounds_toArray, List.set_cons_zero, List.set_cons_succ, List.getElem_toArray, List.getElem_cons_zero, List.getElem_cons_succ]
    refine wpAny_ready (rs := [15]) (by kernel_rfl) (by simp) (AllReady.cons rfl (fun K hK => ?_) AllReady.nil)
    rw [if_pos (by rfl)]
    refine wp_store_run _ _ _ rfl _ _ rfl rfl HS2.out ?_
    refine hK _ _ ?_
    simp only [Act.put]
    exact wpAny_done (by kernel_rfl) HK.out _
  · rw [if_pos (by rfl)]
    refine wp_load_run _ _ rfl _ _ rfl HI.out ?_
    refine hK _ _ ?_
    simp only [Act.put, List.setIfInBounds_toArray, List.set_cons_zero, List.set_cons_succ]
    clear hK
    refine wpAny_ready (rs := [7]) (by kernel_rfl) (by simp) (AllReady.cons rfl (fun K hK => ?_) AllReady.nil)
    rw [if_pos (by rfl)]
    refine wp_load_run _ _ rfl _ _ rfl HL.out ?_
    refine hK _ _ ?_
    simp only [Act.put, List.setIfInBounds_toArray, List.set_cons_zero, List.set_cons_succ]
    clear hK
    refine wpAny_take (i := 12) (v := ?v12x11) rfl (by kernel_rfl) (by kernel_rfl) (by kernel_rfl) (fun _ _ _ h => hQ _ _ _ _ _ h) (Or.inl ⟨by rfl, ?hy12x11⟩) ?rest12x11
    case hy12x11 => (intro w; go_simp; try with_reducible rfl)
    simp only [Act.put, List.setIfInBounds_toArray, List.set_cons_zero, List.set_cons_succ, List.getElem_toArray, List.getElem_cons_zero, List.getElem_cons_succ]
    refine wpAny_ready (rs := [13]) (by kernel_rfl) (by simp) (AllReady.cons rfl (fun K hK => ?_) AllReady.nil)
    rw [if_pos (by rfl)]
    refine wp_store_run _ _ _ rfl _ _ rfl rfl HS1.out ?_
    refine hK _ _ ?_
    simp only [Act.put]
    refine wpAny_take (i := 14) (v := ?v14x11) rfl (by kernel_rfl) (by kernel_rfl) (by kernel_rfl) (fun _ _ _ h => hQ _ _ _ _ _ h) (Or.inl ⟨by rfl, ?hy14x11⟩) ?rest14x11
    case hy14x11 => (intro w; go_simp; try with_reducible rfl)
    simp only [Act.put, List.setIfInBounds_toArray, List.set_cons_zero, List.set_cons_succ, List.getElem_toArray, List.getElem_cons_zero, List.getElem_cons_succ]
    refine wpAny_ready (rs := [15]) (by kernel_rfl) (by simp) (AllReady.cons rfl (fun K hK => ?_) AllReady.nil)
    rw [if_pos (by rfl)]
    refine wp_store_run _ _ _ rfl _ _ rfl rfl HS2.out ?_
    refine hK _ _ ?_
    simp only [Act.put]
    exact wpAny_done (by kernel_rfl) HK.out _
end Go.Proofs.YtjbpoijefkbllaaDoor
