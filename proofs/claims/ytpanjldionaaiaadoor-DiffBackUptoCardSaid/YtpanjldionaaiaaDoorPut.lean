/-
  slices.BinarySearchFunc over nodes, whatever the closure; the closure of tree.Put. No condition beyond short trees.
  tree.Put: a node put into a tree. Condition: a tree that passes tree.Check, its nodes and the new one each by themselves.
-/
import Derived.Test.YtpanjldionaaiaaDoorNodesG
import Derived.Test.YtpanjldionaaiaaDoorSame
import Derived.Test.YtpanjldionaaiaaDoorTCheck
import Derived.Test.YtpanjldionaaiaaDoorCopyS
import Derived.Deep.CutRange
import Derived.Deep.DeepCutAuto
namespace Go.Proofs.YtpanjldionaaiaaDoor
set_option linter.all false
section
open Go.RowKit
end
section
open Go.RowKit
/-! ### plainly -/
/-! ### memory -/
theorem NodesAt.drop {w : World} {A : Option Addr} {n c : Nat} {l : List NodeP} (h : NodesAt w (.slice A n c) l) (k : Nat) (hk : k ≤ n) : NodesAt w (.slice (if c = k then A else A.map (·.add (k * 12))) (n - k) (c - k)) (l.drop k) := by
  obtain ⟨xs, A', c', h0, h1, h2, h3, h4, h5, h6⟩ := h
  injection h1 with e1 e2 e3
  subst e1 e2 e3
  have hxl : xs.length = l.length := by rw [← h0, List.length_map]
  refine ⟨xs.drop k, _, _, by rw [List.map_drop, h0], by rw [List.length_drop], by rw [List.length_drop]; omega, by omega, ?_, ?_, fun x hx => h6 x (List.mem_of_mem_drop hx)⟩
  · intro e
    split at e
    · next hc => omega
    · rw [Option.map_eq_none_iff] at e; have := h4 e; omega
  · have h7 := h5.cut (k := k) hk h2
    have e : (xs.flatMap nodeC).drop (k * 12) = (xs.drop k).flatMap nodeC := by
      have h9 : xs.flatMap nodeC = (xs.take k).flatMap nodeC ++ (xs.drop k).flatMap nodeC := by rw [← List.flatMap_append, List.take_append_drop]
      rw [h9, List.drop_left']
      rw [flat_length nodeC_length, List.length_take]; congr 1; omega
    rw [e] at h7
    rw [List.length_drop]
    exact h7
/-- nodes appended -/
theorem NodesOwn.app {w w' : World} {base : Nat} {tv v' : Value} {l m : List NodeP} {xs ys : List NodeV} (hx : xs.map (·.1) = l) (hy : ys.map (·.1) = m) (hd : ∀ x ∈ xs, DataAt w base x.2 x.1.data) (hn : ∀ y ∈ ys, DataAt w base y.2 y.1.data) (h : w.ownsRow base 40 12 tv l.length (xs.flatMap nodeC)) (hg : w.grownBy w' tv.ownBlock)
    (ho : w'.ownsRow base 40 12 v' (l.length + m.length) (xs.flatMap nodeC ++ ys.flatMap nodeC)) : NodesOwn w' base v' (l ++ m) := by
  have hk : U8Kept w w' := U8Kept.grown hg (fun g e => by
    obtain ⟨_, C, fr, hC⟩ := own_typed h e
    exact ⟨C, _, fr, hC, by decide⟩)
  refine ⟨xs ++ ys, by rw [List.map_append, hx, hy], ?_, fun x hx2 => ?_⟩
  · rw [List.length_append, List.flatMap_append]
    exact ho
  · rcases List.mem_append.1 hx2 with h1 | h1
    · exact (hd x h1).kept hk
    · exact (hn x h1).kept hk
theorem one_nodes {w : World} {base : Nat} : ∀ {ys : List NodeV}, (∀ y ∈ ys, DataAt w base y.2 y.1.data) → ∀ u ∈ ys.flatMap nodeC, u.oneCell' = true := by
  intro ys h u hu
  obtain ⟨y, hy, hu⟩ := List.mem_flatMap.1 hu
  obtain ⟨A, c, e, _⟩ := h y hy
  exact one_node y (by rw [e]; rfl) u hu
theorem run_app {w : World} {base : Nat} {v u : Value} {l m : List NodeP} (ty : TypeId) (h : NodesOwn w base v l) (hm : NodesOwn w base u m) (hl : l.length + m.length ≤ 100000) (hb : base ≤ w.heap.size) :
    ∃ v' w', (Builtin.append_ #[23, 23] ty #[v, u]).run Tryd.prog w = .ok v' w' ∧ NodesOwn w' base v' (l ++ m) ∧ Below base w w' := by
  obtain ⟨xs, hx, hox, hdx⟩ := h
  obtain ⟨ys, hy, hoy, hdy⟩ := hm
  obtain ⟨A, c, rfl, h1, h2, h3, hr⟩ := ownsRow_read hoy
  obtain ⟨i9, hi9, hy0, hy1, hy2⟩ := info_parts nodeinfo
  obtain ⟨v', w', hrun, hown, hg, -⟩ := run_append_any (P := Tryd.prog) w base 23 ty 40 i9 _ 12 144 Tryd.underlying23 hi9 hy0 hy1 hy2 rfl (by omega) v l.length (xs.flatMap nodeC) hox w.heap.size A m.length c (ys.flatMap nodeC) hr (one_nodes hdy) (by simp only [maxLen]; omega) (by omega) hb
  exact ⟨v', w', hrun, NodesOwn.app hx hy hdx hdy hox hg hown, (Below.refl base w).grown hg hb (fun k e => (own_typed hox e).1)⟩
theorem wpList_app (w : World) {ops : Array Oper} {rest : List Oper} {o : Oper} {a : Act} {Q : Exit → Act → World → Prop} (hgd : o.guard = none) (s x : Operand)
    (ho : o.op = .call { callee := .builtin .append, args := #[s, x], argTypes := #[23, 23] })
    (base : Nat) (v u : Value) (l m : List NodeP) (hs : a.eval s = v) (hx : a.eval x = u) (h : NodesOwn w base v l) (hm : NodesOwn w base u m) (hl : l.length + m.length ≤ 100000) (hb : base ≤ w.heap.size)
    (hK : ∀ v' w', NodesOwn w' base v' (l ++ m) → Below base w w' → wpList Tryd.prog ops Q rest (a.put o.dst v') w') : wpList Tryd.prog ops Q (o :: rest) a w :=
  wpList_plain hgd fun _ hK' => by
    obtain ⟨v', w', hrun, h1, h2⟩ := run_app (ty := o.type) h hm hl hb
    unfold Oper.wp execOp
    simp only [ho, resolve, invoke, builtin, Sem.run_bind, Sem.run_pure, Result.andThen_ok, List.map_toArray, List.map_cons, List.map_nil, hs, hx, hrun]
    exact hK' _ _ (hK v' w' h1 h2)
/-- a node, read: its cells and its data's slice -/
theorem node_read {w : World} {A : Option Addr} {n c : Nat} {l : List NodeP} (h : NodesAt w (.slice A n c) l) {k : Nat} (hk : k < l.length) :
    ∃ (ad : Addr) (Ax : Option Addr) (cx : Nat), A = some ad ∧ ad.block < w.heap.size ∧ DataAt w 0 (.slice Ax l[k].data.length cx) l[k].data ∧
      w.cell? (ad.add (k * 12)) = some (.string (bs l[k].path)) ∧
      w.cell? ⟨(ad.add (k * 12)).block, (ad.add (k * 12)).off + 1, none⟩ = some (.int .i64 l[k].kind) ∧
      w.cell? ⟨(ad.add (k * 12)).block, (ad.add (k * 12)).off + 2, none⟩ = some (.int .i64 l[k].same) ∧
      w.cell? ⟨(ad.add (k * 12)).block, (ad.add (k * 12)).off + 3, none⟩ = some (.string (bs l[k].target)) ∧
      w.cell? ⟨(ad.add (k * 12)).block, (ad.add (k * 12)).off + 4, none⟩ = some (.int .i64 l[k].mt.mode) ∧
      w.cell? ⟨(ad.add (k * 12)).block, (ad.add (k * 12)).off + 5, none⟩ = some (.int .i64 l[k].mt.uid) ∧
      w.cell? ⟨(ad.add (k * 12)).block, (ad.add (k * 12)).off + 6, none⟩ = some (.int .i64 l[k].mt.gid) ∧
      w.cell? ⟨(ad.add (k * 12)).block, (ad.add (k * 12)).off + 7, none⟩ = some (.string (bs l[k].mt.user)) ∧
      w.cell? ⟨(ad.add (k * 12)).block, (ad.add (k * 12)).off + 8, none⟩ = some (.string (bs l[k].mt.group)) ∧
      w.cell? ⟨(ad.add (k * 12)).block, (ad.add (k * 12)).off + 9, none⟩ = some (.int .i64 l[k].mt.second) ∧
      w.cell? ⟨(ad.add (k * 12)).block, (ad.add (k * 12)).off + 10, none⟩ = some (.int .i64 l[k].mt.nano) ∧
      w.cell? ⟨(ad.add (k * 12)).block, (ad.add (k * 12)).off + 11, none⟩ = some (.slice Ax l[k].data.length cx) := by
  obtain ⟨xs, A', c', h0, h1, h2, h3, h4, h5, h6⟩ := h
  injection h1 with e1 e2 e3
  subst e1 e2 e3
  have hxl : xs.length = l.length := by rw [← h0, List.length_map]
  have hkx : k < xs.length := by omega
  obtain ⟨ad, e, hb, e0, e1, e2, e3, e4, e5, e6, e7, e8, e9, e10, e11⟩ := load_node h5 hkx hk
  have hxk : xs[k].1 = l[k] := by subst h0; simp
  have hd := h6 xs[k] (List.getElem_mem _)
  obtain ⟨Ax, cx, hde, -⟩ := id hd
  rw [hde] at hd e11
  rw [hxk] at hd e0 e1 e2 e3 e4 e5 e6 e7 e8 e9 e10 e11
  exact ⟨ad, Ax, cx, e, hb, hd, e0, e1, e2, e3, e4, e5, e6, e7, e8, e9, e10, e11⟩
/-! ### tree.Put -/
end
end Go.Proofs.YtpanjldionaaiaaDoor
