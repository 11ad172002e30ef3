/-
  slices.BinarySearchFunc over nodes, whatever the closure; the closure of tree.Put. No condition beyond short trees.
  tree.Put: a node put into a tree. Condition: a tree that passes tree.Check, its nodes and the new one each by themselves.
-/
import Derived.Test.YtjbpoijefkbllaaGreatDoorNodesG
import Derived.Test.YtjbpoijefkbllaaGreatDoorSame
import Derived.Test.YtjbpoijefkbllaaGreatDoorTCheck
import Derived.Test.YtjbpoijefkbllaaGreatDoorCopyS
import Derived.Deep.CutRange
import Derived.Deep.DeepCutAuto
namespace Go.Proofs.YtjbpoijefkbllaaGreatDoor
section
open Go.RowKit

end
section
open Go.RowKit

/-! ### plainly -/
def lowP (t : List NodeP) (p : List UInt8) : Nat := (t.takeWhile fun x => decide (cmpP x.path p < 0)).length
def hasAt (t : List NodeP) (p : List UInt8) : Bool := decide (∃ h : lowP t p < t.length, cmpP t[lowP t p].path p = 0)
def putP (t : List NodeP) (n : NodeP) : List NodeP := t.take (lowP t n.path) ++ n :: t.drop (if hasAt t n.path then lowP t n.path + 1 else lowP t n.path)
theorem lowP_le (t : List NodeP) (p : List UInt8) : lowP t p ≤ t.length := (List.takeWhile_sublist _).length_le
theorem lowP_lt {t : List NodeP} {p : List UInt8} {j : Nat} (hj : j < t.length) (h : j < lowP t p) : cmpP t[j].path p < 0 := by
  induction t generalizing j with
  | nil => simp at hj
  | cons x t ih =>
    unfold lowP at h
    rw [List.takeWhile_cons] at h
    split at h
    · next hx =>
      cases j with
      | zero => simpa using hx
      | succ j => exact ih (by simpa using hj) (by simpa [lowP] using h)
    · simp at h
theorem cmpP_trans_lt {a b c : List UInt8} (h1 : cmpP a b < 0) (h2 : cmpP b c ≤ 0) : cmpP a c < 0 := by
  have h3 : cmpP a c ≤ 0 := cmpL_le _ _ _ (by unfold cmpP at h1; omega) h2
  rcases Int.lt_or_eq_of_le h3 with h | h
  · exact h
  · have e : partsS a = partsS c := cmpL_zero h
    have : cmpP b a = -cmpP a b := cmpL_neg _ _
    have h4 : cmpP b c = cmpP b a := by unfold cmpP; rw [e]
    omega
theorem lowP_ge {t : List NodeP} {p : List UInt8} (hs : t.Pairwise (fun x y => cmpP x.path y.path < 0)) {j : Nat} (hj : j < t.length) (h : lowP t p ≤ j) : 0 ≤ cmpP t[j].path p := by
  induction t generalizing j with
  | nil => simp at hj
  | cons x t ih =>
    rw [List.pairwise_cons] at hs
    unfold lowP at h
    rw [List.takeWhile_cons] at h
    split at h
    · cases j with
      | zero => simp at h
      | succ j => exact ih hs.2 (by simpa using hj) (by simpa [lowP] using h)
    · next hx =>
      have hx : 0 ≤ cmpP x.path p := by simpa using hx
      cases j with
      | zero => exact hx
      | succ j =>
        have hj' : j < t.length := by simpa using hj
        have hlt := hs.1 t[j] (List.getElem_mem _)
        simp only [List.getElem_cons_succ]
        rcases Int.lt_or_le (cmpP t[j].path p) 0 with a | a
        · have := cmpP_trans_lt hlt (by omega : cmpP t[j].path p ≤ 0)
          omega
        · exact a
theorem putP_mem {t : List NodeP} {n x : NodeP} (h : x ∈ putP t n) : x = n ∨ x ∈ t := by
  unfold putP at h
  rcases List.mem_append.1 h with h | h
  · exact .inr (List.mem_of_mem_take h)
  · rcases List.mem_cons.1 h with h | h
    · exact .inl h
    · exact .inr (List.mem_of_mem_drop h)
theorem putP_length (t : List NodeP) (n : NodeP) : (putP t n).length ≤ t.length + 1 := by
  unfold putP
  have := lowP_le t n.path
  rw [List.length_append, List.length_cons, List.length_take, List.length_drop]
  split <;> omega

/-! ### memory -/
theorem NodesAt.drop {w : World} {A : Option Addr} {n c : Nat} {l : List NodeP} (h : NodesAt w (.slice A n c) l) (k : Nat) (hk : k ≤ n) : NodesAt w (.slice (if c = k then A else A.map (·.add (k * 12))) (n - k) (c - k)) (l.drop k) := by
  obtain ⟨xs, A', c', h0, h1, h2, h3, h4, h5, h6⟩ := h
  injection h1 with e1 e2 e3
  subst e1 e2 e3
  have hxl : xs.length = l.length := by rw [← h0, List.length_map]
  refine ⟨xs.drop k, _, _, by rw [List.map_drop, h0], by rw [List.length_drop], by rw [List.length_drop]; omega, by omega, ?_, ?_, fun x hx => h6 x (List.mem_of_mem_drop hx)⟩
  · intro e
    split at e
    · next hc => omega
    · rw [Option.map_eq_none_iff] at e; have := h4 e; omega
  · have h7 := h5.cut (k := k) hk h2
    have e : (xs.flatMap nodeC).drop (k * 12) = (xs.drop k).flatMap nodeC := by
      have h9 : xs.flatMap nodeC = (xs.take k).flatMap nodeC ++ (xs.drop k).flatMap nodeC := by rw [← List.flatMap_append, List.take_append_drop]
      rw [h9, List.drop_left']
      rw [flat_length nodeC_length, List.length_take]; congr 1; omega
    rw [e] at h7
    rw [List.length_drop]
    exact h7
/-- nodes appended -/
theorem NodesOwn.app {w w' : World} {base : Nat} {tv v' : Value} {l m : List NodeP} {xs ys : List NodeV} (hx : xs.map (·.1) = l) (hy : ys.map (·.1) = m) (hd : ∀ x ∈ xs, DataAt w base x.2 x.1.data) (hn : ∀ y ∈ ys, DataAt w base y.2 y.1.data) (h : w.ownsRow base 71 12 tv l.length (xs.flatMap nodeC)) (hg : w.grownBy w' tv.ownBlock)
    (ho : w'.ownsRow base 71 12 v' (l.length + m.length) (xs.flatMap nodeC ++ ys.flatMap nodeC)) : NodesOwn w' base v' (l ++ m) := by
  have hk : U8Kept w w' := U8Kept.grown hg (fun g e => by
    obtain ⟨_, C, fr, hC⟩ := own_typed h e
    exact ⟨C, _, fr, hC, by decide⟩)
  refine ⟨xs ++ ys, by rw [List.map_append, hx, hy], ?_, fun x hx2 => ?_⟩
  · rw [List.length_append, List.flatMap_append]
    exact ho
  · rcases List.mem_append.1 hx2 with h1 | h1
    · exact (hd x h1).kept hk
    · exact (hn x h1).kept hk
theorem one_nodes {w : World} {base : Nat} : ∀ {ys : List NodeV}, (∀ y ∈ ys, DataAt w base y.2 y.1.data) → ∀ u ∈ ys.flatMap nodeC, u.oneCell' = true := by
  intro ys h u hu
  obtain ⟨y, hy, hu⟩ := List.mem_flatMap.1 hu
  obtain ⟨A, c, e, _⟩ := h y hy
  exact one_node y (by rw [e]; rfl) u hu
/-- a row of the call's own and more nodes: append, as one law for the walk -/
def AppPost (base : Nat) (l : List NodeP) (w : World) (v' : Value) (w' : World) : Prop := NodesOwn w' base v' l ∧ Below base w w'
theorem run_app {w : World} {base : Nat} {v u : Value} {l m : List NodeP} (ty : TypeId) (h : NodesOwn w base v l) (hm : NodesOwn w base u m) (hl : l.length + m.length ≤ 100000) (hb : base ≤ w.heap.size) :
    ∃ v' w', (Builtin.append_ #[24, 24] ty #[v, u]).run Tryz.prog w = .ok v' w' ∧ NodesOwn w' base v' (l ++ m) ∧ Below base w w' := by
  obtain ⟨xs, hx, hox, hdx⟩ := h
  obtain ⟨ys, hy, hoy, hdy⟩ := hm
  obtain ⟨A, c, rfl, h1, h2, h3, hr⟩ := ownsRow_read hoy
  obtain ⟨i9, hi9, hy0, hy1, hy2⟩ := info_parts nodeinfo
  obtain ⟨v', w', hrun, hown, hg, -⟩ := run_append_any (P := Tryz.prog) w base 24 ty 71 i9 _ 12 144 Tryz.underlying24 hi9 hy0 hy1 hy2 rfl (by omega) v l.length (xs.flatMap nodeC) hox w.heap.size A m.length c (ys.flatMap nodeC) hr (one_nodes hdy) (by simp only [maxLen]; omega) (by omega) hb
  exact ⟨v', w', hrun, NodesOwn.app hx hy hdx hdy hox hg hown, (Below.refl base w).grown hg hb (fun k e => (own_typed hox e).1)⟩
theorem wpList_app (w : World) {ops : Array Oper} {rest : List Oper} {o : Oper} {a : Act} {Q : Exit → Act → World → Prop} (hgd : o.guard = none) (s x : Operand)
    (ho : o.op = .call { callee := .builtin .append, args := #[s, x], argTypes := #[24, 24] })
    (base : Nat) (v u : Value) (l m : List NodeP) (hs : a.eval s = v) (hx : a.eval x = u) (h : NodesOwn w base v l) (hm : NodesOwn w base u m) (hl : l.length + m.length ≤ 100000) (hb : base ≤ w.heap.size)
    (hK : ∀ v' w', NodesOwn w' base v' (l ++ m) → Below base w w' → wpList Tryz.prog ops Q rest (a.put o.dst v') w') : wpList Tryz.prog ops Q (o :: rest) a w :=
  wpList_plain hgd fun _ hK' => by
    obtain ⟨v', w', hrun, h1, h2⟩ := run_app (ty := o.type) h hm hl hb
    unfold Oper.wp execOp
    simp only [ho, resolve, invoke, builtin, Sem.run_bind, Sem.run_pure, Result.andThen_ok, List.map_toArray, List.map_cons, List.map_nil, hs, hx, hrun]
    exact hK' _ _ (hK v' w' h1 h2)

/-- a node, read: its cells and its data's slice -/
theorem node_read {w : World} {A : Option Addr} {n c : Nat} {l : List NodeP} (h : NodesAt w (.slice A n c) l) {k : Nat} (hk : k < l.length) :
    ∃ (ad : Addr) (Ax : Option Addr) (cx : Nat), A = some ad ∧ ad.block < w.heap.size ∧ DataAt w 0 (.slice Ax l[k].data.length cx) l[k].data ∧
      w.cell? (ad.add (k * 12)) = some (.string (bs l[k].path)) ∧
      w.cell? ⟨(ad.add (k * 12)).block, (ad.add (k * 12)).off + 1, none⟩ = some (.int .i64 l[k].kind) ∧
      w.cell? ⟨(ad.add (k * 12)).block, (ad.add (k * 12)).off + 2, none⟩ = some (.int .i64 l[k].same) ∧
      w.cell? ⟨(ad.add (k * 12)).block, (ad.add (k * 12)).off + 3, none⟩ = some (.string (bs l[k].target)) ∧
      w.cell? ⟨(ad.add (k * 12)).block, (ad.add (k * 12)).off + 4, none⟩ = some (.int .i64 l[k].mt.mode) ∧
      w.cell? ⟨(ad.add (k * 12)).block, (ad.add (k * 12)).off + 5, none⟩ = some (.int .i64 l[k].mt.uid) ∧
      w.cell? ⟨(ad.add (k * 12)).block, (ad.add (k * 12)).off + 6, none⟩ = some (.int .i64 l[k].mt.gid) ∧
      w.cell? ⟨(ad.add (k * 12)).block, (ad.add (k * 12)).off + 7, none⟩ = some (.string (bs l[k].mt.user)) ∧
      w.cell? ⟨(ad.add (k * 12)).block, (ad.add (k * 12)).off + 8, none⟩ = some (.string (bs l[k].mt.group)) ∧
      w.cell? ⟨(ad.add (k * 12)).block, (ad.add (k * 12)).off + 9, none⟩ = some (.int .i64 l[k].mt.second) ∧
      w.cell? ⟨(ad.add (k * 12)).block, (ad.add (k * 12)).off + 10, none⟩ = some (.int .i64 l[k].mt.nano) ∧
      w.cell? ⟨(ad.add (k * 12)).block, (ad.add (k * 12)).off + 11, none⟩ = some (.slice Ax l[k].data.length cx) := by
  obtain ⟨xs, A', c', h0, h1, h2, h3, h4, h5, h6⟩ := h
  injection h1 with e1 e2 e3
  subst e1 e2 e3
  have hxl : xs.length = l.length := by rw [← h0, List.length_map]
  have hkx : k < xs.length := by omega
  obtain ⟨ad, e, hb, e0, e1, e2, e3, e4, e5, e6, e7, e8, e9, e10, e11⟩ := load_node h5 hkx hk
  have hxk : xs[k].1 = l[k] := by subst h0; simp
  have hd := h6 xs[k] (List.getElem_mem _)
  obtain ⟨Ax, cx, hde, -⟩ := id hd
  rw [hde] at hd e11
  rw [hxk] at hd e0 e1 e2 e3 e4 e5 e6 e7 e8 e9 e10 e11
  exact ⟨ad, Ax, cx, e, hb, hd, e0, e1, e2, e3, e4, e5, e6, e7, e8, e9, e10, e11⟩

/-! ### tree.Put -/
def PutPost (base : Nat) (l : List NodeP) (c : Int) (w : World) (e : Ending) (w' : World) : Prop :=
  (c = 0 ∧ ∃ tv, e = .returned (.tuple #[tv, .int .i64 0]) ∧ NodesOwn w' base tv l ∧ Below base w w') ∨ (c ≠ 0 ∧ e = .returned (.tuple #[.slice none 0 0, .int .i64 c]) ∧ Below base w w')
end
end Go.Proofs.YtjbpoijefkbllaaGreatDoor
