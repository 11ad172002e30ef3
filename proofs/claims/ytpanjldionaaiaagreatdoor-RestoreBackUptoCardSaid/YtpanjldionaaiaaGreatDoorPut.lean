/-
  creelkeep.SameNode, slices.EqualFunc over nodes, creelkeep.SameTree. No condition beyond the nodes' data lying in blocks of bytes.
  slices.BinarySearchFunc over nodes, whatever the closure; the closure of tree.Put. No condition beyond short trees.
  tree.Put: a node put into a tree. Condition: a tree that passes tree.Check, its nodes and the new one each by themselves.
-/
import Derived.Test.YtpanjldionaaiaaGreatDoorTFR
import Derived.Test.YtpanjldionaaiaaGreatDoorTCheck
import Derived.BigQuiet
import Derived.Test.YtpanjldionaaiaaGreatDoorNodesG
import Derived.Test.YtpanjldionaaiaaGreatDoorCopyS
import Derived.Deep.CutRange
import Derived.Deep.DeepCutAuto
namespace Go.Proofs.YtpanjldionaaiaaGreatDoor
set_option linter.all false
open Go.RowKit
/-! ### creelkeep.SameNode -/
def sameB (x y : NodeP) : Bool := decide (x = y)
theorem node_first (x y : NodeP) :
    (sameB x y = (x.data == y.data) ∧ x.mt = y.mt ∧ ((bs x.path).toList == (bs y.path).toList) = true ∧ (x.kind == y.kind) = true ∧ (x.same == y.same) = true ∧ ((bs x.target).toList == (bs y.target).toList) = true) ∨
    (sameB x y = false ∧ (((bs x.path).toList == (bs y.path).toList) = false ∨
      (((bs x.path).toList == (bs y.path).toList) = true ∧ (x.kind == y.kind) = false) ∨
      (((bs x.path).toList == (bs y.path).toList) = true ∧ (x.kind == y.kind) = true ∧ (x.same == y.same) = false) ∨
      (((bs x.path).toList == (bs y.path).toList) = true ∧ (x.kind == y.kind) = true ∧ (x.same == y.same) = true ∧ ((bs x.target).toList == (bs y.target).toList) = false) ∨
      (((bs x.path).toList == (bs y.path).toList) = true ∧ (x.kind == y.kind) = true ∧ (x.same == y.same) = true ∧ ((bs x.target).toList == (bs y.target).toList) = true ∧ x.mt ≠ y.mt))) := by
  obtain ⟨a1, a2, a3, a4, a5, a6⟩ := x
  obtain ⟨b1, b2, b3, b4, b5, b6⟩ := y
  unfold sameB
  simp only [bs_beq, beq_iff_eq, beq_eq_false_iff_ne, NodeP.mk.injEq, ne_eq]
  by_cases h1 : a1 = b1 <;> by_cases h2 : a2 = b2 <;> by_cases h3 : a3 = b3 <;> by_cases h4 : a4 = b4 <;> by_cases h5 : a5 = b5 <;> simp [h1, h2, h3, h4, h5]
  rw [Bool.eq_iff_iff]; simp
set_option maxRecDepth 100000 in
set_option maxHeartbeats 4000000 in
theorem SameNode_any (x y : NodeV) (w : World) (hx : DataAt w 0 x.2 x.1.data) (hy : DataAt w 0 y.2 y.1.data) :
    Calls Tryz.prog 59 #[.agg (nodeC x).toArray, .agg (nodeC y).toArray] w fun e w' => e = .returned (.bool (sameB x.1 y.1)) ∧ Below w.heap.size w w' := by
  have hN := node_first x.1 y.1
  obtain ⟨⟨p, k, s, t, mt, d⟩, dv⟩ := x
  obtain ⟨⟨p', k', s', t', mt', d'⟩, dv'⟩ := y
  simp only at hx hy hN
  have hb : ∀ o1 o2, Below w.heap.size w ((w.alloc o1).alloc o2) := fun o1 o2 => ((Below.refl w.heap.size w).alloc (Nat.le_refl _) o1).alloc (by simp) o2
  have hcx := fun o1 o2 => conv_str (hx.below (hb o1 o2)).bytes
  have hcy := fun o1 o2 => conv_str (hy.below (hb o1 o2)).bytes
  have HB := Lib.hid hb
  have HD := Lib.hid (bs_beq d d')
  obtain ⟨A, c, rfl, -⟩ := hx
  obtain ⟨A', c', rfl, -⟩ := hy
  clear hb
  unfold nodeC
  simp only
  rcases hN with ⟨hs, hm, q1, q2, q3, q4⟩ | ⟨hs, hN⟩
  · have HR := Lib.hid hs
    have hM := meta_first mt mt'
    obtain ⟨m1, m2, m3, m4, m5, m6, m7⟩ := mt
    obtain ⟨n1, n2, n3, n4, n5, n6, n7⟩ := mt'
    simp only at hM
    rcases hM with ⟨-, r1, r2, r3, r4, r5, r6, r7⟩ | ⟨hne, -⟩
    · clear hs hm
      generalize bs d = bd at *
      generalize bs d' = bd' at *
      generalize bs p = bp at *
      generalize bs p' = bp' at *
      generalize bs t = bt at *
      generalize bs t' = bt' at *
      generalize bs m4 = b4 at *
      generalize bs m5 = b5 at *
      generalize bs n4 = c4 at *
      generalize bs n5 = c5 at *
      go_enter Tryz.func59, Tryz.ntmps59
      go_wp2_with fail
      go_ret
      exact ⟨ret_bool (HD.out.trans HR.out.symm), HB.out _ _⟩
    · exact absurd hm hne
  · have HR := Lib.hid hs
    clear hs hcx hcy
    rcases hN with q1 | ⟨q1, q2⟩ | ⟨q1, q2, q3⟩ | ⟨q1, q2, q3, q4⟩ | ⟨q1, q2, q3, q4, hm⟩
    iterate 4
      · generalize bs p = bp at *
        generalize bs p' = bp' at *
        generalize bs t = bt at *
        generalize bs t' = bt' at *
        go_enter Tryz.func59, Tryz.ntmps59
        go_wp2_with fail
        go_ret
        exact ⟨ret_bool HR.out.symm, HB.out _ _⟩
    · have hM := meta_first mt mt'
      obtain ⟨m1, m2, m3, m4, m5, m6, m7⟩ := mt
      obtain ⟨n1, n2, n3, n4, n5, n6, n7⟩ := mt'
      simp only at hM
      rcases hM with ⟨he, -⟩ | ⟨-, hq⟩
      · exact absurd he hm
      clear hm
      generalize bs p = bp at *
      generalize bs p' = bp' at *
      generalize bs t = bt at *
      generalize bs t' = bt' at *
      generalize bs m4 = b4 at *
      generalize bs m5 = b5 at *
      generalize bs n4 = c4 at *
      generalize bs n5 = c5 at *
      rcases hq with r1 | ⟨r1, r2⟩ | ⟨r1, r2, r3⟩ | ⟨r1, r2, r3, r4⟩ | ⟨r1, r2, r3, r4, r5⟩ | ⟨r1, r2, r3, r4, r5, r6⟩ | ⟨r1, r2, r3, r4, r5, r6, r7⟩
      all_goals
        go_enter Tryz.func59, Tryz.ntmps59
        go_wp2_with fail
        go_ret
        exact ⟨ret_bool HR.out.symm, HB.out _ _⟩
/-! ### slices.EqualFunc over nodes -/
theorem Blk.node {W : World} {g : Nat} {np nt nd : List UInt8} {nk ns o1 o2 o3 o6 o7 : Int} {o4 o5 : List UInt8} {dv : Value} (h : Blk W g 58 (nodeC (⟨np, nk, ns, nt, ⟨o1, o2, o3, o4, o5, o6, o7⟩, nd⟩, dv)).toArray) :
    W.cell? ⟨g, 0, none⟩ = some (.string (bs np)) ∧ W.cell? ⟨g, 1, none⟩ = some (.int .i64 nk) ∧ W.cell? ⟨g, 2, none⟩ = some (.int .i64 ns) ∧ W.cell? ⟨g, 3, none⟩ = some (.string (bs nt)) ∧ W.cell? ⟨g, 4, none⟩ = some (.int .i64 o1) ∧ W.cell? ⟨g, 5, none⟩ = some (.int .i64 o2) ∧ W.cell? ⟨g, 6, none⟩ = some (.int .i64 o3) ∧ W.cell? ⟨g, 7, none⟩ = some (.string (bs o4)) ∧ W.cell? ⟨g, 8, none⟩ = some (.string (bs o5)) ∧ W.cell? ⟨g, 9, none⟩ = some (.int .i64 o6) ∧ W.cell? ⟨g, 10, none⟩ = some (.int .i64 o7) ∧ W.cell? ⟨g, 11, none⟩ = some dv :=
  ⟨h.cell 0, h.cell 1, h.cell 2, h.cell 3, h.cell 4, h.cell 5, h.cell 6, h.cell 7, h.cell 8, h.cell 9, h.cell 10, h.cell 11⟩
end Go.Proofs.YtpanjldionaaiaaGreatDoor
namespace Go.Proofs.YtpanjldionaaiaaGreatDoor
set_option linter.all false
section
open Go.RowKit
end
section
open Go.RowKit
/-! ### plainly -/
/-! ### memory -/
theorem NodesAt.drop {w : World} {A : Option Addr} {n c : Nat} {l : List NodeP} (h : NodesAt w (.slice A n c) l) (k : Nat) (hk : k ≤ n) : NodesAt w (.slice (if c = k then A else A.map (·.add (k * 12))) (n - k) (c - k)) (l.drop k) := by
  obtain ⟨xs, A', c', h0, h1, h2, h3, h4, h5, h6⟩ := h
  injection h1 with e1 e2 e3
  subst e1 e2 e3
  have hxl : xs.length = l.length := by rw [← h0, List.length_map]
  refine ⟨xs.drop k, _, _, by rw [List.map_drop, h0], by rw [List.length_drop], by rw [List.length_drop]; omega, by omega, ?_, ?_, fun x hx => h6 x (List.mem_of_mem_drop hx)⟩
  · intro e
    split at e
    · next hc => omega
    · rw [Option.map_eq_none_iff] at e; have := h4 e; omega
  · have h7 := h5.cut (k := k) hk h2
    have e : (xs.flatMap nodeC).drop (k * 12) = (xs.drop k).flatMap nodeC := by
      have h9 : xs.flatMap nodeC = (xs.take k).flatMap nodeC ++ (xs.drop k).flatMap nodeC := by rw [← List.flatMap_append, List.take_append_drop]
      rw [h9, List.drop_left']
      rw [flat_length nodeC_length, List.length_take]; congr 1; omega
    rw [e] at h7
    rw [List.length_drop]
    exact h7
/-- nodes appended -/
theorem NodesOwn.app {w w' : World} {base : Nat} {tv v' : Value} {l m : List NodeP} {xs ys : List NodeV} (hx : xs.map (·.1) = l) (hy : ys.map (·.1) = m) (hd : ∀ x ∈ xs, DataAt w base x.2 x.1.data) (hn : ∀ y ∈ ys, DataAt w base y.2 y.1.data) (h : w.ownsRow base 58 12 tv l.length (xs.flatMap nodeC)) (hg : w.grownBy w' tv.ownBlock)
    (ho : w'.ownsRow base 58 12 v' (l.length + m.length) (xs.flatMap nodeC ++ ys.flatMap nodeC)) : NodesOwn w' base v' (l ++ m) := by
  have hk : U8Kept w w' := U8Kept.grown hg (fun g e => by
    obtain ⟨_, C, fr, hC⟩ := own_typed h e
    exact ⟨C, _, fr, hC, by decide⟩)
  refine ⟨xs ++ ys, by rw [List.map_append, hx, hy], ?_, fun x hx2 => ?_⟩
  · rw [List.length_append, List.flatMap_append]
    exact ho
  · rcases List.mem_append.1 hx2 with h1 | h1
    · exact (hd x h1).kept hk
    · exact (hn x h1).kept hk
/-- a node, read: its cells and its data's slice -/
theorem node_read {w : World} {A : Option Addr} {n c : Nat} {l : List NodeP} (h : NodesAt w (.slice A n c) l) {k : Nat} (hk : k < l.length) :
    ∃ (ad : Addr) (Ax : Option Addr) (cx : Nat), A = some ad ∧ ad.block < w.heap.size ∧ DataAt w 0 (.slice Ax l[k].data.length cx) l[k].data ∧
      w.cell? (ad.add (k * 12)) = some (.string (bs l[k].path)) ∧
      w.cell? ⟨(ad.add (k * 12)).block, (ad.add (k * 12)).off + 1, none⟩ = some (.int .i64 l[k].kind) ∧
      w.cell? ⟨(ad.add (k * 12)).block, (ad.add (k * 12)).off + 2, none⟩ = some (.int .i64 l[k].same) ∧
      w.cell? ⟨(ad.add (k * 12)).block, (ad.add (k * 12)).off + 3, none⟩ = some (.string (bs l[k].target)) ∧
      w.cell? ⟨(ad.add (k * 12)).block, (ad.add (k * 12)).off + 4, none⟩ = some (.int .i64 l[k].mt.mode) ∧
      w.cell? ⟨(ad.add (k * 12)).block, (ad.add (k * 12)).off + 5, none⟩ = some (.int .i64 l[k].mt.uid) ∧
      w.cell? ⟨(ad.add (k * 12)).block, (ad.add (k * 12)).off + 6, none⟩ = some (.int .i64 l[k].mt.gid) ∧
      w.cell? ⟨(ad.add (k * 12)).block, (ad.add (k * 12)).off + 7, none⟩ = some (.string (bs l[k].mt.user)) ∧
      w.cell? ⟨(ad.add (k * 12)).block, (ad.add (k * 12)).off + 8, none⟩ = some (.string (bs l[k].mt.group)) ∧
      w.cell? ⟨(ad.add (k * 12)).block, (ad.add (k * 12)).off + 9, none⟩ = some (.int .i64 l[k].mt.second) ∧
      w.cell? ⟨(ad.add (k * 12)).block, (ad.add (k * 12)).off + 10, none⟩ = some (.int .i64 l[k].mt.nano) ∧
      w.cell? ⟨(ad.add (k * 12)).block, (ad.add (k * 12)).off + 11, none⟩ = some (.slice Ax l[k].data.length cx) := by
  obtain ⟨xs, A', c', h0, h1, h2, h3, h4, h5, h6⟩ := h
  injection h1 with e1 e2 e3
  subst e1 e2 e3
  have hxl : xs.length = l.length := by rw [← h0, List.length_map]
  have hkx : k < xs.length := by omega
  obtain ⟨ad, e, hb, e0, e1, e2, e3, e4, e5, e6, e7, e8, e9, e10, e11⟩ := load_node h5 hkx hk
  have hxk : xs[k].1 = l[k] := by subst h0; simp
  have hd := h6 xs[k] (List.getElem_mem _)
  obtain ⟨Ax, cx, hde, -⟩ := id hd
  rw [hde] at hd e11
  rw [hxk] at hd e0 e1 e2 e3 e4 e5 e6 e7 e8 e9 e10 e11
  exact ⟨ad, Ax, cx, e, hb, hd, e0, e1, e2, e3, e4, e5, e6, e7, e8, e9, e10, e11⟩
/-! ### tree.Put -/
end
end Go.Proofs.YtpanjldionaaiaaGreatDoor
