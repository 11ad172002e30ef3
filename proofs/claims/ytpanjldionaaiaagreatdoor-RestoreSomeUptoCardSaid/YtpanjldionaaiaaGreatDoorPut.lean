/-
  link.Anew: files that are one told by the place of the first one. Condition: a tree that passes tree.Check, its nodes each by themselves.
  creelkeep.SameNode, slices.EqualFunc over nodes, creelkeep.SameTree. No condition beyond the nodes' data lying in blocks of bytes.
  creelkeep.Alike: are two trees the same, whatever numbers tell which files are one. No condition beyond short trees.
  A renumbered tree is alike, plainly. Condition: a tree that may be.
  slices.BinarySearchFunc over nodes, whatever the closure; the closure of tree.Put. No condition beyond short trees.
  tree.Put: a node put into a tree. Condition: a tree that passes tree.Check, its nodes and the new one each by themselves.
-/
import Derived.Test.YtpanjldionaaiaaGreatDoorLinks
import Derived.Test.YtpanjldionaaiaaGreatDoorTFR
import Derived.Test.YtpanjldionaaiaaGreatDoorTCheck
import Derived.BigQuiet
import Derived.Deep.CutRange
import Derived.Deep.DeepCutAuto
import Derived.Deep.RegionHeld3
import Derived.Test.YtpanjldionaaiaaGreatDoorNodesG
import Derived.Test.YtpanjldionaaiaaGreatDoorCopyS
namespace Go.Proofs.YtpanjldionaaiaaGreatDoor
set_option linter.all false
open Go.RowKit
def setSame (x : NodeP) (s : Int) : NodeP := ⟨x.path, x.kind, s, x.target, x.mt, x.data⟩
def anewS (t : List NodeP) (i : Nat) : Int := if 1 < (firstsP t).count (firstAt t i : Int) then (firstAt t i : Int) + 1 else 0
def anewAt (t : List NodeP) (i : Nat) : NodeP := setSame (t.getD i default) (anewS t i)
def anewP (t : List NodeP) : List NodeP := (List.range t.length).map (anewAt t)
theorem anewP_length (t : List NodeP) : (anewP t).length = t.length := by simp [anewP]
theorem anewP_at {t : List NodeP} {i : Nat} (hi : i < t.length) : (anewP t)[i]'(by rw [anewP_length]; exact hi) = anewAt t i := by simp [anewP]
end Go.Proofs.YtpanjldionaaiaaGreatDoor
namespace Go.Proofs.YtpanjldionaaiaaGreatDoor
set_option linter.all false
open Go.RowKit
/-! ### creelkeep.SameNode -/
/-! ### slices.EqualFunc over nodes -/
theorem Blk.node {W : World} {g : Nat} {np nt nd : List UInt8} {nk ns o1 o2 o3 o6 o7 : Int} {o4 o5 : List UInt8} {dv : Value} (h : Blk W g 58 (nodeC (⟨np, nk, ns, nt, ⟨o1, o2, o3, o4, o5, o6, o7⟩, nd⟩, dv)).toArray) :
    W.cell? ⟨g, 0, none⟩ = some (.string (bs np)) ∧ W.cell? ⟨g, 1, none⟩ = some (.int .i64 nk) ∧ W.cell? ⟨g, 2, none⟩ = some (.int .i64 ns) ∧ W.cell? ⟨g, 3, none⟩ = some (.string (bs nt)) ∧ W.cell? ⟨g, 4, none⟩ = some (.int .i64 o1) ∧ W.cell? ⟨g, 5, none⟩ = some (.int .i64 o2) ∧ W.cell? ⟨g, 6, none⟩ = some (.int .i64 o3) ∧ W.cell? ⟨g, 7, none⟩ = some (.string (bs o4)) ∧ W.cell? ⟨g, 8, none⟩ = some (.string (bs o5)) ∧ W.cell? ⟨g, 9, none⟩ = some (.int .i64 o6) ∧ W.cell? ⟨g, 10, none⟩ = some (.int .i64 o7) ∧ W.cell? ⟨g, 11, none⟩ = some dv :=
  ⟨h.cell 0, h.cell 1, h.cell 2, h.cell 3, h.cell 4, h.cell 5, h.cell 6, h.cell 7, h.cell 8, h.cell 9, h.cell 10, h.cell 11⟩
end Go.Proofs.YtpanjldionaaiaaGreatDoor
namespace Go.Proofs.YtpanjldionaaiaaGreatDoor
set_option linter.all false
open Go.RowKit
/-- both nodes of a round, in blocks of their own -/
def AkSt (B : World) (g6 g7 : Nat) (x y : NodeV) (W : World) : Prop := Below B.heap.size B W ∧ B.heap.size ≤ g6 ∧ B.heap.size ≤ g7 ∧ g6 ≠ g7 ∧ Blk W g6 58 (nodeC x).toArray ∧ Blk W g7 58 (nodeC y).toArray
theorem AkSt.zero {B W : World} {g6 g7 : Nat} {x y : NodeV} (h : AkSt B g6 g7 x y W) : AkSt B g6 g7 (setSame x.1 0, x.2) (setSame y.1 0, y.2) ((W.setCell ⟨g6, 2, none⟩ (.int .i64 0)).setCell ⟨g7, 2, none⟩ (.int .i64 0)) := by
  obtain ⟨h1, h2, h3, h4, h5, h6⟩ := h
  exact ⟨(h1.setCell (p := ⟨g6, 2, none⟩) h2 _).setCell (p := ⟨g7, 2, none⟩) h3 _, h2, h3, h4, (h5.set_ 2 (.int .i64 0)).far (p := ⟨g7, 2, none⟩) h4 _, (h6.far (p := ⟨g6, 2, none⟩) (fun e => h4 e.symm) _).set_ 2 (.int .i64 0)⟩
end Go.Proofs.YtpanjldionaaiaaGreatDoor
namespace Go.Proofs.YtpanjldionaaiaaGreatDoor
set_option linter.all false
open Go.RowKit
/-! ### renumbering, plainly -/
theorem firstAt_one {t : List NodeP} {i j : Nat} (hi : i < t.length) (hj : j < t.length) : firstAt t i = firstAt t j ↔ i = j ∨ (t[i].same ≠ 0 ∧ t[i].same = t[j].same) := by
  have key : ∀ {i j : Nat} (hi : i < t.length) (hj : j < t.length), t[i].same ≠ 0 → t[i].same = t[j].same → firstAt t i = firstAt t j := fun {i j} hi hj h1 h2 => by
    have hex : ∃ k, t.findIdx? (sameAt t[i].same) = some k := by
      cases hq : t.findIdx? (sameAt t[i].same) with
      | some k => exact ⟨k, rfl⟩
      | none =>
        rw [List.findIdx?_eq_none_iff] at hq
        have := hq t[i] (List.getElem_mem _)
        simp [sameAt] at this
    obtain ⟨k, hk⟩ := hex
    unfold firstAt
    rw [getD_at hi, getD_at hj, if_neg h1, if_neg (by rw [← h2]; exact h1), ← h2, hk]; rfl
  constructor
  · intro h
    by_cases e : i = j
    · exact .inl e
    · refine .inr ?_
      obtain ⟨a1, a2, a3⟩ := firstAt_spec hi
      obtain ⟨b1, b2, b3⟩ := firstAt_spec hj
      by_cases e1 : firstAt t i = i
      · obtain ⟨h1, h2, h3⟩ := b3 (by rw [← h, e1]; exact e)
        have h4 : t[firstAt t j]'h1 = t[i] := by congr 1; rw [← h, e1]
        rw [h4] at h2
        exact ⟨by rw [h2]; exact h3, h2⟩
      · obtain ⟨h1, h2, h3⟩ := a3 e1
        by_cases e2 : firstAt t j = j
        · have h4 : t[firstAt t i]'h1 = t[j] := by congr 1; rw [h, e2]
          rw [h4] at h2
          exact ⟨h3, h2.symm⟩
        · obtain ⟨g1, g2, g3⟩ := b3 e2
          have h4 : t[firstAt t i]'h1 = t[firstAt t j]'g1 := by congr 1
          exact ⟨h3, by rw [← h2, h4, g2]⟩
  · rintro (rfl | ⟨h1, h2⟩)
    · rfl
    · exact key hi hj h1 h2
theorem count_firsts (t : List NodeP) (f : Nat) : 1 < (firstsP t).count (f : Int) ↔ ∃ i j, i < j ∧ j < t.length ∧ firstAt t i = f ∧ firstAt t j = f := by
  have gen : ∀ (n : Nat) (g : Nat → Nat), ((1 < ((List.range n).map fun i => (g i : Int)).count (f : Int)) ↔ ∃ i j, i < j ∧ j < n ∧ g i = f ∧ g j = f) ∧ ((0 < ((List.range n).map fun i => (g i : Int)).count (f : Int)) ↔ ∃ i, i < n ∧ g i = f) := by
    intro n g
    induction n with
    | zero => simp
    | succ n ih =>
      obtain ⟨ih1, ih2⟩ := ih
      rw [List.range_succ, List.map_append, List.count_append, List.map_singleton, List.count_singleton]
      by_cases h : g n = f
      · have e : ((g n : Int) == (f : Int)) = true := by simp [h]
        rw [e]
        simp only [if_true]
        constructor
        · constructor
          · intro h1
            obtain ⟨i, hi, hg⟩ := ih2.1 (by omega)
            exact ⟨i, n, hi, by omega, hg, h⟩
          · rintro ⟨i, j, hij, hj, hi, hgj⟩
            have := ih2.2 ⟨i, by omega, hi⟩
            omega
        · exact ⟨fun _ => ⟨n, by omega, h⟩, fun _ => by omega⟩
      · have e : ((g n : Int) == (f : Int)) = false := by simp; exact fun a => h (by omega)
        rw [e]
        simp only [Bool.false_eq_true, if_false, Nat.add_zero]
        constructor
        · rw [ih1]
          constructor
          · rintro ⟨i, j, a, b, c, d⟩; exact ⟨i, j, a, by omega, c, d⟩
          · rintro ⟨i, j, a, b, c, d⟩
            refine ⟨i, j, a, ?_, c, d⟩
            rcases Nat.lt_or_ge j n with hl | hl
            · exact hl
            · exact absurd (by rw [← d]; congr 1; omega) h
        · rw [ih2]
          constructor
          · rintro ⟨i, a, c⟩; exact ⟨i, by omega, c⟩
          · rintro ⟨i, a, c⟩
            refine ⟨i, ?_, c⟩
            rcases Nat.lt_or_ge i n with hl | hl
            · exact hl
            · exact absurd (by rw [← c]; congr 1; omega) h
  exact (gen t.length (firstAt t)).1
theorem anew_same (t : List NodeP) {i j : Nat} (hi : i < t.length) (hj : j < t.length) (hne : i ≠ j) : (0 < anewS t i ∧ anewS t i = anewS t j) ↔ firstAt t i = firstAt t j := by
  unfold anewS
  constructor
  · rintro ⟨h1, h2⟩
    by_cases a : 1 < (firstsP t).count (firstAt t i : Int)
    · by_cases b : 1 < (firstsP t).count (firstAt t j : Int)
      · rw [if_pos a, if_pos b] at h2; omega
      · rw [if_pos a, if_neg b] at h2; omega
    · rw [if_neg a] at h1; omega
  · intro h
    have a : 1 < (firstsP t).count (firstAt t i : Int) := by
      rw [count_firsts]
      rcases Nat.lt_or_ge i j with hl | hl
      · exact ⟨i, j, hl, hj, rfl, h.symm⟩
      · exact ⟨j, i, by omega, hi, h.symm, rfl⟩
    rw [← h, if_pos a]
    exact ⟨by omega, rfl⟩
theorem anew_node {t : List NodeP} (ht : TreeOk t) : ∀ x ∈ anewP t, NodeOk x := by
  intro x hx
  obtain ⟨i, hi, rfl⟩ := List.getElem_of_mem hx
  have hi2 : i < t.length := by rw [anewP_length] at hi; exact hi
  rw [anewP_at hi2]
  unfold anewAt
  rw [getD_at hi2]
  have hn := ht.node t[i] (List.getElem_mem _)
  obtain ⟨a1, a2, a3⟩ := firstAt_spec hi2
  have hlen := ht.len
  refine ⟨hn.path, hn.mt, ⟨?_, ?_, fun hk => ?_⟩, hn.kind, hn.data, hn.none, hn.target⟩
  · show 0 ≤ anewS t i; unfold anewS; split <;> omega
  · show anewS t i ≤ 1048576; unfold anewS; split <;> omega
  · have h0 := hn.same.2.2 hk
    show anewS t i = 0
    unfold anewS
    rw [if_neg]
    intro hc
    rw [count_firsts] at hc
    obtain ⟨x, y, hxy, hy, e1, e2⟩ := hc
    have hx : x < t.length := by omega
    have f1 := (firstAt_one hx hi2).1 e1
    have f2 := (firstAt_one hy hi2).1 e2
    rcases f1 with rfl | ⟨g1, g2⟩
    · rcases f2 with f2 | ⟨g3, g4⟩
      · omega
      · rw [g4] at g3; exact g3 h0
    · rw [g2] at g1; exact g1 h0
theorem anew_ok {t : List NodeP} (ht : TreeOk t) : TreeOk (anewP t) where
  len := by rw [anewP_length]; exact ht.len
  node := anew_node ht
  sorted := by
    have h := ht.sorted
    rw [List.pairwise_iff_getElem] at h ⊢
    intro i j hi hj hij
    rw [anewP_length] at hi hj
    rw [anewP_at hi, anewP_at hj]
    unfold anewAt
    rw [getD_at hi, getD_at hj]
    exact h i j hi hj hij
  up := by
    intro x hx
    obtain ⟨i, hi, rfl⟩ := List.getElem_of_mem hx
    have hi2 : i < t.length := by rw [anewP_length] at hi; exact hi
    rw [anewP_at hi2]
    unfold anewAt
    rw [getD_at hi2]
    rcases ht.up t[i] (List.getElem_mem _) with h | ⟨y, hy, h1, h2⟩
    · exact .inl h
    · obtain ⟨j, hj, rfl⟩ := List.getElem_of_mem hy
      refine .inr ⟨(anewP t)[j]'(by rw [anewP_length]; exact hj), List.getElem_mem _, ?_, ?_⟩
      · rw [anewP_at hj]; unfold anewAt; rw [getD_at hj]; exact h1
      · rw [anewP_at hj]; unfold anewAt; rw [getD_at hj]; exact h2
  alike := by
    intro x hx y hy h0 he
    obtain ⟨i, hi, rfl⟩ := List.getElem_of_mem hx
    obtain ⟨j, hj, rfl⟩ := List.getElem_of_mem hy
    have hi2 : i < t.length := by rw [anewP_length] at hi; exact hi
    have hj2 : j < t.length := by rw [anewP_length] at hj; exact hj
    rw [anewP_at hi2, anewP_at hj2] at *
    unfold anewAt at *
    rw [getD_at hi2, getD_at hj2] at *
    by_cases e : i = j
    · subst e; unfold alikeB setSame; simp
    · have hpos : 0 ≤ anewS t i := by unfold anewS; split <;> omega
      have h3 := (anew_same t hi2 hj2 e).1 ⟨by have : anewS t i ≠ 0 := h0; omega, he⟩
      rcases (firstAt_one hi2 hj2).1 h3 with h4 | ⟨h4, h5⟩
      · exact absurd h4 e
      · have := ht.alike t[i] (List.getElem_mem _) t[j] (List.getElem_mem _) h4 h5
        unfold alikeB setSame at *
        exact this
end Go.Proofs.YtpanjldionaaiaaGreatDoor
namespace Go.Proofs.YtpanjldionaaiaaGreatDoor
set_option linter.all false
section
open Go.RowKit
end
section
open Go.RowKit
/-! ### plainly -/
/-! ### memory -/
theorem NodesAt.drop {w : World} {A : Option Addr} {n c : Nat} {l : List NodeP} (h : NodesAt w (.slice A n c) l) (k : Nat) (hk : k ≤ n) : NodesAt w (.slice (if c = k then A else A.map (·.add (k * 12))) (n - k) (c - k)) (l.drop k) := by
  obtain ⟨xs, A', c', h0, h1, h2, h3, h4, h5, h6⟩ := h
  injection h1 with e1 e2 e3
  subst e1 e2 e3
  have hxl : xs.length = l.length := by rw [← h0, List.length_map]
  refine ⟨xs.drop k, _, _, by rw [List.map_drop, h0], by rw [List.length_drop], by rw [List.length_drop]; omega, by omega, ?_, ?_, fun x hx => h6 x (List.mem_of_mem_drop hx)⟩
  · intro e
    split at e
    · next hc => omega
    · rw [Option.map_eq_none_iff] at e; have := h4 e; omega
  · have h7 := h5.cut (k := k) hk h2
    have e : (xs.flatMap nodeC).drop (k * 12) = (xs.drop k).flatMap nodeC := by
      have h9 : xs.flatMap nodeC = (xs.take k).flatMap nodeC ++ (xs.drop k).flatMap nodeC := by rw [← List.flatMap_append, List.take_append_drop]
      rw [h9, List.drop_left']
      rw [flat_length nodeC_length, List.length_take]; congr 1; omega
    rw [e] at h7
    rw [List.length_drop]
    exact h7
/-- nodes appended -/
theorem NodesOwn.app {w w' : World} {base : Nat} {tv v' : Value} {l m : List NodeP} {xs ys : List NodeV} (hx : xs.map (·.1) = l) (hy : ys.map (·.1) = m) (hd : ∀ x ∈ xs, DataAt w base x.2 x.1.data) (hn : ∀ y ∈ ys, DataAt w base y.2 y.1.data) (h : w.ownsRow base 58 12 tv l.length (xs.flatMap nodeC)) (hg : w.grownBy w' tv.ownBlock)
    (ho : w'.ownsRow base 58 12 v' (l.length + m.length) (xs.flatMap nodeC ++ ys.flatMap nodeC)) : NodesOwn w' base v' (l ++ m) := by
  have hk : U8Kept w w' := U8Kept.grown hg (fun g e => by
    obtain ⟨_, C, fr, hC⟩ := own_typed h e
    exact ⟨C, _, fr, hC, by decide⟩)
  refine ⟨xs ++ ys, by rw [List.map_append, hx, hy], ?_, fun x hx2 => ?_⟩
  · rw [List.length_append, List.flatMap_append]
    exact ho
  · rcases List.mem_append.1 hx2 with h1 | h1
    · exact (hd x h1).kept hk
    · exact (hn x h1).kept hk
/-- a node, read: its cells and its data's slice -/
theorem node_read {w : World} {A : Option Addr} {n c : Nat} {l : List NodeP} (h : NodesAt w (.slice A n c) l) {k : Nat} (hk : k < l.length) :
    ∃ (ad : Addr) (Ax : Option Addr) (cx : Nat), A = some ad ∧ ad.block < w.heap.size ∧ DataAt w 0 (.slice Ax l[k].data.length cx) l[k].data ∧
      w.cell? (ad.add (k * 12)) = some (.string (bs l[k].path)) ∧
      w.cell? ⟨(ad.add (k * 12)).block, (ad.add (k * 12)).off + 1, none⟩ = some (.int .i64 l[k].kind) ∧
      w.cell? ⟨(ad.add (k * 12)).block, (ad.add (k * 12)).off + 2, none⟩ = some (.int .i64 l[k].same) ∧
      w.cell? ⟨(ad.add (k * 12)).block, (ad.add (k * 12)).off + 3, none⟩ = some (.string (bs l[k].target)) ∧
      w.cell? ⟨(ad.add (k * 12)).block, (ad.add (k * 12)).off + 4, none⟩ = some (.int .i64 l[k].mt.mode) ∧
      w.cell? ⟨(ad.add (k * 12)).block, (ad.add (k * 12)).off + 5, none⟩ = some (.int .i64 l[k].mt.uid) ∧
      w.cell? ⟨(ad.add (k * 12)).block, (ad.add (k * 12)).off + 6, none⟩ = some (.int .i64 l[k].mt.gid) ∧
      w.cell? ⟨(ad.add (k * 12)).block, (ad.add (k * 12)).off + 7, none⟩ = some (.string (bs l[k].mt.user)) ∧
      w.cell? ⟨(ad.add (k * 12)).block, (ad.add (k * 12)).off + 8, none⟩ = some (.string (bs l[k].mt.group)) ∧
      w.cell? ⟨(ad.add (k * 12)).block, (ad.add (k * 12)).off + 9, none⟩ = some (.int .i64 l[k].mt.second) ∧
      w.cell? ⟨(ad.add (k * 12)).block, (ad.add (k * 12)).off + 10, none⟩ = some (.int .i64 l[k].mt.nano) ∧
      w.cell? ⟨(ad.add (k * 12)).block, (ad.add (k * 12)).off + 11, none⟩ = some (.slice Ax l[k].data.length cx) := by
  obtain ⟨xs, A', c', h0, h1, h2, h3, h4, h5, h6⟩ := h
  injection h1 with e1 e2 e3
  subst e1 e2 e3
  have hxl : xs.length = l.length := by rw [← h0, List.length_map]
  have hkx : k < xs.length := by omega
  obtain ⟨ad, e, hb, e0, e1, e2, e3, e4, e5, e6, e7, e8, e9, e10, e11⟩ := load_node h5 hkx hk
  have hxk : xs[k].1 = l[k] := by subst h0; simp
  have hd := h6 xs[k] (List.getElem_mem _)
  obtain ⟨Ax, cx, hde, -⟩ := id hd
  rw [hde] at hd e11
  rw [hxk] at hd e0 e1 e2 e3 e4 e5 e6 e7 e8 e9 e10 e11
  exact ⟨ad, Ax, cx, e, hb, hd, e0, e1, e2, e3, e4, e5, e6, e7, e8, e9, e10, e11⟩
/-! ### tree.Put -/
end
end Go.Proofs.YtpanjldionaaiaaGreatDoor
