/-
  slices.BinarySearchFunc over nodes, whatever the closure; the closure of tree.Put. No condition beyond short trees.
  tree.Put: a node put into a tree. Condition: a tree that passes tree.Check, its nodes and the new one each by themselves.
-/
import Derived.Test.YtpanjldionaaiaaGreatDoorNodesG
import Derived.Test.YtpanjldionaaiaaGreatDoorSame
import Derived.Test.YtpanjldionaaiaaGreatDoorTCheck
import Derived.Test.YtpanjldionaaiaaGreatDoorCopyS
import Derived.Deep.CutRange
import Derived.Deep.DeepCutAuto
namespace Go.Proofs.YtpanjldionaaiaaGreatDoor
set_option linter.all false
section
open Go.RowKit
end
section
open Go.RowKit
/-! ### plainly -/
/-! ### memory -/
theorem NodesAt.drop {w : World} {A : Option Addr} {n c : Nat} {l : List NodeP} (h : NodesAt w (.slice A n c) l) (k : Nat) (hk : k ≤ n) : NodesAt w (.slice (if c = k then A else A.map (·.add (k * 12))) (n - k) (c - k)) (l.drop k) := by
  obtain ⟨xs, A', c', h0, h1, h2, h3, h4, h5, h6⟩ := h
  injection h1 with e1 e2 e3
  subst e1 e2 e3
  have hxl : xs.length = l.length := by rw [← h0, List.length_map]
  refine ⟨xs.drop k, _, _, by rw [List.map_drop, h0], by rw [List.length_drop], by rw [List.length_drop]; omega, by omega, ?_, ?_, fun x hx => h6 x (List.mem_of_mem_drop hx)⟩
  · intro e
    split at e
    · next hc => omega
    · rw [Option.map_eq_none_iff] at e; have := h4 e; omega
  · have h7 := h5.cut (k := k) hk h2
    have e : (xs.flatMap nodeC).drop (k * 12) = (xs.drop k).flatMap nodeC := by
      have h9 : xs.flatMap nodeC = (xs.take k).flatMap nodeC ++ (xs.drop k).flatMap nodeC := by rw [← List.flatMap_append, List.take_append_drop]
      rw [h9, List.drop_left']
      rw [flat_length nodeC_length, List.length_take]; congr 1; omega
    rw [e] at h7
    rw [List.length_drop]
    exact h7
/-- a node, read: its cells and its data's slice -/
theorem node_read {w : World} {A : Option Addr} {n c : Nat} {l : List NodeP} (h : NodesAt w (.slice A n c) l) {k : Nat} (hk : k < l.length) :
    ∃ (ad : Addr) (Ax : Option Addr) (cx : Nat), A = some ad ∧ ad.block < w.heap.size ∧ DataAt w 0 (.slice Ax l[k].data.length cx) l[k].data ∧
      w.cell? (ad.add (k * 12)) = some (.string (bs l[k].path)) ∧
      w.cell? ⟨(ad.add (k * 12)).block, (ad.add (k * 12)).off + 1, none⟩ = some (.int .i64 l[k].kind) ∧
      w.cell? ⟨(ad.add (k * 12)).block, (ad.add (k * 12)).off + 2, none⟩ = some (.int .i64 l[k].same) ∧
      w.cell? ⟨(ad.add (k * 12)).block, (ad.add (k * 12)).off + 3, none⟩ = some (.string (bs l[k].target)) ∧
      w.cell? ⟨(ad.add (k * 12)).block, (ad.add (k * 12)).off + 4, none⟩ = some (.int .i64 l[k].mt.mode) ∧
      w.cell? ⟨(ad.add (k * 12)).block, (ad.add (k * 12)).off + 5, none⟩ = some (.int .i64 l[k].mt.uid) ∧
      w.cell? ⟨(ad.add (k * 12)).block, (ad.add (k * 12)).off + 6, none⟩ = some (.int .i64 l[k].mt.gid) ∧
      w.cell? ⟨(ad.add (k * 12)).block, (ad.add (k * 12)).off + 7, none⟩ = some (.string (bs l[k].mt.user)) ∧
      w.cell? ⟨(ad.add (k * 12)).block, (ad.add (k * 12)).off + 8, none⟩ = some (.string (bs l[k].mt.group)) ∧
      w.cell? ⟨(ad.add (k * 12)).block, (ad.add (k * 12)).off + 9, none⟩ = some (.int .i64 l[k].mt.second) ∧
      w.cell? ⟨(ad.add (k * 12)).block, (ad.add (k * 12)).off + 10, none⟩ = some (.int .i64 l[k].mt.nano) ∧
      w.cell? ⟨(ad.add (k * 12)).block, (ad.add (k * 12)).off + 11, none⟩ = some (.slice Ax l[k].data.length cx) := by
  obtain ⟨xs, A', c', h0, h1, h2, h3, h4, h5, h6⟩ := h
  injection h1 with e1 e2 e3
  subst e1 e2 e3
  have hxl : xs.length = l.length := by rw [← h0, List.length_map]
  have hkx : k < xs.length := by omega
  obtain ⟨ad, e, hb, e0, e1, e2, e3, e4, e5, e6, e7, e8, e9, e10, e11⟩ := load_node h5 hkx hk
  have hxk : xs[k].1 = l[k] := by subst h0; simp
  have hd := h6 xs[k] (List.getElem_mem _)
  obtain ⟨Ax, cx, hde, -⟩ := id hd
  rw [hde] at hd e11
  rw [hxk] at hd e0 e1 e2 e3 e4 e5 e6 e7 e8 e9 e10 e11
  exact ⟨ad, Ax, cx, e, hb, hd, e0, e1, e2, e3, e4, e5, e6, e7, e8, e9, e10, e11⟩
/-! ### tree.Put -/
end
end Go.Proofs.YtpanjldionaaiaaGreatDoor
