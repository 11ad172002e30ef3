/-
  creelkeep.paths: the paths of a grown tree. Condition: raw things of the second form's bound.
-/
import Derived.Test.YtjbpoijefkbllaaGreatDoorTree
namespace Go.Proofs.YtjbpoijefkbllaaGreatDoor
open Go.RowKit

def pathsL (l : List RawS) (most : Nat) : List (List UInt8) := [97] :: (treeP l most).map (·.path)
theorem pathsL_length (l : List RawS) (most : Nat) : 1 ≤ (pathsL l most).length ∧ (pathsL l most).length ≤ most + 1 := by
  unfold pathsL
  rw [List.length_cons, List.length_map]
  have := treeP_length l most
  omega
theorem DirsOwn.grown_self {w' : World} {base : Nat} {v' : Value} {l : List (List UInt8)} {p : List UInt8} (h : w'.ownsRow base 9 1 v' (l.length + 1) ((l.map fun d => Value.string (bs d)) ++ [.string (bs p)])) : DirsOwn w' base v' (l ++ [p]) := by
  unfold DirsOwn
  rw [List.length_append, List.map_append]
  exact h
theorem DirsOwn.typed {w : World} {base : Nat} {v : Value} {l : List (List UInt8)} (h : DirsOwn w base v l) : ∀ g, v.ownBlock = some g → ∃ C t fr, w.heap[g]? = some (.cells C t fr) ∧ t ≠ 71 ∧ t ≠ 5 := fun g e => by
  obtain ⟨_, C, fr, hC⟩ := own_typed h e
  exact ⟨C, _, fr, hC, by decide, by decide⟩
theorem DirsOwn.ge {w : World} {base : Nat} {v : Value} {l : List (List UInt8)} (h : DirsOwn w base v l) : ∀ g, v.ownBlock = some g → base ≤ g := fun _ e => (own_typed h e).1
theorem DirsOwn.below {w w' : World} {base : Nat} {v : Value} {l : List (List UInt8)} (h : DirsOwn w base v l) (hb : Below w.heap.size w w') : DirsOwn w' base v l := ownsRow_below h hb
theorem new_row2 (w : World) (o : Obj) (t : TypeId) (vs : List Value) (n size : Nat) (h : vs.length = n * size) : Reads ((w.alloc o).alloc (.cells vs.toArray t)) (w.heap.size + 1 + 1) size (some ⟨w.heap.size + 1, 0, none⟩) n vs := by
  have h2 := new_row (w.alloc o) t vs n size h
  rw [show (w.alloc o).heap.size = w.heap.size + 1 by simp] at h2
  exact h2
/-- in the loop of paths -/
def PaSt (w0 : World) (b1 : Nat) (tv : Value) (t : List NodeP) (pv : Value) (ps : List (List UInt8)) (w : World) : Prop := Below w0.heap.size w0 w ∧ NodesOwn w b1 tv t ∧ DirsOwn w w0.heap.size pv ps
end Go.Proofs.YtjbpoijefkbllaaGreatDoor
