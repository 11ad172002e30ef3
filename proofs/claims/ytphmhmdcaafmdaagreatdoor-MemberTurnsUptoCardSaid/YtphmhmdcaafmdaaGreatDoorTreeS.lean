/-
  The state of creelkeep.Tree as it grows. Plain lemmas: no condition.
  creelkeep.Tree's closure 'at'. No condition.
-/
import Derived.Test.YtphmhmdcaafmdaaGreatDoorNodesG
import Derived.Test.YtphmhmdcaafmdaaGreatDoorRawW
import Derived.Test.YtphmhmdcaafmdaaGreatDoorPathW
namespace Go.Proofs.YtphmhmdcaafmdaaGreatDoor
set_option linter.all false
section
open Go.RowKit
/-- the slice of directories: a row of the call's own -/
def DirsOwn (w : World) (base : Nat) (v : Value) (l : List (List UInt8)) : Prop := w.ownsRow base 9 1 v l.length (l.map fun d => .string (bs d))
/-- grown so far: the variable's block holds the tree's slice -/
def TrSt (w0 : World) (s : TreeS) (dv : Value) (w : World) : Prop :=
  Below w0.heap.size w0 w ∧ (∃ tv, Blk w w0.heap.size 23 #[tv] ∧ NodesOwn w w0.heap.size tv s.t) ∧ DirsOwn w w0.heap.size dv s.dirs
theorem TrSt.below {w0 w w' : World} {s : TreeS} {dv : Value} (h : TrSt w0 s dv w) (hb : Below w.heap.size w w') : TrSt w0 s dv w' := by
  obtain ⟨h1, ⟨tv, h2, h3⟩, h4⟩ := h
  exact ⟨h1.trans (hb.mono h1.size), ⟨tv, h2.below hb h2.lt, h3.below hb⟩, ownsRow_below h4 hb⟩
/-- .. and a block of the round's own -/
def TrBl (w0 : World) (s : TreeS) (dv : Value) (g : Nat) (t : TypeId) (cs : Array Value) (w : World) : Prop := TrSt w0 s dv w ∧ Blk w g t cs
theorem TrBl.below {w0 w w' : World} {s : TreeS} {dv : Value} {g : Nat} {t : TypeId} {cs : Array Value} (h : TrBl w0 s dv g t cs w) (hb : Below w.heap.size w w') : TrBl w0 s dv g t cs w' := ⟨h.1.below hb, h.2.below hb h.2.lt⟩
/-- the tree's variable, as a walk reads it -/
theorem TrSt.tree {w0 w : World} {s : TreeS} {dv : Value} (h : TrSt w0 s dv w) : ∃ A c, w.cell? ⟨w0.heap.size, 0, none⟩ = some (.slice A s.t.length c) ∧ s.t.length ≤ c ∧ c ≤ maxLen ∧ NodesOwn w w0.heap.size (.slice A s.t.length c) s.t ∧ w.frozen? ⟨w0.heap.size, 0, none⟩ = false ∧ w0.heap.size < w.heap.size := by
  obtain ⟨_, ⟨tv, h2, h3⟩, _⟩ := h
  obtain ⟨xs, h0, h1, h4⟩ := id h3
  obtain ⟨A, c, rfl, e2, e3, _, _⟩ := ownsRow_read h1
  exact ⟨A, c, h2.cell 0, e2, e3, h3, h2.frozen 0, h2.lt⟩
/-- a directory, as a walk reads it -/
theorem DirsOwn.at_ {w : World} {base : Nat} {v : Value} {l : List (List UInt8)} (h : DirsOwn w base v l) (hl : 1 ≤ l.length) : ∃ g c, v = .slice (some ⟨g, 0, none⟩) l.length c ∧ l.length ≤ c ∧ c ≤ maxLen ∧ g < w.heap.size ∧ ∀ k, (hk : k < l.length) → w.cell? ⟨g, k, none⟩ = some (.string (bs l[k])) := by
  obtain ⟨g, cap, rfl, hb, hlt⟩ := World.ownsRow.form h (by omega)
  have h2 := h
  obtain ⟨A, c, e1, e2, e3, _, _⟩ := ownsRow_read h
  injection e1 with e1 _ e4
  subst e4
  refine ⟨g, _, rfl, e2, e3, hlt, fun k hk => ?_⟩
  have h3 := World.ownsRow.cells h2 (g := g) rfl k (.string (bs l[k])) (by rw [List.getElem?_map, List.getElem?_eq_getElem hk]; rfl)
  rwa [add_flat, Nat.zero_add] at h3
end
section
open Go.RowKit
end
end Go.Proofs.YtphmhmdcaafmdaaGreatDoor
