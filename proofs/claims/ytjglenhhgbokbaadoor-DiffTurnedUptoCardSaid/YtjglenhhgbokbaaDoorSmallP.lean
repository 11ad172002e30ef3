/-
  The closed tree may be, plainly. No condition.
-/
import Derived.Test.YtjglenhhgbokbaaDoorTreeV
import Derived.Test.YtjglenhhgbokbaaDoorCopy
namespace Go.Proofs.YtjglenhhgbokbaaDoor
open Go.RowKit

theorem metaZ_ok : MetaOk metaZ := ⟨by decide, by decide, by decide, by decide, by decide, by unfold timeOk metaZ; decide⟩
theorem small_ok : TreeOk smallP where
  len := by decide
  node := by
    intro x hx
    simp only [smallP, List.mem_cons, List.mem_nil_iff, or_false] at hx
    rcases hx with rfl | rfl | rfl
    all_goals exact ⟨by decide, metaZ_ok, by decide, by decide, by decide, by decide, by decide⟩
  sorted := by decide
  up := by decide
  alike := by
    intro x hx y hy h
    simp only [smallP, List.mem_cons, List.mem_nil_iff, or_false] at hx
    rcases hx with rfl | rfl | rfl
    all_goals exact absurd rfl h
theorem chk_small : chkT smallP = 0 := small_ok.chk

/-- .. a law's tree, and the closed one, as a walk makes them -/
theorem treeP_node (l : List RawS) (most : Nat) (hm : most ≤ 40) : ∀ x ∈ treeP l most, NodeOk x := (treeP_ok l most hm).node
theorem treeP_len (l : List RawS) (most : Nat) (hm : most ≤ 40) : (treeP l most).length ≤ 40 := (treeP_ok l most hm).len
end Go.Proofs.YtjglenhhgbokbaaDoor
