/-
  Rows of changes: words. No condition.
-/
import Derived.Test.YtpanjldionaaiaaDoorDiffP
import Derived.Test.YtpanjldionaaiaaDoorPut
namespace Go.Proofs.YtpanjldionaaiaaDoor
set_option linter.all false
open Go.RowKit
/-- a change: its kind, its node and the node's data's slice -/
abbrev ChV := Int × NodeV
def chC (x : ChV) : List Value := .int .i64 x.1 :: nodeC x.2
theorem chC_length (x : ChV) : (chC x).length = 13 := rfl
def chZC : Array Value := (.int .i64 0 :: nodeZC.toList).toArray
theorem chinfo : (Tryd.prog.info? 55).map (fun i => (i.zero, i.size, i.bytes)) = some (some (.agg chZC), 13, 152) := by kernel_rfl
/-- a slice of changes in a block of its own, behind base -/
def ChOwn (w : World) (base : Nat) (v : Value) (l : List (Int × NodeP)) : Prop :=
  ∃ xs : List ChV, (xs.map fun x => (x.1, x.2.1)) = l ∧ w.ownsRow base 55 13 v l.length (xs.flatMap chC) ∧ ∀ x ∈ xs, DataAt w base x.2.2 x.2.1.data
theorem ChOwn.below {w w' : World} {base : Nat} {v : Value} {l : List (Int × NodeP)} (h : ChOwn w base v l) (hb : Below w.heap.size w w') : ChOwn w' base v l := by
  obtain ⟨xs, h0, h1, h2⟩ := h
  exact ⟨xs, h0, ownsRow_below h1 hb, fun x hx => (h2 x hx).below hb⟩
theorem ChOwn.mono {w : World} {base base' : Nat} {v : Value} {l : List (Int × NodeP)} (h : ChOwn w base v l) (hb : base' ≤ base) : ChOwn w base' v l := by
  obtain ⟨xs, h0, h1, h2⟩ := h
  exact ⟨xs, h0, ownsRow_mono h1 hb, fun x hx => (h2 x hx).mono hb⟩
theorem ChOwn.nil (w : World) (base : Nat) : ChOwn w base (.slice none 0 0) [] := ⟨[], rfl, World.ownsRow_nil _ _ _ _, by simp⟩
end Go.Proofs.YtpanjldionaaiaaDoor
