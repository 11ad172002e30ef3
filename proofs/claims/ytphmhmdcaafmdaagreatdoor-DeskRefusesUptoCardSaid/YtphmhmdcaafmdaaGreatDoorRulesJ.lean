/-
  creelkeep.Rules: the rules of raw things. Condition: raw things of the second form's bound.
  Rules of raw things, plainly: their patterns, by their parts; a row of rules, as a walk reads it. No condition.
-/
import Derived.Test.YtphmhmdcaafmdaaGreatDoorPaths
import Derived.Deep.RegionHeld3
import Derived.Test.YtphmhmdcaafmdaaGreatDoorGlobPP
namespace Go.Proofs.YtphmhmdcaafmdaaGreatDoor
set_option linter.all false
section
open Go.RowKit
def patternsL : List (List UInt8) := [[97], [42, 42], [42], [97, 47, 42, 42], [42, 42, 47, 98], [63], [91, 97, 45, 98, 93], [91, 33, 97, 93, 42], [42, 42, 47, 42, 46, 116, 120, 116], [120, 42], [97, 98, 47, 42], [42, 42, 47, 110, 42]]
abbrev RuleP := Bool × List UInt8
def ruleC (x : RuleP) : List Value := [.bool x.1, .string (bs x.2)]
theorem ruleC_length (x : RuleP) : (ruleC x).length = 2 := rfl
def RulesOwn (w : World) (base : Nat) (v : Value) (rs : List RuleP) : Prop := w.ownsRow base 279 2 v rs.length (rs.flatMap ruleC)
theorem RulesOwn.below {w w' : World} {base : Nat} {v : Value} {rs : List RuleP} (h : RulesOwn w base v rs) (hb : Below w.heap.size w w') : RulesOwn w' base v rs := ownsRow_below h hb
/-- in the loop of Rules -/
def RuSt (w0 : World) (v : Value) (rs : List RuleP) (w : World) : Prop := Below w0.heap.size w0 w ∧ RulesOwn w w0.heap.size v rs ∧ Blk w w0.heap.size 9 (patternsL.map fun p => Value.string (bs p)).toArray
theorem RuSt.below {w0 w w' : World} {v : Value} {rs : List RuleP} (h : RuSt w0 v rs w) (hb : Below w.heap.size w w') : RuSt w0 v rs w' := ⟨h.1.trans (hb.mono h.1.size), h.2.1.below hb, h.2.2.below hb h.2.2.lt⟩
theorem RuSt.snoc {w0 w w' : World} {v v' : Value} {rs : List RuleP} {x : RuleP} (h : RuSt w0 v rs w) (hg : w.grownBy w' v.ownBlock) (ho : w'.ownsRow w0.heap.size 279 2 v' (rs.length + 1) (rs.flatMap ruleC ++ ruleC x)) : RuSt w0 v' (rs ++ [x]) w' := by
  have ht : ∀ g, v.ownBlock = some g → w0.heap.size ≤ g ∧ ∃ C fr, w.heap[g]? = some (.cells C 279 fr) := fun g e => own_typed h.2.1 e
  refine ⟨h.1.grown hg h.1.size (fun k e => (ht k e).1), ?_, h.2.2.grown hg (fun e => ?_)⟩
  · unfold RulesOwn
    rw [List.length_append, List.flatMap_append]
    simpa using ho
  · obtain ⟨_, C, fr, hC⟩ := ht _ e.symm
    have h2 := h.2.2
    unfold Blk at h2
    rw [h2] at hC
    injection hC with hC
    injection hC with _ ht
    exact absurd ht (by decide)
end
section
open Go.RowKit
/-- a row of rules, as a walk reads it -/
theorem RulesOwn.row {w : World} {base : Nat} {v : Value} {l : List RuleP} (h : RulesOwn w base v l) (hl : 0 < l.length) : ∃ g c, v = .slice (some ⟨g, 0, none⟩) l.length c ∧ g < w.heap.size ∧ l.length ≤ c ∧ c ≤ maxLen ∧
    ∀ j, (hj : j < l.length) → w.cell? ⟨g, j * 2, none⟩ = some (.bool l[j].1) ∧ w.cell? ⟨g, j * 2 + 1, none⟩ = some (.string (bs l[j].2)) := by
  rcases id h.2 with ⟨_, h4⟩ | ⟨g, cap, cur, rfl, hb, hg, hn, hm, _⟩
  · omega
  · refine ⟨g, cap, rfl, heap_lt hg, hn, hm, fun j hj => ?_⟩
    have key : ∀ i, i < 2 → w.cell? ⟨g, j * 2 + i, none⟩ = (ruleC l[j])[i]? := fun i hi => by
      have h3 : (l.flatMap ruleC)[j * 2 + i]? = (ruleC l[j])[i]? := by
        rw [flat_get ruleC_length l j i hi, List.getElem?_eq_getElem hj]; rfl
      have hl2 : i < (ruleC l[j]).length := hi
      rw [List.getElem?_eq_getElem hl2] at h3 ⊢
      have h4 := World.ownsRow.cells h (g := g) rfl (j * 2 + i) _ h3
      rwa [add_flat, Nat.zero_add] at h4
    exact ⟨key 0 (by omega), key 1 (by omega)⟩
end
end Go.Proofs.YtphmhmdcaafmdaaGreatDoor
