/-
  creelkeep.SameNode, slices.EqualFunc over nodes, creelkeep.SameTree. No condition beyond the nodes' data lying in blocks of bytes.
-/
import Derived.Test.YtpanjldionaaiaaGreatDoorTFR
import Derived.Test.YtpanjldionaaiaaGreatDoorTCheck
import Derived.BigQuiet
namespace Go.Proofs.YtpanjldionaaiaaGreatDoor
set_option linter.all false
open Go.RowKit
/-! ### creelkeep.SameNode -/
/-! ### slices.EqualFunc over nodes -/
theorem Blk.node {W : World} {g : Nat} {np nt nd : List UInt8} {nk ns o1 o2 o3 o6 o7 : Int} {o4 o5 : List UInt8} {dv : Value} (h : Blk W g 58 (nodeC (⟨np, nk, ns, nt, ⟨o1, o2, o3, o4, o5, o6, o7⟩, nd⟩, dv)).toArray) :
    W.cell? ⟨g, 0, none⟩ = some (.string (bs np)) ∧ W.cell? ⟨g, 1, none⟩ = some (.int .i64 nk) ∧ W.cell? ⟨g, 2, none⟩ = some (.int .i64 ns) ∧ W.cell? ⟨g, 3, none⟩ = some (.string (bs nt)) ∧ W.cell? ⟨g, 4, none⟩ = some (.int .i64 o1) ∧ W.cell? ⟨g, 5, none⟩ = some (.int .i64 o2) ∧ W.cell? ⟨g, 6, none⟩ = some (.int .i64 o3) ∧ W.cell? ⟨g, 7, none⟩ = some (.string (bs o4)) ∧ W.cell? ⟨g, 8, none⟩ = some (.string (bs o5)) ∧ W.cell? ⟨g, 9, none⟩ = some (.int .i64 o6) ∧ W.cell? ⟨g, 10, none⟩ = some (.int .i64 o7) ∧ W.cell? ⟨g, 11, none⟩ = some dv :=
  ⟨h.cell 0, h.cell 1, h.cell 2, h.cell 3, h.cell 4, h.cell 5, h.cell 6, h.cell 7, h.cell 8, h.cell 9, h.cell 10, h.cell 11⟩
end Go.Proofs.YtpanjldionaaiaaGreatDoor
