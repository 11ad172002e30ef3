/-
  creelkeep.Alike: are two trees the same, whatever numbers tell which files are one. No condition beyond short trees.
-/
import Derived.Test.YtphmhmdcaafmdaaGreatDoorAnew
import Derived.Test.YtphmhmdcaafmdaaGreatDoorSame
import Derived.Deep.CutRange
import Derived.Deep.DeepCutAuto
import Derived.Deep.RegionHeld3
namespace Go.Proofs.YtphmhmdcaafmdaaGreatDoor
set_option linter.all false
open Go.RowKit
/-- both nodes of a round, in blocks of their own -/
def AkSt (B : World) (g6 g7 : Nat) (x y : NodeV) (W : World) : Prop := Below B.heap.size B W ∧ B.heap.size ≤ g6 ∧ B.heap.size ≤ g7 ∧ g6 ≠ g7 ∧ Blk W g6 29 (nodeC x).toArray ∧ Blk W g7 29 (nodeC y).toArray
theorem AkSt.zero {B W : World} {g6 g7 : Nat} {x y : NodeV} (h : AkSt B g6 g7 x y W) : AkSt B g6 g7 (setSame x.1 0, x.2) (setSame y.1 0, y.2) ((W.setCell ⟨g6, 2, none⟩ (.int .i64 0)).setCell ⟨g7, 2, none⟩ (.int .i64 0)) := by
  obtain ⟨h1, h2, h3, h4, h5, h6⟩ := h
  exact ⟨(h1.setCell (p := ⟨g6, 2, none⟩) h2 _).setCell (p := ⟨g7, 2, none⟩) h3 _, h2, h3, h4, (h5.set_ 2 (.int .i64 0)).far (p := ⟨g7, 2, none⟩) h4 _, (h6.far (p := ⟨g6, 2, none⟩) (fun e => h4 e.symm) _).set_ 2 (.int .i64 0)⟩
end Go.Proofs.YtphmhmdcaafmdaaGreatDoor
