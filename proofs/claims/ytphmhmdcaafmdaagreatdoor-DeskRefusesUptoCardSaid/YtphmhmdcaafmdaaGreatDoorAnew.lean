/-
  link.Anew: files that are one told by the place of the first one. Condition: a tree that passes tree.Check, its nodes each by themselves.
-/
import Derived.Test.YtphmhmdcaafmdaaGreatDoorLinks
namespace Go.Proofs.YtphmhmdcaafmdaaGreatDoor
set_option linter.all false
open Go.RowKit
def setSame (x : NodeP) (s : Int) : NodeP := ⟨x.path, x.kind, s, x.target, x.mt, x.data⟩
end Go.Proofs.YtphmhmdcaafmdaaGreatDoor
