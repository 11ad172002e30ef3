/-
  DERIVED. GIVEN WITH THE SEED: THE CARDS: each row of YtngkfelhlabloaaDoorRows.lean that lists a variable, with what it lists TIED to the program's text (the seventh form; the later family's looks); each row that meets fmt, with fmt's text TOLD by the authors' own Lean function (tested against real Go, not proved from fmt's source: count such statements apart). THE CARD IS WHAT COUNTS. Prove the row's statement (the work); the ties are given (YtngkfelhlabloaaDoorTie.lean); close each card by the builder's one call (the guide's Derived/Test/ToyasCard.lean, 'card_holds'). Laid BY PROGRAM, IN A SANDBOX (cutbox-door.mjs). By AI agents, Wed Nov 11 2026. No macro, syntax, notation, axiom, sorry.
-/
import Derived.Test.YtngkfelhlabloaaDoorRows
import GoSem.ClaimSeven
namespace Go.Proofs.YtngkfelhlabloaaDoor
namespace Rows

/-- THE TIED CARD OF 'creelkeep.GlobJoins'. -/
def globJoinsCard : Claim7 := { stood := { row := globJoinsRow, standIns := [], harness := (true, "ecd69e32ff592b3ec36cbddc8f190919dd3360263a34fc1e0665624344cb6b13"), looks := false }, kinds := [], alts := [], laidByText := true, laidKinds := [.data, .pinned], laidTests := true, laidLooks := .later }
def GlobJoinsCardSaid : Prop := Claim7.holds Tryd.pinned (.plain (OpenSpec.ofChange globJoinsSpec)) globJoinsCard

/-- THE TIED CARD OF 'creelkeep.LinkGroups'. -/
def linkGroupsCard : Claim7 := { stood := { row := linkGroupsRow, standIns := [], harness := (true, "ecd69e32ff592b3ec36cbddc8f190919dd3360263a34fc1e0665624344cb6b13"), looks := false }, kinds := [], alts := [], laidByText := true, laidKinds := [.data, .pinned], laidTests := true, laidLooks := .later }
def LinkGroupsCardSaid : Prop := Claim7.holds Tryd.pinned (.plain (OpenSpec.ofChange linkGroupsSpec)) linkGroupsCard

/-- THE TIED CARD OF 'creelkeep.DiffTurned'. -/
def diffTurnedCard : Claim7 := { stood := { row := diffTurnedRow, standIns := [], harness := (true, "ecd69e32ff592b3ec36cbddc8f190919dd3360263a34fc1e0665624344cb6b13"), looks := false }, kinds := [], alts := [], laidByText := true, laidKinds := [.data, .pinned], laidTests := true, laidLooks := .later }
def DiffTurnedCardSaid : Prop := Claim7.holds Tryd.pinned (.plain (OpenSpec.ofChange diffTurnedSpec)) diffTurnedCard

/-- THE TIED CARD OF 'creelkeep.OrderNamed'. -/
def orderNamedCard : Claim7 := { stood := { row := orderNamedRow, standIns := [], harness := (true, "ecd69e32ff592b3ec36cbddc8f190919dd3360263a34fc1e0665624344cb6b13"), looks := false }, kinds := [], alts := [], laidByText := true, laidKinds := [.data, .pinned], laidTests := true, laidLooks := .later }
def OrderNamedCardSaid : Prop := Claim7.holds Tryd.pinned (.plain (OpenSpec.ofChange orderNamedSpec)) orderNamedCard

/-- THE TIED CARD OF 'creelkeep.LinkCounts'. -/
def linkCountsCard : Claim7 := { stood := { row := linkCountsRow, standIns := [], harness := (true, "ecd69e32ff592b3ec36cbddc8f190919dd3360263a34fc1e0665624344cb6b13"), looks := false }, kinds := [], alts := [], laidByText := true, laidKinds := [.data, .pinned], laidTests := true, laidLooks := .later }
def LinkCountsCardSaid : Prop := Claim7.holds Tryd.pinned (.plain (OpenSpec.ofChange linkCountsSpec)) linkCountsCard

/-- THE TIED CARD OF 'creelkeep.TreeFound'. -/
def treeFoundCard : Claim7 := { stood := { row := treeFoundRow, standIns := [], harness := (true, "ecd69e32ff592b3ec36cbddc8f190919dd3360263a34fc1e0665624344cb6b13"), looks := false }, kinds := [], alts := [], laidByText := true, laidKinds := [.data, .pinned], laidTests := true, laidLooks := .later }
def TreeFoundCardSaid : Prop := Claim7.holds Tryd.pinned (.plain (OpenSpec.ofChange treeFoundSpec)) treeFoundCard

/-- THE TIED CARD OF 'creelkeep.DiffNone'. -/
def diffNoneCard : Claim7 := { stood := { row := diffNoneRow, standIns := [], harness := (true, "ecd69e32ff592b3ec36cbddc8f190919dd3360263a34fc1e0665624344cb6b13"), looks := false }, kinds := [], alts := [], laidByText := true, laidKinds := [.data, .pinned], laidTests := true, laidLooks := .later }
def DiffNoneCardSaid : Prop := Claim7.holds Tryd.pinned (.plain (OpenSpec.ofChange diffNoneSpec)) diffNoneCard

/-- THE TIED CARD OF 'creelkeep.OrderAll'. -/
def orderAllCard : Claim7 := { stood := { row := orderAllRow, standIns := [], harness := (true, "ecd69e32ff592b3ec36cbddc8f190919dd3360263a34fc1e0665624344cb6b13"), looks := false }, kinds := [], alts := [], laidByText := true, laidKinds := [.data, .pinned], laidTests := true, laidLooks := .later }
def OrderAllCardSaid : Prop := Claim7.holds Tryd.pinned (.plain (OpenSpec.ofChange orderAllSpec)) orderAllCard

/-- THE TIED CARD OF 'creelkeep.LinkAnew'. -/
def linkAnewCard : Claim7 := { stood := { row := linkAnewRow, standIns := [], harness := (true, "ecd69e32ff592b3ec36cbddc8f190919dd3360263a34fc1e0665624344cb6b13"), looks := false }, kinds := [], alts := [], laidByText := true, laidKinds := [.data, .pinned], laidTests := true, laidLooks := .later }
def LinkAnewCardSaid : Prop := Claim7.holds Tryd.pinned (.plain (OpenSpec.ofChange linkAnewSpec)) linkAnewCard

/-- THE TIED CARD OF 'creelkeep.TreeGood'. -/
def treeGoodCard : Claim7 := { stood := { row := treeGoodRow, standIns := [], harness := (true, "ecd69e32ff592b3ec36cbddc8f190919dd3360263a34fc1e0665624344cb6b13"), looks := false }, kinds := [], alts := [], laidByText := true, laidKinds := [.data, .pinned], laidTests := true, laidLooks := .later }
def TreeGoodCardSaid : Prop := Claim7.holds Tryd.pinned (.plain (OpenSpec.ofChange treeGoodSpec)) treeGoodCard

/-- THE TIED CARD OF 'creelkeep.TreeBack'. -/
def treeBackCard : Claim7 := { stood := { row := treeBackRow, standIns := [], harness := (true, "ecd69e32ff592b3ec36cbddc8f190919dd3360263a34fc1e0665624344cb6b13"), looks := false }, kinds := [], alts := [], laidByText := true, laidKinds := [.data, .pinned], laidTests := true, laidLooks := .later }
def TreeBackCardSaid : Prop := Claim7.holds Tryd.pinned (.plain (OpenSpec.ofChange treeBackSpec)) treeBackCard

/-- THE TIED CARD OF 'creelkeep.TreeGone'. -/
def treeGoneCard : Claim7 := { stood := { row := treeGoneRow, standIns := [], harness := (true, "ecd69e32ff592b3ec36cbddc8f190919dd3360263a34fc1e0665624344cb6b13"), looks := false }, kinds := [], alts := [], laidByText := true, laidKinds := [.data, .pinned], laidTests := true, laidLooks := .later }
def TreeGoneCardSaid : Prop := Claim7.holds Tryd.pinned (.plain (OpenSpec.ofChange treeGoneSpec)) treeGoneCard

/-- THE SECOND FORM's CARD OF 'creelkeep.GlobJoins'. -/
def globJoinsUptoCard : Claim7 := { stood := { row := globJoinsUptoRow, standIns := [], harness := (true, "ecd69e32ff592b3ec36cbddc8f190919dd3360263a34fc1e0665624344cb6b13"), looks := false }, kinds := [], alts := [], laidByText := true, laidKinds := [.data, .pinned], laidTests := true, laidLooks := .later }
def GlobJoinsUptoCardSaid : Prop := Claim7.holds Tryd.pinned (.plain (OpenSpec.upto globJoinsSpec)) globJoinsUptoCard

/-- THE SECOND FORM's CARD OF 'creelkeep.LinkGroups'. -/
def linkGroupsUptoCard : Claim7 := { stood := { row := linkGroupsUptoRow, standIns := [], harness := (true, "ecd69e32ff592b3ec36cbddc8f190919dd3360263a34fc1e0665624344cb6b13"), looks := false }, kinds := [], alts := [], laidByText := true, laidKinds := [.data, .pinned], laidTests := true, laidLooks := .later }
def LinkGroupsUptoCardSaid : Prop := Claim7.holds Tryd.pinned (.plain (OpenSpec.upto linkGroupsSpec)) linkGroupsUptoCard

/-- THE SECOND FORM's CARD OF 'creelkeep.DiffTurned'. -/
def diffTurnedUptoCard : Claim7 := { stood := { row := diffTurnedUptoRow, standIns := [], harness := (true, "ecd69e32ff592b3ec36cbddc8f190919dd3360263a34fc1e0665624344cb6b13"), looks := false }, kinds := [], alts := [], laidByText := true, laidKinds := [.data, .pinned], laidTests := true, laidLooks := .later }
def DiffTurnedUptoCardSaid : Prop := Claim7.holds Tryd.pinned (.plain (OpenSpec.upto diffTurnedSpec)) diffTurnedUptoCard

/-- THE SECOND FORM's CARD OF 'creelkeep.OrderNamed'. -/
def orderNamedUptoCard : Claim7 := { stood := { row := orderNamedUptoRow, standIns := [], harness := (true, "ecd69e32ff592b3ec36cbddc8f190919dd3360263a34fc1e0665624344cb6b13"), looks := false }, kinds := [], alts := [], laidByText := true, laidKinds := [.data, .pinned], laidTests := true, laidLooks := .later }
def OrderNamedUptoCardSaid : Prop := Claim7.holds Tryd.pinned (.plain (OpenSpec.upto orderNamedSpec)) orderNamedUptoCard

/-- THE SECOND FORM's CARD OF 'creelkeep.LinkCounts'. -/
def linkCountsUptoCard : Claim7 := { stood := { row := linkCountsUptoRow, standIns := [], harness := (true, "ecd69e32ff592b3ec36cbddc8f190919dd3360263a34fc1e0665624344cb6b13"), looks := false }, kinds := [], alts := [], laidByText := true, laidKinds := [.data, .pinned], laidTests := true, laidLooks := .later }
def LinkCountsUptoCardSaid : Prop := Claim7.holds Tryd.pinned (.plain (OpenSpec.upto linkCountsSpec)) linkCountsUptoCard

/-- THE SECOND FORM's CARD OF 'creelkeep.TreeFound'. -/
def treeFoundUptoCard : Claim7 := { stood := { row := treeFoundUptoRow, standIns := [], harness := (true, "ecd69e32ff592b3ec36cbddc8f190919dd3360263a34fc1e0665624344cb6b13"), looks := false }, kinds := [], alts := [], laidByText := true, laidKinds := [.data, .pinned], laidTests := true, laidLooks := .later }
def TreeFoundUptoCardSaid : Prop := Claim7.holds Tryd.pinned (.plain (OpenSpec.upto treeFoundSpec)) treeFoundUptoCard

/-- THE SECOND FORM's CARD OF 'creelkeep.DiffNone'. -/
def diffNoneUptoCard : Claim7 := { stood := { row := diffNoneUptoRow, standIns := [], harness := (true, "ecd69e32ff592b3ec36cbddc8f190919dd3360263a34fc1e0665624344cb6b13"), looks := false }, kinds := [], alts := [], laidByText := true, laidKinds := [.data, .pinned], laidTests := true, laidLooks := .later }
def DiffNoneUptoCardSaid : Prop := Claim7.holds Tryd.pinned (.plain (OpenSpec.upto diffNoneSpec)) diffNoneUptoCard

/-- THE SECOND FORM's CARD OF 'creelkeep.OrderAll'. -/
def orderAllUptoCard : Claim7 := { stood := { row := orderAllUptoRow, standIns := [], harness := (true, "ecd69e32ff592b3ec36cbddc8f190919dd3360263a34fc1e0665624344cb6b13"), looks := false }, kinds := [], alts := [], laidByText := true, laidKinds := [.data, .pinned], laidTests := true, laidLooks := .later }
def OrderAllUptoCardSaid : Prop := Claim7.holds Tryd.pinned (.plain (OpenSpec.upto orderAllSpec)) orderAllUptoCard

/-- THE SECOND FORM's CARD OF 'creelkeep.LinkAnew'. -/
def linkAnewUptoCard : Claim7 := { stood := { row := linkAnewUptoRow, standIns := [], harness := (true, "ecd69e32ff592b3ec36cbddc8f190919dd3360263a34fc1e0665624344cb6b13"), looks := false }, kinds := [], alts := [], laidByText := true, laidKinds := [.data, .pinned], laidTests := true, laidLooks := .later }
def LinkAnewUptoCardSaid : Prop := Claim7.holds Tryd.pinned (.plain (OpenSpec.upto linkAnewSpec)) linkAnewUptoCard

/-- THE SECOND FORM's CARD OF 'creelkeep.TreeGood'. -/
def treeGoodUptoCard : Claim7 := { stood := { row := treeGoodUptoRow, standIns := [], harness := (true, "ecd69e32ff592b3ec36cbddc8f190919dd3360263a34fc1e0665624344cb6b13"), looks := false }, kinds := [], alts := [], laidByText := true, laidKinds := [.data, .pinned], laidTests := true, laidLooks := .later }
def TreeGoodUptoCardSaid : Prop := Claim7.holds Tryd.pinned (.plain (OpenSpec.upto treeGoodSpec)) treeGoodUptoCard

/-- THE SECOND FORM's CARD OF 'creelkeep.TreeBack'. -/
def treeBackUptoCard : Claim7 := { stood := { row := treeBackUptoRow, standIns := [], harness := (true, "ecd69e32ff592b3ec36cbddc8f190919dd3360263a34fc1e0665624344cb6b13"), looks := false }, kinds := [], alts := [], laidByText := true, laidKinds := [.data, .pinned], laidTests := true, laidLooks := .later }
def TreeBackUptoCardSaid : Prop := Claim7.holds Tryd.pinned (.plain (OpenSpec.upto treeBackSpec)) treeBackUptoCard

/-- THE SECOND FORM's CARD OF 'creelkeep.TreeGone'. -/
def treeGoneUptoCard : Claim7 := { stood := { row := treeGoneUptoRow, standIns := [], harness := (true, "ecd69e32ff592b3ec36cbddc8f190919dd3360263a34fc1e0665624344cb6b13"), looks := false }, kinds := [], alts := [], laidByText := true, laidKinds := [.data, .pinned], laidTests := true, laidLooks := .later }
def TreeGoneUptoCardSaid : Prop := Claim7.holds Tryd.pinned (.plain (OpenSpec.upto treeGoneSpec)) treeGoneUptoCard
end Rows
end Go.Proofs.YtngkfelhlabloaaDoor
