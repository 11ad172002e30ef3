/-
  DERIVED. GIVEN WITH THE SEED: THE CARDS: each row of YtnbggojmbdgkmaaDoorRows.lean that lists a variable, with what it lists TIED to the program's text (the seventh form; the later family's looks); each row that meets fmt, with fmt's text TOLD by the authors' own Lean function (tested against real Go, not proved from fmt's source: count such statements apart). THE CARD IS WHAT COUNTS. Prove the row's statement (the work); the ties are given (YtnbggojmbdgkmaaDoorTie.lean); close each card by the builder's one call (the guide's Derived/Test/ToyasCard.lean, 'card_holds'). Laid BY PROGRAM, IN A SANDBOX (cutbox-door.mjs). By AI agents, Wed Nov 11 2026. No macro, syntax, notation, axiom, sorry.
-/
import Derived.Test.YtnbggojmbdgkmaaDoorRows
import GoSem.ClaimSeven
namespace Go.Proofs.YtnbggojmbdgkmaaDoor
namespace Rows

/-- THE TIED CARD OF 'creelkeep.HeadSummed'. -/
def headSummedCard : Claim7 := { stood := { row := headSummedRow, standIns := [], harness := (true, "a184ab52c109a09b4193da0fe72fa544dd8646a093a24a74190136009e6667a4"), looks := false }, kinds := [], alts := [], laidByText := true, laidKinds := [.data, .pinned], laidTests := true, laidLooks := .later }
def HeadSummedCardSaid : Prop := Claim7.holds Tryd.pinned (.plain (OpenSpec.ofChange headSummedSpec)) headSummedCard

/-- THE TIED CARD OF 'creelkeep.HeadBack'. -/
def headBackCard : Claim7 := { stood := { row := headBackRow, standIns := [], harness := (true, "a184ab52c109a09b4193da0fe72fa544dd8646a093a24a74190136009e6667a4"), looks := false }, kinds := [], alts := [], laidByText := true, laidKinds := [.data, .pinned], laidTests := true, laidLooks := .later }
def HeadBackCardSaid : Prop := Claim7.holds Tryd.pinned (.plain (OpenSpec.ofChange headBackSpec)) headBackCard

/-- THE TIED CARD OF 'creelkeep.HeadTurned'. -/
def headTurnedCard : Claim7 := { stood := { row := headTurnedRow, standIns := [], harness := (true, "a184ab52c109a09b4193da0fe72fa544dd8646a093a24a74190136009e6667a4"), looks := false }, kinds := [], alts := [], laidByText := true, laidKinds := [.data, .pinned], laidTests := true, laidLooks := .later }
def HeadTurnedCardSaid : Prop := Claim7.holds Tryd.pinned (.plain (OpenSpec.ofChange headTurnedSpec)) headTurnedCard

/-- THE TIED CARD OF 'creelkeep.ListSays'. -/
def listSaysCard : Claim7 := { stood := { row := listSaysRow, standIns := [], harness := (true, "a184ab52c109a09b4193da0fe72fa544dd8646a093a24a74190136009e6667a4"), looks := false }, kinds := [], alts := [], laidByText := true, laidKinds := [.data, .data, .data, .data, .pinned], laidTests := true, laidLooks := .later }
def ListSaysCardSaid : Prop := Claim7.holds Tryd.pinned (.plain (OpenSpec.ofChange listSaysSpec)) listSaysCard

/-- THE TIED CARD OF 'creelkeep.PathNear'. -/
def pathNearCard : Claim7 := { stood := { row := pathNearRow, standIns := [], harness := (true, "a184ab52c109a09b4193da0fe72fa544dd8646a093a24a74190136009e6667a4"), looks := false }, kinds := [], alts := [], laidByText := true, laidKinds := [.data, .pinned], laidTests := true, laidLooks := .later }
def PathNearCardSaid : Prop := Claim7.holds Tryd.pinned (.plain (OpenSpec.ofChange pathNearSpec)) pathNearCard

/-- THE TIED CARD OF 'creelkeep.GlobSelf'. -/
def globSelfCard : Claim7 := { stood := { row := globSelfRow, standIns := [], harness := (true, "a184ab52c109a09b4193da0fe72fa544dd8646a093a24a74190136009e6667a4"), looks := false }, kinds := [], alts := [], laidByText := true, laidKinds := [.data, .pinned], laidTests := true, laidLooks := .later }
def GlobSelfCardSaid : Prop := Claim7.holds Tryd.pinned (.plain (OpenSpec.ofChange globSelfSpec)) globSelfCard

/-- THE TIED CARD OF 'creelkeep.GlobJoins'. -/
def globJoinsCard : Claim7 := { stood := { row := globJoinsRow, standIns := [], harness := (true, "a184ab52c109a09b4193da0fe72fa544dd8646a093a24a74190136009e6667a4"), looks := false }, kinds := [], alts := [], laidByText := true, laidKinds := [.data, .pinned], laidTests := true, laidLooks := .later }
def GlobJoinsCardSaid : Prop := Claim7.holds Tryd.pinned (.plain (OpenSpec.ofChange globJoinsSpec)) globJoinsCard

/-- THE TIED CARD OF 'creelkeep.GlobStars'. -/
def globStarsCard : Claim7 := { stood := { row := globStarsRow, standIns := [], harness := (true, "a184ab52c109a09b4193da0fe72fa544dd8646a093a24a74190136009e6667a4"), looks := false }, kinds := [], alts := [], laidByText := true, laidKinds := [.data, .pinned], laidTests := true, laidLooks := .later }
def GlobStarsCardSaid : Prop := Claim7.holds Tryd.pinned (.plain (OpenSpec.ofChange globStarsSpec)) globStarsCard

/-- THE TIED CARD OF 'creelkeep.LinkGroups'. -/
def linkGroupsCard : Claim7 := { stood := { row := linkGroupsRow, standIns := [], harness := (true, "a184ab52c109a09b4193da0fe72fa544dd8646a093a24a74190136009e6667a4"), looks := false }, kinds := [], alts := [], laidByText := true, laidKinds := [.data, .pinned], laidTests := true, laidLooks := .later }
def LinkGroupsCardSaid : Prop := Claim7.holds Tryd.pinned (.plain (OpenSpec.ofChange linkGroupsSpec)) linkGroupsCard

/-- THE TIED CARD OF 'creelkeep.LinkCounts'. -/
def linkCountsCard : Claim7 := { stood := { row := linkCountsRow, standIns := [], harness := (true, "a184ab52c109a09b4193da0fe72fa544dd8646a093a24a74190136009e6667a4"), looks := false }, kinds := [], alts := [], laidByText := true, laidKinds := [.data, .pinned], laidTests := true, laidLooks := .later }
def LinkCountsCardSaid : Prop := Claim7.holds Tryd.pinned (.plain (OpenSpec.ofChange linkCountsSpec)) linkCountsCard

/-- THE TIED CARD OF 'creelkeep.OrderNamed'. -/
def orderNamedCard : Claim7 := { stood := { row := orderNamedRow, standIns := [], harness := (true, "a184ab52c109a09b4193da0fe72fa544dd8646a093a24a74190136009e6667a4"), looks := false }, kinds := [], alts := [], laidByText := true, laidKinds := [.data, .pinned], laidTests := true, laidLooks := .later }
def OrderNamedCardSaid : Prop := Claim7.holds Tryd.pinned (.plain (OpenSpec.ofChange orderNamedSpec)) orderNamedCard

/-- THE TIED CARD OF 'creelkeep.TreeFound'. -/
def treeFoundCard : Claim7 := { stood := { row := treeFoundRow, standIns := [], harness := (true, "a184ab52c109a09b4193da0fe72fa544dd8646a093a24a74190136009e6667a4"), looks := false }, kinds := [], alts := [], laidByText := true, laidKinds := [.data, .pinned], laidTests := true, laidLooks := .later }
def TreeFoundCardSaid : Prop := Claim7.holds Tryd.pinned (.plain (OpenSpec.ofChange treeFoundSpec)) treeFoundCard

/-- THE SECOND FORM's CARD OF 'creelkeep.HeadSummed'. -/
def headSummedUptoCard : Claim7 := { stood := { row := headSummedUptoRow, standIns := [], harness := (true, "a184ab52c109a09b4193da0fe72fa544dd8646a093a24a74190136009e6667a4"), looks := false }, kinds := [], alts := [], laidByText := true, laidKinds := [.data, .pinned], laidTests := true, laidLooks := .later }
def HeadSummedUptoCardSaid : Prop := Claim7.holds Tryd.pinned (.plain (OpenSpec.upto headSummedSpec)) headSummedUptoCard

/-- THE SECOND FORM's CARD OF 'creelkeep.HeadBack'. -/
def headBackUptoCard : Claim7 := { stood := { row := headBackUptoRow, standIns := [], harness := (true, "a184ab52c109a09b4193da0fe72fa544dd8646a093a24a74190136009e6667a4"), looks := false }, kinds := [], alts := [], laidByText := true, laidKinds := [.data, .pinned], laidTests := true, laidLooks := .later }
def HeadBackUptoCardSaid : Prop := Claim7.holds Tryd.pinned (.plain (OpenSpec.upto headBackSpec)) headBackUptoCard

/-- THE SECOND FORM's CARD OF 'creelkeep.HeadTurned'. -/
def headTurnedUptoCard : Claim7 := { stood := { row := headTurnedUptoRow, standIns := [], harness := (true, "a184ab52c109a09b4193da0fe72fa544dd8646a093a24a74190136009e6667a4"), looks := false }, kinds := [], alts := [], laidByText := true, laidKinds := [.data, .pinned], laidTests := true, laidLooks := .later }
def HeadTurnedUptoCardSaid : Prop := Claim7.holds Tryd.pinned (.plain (OpenSpec.upto headTurnedSpec)) headTurnedUptoCard

/-- THE SECOND FORM's CARD OF 'creelkeep.ListSays'. -/
def listSaysUptoCard : Claim7 := { stood := { row := listSaysUptoRow, standIns := [], harness := (true, "a184ab52c109a09b4193da0fe72fa544dd8646a093a24a74190136009e6667a4"), looks := false }, kinds := [], alts := [], laidByText := true, laidKinds := [.data, .data, .data, .data, .pinned], laidTests := true, laidLooks := .later }
def ListSaysUptoCardSaid : Prop := Claim7.holds Tryd.pinned (.plain (OpenSpec.upto listSaysSpec)) listSaysUptoCard

/-- THE SECOND FORM's CARD OF 'creelkeep.PathNear'. -/
def pathNearUptoCard : Claim7 := { stood := { row := pathNearUptoRow, standIns := [], harness := (true, "a184ab52c109a09b4193da0fe72fa544dd8646a093a24a74190136009e6667a4"), looks := false }, kinds := [], alts := [], laidByText := true, laidKinds := [.data, .pinned], laidTests := true, laidLooks := .later }
def PathNearUptoCardSaid : Prop := Claim7.holds Tryd.pinned (.plain (OpenSpec.upto pathNearSpec)) pathNearUptoCard

/-- THE SECOND FORM's CARD OF 'creelkeep.GlobSelf'. -/
def globSelfUptoCard : Claim7 := { stood := { row := globSelfUptoRow, standIns := [], harness := (true, "a184ab52c109a09b4193da0fe72fa544dd8646a093a24a74190136009e6667a4"), looks := false }, kinds := [], alts := [], laidByText := true, laidKinds := [.data, .pinned], laidTests := true, laidLooks := .later }
def GlobSelfUptoCardSaid : Prop := Claim7.holds Tryd.pinned (.plain (OpenSpec.upto globSelfSpec)) globSelfUptoCard

/-- THE SECOND FORM's CARD OF 'creelkeep.GlobJoins'. -/
def globJoinsUptoCard : Claim7 := { stood := { row := globJoinsUptoRow, standIns := [], harness := (true, "a184ab52c109a09b4193da0fe72fa544dd8646a093a24a74190136009e6667a4"), looks := false }, kinds := [], alts := [], laidByText := true, laidKinds := [.data, .pinned], laidTests := true, laidLooks := .later }
def GlobJoinsUptoCardSaid : Prop := Claim7.holds Tryd.pinned (.plain (OpenSpec.upto globJoinsSpec)) globJoinsUptoCard

/-- THE SECOND FORM's CARD OF 'creelkeep.GlobStars'. -/
def globStarsUptoCard : Claim7 := { stood := { row := globStarsUptoRow, standIns := [], harness := (true, "a184ab52c109a09b4193da0fe72fa544dd8646a093a24a74190136009e6667a4"), looks := false }, kinds := [], alts := [], laidByText := true, laidKinds := [.data, .pinned], laidTests := true, laidLooks := .later }
def GlobStarsUptoCardSaid : Prop := Claim7.holds Tryd.pinned (.plain (OpenSpec.upto globStarsSpec)) globStarsUptoCard

/-- THE SECOND FORM's CARD OF 'creelkeep.LinkGroups'. -/
def linkGroupsUptoCard : Claim7 := { stood := { row := linkGroupsUptoRow, standIns := [], harness := (true, "a184ab52c109a09b4193da0fe72fa544dd8646a093a24a74190136009e6667a4"), looks := false }, kinds := [], alts := [], laidByText := true, laidKinds := [.data, .pinned], laidTests := true, laidLooks := .later }
def LinkGroupsUptoCardSaid : Prop := Claim7.holds Tryd.pinned (.plain (OpenSpec.upto linkGroupsSpec)) linkGroupsUptoCard

/-- THE SECOND FORM's CARD OF 'creelkeep.LinkCounts'. -/
def linkCountsUptoCard : Claim7 := { stood := { row := linkCountsUptoRow, standIns := [], harness := (true, "a184ab52c109a09b4193da0fe72fa544dd8646a093a24a74190136009e6667a4"), looks := false }, kinds := [], alts := [], laidByText := true, laidKinds := [.data, .pinned], laidTests := true, laidLooks := .later }
def LinkCountsUptoCardSaid : Prop := Claim7.holds Tryd.pinned (.plain (OpenSpec.upto linkCountsSpec)) linkCountsUptoCard

/-- THE SECOND FORM's CARD OF 'creelkeep.OrderNamed'. -/
def orderNamedUptoCard : Claim7 := { stood := { row := orderNamedUptoRow, standIns := [], harness := (true, "a184ab52c109a09b4193da0fe72fa544dd8646a093a24a74190136009e6667a4"), looks := false }, kinds := [], alts := [], laidByText := true, laidKinds := [.data, .pinned], laidTests := true, laidLooks := .later }
def OrderNamedUptoCardSaid : Prop := Claim7.holds Tryd.pinned (.plain (OpenSpec.upto orderNamedSpec)) orderNamedUptoCard

/-- THE SECOND FORM's CARD OF 'creelkeep.TreeFound'. -/
def treeFoundUptoCard : Claim7 := { stood := { row := treeFoundUptoRow, standIns := [], harness := (true, "a184ab52c109a09b4193da0fe72fa544dd8646a093a24a74190136009e6667a4"), looks := false }, kinds := [], alts := [], laidByText := true, laidKinds := [.data, .pinned], laidTests := true, laidLooks := .later }
def TreeFoundUptoCardSaid : Prop := Claim7.holds Tryd.pinned (.plain (OpenSpec.upto treeFoundSpec)) treeFoundUptoCard
end Rows
end Go.Proofs.YtnbggojmbdgkmaaDoor
