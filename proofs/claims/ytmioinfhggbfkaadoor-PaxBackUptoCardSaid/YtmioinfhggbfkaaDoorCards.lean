/-
  DERIVED. GIVEN WITH THE SEED: THE CARDS: each row of YtmioinfhggbfkaaDoorRows.lean that lists a variable, with what it lists TIED to the program's text (the seventh form; the later family's looks); each row that meets fmt, with fmt's text TOLD by the authors' own Lean function (tested against real Go, not proved from fmt's source: count such statements apart). THE CARD IS WHAT COUNTS. Prove the row's statement (the work); the ties are given (YtmioinfhggbfkaaDoorTie.lean); close each card by the builder's one call (the guide's Derived/Test/ToyasCard.lean, 'card_holds'). Laid BY PROGRAM, IN A SANDBOX (cutbox-door.mjs). By AI agents, Wed Nov 11 2026. No macro, syntax, notation, axiom, sorry.
-/
import Derived.Test.YtmioinfhggbfkaaDoorRows
import GoSem.ClaimSeven
namespace Go.Proofs.YtmioinfhggbfkaaDoor
namespace Rows

/-- THE TIED CARD OF 'creelkeep.MemberHead'. -/
def memberHeadCard : Claim7 := { stood := { row := memberHeadRow, standIns := [], harness := (true, "a89655c973edcd45c65828baf02c41b1d3b3042fdf792aa1bbef93ea79ac3397"), looks := true }, kinds := [], alts := [], laidByText := true, laidKinds := [.data, .data, .data, .data, .pinned], laidTests := true, laidLooks := .later }
def MemberHeadCardSaid : Prop := Claim7.holds Tryd.pinned (.plain (OpenSpec.ofChange memberHeadSpec)) memberHeadCard

/-- THE TIED CARD OF 'creelkeep.ListSays'. -/
def listSaysCard : Claim7 := { stood := { row := listSaysRow, standIns := [], harness := (true, "a89655c973edcd45c65828baf02c41b1d3b3042fdf792aa1bbef93ea79ac3397"), looks := true }, kinds := [], alts := [], laidByText := true, laidKinds := [.data, .data, .data, .data, .pinned], laidTests := true, laidLooks := .later }
def ListSaysCardSaid : Prop := Claim7.holds Tryd.pinned (.plain (OpenSpec.ofChange listSaysSpec)) listSaysCard

/-- THE TIED CARD OF 'creelkeep.PaxBack'. -/
def paxBackCard : Claim7 := { stood := { row := paxBackRow, standIns := [], harness := (true, "a89655c973edcd45c65828baf02c41b1d3b3042fdf792aa1bbef93ea79ac3397"), looks := true }, kinds := [], alts := [], laidByText := true, laidKinds := [.data, .data, .data, .data, .sentinel, .sentinel, .pinned], laidTests := true, laidLooks := .later }
def PaxBackCardSaid : Prop := Claim7.holds Tryd.pinned (.plain (OpenSpec.ofChange paxBackSpec)) paxBackCard

/-- THE SECOND FORM's CARD OF 'creelkeep.MemberHead'. -/
def memberHeadUptoCard : Claim7 := { stood := { row := memberHeadUptoRow, standIns := [], harness := (true, "a89655c973edcd45c65828baf02c41b1d3b3042fdf792aa1bbef93ea79ac3397"), looks := true }, kinds := [], alts := [], laidByText := true, laidKinds := [.data, .data, .data, .data, .pinned], laidTests := true, laidLooks := .later }
def MemberHeadUptoCardSaid : Prop := Claim7.holds Tryd.pinned (.plain (OpenSpec.upto memberHeadSpec)) memberHeadUptoCard

/-- THE SECOND FORM's CARD OF 'creelkeep.ListSays'. -/
def listSaysUptoCard : Claim7 := { stood := { row := listSaysUptoRow, standIns := [], harness := (true, "a89655c973edcd45c65828baf02c41b1d3b3042fdf792aa1bbef93ea79ac3397"), looks := true }, kinds := [], alts := [], laidByText := true, laidKinds := [.data, .data, .data, .data, .pinned], laidTests := true, laidLooks := .later }
def ListSaysUptoCardSaid : Prop := Claim7.holds Tryd.pinned (.plain (OpenSpec.upto listSaysSpec)) listSaysUptoCard

/-- THE SECOND FORM's CARD OF 'creelkeep.PaxBack'. -/
def paxBackUptoCard : Claim7 := { stood := { row := paxBackUptoRow, standIns := [], harness := (true, "a89655c973edcd45c65828baf02c41b1d3b3042fdf792aa1bbef93ea79ac3397"), looks := true }, kinds := [], alts := [], laidByText := true, laidKinds := [.data, .data, .data, .data, .sentinel, .sentinel, .pinned], laidTests := true, laidLooks := .later }
def PaxBackUptoCardSaid : Prop := Claim7.holds Tryd.pinned (.plain (OpenSpec.upto paxBackSpec)) paxBackUptoCard
end Rows
end Go.Proofs.YtmioinfhggbfkaaDoor
