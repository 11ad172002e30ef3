/-
  DERIVED. GIVEN WITH THE SEED: THE CARDS: each row of YtjbpoijefkbllaaDoorRows.lean that lists a variable, with what it lists TIED to the program's text (the seventh form; the later family's looks); each row that meets fmt, with fmt's text TOLD by the authors' own Lean function (tested against real Go, not proved from fmt's source: count such statements apart). THE CARD IS WHAT COUNTS. Prove the row's statement (the work); the ties are given (YtjbpoijefkbllaaDoorTie.lean); close each card by the builder's one call (the guide's Derived/Test/ToyasCard.lean, 'card_holds'). Laid BY PROGRAM, IN A SANDBOX (cutbox-door.mjs). By AI agents, Wed Nov 11 2026. No macro, syntax, notation, axiom, sorry.
-/
import Derived.Test.YtjbpoijefkbllaaDoorRows
import GoSem.ClaimSeven
namespace Go.Proofs.YtjbpoijefkbllaaDoor
namespace Rows

/-- THE TIED CARD OF 'creelkeep.OrderSorted'. -/
def orderSortedCard : Claim7 := { stood := { row := orderSortedRow, standIns := [], harness := (true, "e1853a5cc0c75cdf892d9a865129d6075c508a43edd1be21cbebb03dd81c1548"), looks := true }, kinds := [], alts := [], laidByText := true, laidKinds := [.data, .pinned], laidTests := true, laidLooks := .later }
def OrderSortedCardSaid : Prop := Claim7.holds Tryd.pinned (.plain (OpenSpec.ofChange orderSortedSpec)) orderSortedCard

/-- THE TIED CARD OF 'creelkeep.ListSays'. -/
def listSaysCard : Claim7 := { stood := { row := listSaysRow, standIns := [], harness := (true, "e1853a5cc0c75cdf892d9a865129d6075c508a43edd1be21cbebb03dd81c1548"), looks := true }, kinds := [], alts := [], laidByText := true, laidKinds := [.data, .data, .data, .data, .pinned], laidTests := true, laidLooks := .later }
def ListSaysCardSaid : Prop := Claim7.holds Tryd.pinned (.plain (OpenSpec.ofChange listSaysSpec)) listSaysCard

/-- THE TIED CARD OF 'creelkeep.MemberPlain'. -/
def memberPlainCard : Claim7 := { stood := { row := memberPlainRow, standIns := [], harness := (true, "e1853a5cc0c75cdf892d9a865129d6075c508a43edd1be21cbebb03dd81c1548"), looks := true }, kinds := [], alts := [], laidByText := true, laidKinds := [.data, .data, .data, .data, .pinned], laidTests := true, laidLooks := .later }
def MemberPlainCardSaid : Prop := Claim7.holds Tryd.pinned (.plain (OpenSpec.ofChange memberPlainSpec)) memberPlainCard

/-- THE TIED CARD OF 'creelkeep.MemberHead'. -/
def memberHeadCard : Claim7 := { stood := { row := memberHeadRow, standIns := [], harness := (true, "e1853a5cc0c75cdf892d9a865129d6075c508a43edd1be21cbebb03dd81c1548"), looks := true }, kinds := [], alts := [], laidByText := true, laidKinds := [.data, .data, .data, .data, .pinned], laidTests := true, laidLooks := .later }
def MemberHeadCardSaid : Prop := Claim7.holds Tryd.pinned (.plain (OpenSpec.ofChange memberHeadSpec)) memberHeadCard

/-- THE TIED CARD OF 'creelkeep.PaxTwice'. -/
def paxTwiceCard : Claim7 := { stood := { row := paxTwiceRow, standIns := [], harness := (true, "e1853a5cc0c75cdf892d9a865129d6075c508a43edd1be21cbebb03dd81c1548"), looks := true }, kinds := [], alts := [], laidByText := true, laidKinds := [.data, .data, .data, .data, .sentinel, .sentinel, .pinned], laidTests := true, laidLooks := .later }
def PaxTwiceCardSaid : Prop := Claim7.holds Tryd.pinned (.plain (OpenSpec.ofChange paxTwiceSpec)) paxTwiceCard

/-- THE TIED CARD OF 'creelkeep.PaxBack'. -/
def paxBackCard : Claim7 := { stood := { row := paxBackRow, standIns := [], harness := (true, "e1853a5cc0c75cdf892d9a865129d6075c508a43edd1be21cbebb03dd81c1548"), looks := true }, kinds := [], alts := [], laidByText := true, laidKinds := [.data, .data, .data, .data, .sentinel, .sentinel, .pinned], laidTests := true, laidLooks := .later }
def PaxBackCardSaid : Prop := Claim7.holds Tryd.pinned (.plain (OpenSpec.ofChange paxBackSpec)) paxBackCard

/-- THE SECOND FORM's CARD OF 'creelkeep.OrderSorted'. -/
def orderSortedUptoCard : Claim7 := { stood := { row := orderSortedUptoRow, standIns := [], harness := (true, "e1853a5cc0c75cdf892d9a865129d6075c508a43edd1be21cbebb03dd81c1548"), looks := true }, kinds := [], alts := [], laidByText := true, laidKinds := [.data, .pinned], laidTests := true, laidLooks := .later }
def OrderSortedUptoCardSaid : Prop := Claim7.holds Tryd.pinned (.plain (OpenSpec.upto orderSortedSpec)) orderSortedUptoCard

/-- THE SECOND FORM's CARD OF 'creelkeep.ListSays'. -/
def listSaysUptoCard : Claim7 := { stood := { row := listSaysUptoRow, standIns := [], harness := (true, "e1853a5cc0c75cdf892d9a865129d6075c508a43edd1be21cbebb03dd81c1548"), looks := true }, kinds := [], alts := [], laidByText := true, laidKinds := [.data, .data, .data, .data, .pinned], laidTests := true, laidLooks := .later }
def ListSaysUptoCardSaid : Prop := Claim7.holds Tryd.pinned (.plain (OpenSpec.upto listSaysSpec)) listSaysUptoCard

/-- THE SECOND FORM's CARD OF 'creelkeep.MemberPlain'. -/
def memberPlainUptoCard : Claim7 := { stood := { row := memberPlainUptoRow, standIns := [], harness := (true, "e1853a5cc0c75cdf892d9a865129d6075c508a43edd1be21cbebb03dd81c1548"), looks := true }, kinds := [], alts := [], laidByText := true, laidKinds := [.data, .data, .data, .data, .pinned], laidTests := true, laidLooks := .later }
def MemberPlainUptoCardSaid : Prop := Claim7.holds Tryd.pinned (.plain (OpenSpec.upto memberPlainSpec)) memberPlainUptoCard

/-- THE SECOND FORM's CARD OF 'creelkeep.MemberHead'. -/
def memberHeadUptoCard : Claim7 := { stood := { row := memberHeadUptoRow, standIns := [], harness := (true, "e1853a5cc0c75cdf892d9a865129d6075c508a43edd1be21cbebb03dd81c1548"), looks := true }, kinds := [], alts := [], laidByText := true, laidKinds := [.data, .data, .data, .data, .pinned], laidTests := true, laidLooks := .later }
def MemberHeadUptoCardSaid : Prop := Claim7.holds Tryd.pinned (.plain (OpenSpec.upto memberHeadSpec)) memberHeadUptoCard

/-- THE SECOND FORM's CARD OF 'creelkeep.PaxTwice'. -/
def paxTwiceUptoCard : Claim7 := { stood := { row := paxTwiceUptoRow, standIns := [], harness := (true, "e1853a5cc0c75cdf892d9a865129d6075c508a43edd1be21cbebb03dd81c1548"), looks := true }, kinds := [], alts := [], laidByText := true, laidKinds := [.data, .data, .data, .data, .sentinel, .sentinel, .pinned], laidTests := true, laidLooks := .later }
def PaxTwiceUptoCardSaid : Prop := Claim7.holds Tryd.pinned (.plain (OpenSpec.upto paxTwiceSpec)) paxTwiceUptoCard

/-- THE SECOND FORM's CARD OF 'creelkeep.PaxBack'. -/
def paxBackUptoCard : Claim7 := { stood := { row := paxBackUptoRow, standIns := [], harness := (true, "e1853a5cc0c75cdf892d9a865129d6075c508a43edd1be21cbebb03dd81c1548"), looks := true }, kinds := [], alts := [], laidByText := true, laidKinds := [.data, .data, .data, .data, .sentinel, .sentinel, .pinned], laidTests := true, laidLooks := .later }
def PaxBackUptoCardSaid : Prop := Claim7.holds Tryd.pinned (.plain (OpenSpec.upto paxBackSpec)) paxBackUptoCard
end Rows
end Go.Proofs.YtjbpoijefkbllaaDoor
