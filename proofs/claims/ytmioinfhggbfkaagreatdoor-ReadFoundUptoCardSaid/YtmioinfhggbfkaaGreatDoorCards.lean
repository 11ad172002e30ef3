/-
  DERIVED. GIVEN WITH THE SEED: THE CARDS: each row of YtmioinfhggbfkaaGreatDoorRows.lean that lists a variable, with what it lists TIED to the program's text (the seventh form; the later family's looks); each row that meets fmt, with fmt's text TOLD by the authors' own Lean function (tested against real Go, not proved from fmt's source: count such statements apart). THE CARD IS WHAT COUNTS. Prove the row's statement (the work); the ties are given (YtmioinfhggbfkaaGreatDoorTie.lean); close each card by the builder's one call (the guide's Derived/Test/ToyasCard.lean, 'card_holds'). Laid BY PROGRAM, IN A SANDBOX (cutbox-door.mjs). By AI agents, Wed Nov 11 2026. No macro, syntax, notation, axiom, sorry.
-/
import Derived.Test.YtmioinfhggbfkaaGreatDoorRows
import GoSem.ClaimSeven
namespace Go.Proofs.YtmioinfhggbfkaaGreatDoor
namespace Rows

/-- THE TIED CARD OF 'creelkeep.FaultFirst'. -/
def faultFirstCard : Claim7 := { stood := { row := faultFirstRow, standIns := [], harness := (true, "88765dac68ae8125e0fcc5533b5f8d5972c0e747a661cae7d572b945db59be72"), looks := true }, kinds := [], alts := [], laidByText := true, laidKinds := [.data, .pinned], laidTests := true, laidLooks := .later }
def FaultFirstCardSaid : Prop := Claim7.holds Tryz.pinned (.plain (OpenSpec.ofChange faultFirstSpec)) faultFirstCard

/-- THE TIED CARD OF 'creelkeep.MemberBack'. -/
def memberBackCard : Claim7 := { stood := { row := memberBackRow, standIns := [], harness := (true, "88765dac68ae8125e0fcc5533b5f8d5972c0e747a661cae7d572b945db59be72"), looks := true }, kinds := [], alts := [], laidByText := true, laidKinds := [.data, .data, .data, .data, .sentinel, .sentinel, .pinned], laidTests := true, laidLooks := .later }
def MemberBackCardSaid : Prop := Claim7.holds Tryz.pinned (.plain (OpenSpec.ofChange memberBackSpec)) memberBackCard

/-- THE TIED CARD OF 'creelkeep.MemberTorn'. -/
def memberTornCard : Claim7 := { stood := { row := memberTornRow, standIns := [], harness := (true, "88765dac68ae8125e0fcc5533b5f8d5972c0e747a661cae7d572b945db59be72"), looks := true }, kinds := [], alts := [], laidByText := true, laidKinds := [.data, .data, .data, .data, .sentinel, .sentinel, .pinned], laidTests := true, laidLooks := .later }
def MemberTornCardSaid : Prop := Claim7.holds Tryz.pinned (.plain (OpenSpec.ofChange memberTornSpec)) memberTornCard

/-- THE TIED CARD OF 'creelkeep.MemberTurns'. -/
def memberTurnsCard : Claim7 := { stood := { row := memberTurnsRow, standIns := [], harness := (true, "88765dac68ae8125e0fcc5533b5f8d5972c0e747a661cae7d572b945db59be72"), looks := true }, kinds := [], alts := [], laidByText := true, laidKinds := [.data, .data, .data, .data, .sentinel, .sentinel, .pinned], laidTests := true, laidLooks := .later }
def MemberTurnsCardSaid : Prop := Claim7.holds Tryz.pinned (.plain (OpenSpec.ofChange memberTurnsSpec)) memberTurnsCard

/-- THE TIED CARD OF 'creelkeep.WriteBack'. -/
def writeBackCard : Claim7 := { stood := { row := writeBackRow, standIns := [], harness := (true, "88765dac68ae8125e0fcc5533b5f8d5972c0e747a661cae7d572b945db59be72"), looks := true }, kinds := [], alts := [], laidByText := true, laidKinds := [.data, .data, .data, .data, .sentinel, .sentinel, .pinned], laidTests := true, laidLooks := .later }
def WriteBackCardSaid : Prop := Claim7.holds Tryz.pinned (.plain (OpenSpec.ofChange writeBackSpec)) writeBackCard

/-- THE TIED CARD OF 'creelkeep.ReadTorn'. -/
def readTornCard : Claim7 := { stood := { row := readTornRow, standIns := [], harness := (true, "88765dac68ae8125e0fcc5533b5f8d5972c0e747a661cae7d572b945db59be72"), looks := true }, kinds := [], alts := [], laidByText := true, laidKinds := [.data, .data, .data, .data, .sentinel, .sentinel, .pinned], laidTests := true, laidLooks := .later }
def ReadTornCardSaid : Prop := Claim7.holds Tryz.pinned (.plain (OpenSpec.ofChange readTornSpec)) readTornCard

/-- THE TIED CARD OF 'creelkeep.ReadTurns'. -/
def readTurnsCard : Claim7 := { stood := { row := readTurnsRow, standIns := [], harness := (true, "88765dac68ae8125e0fcc5533b5f8d5972c0e747a661cae7d572b945db59be72"), looks := true }, kinds := [], alts := [], laidByText := true, laidKinds := [.data, .data, .data, .data, .sentinel, .sentinel, .pinned], laidTests := true, laidLooks := .later }
def ReadTurnsCardSaid : Prop := Claim7.holds Tryz.pinned (.plain (OpenSpec.ofChange readTurnsSpec)) readTurnsCard

/-- THE TIED CARD OF 'creelkeep.ReadFound'. -/
def readFoundCard : Claim7 := { stood := { row := readFoundRow, standIns := [], harness := (true, "88765dac68ae8125e0fcc5533b5f8d5972c0e747a661cae7d572b945db59be72"), looks := true }, kinds := [], alts := [], laidByText := true, laidKinds := [.data, .data, .data, .data, .sentinel, .sentinel, .pinned], laidTests := true, laidLooks := .later }
def ReadFoundCardSaid : Prop := Claim7.holds Tryz.pinned (.plain (OpenSpec.ofChange readFoundSpec)) readFoundCard

/-- THE TIED CARD OF 'creelkeep.ReadMore'. -/
def readMoreCard : Claim7 := { stood := { row := readMoreRow, standIns := [], harness := (true, "88765dac68ae8125e0fcc5533b5f8d5972c0e747a661cae7d572b945db59be72"), looks := true }, kinds := [], alts := [], laidByText := true, laidKinds := [.data, .data, .data, .data, .sentinel, .sentinel, .pinned], laidTests := true, laidLooks := .later }
def ReadMoreCardSaid : Prop := Claim7.holds Tryz.pinned (.plain (OpenSpec.ofChange readMoreSpec)) readMoreCard

/-- THE SECOND FORM's CARD OF 'creelkeep.FaultFirst'. -/
def faultFirstUptoCard : Claim7 := { stood := { row := faultFirstUptoRow, standIns := [], harness := (true, "88765dac68ae8125e0fcc5533b5f8d5972c0e747a661cae7d572b945db59be72"), looks := true }, kinds := [], alts := [], laidByText := true, laidKinds := [.data, .pinned], laidTests := true, laidLooks := .later }
def FaultFirstUptoCardSaid : Prop := Claim7.holds Tryz.pinned (.plain (OpenSpec.upto faultFirstSpec)) faultFirstUptoCard

/-- THE SECOND FORM's CARD OF 'creelkeep.MemberBack'. -/
def memberBackUptoCard : Claim7 := { stood := { row := memberBackUptoRow, standIns := [], harness := (true, "88765dac68ae8125e0fcc5533b5f8d5972c0e747a661cae7d572b945db59be72"), looks := true }, kinds := [], alts := [], laidByText := true, laidKinds := [.data, .data, .data, .data, .sentinel, .sentinel, .pinned], laidTests := true, laidLooks := .later }
def MemberBackUptoCardSaid : Prop := Claim7.holds Tryz.pinned (.plain (OpenSpec.upto memberBackSpec)) memberBackUptoCard

/-- THE SECOND FORM's CARD OF 'creelkeep.MemberTorn'. -/
def memberTornUptoCard : Claim7 := { stood := { row := memberTornUptoRow, standIns := [], harness := (true, "88765dac68ae8125e0fcc5533b5f8d5972c0e747a661cae7d572b945db59be72"), looks := true }, kinds := [], alts := [], laidByText := true, laidKinds := [.data, .data, .data, .data, .sentinel, .sentinel, .pinned], laidTests := true, laidLooks := .later }
def MemberTornUptoCardSaid : Prop := Claim7.holds Tryz.pinned (.plain (OpenSpec.upto memberTornSpec)) memberTornUptoCard

/-- THE SECOND FORM's CARD OF 'creelkeep.MemberTurns'. -/
def memberTurnsUptoCard : Claim7 := { stood := { row := memberTurnsUptoRow, standIns := [], harness := (true, "88765dac68ae8125e0fcc5533b5f8d5972c0e747a661cae7d572b945db59be72"), looks := true }, kinds := [], alts := [], laidByText := true, laidKinds := [.data, .data, .data, .data, .sentinel, .sentinel, .pinned], laidTests := true, laidLooks := .later }
def MemberTurnsUptoCardSaid : Prop := Claim7.holds Tryz.pinned (.plain (OpenSpec.upto memberTurnsSpec)) memberTurnsUptoCard

/-- THE SECOND FORM's CARD OF 'creelkeep.WriteBack'. -/
def writeBackUptoCard : Claim7 := { stood := { row := writeBackUptoRow, standIns := [], harness := (true, "88765dac68ae8125e0fcc5533b5f8d5972c0e747a661cae7d572b945db59be72"), looks := true }, kinds := [], alts := [], laidByText := true, laidKinds := [.data, .data, .data, .data, .sentinel, .sentinel, .pinned], laidTests := true, laidLooks := .later }
def WriteBackUptoCardSaid : Prop := Claim7.holds Tryz.pinned (.plain (OpenSpec.upto writeBackSpec)) writeBackUptoCard

/-- THE SECOND FORM's CARD OF 'creelkeep.ReadTorn'. -/
def readTornUptoCard : Claim7 := { stood := { row := readTornUptoRow, standIns := [], harness := (true, "88765dac68ae8125e0fcc5533b5f8d5972c0e747a661cae7d572b945db59be72"), looks := true }, kinds := [], alts := [], laidByText := true, laidKinds := [.data, .data, .data, .data, .sentinel, .sentinel, .pinned], laidTests := true, laidLooks := .later }
def ReadTornUptoCardSaid : Prop := Claim7.holds Tryz.pinned (.plain (OpenSpec.upto readTornSpec)) readTornUptoCard

/-- THE SECOND FORM's CARD OF 'creelkeep.ReadTurns'. -/
def readTurnsUptoCard : Claim7 := { stood := { row := readTurnsUptoRow, standIns := [], harness := (true, "88765dac68ae8125e0fcc5533b5f8d5972c0e747a661cae7d572b945db59be72"), looks := true }, kinds := [], alts := [], laidByText := true, laidKinds := [.data, .data, .data, .data, .sentinel, .sentinel, .pinned], laidTests := true, laidLooks := .later }
def ReadTurnsUptoCardSaid : Prop := Claim7.holds Tryz.pinned (.plain (OpenSpec.upto readTurnsSpec)) readTurnsUptoCard

/-- THE SECOND FORM's CARD OF 'creelkeep.ReadFound'. -/
def readFoundUptoCard : Claim7 := { stood := { row := readFoundUptoRow, standIns := [], harness := (true, "88765dac68ae8125e0fcc5533b5f8d5972c0e747a661cae7d572b945db59be72"), looks := true }, kinds := [], alts := [], laidByText := true, laidKinds := [.data, .data, .data, .data, .sentinel, .sentinel, .pinned], laidTests := true, laidLooks := .later }
def ReadFoundUptoCardSaid : Prop := Claim7.holds Tryz.pinned (.plain (OpenSpec.upto readFoundSpec)) readFoundUptoCard

/-- THE SECOND FORM's CARD OF 'creelkeep.ReadMore'. -/
def readMoreUptoCard : Claim7 := { stood := { row := readMoreUptoRow, standIns := [], harness := (true, "88765dac68ae8125e0fcc5533b5f8d5972c0e747a661cae7d572b945db59be72"), looks := true }, kinds := [], alts := [], laidByText := true, laidKinds := [.data, .data, .data, .data, .sentinel, .sentinel, .pinned], laidTests := true, laidLooks := .later }
def ReadMoreUptoCardSaid : Prop := Claim7.holds Tryz.pinned (.plain (OpenSpec.upto readMoreSpec)) readMoreUptoCard
end Rows
end Go.Proofs.YtmioinfhggbfkaaGreatDoor
