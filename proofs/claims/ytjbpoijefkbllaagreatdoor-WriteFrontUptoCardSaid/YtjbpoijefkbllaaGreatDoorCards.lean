/-
  DERIVED. GIVEN WITH THE SEED: THE CARDS: each row of YtjbpoijefkbllaaGreatDoorRows.lean that lists a variable, with what it lists TIED to the program's text (the seventh form; the later family's looks); each row that meets fmt, with fmt's text TOLD by the authors' own Lean function (tested against real Go, not proved from fmt's source: count such statements apart). THE CARD IS WHAT COUNTS. Prove the row's statement (the work); the ties are given (YtjbpoijefkbllaaGreatDoorTie.lean); close each card by the builder's one call (the guide's Derived/Test/ToyasCard.lean, 'card_holds'). Laid BY PROGRAM, IN A SANDBOX (cutbox-door.mjs). By AI agents, Wed Nov 11 2026. No macro, syntax, notation, axiom, sorry.
-/
import Derived.Test.YtjbpoijefkbllaaGreatDoorRows
import GoSem.ClaimSeven
namespace Go.Proofs.YtjbpoijefkbllaaGreatDoor
namespace Rows

/-- THE TIED CARD OF 'creelkeep.FaultFirst'. -/
def faultFirstCard : Claim7 := { stood := { row := faultFirstRow, standIns := [], harness := (true, "a2afa39ff244f3de4f7518734a529a855255c08b266622ea6a72e6763c3fd0c5"), looks := true }, kinds := [], alts := [], laidByText := true, laidKinds := [.data, .pinned], laidTests := true, laidLooks := .later }
def FaultFirstCardSaid : Prop := Claim7.holds Tryz.pinned (.plain (OpenSpec.ofChange faultFirstSpec)) faultFirstCard

/-- THE TIED CARD OF 'creelkeep.MemberTorn'. -/
def memberTornCard : Claim7 := { stood := { row := memberTornRow, standIns := [], harness := (true, "a2afa39ff244f3de4f7518734a529a855255c08b266622ea6a72e6763c3fd0c5"), looks := true }, kinds := [], alts := [], laidByText := true, laidKinds := [.data, .data, .data, .data, .sentinel, .sentinel, .pinned], laidTests := true, laidLooks := .later }
def MemberTornCardSaid : Prop := Claim7.holds Tryz.pinned (.plain (OpenSpec.ofChange memberTornSpec)) memberTornCard

/-- THE TIED CARD OF 'creelkeep.MemberTurns'. -/
def memberTurnsCard : Claim7 := { stood := { row := memberTurnsRow, standIns := [], harness := (true, "a2afa39ff244f3de4f7518734a529a855255c08b266622ea6a72e6763c3fd0c5"), looks := true }, kinds := [], alts := [], laidByText := true, laidKinds := [.data, .data, .data, .data, .sentinel, .sentinel, .pinned], laidTests := true, laidLooks := .later }
def MemberTurnsCardSaid : Prop := Claim7.holds Tryz.pinned (.plain (OpenSpec.ofChange memberTurnsSpec)) memberTurnsCard

/-- THE TIED CARD OF 'creelkeep.MemberBack'. -/
def memberBackCard : Claim7 := { stood := { row := memberBackRow, standIns := [], harness := (true, "a2afa39ff244f3de4f7518734a529a855255c08b266622ea6a72e6763c3fd0c5"), looks := true }, kinds := [], alts := [], laidByText := true, laidKinds := [.data, .data, .data, .data, .sentinel, .sentinel, .pinned], laidTests := true, laidLooks := .later }
def MemberBackCardSaid : Prop := Claim7.holds Tryz.pinned (.plain (OpenSpec.ofChange memberBackSpec)) memberBackCard

/-- THE TIED CARD OF 'creelkeep.WriteFront'. -/
def writeFrontCard : Claim7 := { stood := { row := writeFrontRow, standIns := [], harness := (true, "a2afa39ff244f3de4f7518734a529a855255c08b266622ea6a72e6763c3fd0c5"), looks := true }, kinds := [], alts := [], laidByText := true, laidKinds := [.data, .data, .data, .data, .pinned], laidTests := true, laidLooks := .later }
def WriteFrontCardSaid : Prop := Claim7.holds Tryz.pinned (.plain (OpenSpec.ofChange writeFrontSpec)) writeFrontCard

/-- THE TIED CARD OF 'creelkeep.WriteEnds'. -/
def writeEndsCard : Claim7 := { stood := { row := writeEndsRow, standIns := [], harness := (true, "a2afa39ff244f3de4f7518734a529a855255c08b266622ea6a72e6763c3fd0c5"), looks := true }, kinds := [], alts := [], laidByText := true, laidKinds := [.data, .data, .data, .data, .pinned], laidTests := true, laidLooks := .later }
def WriteEndsCardSaid : Prop := Claim7.holds Tryz.pinned (.plain (OpenSpec.ofChange writeEndsSpec)) writeEndsCard

/-- THE SECOND FORM's CARD OF 'creelkeep.FaultFirst'. -/
def faultFirstUptoCard : Claim7 := { stood := { row := faultFirstUptoRow, standIns := [], harness := (true, "a2afa39ff244f3de4f7518734a529a855255c08b266622ea6a72e6763c3fd0c5"), looks := true }, kinds := [], alts := [], laidByText := true, laidKinds := [.data, .pinned], laidTests := true, laidLooks := .later }
def FaultFirstUptoCardSaid : Prop := Claim7.holds Tryz.pinned (.plain (OpenSpec.upto faultFirstSpec)) faultFirstUptoCard

/-- THE SECOND FORM's CARD OF 'creelkeep.MemberTorn'. -/
def memberTornUptoCard : Claim7 := { stood := { row := memberTornUptoRow, standIns := [], harness := (true, "a2afa39ff244f3de4f7518734a529a855255c08b266622ea6a72e6763c3fd0c5"), looks := true }, kinds := [], alts := [], laidByText := true, laidKinds := [.data, .data, .data, .data, .sentinel, .sentinel, .pinned], laidTests := true, laidLooks := .later }
def MemberTornUptoCardSaid : Prop := Claim7.holds Tryz.pinned (.plain (OpenSpec.upto memberTornSpec)) memberTornUptoCard

/-- THE SECOND FORM's CARD OF 'creelkeep.MemberTurns'. -/
def memberTurnsUptoCard : Claim7 := { stood := { row := memberTurnsUptoRow, standIns := [], harness := (true, "a2afa39ff244f3de4f7518734a529a855255c08b266622ea6a72e6763c3fd0c5"), looks := true }, kinds := [], alts := [], laidByText := true, laidKinds := [.data, .data, .data, .data, .sentinel, .sentinel, .pinned], laidTests := true, laidLooks := .later }
def MemberTurnsUptoCardSaid : Prop := Claim7.holds Tryz.pinned (.plain (OpenSpec.upto memberTurnsSpec)) memberTurnsUptoCard

/-- THE SECOND FORM's CARD OF 'creelkeep.MemberBack'. -/
def memberBackUptoCard : Claim7 := { stood := { row := memberBackUptoRow, standIns := [], harness := (true, "a2afa39ff244f3de4f7518734a529a855255c08b266622ea6a72e6763c3fd0c5"), looks := true }, kinds := [], alts := [], laidByText := true, laidKinds := [.data, .data, .data, .data, .sentinel, .sentinel, .pinned], laidTests := true, laidLooks := .later }
def MemberBackUptoCardSaid : Prop := Claim7.holds Tryz.pinned (.plain (OpenSpec.upto memberBackSpec)) memberBackUptoCard

/-- THE SECOND FORM's CARD OF 'creelkeep.WriteFront'. -/
def writeFrontUptoCard : Claim7 := { stood := { row := writeFrontUptoRow, standIns := [], harness := (true, "a2afa39ff244f3de4f7518734a529a855255c08b266622ea6a72e6763c3fd0c5"), looks := true }, kinds := [], alts := [], laidByText := true, laidKinds := [.data, .data, .data, .data, .pinned], laidTests := true, laidLooks := .later }
def WriteFrontUptoCardSaid : Prop := Claim7.holds Tryz.pinned (.plain (OpenSpec.upto writeFrontSpec)) writeFrontUptoCard

/-- THE SECOND FORM's CARD OF 'creelkeep.WriteEnds'. -/
def writeEndsUptoCard : Claim7 := { stood := { row := writeEndsUptoRow, standIns := [], harness := (true, "a2afa39ff244f3de4f7518734a529a855255c08b266622ea6a72e6763c3fd0c5"), looks := true }, kinds := [], alts := [], laidByText := true, laidKinds := [.data, .data, .data, .data, .pinned], laidTests := true, laidLooks := .later }
def WriteEndsUptoCardSaid : Prop := Claim7.holds Tryz.pinned (.plain (OpenSpec.upto writeEndsSpec)) writeEndsUptoCard
end Rows
end Go.Proofs.YtjbpoijefkbllaaGreatDoor
