/-
  DERIVED. GIVEN WITH THE SEED: THE CARDS: each row of YtphmhmdcaafmdaaGreatDoorRows.lean that lists a variable, with what it lists TIED to the program's text (the seventh form; the later family's looks); each row that meets fmt, with fmt's text TOLD by the authors' own Lean function (tested against real Go, not proved from fmt's source: count such statements apart). THE CARD IS WHAT COUNTS. Prove the row's statement (the work); the ties are given (YtphmhmdcaafmdaaGreatDoorTie.lean); close each card by the builder's one call (the guide's Derived/Test/ToyasCard.lean, 'card_holds'). Laid BY PROGRAM, IN A SANDBOX (cutbox-door.mjs). By AI agents, Wed Nov 11 2026. No macro, syntax, notation, axiom, sorry.
-/
import Derived.Test.YtphmhmdcaafmdaaGreatDoorRows
import GoSem.ClaimSeven
namespace Go.Proofs.YtphmhmdcaafmdaaGreatDoor
namespace Rows

/-- THE TIED CARD OF 'creelkeep.RestoreUnder'. -/
def restoreUnderCard : Claim7 := { stood := { row := restoreUnderRow, standIns := [], harness := (true, "a2e5a9177f40362e51606d65f264ab5cbeb0627e8e38433355f3f31b36858773"), looks := true }, kinds := [], alts := [], goes := true, laidByText := true, laidKinds := [.data, .data, .data, .data, .sentinel, .sentinel, .pinned], laidTests := true, laidLooks := .later }
def RestoreUnderCardSaid : Prop := Claim7.holds Tryz.pinned (.plain (OpenSpec.ofChange restoreUnderSpec)) restoreUnderCard

/-- THE TIED CARD OF 'creelkeep.DeskRefuses'. -/
def deskRefusesCard : Claim7 := { stood := { row := deskRefusesRow, standIns := [], harness := (true, "a2e5a9177f40362e51606d65f264ab5cbeb0627e8e38433355f3f31b36858773"), looks := true }, kinds := [], alts := [], goes := true, laidByText := true, laidKinds := [.data, .data, .data, .data, .sentinel, .sentinel, .pinned], laidTests := true, laidLooks := .later }
def DeskRefusesCardSaid : Prop := Claim7.holds Tryz.pinned (.plain (OpenSpec.ofChange deskRefusesSpec)) deskRefusesCard

/-- THE TIED CARD OF 'creelkeep.MemberTurns'. -/
def memberTurnsCard : Claim7 := { stood := { row := memberTurnsRow, standIns := [], harness := (true, "a2e5a9177f40362e51606d65f264ab5cbeb0627e8e38433355f3f31b36858773"), looks := true }, kinds := [], alts := [], goes := true, laidByText := true, laidKinds := [.data, .data, .data, .data, .sentinel, .sentinel, .pinned], laidTests := true, laidLooks := .later }
def MemberTurnsCardSaid : Prop := Claim7.holds Tryz.pinned (.plain (OpenSpec.ofChange memberTurnsSpec)) memberTurnsCard

/-- THE TIED CARD OF 'creelkeep.ReadTurns'. -/
def readTurnsCard : Claim7 := { stood := { row := readTurnsRow, standIns := [], harness := (true, "a2e5a9177f40362e51606d65f264ab5cbeb0627e8e38433355f3f31b36858773"), looks := true }, kinds := [], alts := [], goes := true, laidByText := true, laidKinds := [.data, .data, .data, .data, .sentinel, .sentinel, .pinned], laidTests := true, laidLooks := .later }
def ReadTurnsCardSaid : Prop := Claim7.holds Tryz.pinned (.plain (OpenSpec.ofChange readTurnsSpec)) readTurnsCard

/-- THE SECOND FORM's CARD OF 'creelkeep.RestoreUnder'. -/
def restoreUnderUptoCard : Claim7 := { stood := { row := restoreUnderUptoRow, standIns := [], harness := (true, "a2e5a9177f40362e51606d65f264ab5cbeb0627e8e38433355f3f31b36858773"), looks := true }, kinds := [], alts := [], goes := true, laidByText := true, laidKinds := [.data, .data, .data, .data, .sentinel, .sentinel, .pinned], laidTests := true, laidLooks := .later }
def RestoreUnderUptoCardSaid : Prop := Claim7.holds Tryz.pinned (.plain (OpenSpec.upto restoreUnderSpec)) restoreUnderUptoCard

/-- THE SECOND FORM's CARD OF 'creelkeep.DeskRefuses'. -/
def deskRefusesUptoCard : Claim7 := { stood := { row := deskRefusesUptoRow, standIns := [], harness := (true, "a2e5a9177f40362e51606d65f264ab5cbeb0627e8e38433355f3f31b36858773"), looks := true }, kinds := [], alts := [], goes := true, laidByText := true, laidKinds := [.data, .data, .data, .data, .sentinel, .sentinel, .pinned], laidTests := true, laidLooks := .later }
def DeskRefusesUptoCardSaid : Prop := Claim7.holds Tryz.pinned (.plain (OpenSpec.upto deskRefusesSpec)) deskRefusesUptoCard

/-- THE SECOND FORM's CARD OF 'creelkeep.MemberTurns'. -/
def memberTurnsUptoCard : Claim7 := { stood := { row := memberTurnsUptoRow, standIns := [], harness := (true, "a2e5a9177f40362e51606d65f264ab5cbeb0627e8e38433355f3f31b36858773"), looks := true }, kinds := [], alts := [], goes := true, laidByText := true, laidKinds := [.data, .data, .data, .data, .sentinel, .sentinel, .pinned], laidTests := true, laidLooks := .later }
def MemberTurnsUptoCardSaid : Prop := Claim7.holds Tryz.pinned (.plain (OpenSpec.upto memberTurnsSpec)) memberTurnsUptoCard

/-- THE SECOND FORM's CARD OF 'creelkeep.ReadTurns'. -/
def readTurnsUptoCard : Claim7 := { stood := { row := readTurnsUptoRow, standIns := [], harness := (true, "a2e5a9177f40362e51606d65f264ab5cbeb0627e8e38433355f3f31b36858773"), looks := true }, kinds := [], alts := [], goes := true, laidByText := true, laidKinds := [.data, .data, .data, .data, .sentinel, .sentinel, .pinned], laidTests := true, laidLooks := .later }
def ReadTurnsUptoCardSaid : Prop := Claim7.holds Tryz.pinned (.plain (OpenSpec.upto readTurnsSpec)) readTurnsUptoCard
end Rows
end Go.Proofs.YtphmhmdcaafmdaaGreatDoor
