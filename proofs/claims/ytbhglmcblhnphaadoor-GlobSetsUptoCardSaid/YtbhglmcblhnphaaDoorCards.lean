/-
  DERIVED. GIVEN WITH THE SEED: THE CARDS: each row of YtbhglmcblhnphaaDoorRows.lean that lists a variable, with what it lists TIED to the program's text (the seventh form; the later family's looks); each row that meets fmt, with fmt's text TOLD by the authors' own Lean function (tested against real Go, not proved from fmt's source: count such statements apart). THE CARD IS WHAT COUNTS. Prove the row's statement (the work); the ties are given (YtbhglmcblhnphaaDoorTie.lean); close each card by the builder's one call (the guide's Derived/Test/ToyasCard.lean, 'card_holds'). Laid BY PROGRAM, IN A SANDBOX (cutbox-door.mjs). By AI agents, Wed Nov 11 2026. No macro, syntax, notation, axiom, sorry.
-/
import Derived.Test.YtbhglmcblhnphaaDoorRows
import GoSem.ClaimSeven
namespace Go.Proofs.YtbhglmcblhnphaaDoor
namespace Rows

/-- THE TIED CARD OF 'creelkeep.PathOrderly'. -/
def pathOrderlyCard : Claim7 := { stood := { row := pathOrderlyRow, standIns := [], harness := (true, "e7bd9a59f624a2dc5cb41ec75b98eec4f772d254b0e89cde619ba7ad9ba74ff8"), looks := false }, kinds := [], alts := [], laidByText := true, laidKinds := [.data, .pinned], laidTests := true, laidLooks := .later }
def PathOrderlyCardSaid : Prop := Claim7.holds Tryd.pinned (.plain (OpenSpec.ofChange pathOrderlySpec)) pathOrderlyCard

/-- THE TIED CARD OF 'creelkeep.PadStrict'. -/
def padStrictCard : Claim7 := { stood := { row := padStrictRow, standIns := [], harness := (true, "e7bd9a59f624a2dc5cb41ec75b98eec4f772d254b0e89cde619ba7ad9ba74ff8"), looks := false }, kinds := [], alts := [], laidByText := true, laidKinds := [.data, .pinned], laidTests := true, laidLooks := .later }
def PadStrictCardSaid : Prop := Claim7.holds Tryd.pinned (.plain (OpenSpec.ofChange padStrictSpec)) padStrictCard

/-- THE TIED CARD OF 'creelkeep.PadBack'. -/
def padBackCard : Claim7 := { stood := { row := padBackRow, standIns := [], harness := (true, "e7bd9a59f624a2dc5cb41ec75b98eec4f772d254b0e89cde619ba7ad9ba74ff8"), looks := false }, kinds := [], alts := [], laidByText := true, laidKinds := [.data, .pinned], laidTests := true, laidLooks := .later }
def PadBackCardSaid : Prop := Claim7.holds Tryd.pinned (.plain (OpenSpec.ofChange padBackSpec)) padBackCard

/-- THE TIED CARD OF 'creelkeep.PathJoin'. -/
def pathJoinCard : Claim7 := { stood := { row := pathJoinRow, standIns := [], harness := (true, "e7bd9a59f624a2dc5cb41ec75b98eec4f772d254b0e89cde619ba7ad9ba74ff8"), looks := false }, kinds := [], alts := [], laidByText := true, laidKinds := [.data, .pinned], laidTests := true, laidLooks := .later }
def PathJoinCardSaid : Prop := Claim7.holds Tryd.pinned (.plain (OpenSpec.ofChange pathJoinSpec)) pathJoinCard

/-- THE TIED CARD OF 'creelkeep.GlobSets'. -/
def globSetsCard : Claim7 := { stood := { row := globSetsRow, standIns := [], harness := (true, "e7bd9a59f624a2dc5cb41ec75b98eec4f772d254b0e89cde619ba7ad9ba74ff8"), looks := false }, kinds := [], alts := [], laidByText := true, laidKinds := [.data, .pinned], laidTests := true, laidLooks := .later }
def GlobSetsCardSaid : Prop := Claim7.holds Tryd.pinned (.plain (OpenSpec.ofChange globSetsSpec)) globSetsCard

/-- THE TIED CARD OF 'creelkeep.FieldWhole'. -/
def fieldWholeCard : Claim7 := { stood := { row := fieldWholeRow, standIns := [], harness := (true, "e7bd9a59f624a2dc5cb41ec75b98eec4f772d254b0e89cde619ba7ad9ba74ff8"), looks := false }, kinds := [], alts := [], laidByText := true, laidKinds := [.data, .pinned], laidTests := true, laidLooks := .later }
def FieldWholeCardSaid : Prop := Claim7.holds Tryd.pinned (.plain (OpenSpec.ofChange fieldWholeSpec)) fieldWholeCard

/-- THE TIED CARD OF 'creelkeep.HeadSummed'. -/
def headSummedCard : Claim7 := { stood := { row := headSummedRow, standIns := [], harness := (true, "e7bd9a59f624a2dc5cb41ec75b98eec4f772d254b0e89cde619ba7ad9ba74ff8"), looks := false }, kinds := [], alts := [], laidByText := true, laidKinds := [.data, .pinned], laidTests := true, laidLooks := .later }
def HeadSummedCardSaid : Prop := Claim7.holds Tryd.pinned (.plain (OpenSpec.ofChange headSummedSpec)) headSummedCard

/-- THE TIED CARD OF 'creelkeep.GlobMany'. -/
def globManyCard : Claim7 := { stood := { row := globManyRow, standIns := [], harness := (true, "e7bd9a59f624a2dc5cb41ec75b98eec4f772d254b0e89cde619ba7ad9ba74ff8"), looks := false }, kinds := [], alts := [], laidByText := true, laidKinds := [.data, .pinned], laidTests := true, laidLooks := .later }
def GlobManyCardSaid : Prop := Claim7.holds Tryd.pinned (.plain (OpenSpec.ofChange globManySpec)) globManyCard

/-- THE TIED CARD OF 'creelkeep.FieldStrict'. -/
def fieldStrictCard : Claim7 := { stood := { row := fieldStrictRow, standIns := [], harness := (true, "e7bd9a59f624a2dc5cb41ec75b98eec4f772d254b0e89cde619ba7ad9ba74ff8"), looks := false }, kinds := [], alts := [], laidByText := true, laidKinds := [.data, .pinned], laidTests := true, laidLooks := .later }
def FieldStrictCardSaid : Prop := Claim7.holds Tryd.pinned (.plain (OpenSpec.ofChange fieldStrictSpec)) fieldStrictCard

/-- THE TIED CARD OF 'creelkeep.FieldBack'. -/
def fieldBackCard : Claim7 := { stood := { row := fieldBackRow, standIns := [], harness := (true, "e7bd9a59f624a2dc5cb41ec75b98eec4f772d254b0e89cde619ba7ad9ba74ff8"), looks := false }, kinds := [], alts := [], laidByText := true, laidKinds := [.data, .pinned], laidTests := true, laidLooks := .later }
def FieldBackCardSaid : Prop := Claim7.holds Tryd.pinned (.plain (OpenSpec.ofChange fieldBackSpec)) fieldBackCard

/-- THE TIED CARD OF 'creelkeep.StampPlain'. -/
def stampPlainCard : Claim7 := { stood := { row := stampPlainRow, standIns := [], harness := (true, "e7bd9a59f624a2dc5cb41ec75b98eec4f772d254b0e89cde619ba7ad9ba74ff8"), looks := false }, kinds := [], alts := [], laidByText := true, laidKinds := [.data, .data, .data, .data, .pinned], laidTests := true, laidLooks := .later }
def StampPlainCardSaid : Prop := Claim7.holds Tryd.pinned (.plain (OpenSpec.ofChange stampPlainSpec)) stampPlainCard

/-- THE SECOND FORM's CARD OF 'creelkeep.PathOrderly'. -/
def pathOrderlyUptoCard : Claim7 := { stood := { row := pathOrderlyUptoRow, standIns := [], harness := (true, "e7bd9a59f624a2dc5cb41ec75b98eec4f772d254b0e89cde619ba7ad9ba74ff8"), looks := false }, kinds := [], alts := [], laidByText := true, laidKinds := [.data, .pinned], laidTests := true, laidLooks := .later }
def PathOrderlyUptoCardSaid : Prop := Claim7.holds Tryd.pinned (.plain (OpenSpec.upto pathOrderlySpec)) pathOrderlyUptoCard

/-- THE SECOND FORM's CARD OF 'creelkeep.PadStrict'. -/
def padStrictUptoCard : Claim7 := { stood := { row := padStrictUptoRow, standIns := [], harness := (true, "e7bd9a59f624a2dc5cb41ec75b98eec4f772d254b0e89cde619ba7ad9ba74ff8"), looks := false }, kinds := [], alts := [], laidByText := true, laidKinds := [.data, .pinned], laidTests := true, laidLooks := .later }
def PadStrictUptoCardSaid : Prop := Claim7.holds Tryd.pinned (.plain (OpenSpec.upto padStrictSpec)) padStrictUptoCard

/-- THE SECOND FORM's CARD OF 'creelkeep.PadBack'. -/
def padBackUptoCard : Claim7 := { stood := { row := padBackUptoRow, standIns := [], harness := (true, "e7bd9a59f624a2dc5cb41ec75b98eec4f772d254b0e89cde619ba7ad9ba74ff8"), looks := false }, kinds := [], alts := [], laidByText := true, laidKinds := [.data, .pinned], laidTests := true, laidLooks := .later }
def PadBackUptoCardSaid : Prop := Claim7.holds Tryd.pinned (.plain (OpenSpec.upto padBackSpec)) padBackUptoCard

/-- THE SECOND FORM's CARD OF 'creelkeep.PathJoin'. -/
def pathJoinUptoCard : Claim7 := { stood := { row := pathJoinUptoRow, standIns := [], harness := (true, "e7bd9a59f624a2dc5cb41ec75b98eec4f772d254b0e89cde619ba7ad9ba74ff8"), looks := false }, kinds := [], alts := [], laidByText := true, laidKinds := [.data, .pinned], laidTests := true, laidLooks := .later }
def PathJoinUptoCardSaid : Prop := Claim7.holds Tryd.pinned (.plain (OpenSpec.upto pathJoinSpec)) pathJoinUptoCard

/-- THE SECOND FORM's CARD OF 'creelkeep.GlobSets'. -/
def globSetsUptoCard : Claim7 := { stood := { row := globSetsUptoRow, standIns := [], harness := (true, "e7bd9a59f624a2dc5cb41ec75b98eec4f772d254b0e89cde619ba7ad9ba74ff8"), looks := false }, kinds := [], alts := [], laidByText := true, laidKinds := [.data, .pinned], laidTests := true, laidLooks := .later }
def GlobSetsUptoCardSaid : Prop := Claim7.holds Tryd.pinned (.plain (OpenSpec.upto globSetsSpec)) globSetsUptoCard

/-- THE SECOND FORM's CARD OF 'creelkeep.FieldWhole'. -/
def fieldWholeUptoCard : Claim7 := { stood := { row := fieldWholeUptoRow, standIns := [], harness := (true, "e7bd9a59f624a2dc5cb41ec75b98eec4f772d254b0e89cde619ba7ad9ba74ff8"), looks := false }, kinds := [], alts := [], laidByText := true, laidKinds := [.data, .pinned], laidTests := true, laidLooks := .later }
def FieldWholeUptoCardSaid : Prop := Claim7.holds Tryd.pinned (.plain (OpenSpec.upto fieldWholeSpec)) fieldWholeUptoCard

/-- THE SECOND FORM's CARD OF 'creelkeep.HeadSummed'. -/
def headSummedUptoCard : Claim7 := { stood := { row := headSummedUptoRow, standIns := [], harness := (true, "e7bd9a59f624a2dc5cb41ec75b98eec4f772d254b0e89cde619ba7ad9ba74ff8"), looks := false }, kinds := [], alts := [], laidByText := true, laidKinds := [.data, .pinned], laidTests := true, laidLooks := .later }
def HeadSummedUptoCardSaid : Prop := Claim7.holds Tryd.pinned (.plain (OpenSpec.upto headSummedSpec)) headSummedUptoCard

/-- THE SECOND FORM's CARD OF 'creelkeep.GlobMany'. -/
def globManyUptoCard : Claim7 := { stood := { row := globManyUptoRow, standIns := [], harness := (true, "e7bd9a59f624a2dc5cb41ec75b98eec4f772d254b0e89cde619ba7ad9ba74ff8"), looks := false }, kinds := [], alts := [], laidByText := true, laidKinds := [.data, .pinned], laidTests := true, laidLooks := .later }
def GlobManyUptoCardSaid : Prop := Claim7.holds Tryd.pinned (.plain (OpenSpec.upto globManySpec)) globManyUptoCard

/-- THE SECOND FORM's CARD OF 'creelkeep.FieldStrict'. -/
def fieldStrictUptoCard : Claim7 := { stood := { row := fieldStrictUptoRow, standIns := [], harness := (true, "e7bd9a59f624a2dc5cb41ec75b98eec4f772d254b0e89cde619ba7ad9ba74ff8"), looks := false }, kinds := [], alts := [], laidByText := true, laidKinds := [.data, .pinned], laidTests := true, laidLooks := .later }
def FieldStrictUptoCardSaid : Prop := Claim7.holds Tryd.pinned (.plain (OpenSpec.upto fieldStrictSpec)) fieldStrictUptoCard

/-- THE SECOND FORM's CARD OF 'creelkeep.FieldBack'. -/
def fieldBackUptoCard : Claim7 := { stood := { row := fieldBackUptoRow, standIns := [], harness := (true, "e7bd9a59f624a2dc5cb41ec75b98eec4f772d254b0e89cde619ba7ad9ba74ff8"), looks := false }, kinds := [], alts := [], laidByText := true, laidKinds := [.data, .pinned], laidTests := true, laidLooks := .later }
def FieldBackUptoCardSaid : Prop := Claim7.holds Tryd.pinned (.plain (OpenSpec.upto fieldBackSpec)) fieldBackUptoCard

/-- THE SECOND FORM's CARD OF 'creelkeep.StampPlain'. -/
def stampPlainUptoCard : Claim7 := { stood := { row := stampPlainUptoRow, standIns := [], harness := (true, "e7bd9a59f624a2dc5cb41ec75b98eec4f772d254b0e89cde619ba7ad9ba74ff8"), looks := false }, kinds := [], alts := [], laidByText := true, laidKinds := [.data, .data, .data, .data, .pinned], laidTests := true, laidLooks := .later }
def StampPlainUptoCardSaid : Prop := Claim7.holds Tryd.pinned (.plain (OpenSpec.upto stampPlainSpec)) stampPlainUptoCard
end Rows
end Go.Proofs.YtbhglmcblhnphaaDoor
