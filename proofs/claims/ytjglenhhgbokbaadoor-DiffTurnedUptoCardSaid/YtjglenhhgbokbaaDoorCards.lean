/-
  DERIVED. GIVEN WITH THE SEED: THE CARDS: each row of YtjglenhhgbokbaaDoorRows.lean that lists a variable, with what it lists TIED to the program's text (the seventh form; the later family's looks); each row that meets fmt, with fmt's text TOLD by the authors' own Lean function (tested against real Go, not proved from fmt's source: count such statements apart). THE CARD IS WHAT COUNTS. Prove the row's statement (the work); the ties are given (YtjglenhhgbokbaaDoorTie.lean); close each card by the builder's one call (the guide's Derived/Test/ToyasCard.lean, 'card_holds'). Laid BY PROGRAM, IN A SANDBOX (cutbox-door.mjs). By AI agents, Wed Nov 11 2026. No macro, syntax, notation, axiom, sorry.
-/
import Derived.Test.YtjglenhhgbokbaaDoorRows
import GoSem.ClaimSeven
namespace Go.Proofs.YtjglenhhgbokbaaDoor
namespace Rows

/-- THE TIED CARD OF 'creelkeep.DiffNone'. -/
def diffNoneCard : Claim7 := { stood := { row := diffNoneRow, standIns := [], harness := (true, "3a84250b41467acdc22cb7ad85f8b9430fa11c7c58b368fbb260ec9d15348cc9"), looks := false }, kinds := [], alts := [], laidByText := true, laidKinds := [.data, .pinned], laidTests := true, laidLooks := .later }
def DiffNoneCardSaid : Prop := Claim7.holds Tryd.pinned (.plain (OpenSpec.ofChange diffNoneSpec)) diffNoneCard

/-- THE TIED CARD OF 'creelkeep.DiffTurned'. -/
def diffTurnedCard : Claim7 := { stood := { row := diffTurnedRow, standIns := [], harness := (true, "3a84250b41467acdc22cb7ad85f8b9430fa11c7c58b368fbb260ec9d15348cc9"), looks := false }, kinds := [], alts := [], laidByText := true, laidKinds := [.data, .pinned], laidTests := true, laidLooks := .later }
def DiffTurnedCardSaid : Prop := Claim7.holds Tryd.pinned (.plain (OpenSpec.ofChange diffTurnedSpec)) diffTurnedCard

/-- THE TIED CARD OF 'creelkeep.FilterEach'. -/
def filterEachCard : Claim7 := { stood := { row := filterEachRow, standIns := [], harness := (true, "3a84250b41467acdc22cb7ad85f8b9430fa11c7c58b368fbb260ec9d15348cc9"), looks := false }, kinds := [], alts := [], laidByText := true, laidKinds := [.data, .pinned], laidTests := true, laidLooks := .later }
def FilterEachCardSaid : Prop := Claim7.holds Tryd.pinned (.plain (OpenSpec.ofChange filterEachSpec)) filterEachCard

/-- THE TIED CARD OF 'creelkeep.TreeOwn'. -/
def treeOwnCard : Claim7 := { stood := { row := treeOwnRow, standIns := [], harness := (true, "3a84250b41467acdc22cb7ad85f8b9430fa11c7c58b368fbb260ec9d15348cc9"), looks := false }, kinds := [], alts := [], laidByText := true, laidKinds := [.data, .pinned], laidTests := true, laidLooks := .later }
def TreeOwnCardSaid : Prop := Claim7.holds Tryd.pinned (.plain (OpenSpec.ofChange treeOwnSpec)) treeOwnCard

/-- THE TIED CARD OF 'creelkeep.OrderSorted'. -/
def orderSortedCard : Claim7 := { stood := { row := orderSortedRow, standIns := [], harness := (true, "3a84250b41467acdc22cb7ad85f8b9430fa11c7c58b368fbb260ec9d15348cc9"), looks := false }, kinds := [], alts := [], laidByText := true, laidKinds := [.data, .pinned], laidTests := true, laidLooks := .later }
def OrderSortedCardSaid : Prop := Claim7.holds Tryd.pinned (.plain (OpenSpec.ofChange orderSortedSpec)) orderSortedCard

/-- THE TIED CARD OF 'creelkeep.DiffAlike'. -/
def diffAlikeCard : Claim7 := { stood := { row := diffAlikeRow, standIns := [], harness := (true, "3a84250b41467acdc22cb7ad85f8b9430fa11c7c58b368fbb260ec9d15348cc9"), looks := false }, kinds := [], alts := [], laidByText := true, laidKinds := [.data, .pinned], laidTests := true, laidLooks := .later }
def DiffAlikeCardSaid : Prop := Claim7.holds Tryd.pinned (.plain (OpenSpec.ofChange diffAlikeSpec)) diffAlikeCard

/-- THE TIED CARD OF 'creelkeep.DiffBack'. -/
def diffBackCard : Claim7 := { stood := { row := diffBackRow, standIns := [], harness := (true, "3a84250b41467acdc22cb7ad85f8b9430fa11c7c58b368fbb260ec9d15348cc9"), looks := false }, kinds := [], alts := [], laidByText := true, laidKinds := [.data, .pinned], laidTests := true, laidLooks := .later }
def DiffBackCardSaid : Prop := Claim7.holds Tryd.pinned (.plain (OpenSpec.ofChange diffBackSpec)) diffBackCard

/-- THE SECOND FORM's CARD OF 'creelkeep.DiffNone'. -/
def diffNoneUptoCard : Claim7 := { stood := { row := diffNoneUptoRow, standIns := [], harness := (true, "3a84250b41467acdc22cb7ad85f8b9430fa11c7c58b368fbb260ec9d15348cc9"), looks := false }, kinds := [], alts := [], laidByText := true, laidKinds := [.data, .pinned], laidTests := true, laidLooks := .later }
def DiffNoneUptoCardSaid : Prop := Claim7.holds Tryd.pinned (.plain (OpenSpec.upto diffNoneSpec)) diffNoneUptoCard

/-- THE SECOND FORM's CARD OF 'creelkeep.DiffTurned'. -/
def diffTurnedUptoCard : Claim7 := { stood := { row := diffTurnedUptoRow, standIns := [], harness := (true, "3a84250b41467acdc22cb7ad85f8b9430fa11c7c58b368fbb260ec9d15348cc9"), looks := false }, kinds := [], alts := [], laidByText := true, laidKinds := [.data, .pinned], laidTests := true, laidLooks := .later }
def DiffTurnedUptoCardSaid : Prop := Claim7.holds Tryd.pinned (.plain (OpenSpec.upto diffTurnedSpec)) diffTurnedUptoCard

/-- THE SECOND FORM's CARD OF 'creelkeep.FilterEach'. -/
def filterEachUptoCard : Claim7 := { stood := { row := filterEachUptoRow, standIns := [], harness := (true, "3a84250b41467acdc22cb7ad85f8b9430fa11c7c58b368fbb260ec9d15348cc9"), looks := false }, kinds := [], alts := [], laidByText := true, laidKinds := [.data, .pinned], laidTests := true, laidLooks := .later }
def FilterEachUptoCardSaid : Prop := Claim7.holds Tryd.pinned (.plain (OpenSpec.upto filterEachSpec)) filterEachUptoCard

/-- THE SECOND FORM's CARD OF 'creelkeep.TreeOwn'. -/
def treeOwnUptoCard : Claim7 := { stood := { row := treeOwnUptoRow, standIns := [], harness := (true, "3a84250b41467acdc22cb7ad85f8b9430fa11c7c58b368fbb260ec9d15348cc9"), looks := false }, kinds := [], alts := [], laidByText := true, laidKinds := [.data, .pinned], laidTests := true, laidLooks := .later }
def TreeOwnUptoCardSaid : Prop := Claim7.holds Tryd.pinned (.plain (OpenSpec.upto treeOwnSpec)) treeOwnUptoCard

/-- THE SECOND FORM's CARD OF 'creelkeep.OrderSorted'. -/
def orderSortedUptoCard : Claim7 := { stood := { row := orderSortedUptoRow, standIns := [], harness := (true, "3a84250b41467acdc22cb7ad85f8b9430fa11c7c58b368fbb260ec9d15348cc9"), looks := false }, kinds := [], alts := [], laidByText := true, laidKinds := [.data, .pinned], laidTests := true, laidLooks := .later }
def OrderSortedUptoCardSaid : Prop := Claim7.holds Tryd.pinned (.plain (OpenSpec.upto orderSortedSpec)) orderSortedUptoCard

/-- THE SECOND FORM's CARD OF 'creelkeep.DiffAlike'. -/
def diffAlikeUptoCard : Claim7 := { stood := { row := diffAlikeUptoRow, standIns := [], harness := (true, "3a84250b41467acdc22cb7ad85f8b9430fa11c7c58b368fbb260ec9d15348cc9"), looks := false }, kinds := [], alts := [], laidByText := true, laidKinds := [.data, .pinned], laidTests := true, laidLooks := .later }
def DiffAlikeUptoCardSaid : Prop := Claim7.holds Tryd.pinned (.plain (OpenSpec.upto diffAlikeSpec)) diffAlikeUptoCard

/-- THE SECOND FORM's CARD OF 'creelkeep.DiffBack'. -/
def diffBackUptoCard : Claim7 := { stood := { row := diffBackUptoRow, standIns := [], harness := (true, "3a84250b41467acdc22cb7ad85f8b9430fa11c7c58b368fbb260ec9d15348cc9"), looks := false }, kinds := [], alts := [], laidByText := true, laidKinds := [.data, .pinned], laidTests := true, laidLooks := .later }
def DiffBackUptoCardSaid : Prop := Claim7.holds Tryd.pinned (.plain (OpenSpec.upto diffBackSpec)) diffBackUptoCard
end Rows
end Go.Proofs.YtjglenhhgbokbaaDoor
