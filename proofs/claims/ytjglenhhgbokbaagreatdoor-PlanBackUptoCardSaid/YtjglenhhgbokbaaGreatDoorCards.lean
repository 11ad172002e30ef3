/-
  DERIVED. GIVEN WITH THE SEED: THE CARDS: each row of YtjglenhhgbokbaaGreatDoorRows.lean that lists a variable, with what it lists TIED to the program's text (the seventh form; the later family's looks); each row that meets fmt, with fmt's text TOLD by the authors' own Lean function (tested against real Go, not proved from fmt's source: count such statements apart). THE CARD IS WHAT COUNTS. Prove the row's statement (the work); the ties are given (YtjglenhhgbokbaaGreatDoorTie.lean); close each card by the builder's one call (the guide's Derived/Test/ToyasCard.lean, 'card_holds'). Laid BY PROGRAM, IN A SANDBOX (cutbox-door.mjs). By AI agents, Wed Nov 11 2026. No macro, syntax, notation, axiom, sorry.
-/
import Derived.Test.YtjglenhhgbokbaaGreatDoorRows
import GoSem.ClaimSeven
namespace Go.Proofs.YtjglenhhgbokbaaGreatDoor
namespace Rows

/-- THE TIED CARD OF 'creelkeep.FilterAll'. -/
def filterAllCard : Claim7 := { stood := { row := filterAllRow, standIns := [], harness := (true, "eb843e3478a37659ae857af13913c44ae007645458d7bb5500036a3fc6e32189"), looks := false }, kinds := [], alts := [], laidByText := true, laidKinds := [.data, .pinned], laidTests := true, laidLooks := .later }
def FilterAllCardSaid : Prop := Claim7.holds Tryz.pinned (.plain (OpenSpec.ofChange filterAllSpec)) filterAllCard

/-- THE TIED CARD OF 'creelkeep.FilterLess'. -/
def filterLessCard : Claim7 := { stood := { row := filterLessRow, standIns := [], harness := (true, "eb843e3478a37659ae857af13913c44ae007645458d7bb5500036a3fc6e32189"), looks := false }, kinds := [], alts := [], laidByText := true, laidKinds := [.data, .pinned], laidTests := true, laidLooks := .later }
def FilterLessCardSaid : Prop := Claim7.holds Tryz.pinned (.plain (OpenSpec.ofChange filterLessSpec)) filterLessCard

/-- THE TIED CARD OF 'creelkeep.PlanOnce'. -/
def planOnceCard : Claim7 := { stood := { row := planOnceRow, standIns := [], harness := (true, "eb843e3478a37659ae857af13913c44ae007645458d7bb5500036a3fc6e32189"), looks := false }, kinds := [], alts := [], laidByText := true, laidKinds := [.data, .pinned], laidTests := true, laidLooks := .later }
def PlanOnceCardSaid : Prop := Claim7.holds Tryz.pinned (.plain (OpenSpec.ofChange planOnceSpec)) planOnceCard

/-- THE TIED CARD OF 'creelkeep.PlanGood'. -/
def planGoodCard : Claim7 := { stood := { row := planGoodRow, standIns := [], harness := (true, "eb843e3478a37659ae857af13913c44ae007645458d7bb5500036a3fc6e32189"), looks := false }, kinds := [], alts := [], laidByText := true, laidKinds := [.data, .pinned], laidTests := true, laidLooks := .later }
def PlanGoodCardSaid : Prop := Claim7.holds Tryz.pinned (.plain (OpenSpec.ofChange planGoodSpec)) planGoodCard

/-- THE TIED CARD OF 'creelkeep.PlanBack'. -/
def planBackCard : Claim7 := { stood := { row := planBackRow, standIns := [], harness := (true, "eb843e3478a37659ae857af13913c44ae007645458d7bb5500036a3fc6e32189"), looks := false }, kinds := [], alts := [], laidByText := true, laidKinds := [.data, .pinned], laidTests := true, laidLooks := .later }
def PlanBackCardSaid : Prop := Claim7.holds Tryz.pinned (.plain (OpenSpec.ofChange planBackSpec)) planBackCard

/-- THE SECOND FORM's CARD OF 'creelkeep.FilterAll'. -/
def filterAllUptoCard : Claim7 := { stood := { row := filterAllUptoRow, standIns := [], harness := (true, "eb843e3478a37659ae857af13913c44ae007645458d7bb5500036a3fc6e32189"), looks := false }, kinds := [], alts := [], laidByText := true, laidKinds := [.data, .pinned], laidTests := true, laidLooks := .later }
def FilterAllUptoCardSaid : Prop := Claim7.holds Tryz.pinned (.plain (OpenSpec.upto filterAllSpec)) filterAllUptoCard

/-- THE SECOND FORM's CARD OF 'creelkeep.FilterLess'. -/
def filterLessUptoCard : Claim7 := { stood := { row := filterLessUptoRow, standIns := [], harness := (true, "eb843e3478a37659ae857af13913c44ae007645458d7bb5500036a3fc6e32189"), looks := false }, kinds := [], alts := [], laidByText := true, laidKinds := [.data, .pinned], laidTests := true, laidLooks := .later }
def FilterLessUptoCardSaid : Prop := Claim7.holds Tryz.pinned (.plain (OpenSpec.upto filterLessSpec)) filterLessUptoCard

/-- THE SECOND FORM's CARD OF 'creelkeep.PlanOnce'. -/
def planOnceUptoCard : Claim7 := { stood := { row := planOnceUptoRow, standIns := [], harness := (true, "eb843e3478a37659ae857af13913c44ae007645458d7bb5500036a3fc6e32189"), looks := false }, kinds := [], alts := [], laidByText := true, laidKinds := [.data, .pinned], laidTests := true, laidLooks := .later }
def PlanOnceUptoCardSaid : Prop := Claim7.holds Tryz.pinned (.plain (OpenSpec.upto planOnceSpec)) planOnceUptoCard

/-- THE SECOND FORM's CARD OF 'creelkeep.PlanGood'. -/
def planGoodUptoCard : Claim7 := { stood := { row := planGoodUptoRow, standIns := [], harness := (true, "eb843e3478a37659ae857af13913c44ae007645458d7bb5500036a3fc6e32189"), looks := false }, kinds := [], alts := [], laidByText := true, laidKinds := [.data, .pinned], laidTests := true, laidLooks := .later }
def PlanGoodUptoCardSaid : Prop := Claim7.holds Tryz.pinned (.plain (OpenSpec.upto planGoodSpec)) planGoodUptoCard

/-- THE SECOND FORM's CARD OF 'creelkeep.PlanBack'. -/
def planBackUptoCard : Claim7 := { stood := { row := planBackUptoRow, standIns := [], harness := (true, "eb843e3478a37659ae857af13913c44ae007645458d7bb5500036a3fc6e32189"), looks := false }, kinds := [], alts := [], laidByText := true, laidKinds := [.data, .pinned], laidTests := true, laidLooks := .later }
def PlanBackUptoCardSaid : Prop := Claim7.holds Tryz.pinned (.plain (OpenSpec.upto planBackSpec)) planBackUptoCard
end Rows
end Go.Proofs.YtjglenhhgbokbaaGreatDoor
