/-
  No cell of these rows narrows 'for every input' (looked for: loops, veiled, ifaces, maps, wideKeys, modest, calm, conditions, laid).
  DERIVED. THE GIVEN ROWS OF THIS SEAT. 12 by the template 'for every input the law returns true; each argument reads behind the call as it read before'; 0 by the template 'total and deterministic' (their statements: YtpibgdgcgflooaaTotals.lean).
  GIVEN WITH THE SEED: the statements are not yours to turn. If you find one false, say at which input.
  Laid BY PROGRAM, IN A SANDBOX (cutbox-rows.mjs): the forced cells as the released guide's own fill.sh prints them over the translation 88e8a5ae9fb48c78… (all of the seat's roots in one cut). By AI agents, Wed Nov 11 2026. No macro, syntax, notation, axiom, sorry.
-/
import Derived.Test.YtpibgdgcgflooaaChecked
import GoSem.Claim
import GoSem.ClaimJoined
import GoSem.ClaimMapViews
import Derived.JoinedTies
import Derived.KernelRfl
namespace Go.Proofs.Ytpibgdgcgflooaa
/- THE CELL 'sum', in the pinned program and in every row, IS THE sha256 OF THE DUMP (.gsa) THAT YtpibgdgcgflooaaProg.lean LOADS. Nothing in Lean hashes anything: it is a label: what it is worth is what the hold of that sum in a sandbox is worth. -/
noncomputable def Try.pinned : Pinned := { name := "ytpibgdgcgflooaa", sum := "88e8a5ae9fb48c78345d124d6bab51eea8983732ce2478e7cd13277a906d4aeb", checked := Try.checked }
namespace Rows
def none {H : Type} : Left H := { results := [], args := [] }

/-- 'creelkeep.PadFew': WHATEVER THE INPUT: true; the input reads as it did. -/
def padFewSpec : ChangeSpec := { name := "padFew", fn := fun _ => fun
  | [d1, d2] => { results := [.lit (.bool true)], args := [d1, d2] }
  | _ => none }
def padFewRow : OpenClaim := { program := "ytpibgdgcgflooaa", sum := "88e8a5ae9fb48c78345d124d6bab51eea8983732ce2478e7cd13277a906d4aeb", func := "creel/creelkeep.PadFew", spec := "padFew", apart := false }
def PadFewSaid : Prop := padFewRow.holds Try.pinned (OpenSpec.ofChange padFewSpec)

/-- ITS FALSE NEIGHBOUR: 'it returns false'. Refute it at one input. -/
def padFewWrong : ChangeSpec := { name := "padFew", fn := fun _ => fun
  | [d1, d2] => { results := [.lit (.bool false)], args := [d1, d2] }
  | _ => none }
def PadFewWrongFalsely : Prop := padFewRow.holds Try.pinned (OpenSpec.ofChange padFewWrong)

/-- 'creelkeep.PathInside': WHATEVER THE INPUT: true; the input reads as it did. -/
def pathInsideSpec : ChangeSpec := { name := "pathInside", fn := fun _ => fun
  | [d1, d2, d3] => { results := [.lit (.bool true)], args := [d1, d2, d3] }
  | _ => none }
def pathInsideRow : OpenClaim := { program := "ytpibgdgcgflooaa", sum := "88e8a5ae9fb48c78345d124d6bab51eea8983732ce2478e7cd13277a906d4aeb", func := "creel/creelkeep.PathInside", spec := "pathInside", apart := false }
def PathInsideSaid : Prop := pathInsideRow.holds Try.pinned (OpenSpec.ofChange pathInsideSpec)

/-- ITS FALSE NEIGHBOUR: 'it returns false'. Refute it at one input. -/
def pathInsideWrong : ChangeSpec := { name := "pathInside", fn := fun _ => fun
  | [d1, d2, d3] => { results := [.lit (.bool false)], args := [d1, d2, d3] }
  | _ => none }
def PathInsideWrongFalsely : Prop := pathInsideRow.holds Try.pinned (OpenSpec.ofChange pathInsideWrong)

/-- 'creelkeep.WriteSummed': WHATEVER THE INPUT: true; the input reads as it did. -/
def writeSummedSpec : ChangeSpec := { name := "writeSummed", fn := fun _ => fun
  | [d1, d2, d3] => { results := [.lit (.bool true)], args := [d1, d2, d3] }
  | _ => none }
def writeSummedRow : OpenClaim := { program := "ytpibgdgcgflooaa", sum := "88e8a5ae9fb48c78345d124d6bab51eea8983732ce2478e7cd13277a906d4aeb", func := "creel/creelkeep.WriteSummed", spec := "writeSummed", apart := false }
def WriteSummedSaid : Prop := writeSummedRow.holds Try.pinned (OpenSpec.ofChange writeSummedSpec)

/-- ITS FALSE NEIGHBOUR: 'it returns false'. Refute it at one input. -/
def writeSummedWrong : ChangeSpec := { name := "writeSummed", fn := fun _ => fun
  | [d1, d2, d3] => { results := [.lit (.bool false)], args := [d1, d2, d3] }
  | _ => none }
def WriteSummedWrongFalsely : Prop := writeSummedRow.holds Try.pinned (OpenSpec.ofChange writeSummedWrong)

/-- 'creelkeep.OctalRises': WHATEVER THE INPUT: true; the input reads as it did. -/
def octalRisesSpec : ChangeSpec := { name := "octalRises", fn := fun _ => fun
  | [d1, d2, d3] => { results := [.lit (.bool true)], args := [d1, d2, d3] }
  | _ => none }
def octalRisesRow : OpenClaim := { program := "ytpibgdgcgflooaa", sum := "88e8a5ae9fb48c78345d124d6bab51eea8983732ce2478e7cd13277a906d4aeb", func := "creel/creelkeep.OctalRises", spec := "octalRises", apart := false }
def OctalRisesSaid : Prop := octalRisesRow.holds Try.pinned (OpenSpec.ofChange octalRisesSpec)

/-- ITS FALSE NEIGHBOUR: 'it returns false'. Refute it at one input. -/
def octalRisesWrong : ChangeSpec := { name := "octalRises", fn := fun _ => fun
  | [d1, d2, d3] => { results := [.lit (.bool false)], args := [d1, d2, d3] }
  | _ => none }
def OctalRisesWrongFalsely : Prop := octalRisesRow.holds Try.pinned (OpenSpec.ofChange octalRisesWrong)

/-- 'creelkeep.MetaPlain': WHATEVER THE INPUT: true; the input reads as it did. -/
def metaPlainSpec : ChangeSpec := { name := "metaPlain", fn := fun _ => fun
  | [d] => { results := [.lit (.bool true)], args := [d] }
  | _ => none }
def metaPlainRow : OpenClaim := { program := "ytpibgdgcgflooaa", sum := "88e8a5ae9fb48c78345d124d6bab51eea8983732ce2478e7cd13277a906d4aeb", func := "creel/creelkeep.MetaPlain", spec := "metaPlain", apart := false }
def MetaPlainSaid : Prop := metaPlainRow.holds Try.pinned (OpenSpec.ofChange metaPlainSpec)

/-- ITS FALSE NEIGHBOUR: 'it returns false'. Refute it at one input. -/
def metaPlainWrong : ChangeSpec := { name := "metaPlain", fn := fun _ => fun
  | [d] => { results := [.lit (.bool false)], args := [d] }
  | _ => none }
def MetaPlainWrongFalsely : Prop := metaPlainRow.holds Try.pinned (OpenSpec.ofChange metaPlainWrong)

/-- 'creelkeep.OctalOver': WHATEVER THE INPUT: true; the input reads as it did. -/
def octalOverSpec : ChangeSpec := { name := "octalOver", fn := fun _ => fun
  | [d] => { results := [.lit (.bool true)], args := [d] }
  | _ => none }
def octalOverRow : OpenClaim := { program := "ytpibgdgcgflooaa", sum := "88e8a5ae9fb48c78345d124d6bab51eea8983732ce2478e7cd13277a906d4aeb", func := "creel/creelkeep.OctalOver", spec := "octalOver", apart := false }
def OctalOverSaid : Prop := octalOverRow.holds Try.pinned (OpenSpec.ofChange octalOverSpec)

/-- ITS FALSE NEIGHBOUR: 'it returns false'. Refute it at one input. -/
def octalOverWrong : ChangeSpec := { name := "octalOver", fn := fun _ => fun
  | [d] => { results := [.lit (.bool false)], args := [d] }
  | _ => none }
def OctalOverWrongFalsely : Prop := octalOverRow.holds Try.pinned (OpenSpec.ofChange octalOverWrong)

/-- 'creelkeep.ListNext': WHATEVER THE INPUT: true; the input reads as it did. -/
def listNextSpec : ChangeSpec := { name := "listNext", fn := fun _ => fun
  | [d] => { results := [.lit (.bool true)], args := [d] }
  | _ => none }
def listNextRow : OpenClaim := { program := "ytpibgdgcgflooaa", sum := "88e8a5ae9fb48c78345d124d6bab51eea8983732ce2478e7cd13277a906d4aeb", func := "creel/creelkeep.ListNext", spec := "listNext", apart := false }
def ListNextSaid : Prop := listNextRow.holds Try.pinned (OpenSpec.ofChange listNextSpec)

/-- ITS FALSE NEIGHBOUR: 'it returns false'. Refute it at one input. -/
def listNextWrong : ChangeSpec := { name := "listNext", fn := fun _ => fun
  | [d] => { results := [.lit (.bool false)], args := [d] }
  | _ => none }
def ListNextWrongFalsely : Prop := listNextRow.holds Try.pinned (OpenSpec.ofChange listNextWrong)

/-- 'creelkeep.ListRound': WHATEVER THE INPUT: true; the input reads as it did. -/
def listRoundSpec : ChangeSpec := { name := "listRound", fn := fun _ => fun
  | [d] => { results := [.lit (.bool true)], args := [d] }
  | _ => none }
def listRoundRow : OpenClaim := { program := "ytpibgdgcgflooaa", sum := "88e8a5ae9fb48c78345d124d6bab51eea8983732ce2478e7cd13277a906d4aeb", func := "creel/creelkeep.ListRound", spec := "listRound", apart := false }
def ListRoundSaid : Prop := listRoundRow.holds Try.pinned (OpenSpec.ofChange listRoundSpec)

/-- ITS FALSE NEIGHBOUR: 'it returns false'. Refute it at one input. -/
def listRoundWrong : ChangeSpec := { name := "listRound", fn := fun _ => fun
  | [d] => { results := [.lit (.bool false)], args := [d] }
  | _ => none }
def ListRoundWrongFalsely : Prop := listRoundRow.holds Try.pinned (OpenSpec.ofChange listRoundWrong)

/-- 'creelkeep.CutBack': WHATEVER THE INPUT: true; the input reads as it did. -/
def cutBackSpec : ChangeSpec := { name := "cutBack", fn := fun _ => fun
  | [d] => { results := [.lit (.bool true)], args := [d] }
  | _ => none }
def cutBackRow : OpenClaim := { program := "ytpibgdgcgflooaa", sum := "88e8a5ae9fb48c78345d124d6bab51eea8983732ce2478e7cd13277a906d4aeb", func := "creel/creelkeep.CutBack", spec := "cutBack", inPlace := ["internal/bytealg.IndexByteString"], apart := false }
def CutBackSaid : Prop := cutBackRow.holds Try.pinned (OpenSpec.ofChange cutBackSpec)

/-- ITS FALSE NEIGHBOUR: 'it returns false'. Refute it at one input. -/
def cutBackWrong : ChangeSpec := { name := "cutBack", fn := fun _ => fun
  | [d] => { results := [.lit (.bool false)], args := [d] }
  | _ => none }
def CutBackWrongFalsely : Prop := cutBackRow.holds Try.pinned (OpenSpec.ofChange cutBackWrong)

/-- 'creelkeep.OctalBack': WHATEVER THE INPUT: true; the input reads as it did. -/
def octalBackSpec : ChangeSpec := { name := "octalBack", fn := fun _ => fun
  | [d1, d2] => { results := [.lit (.bool true)], args := [d1, d2] }
  | _ => none }
def octalBackRow : OpenClaim := { program := "ytpibgdgcgflooaa", sum := "88e8a5ae9fb48c78345d124d6bab51eea8983732ce2478e7cd13277a906d4aeb", func := "creel/creelkeep.OctalBack", spec := "octalBack", apart := false }
def OctalBackSaid : Prop := octalBackRow.holds Try.pinned (OpenSpec.ofChange octalBackSpec)

/-- ITS FALSE NEIGHBOUR: 'it returns false'. Refute it at one input. -/
def octalBackWrong : ChangeSpec := { name := "octalBack", fn := fun _ => fun
  | [d1, d2] => { results := [.lit (.bool false)], args := [d1, d2] }
  | _ => none }
def OctalBackWrongFalsely : Prop := octalBackRow.holds Try.pinned (OpenSpec.ofChange octalBackWrong)

/-- 'creelkeep.MetaBack': WHATEVER THE INPUT: true; the input reads as it did. -/
def metaBackSpec : ChangeSpec := { name := "metaBack", fn := fun _ => fun
  | [d] => { results := [.lit (.bool true)], args := [d] }
  | _ => none }
def metaBackRow : OpenClaim := { program := "ytpibgdgcgflooaa", sum := "88e8a5ae9fb48c78345d124d6bab51eea8983732ce2478e7cd13277a906d4aeb", func := "creel/creelkeep.MetaBack", spec := "metaBack", apart := false }
def MetaBackSaid : Prop := metaBackRow.holds Try.pinned (OpenSpec.ofChange metaBackSpec)

/-- ITS FALSE NEIGHBOUR: 'it returns false'. Refute it at one input. -/
def metaBackWrong : ChangeSpec := { name := "metaBack", fn := fun _ => fun
  | [d] => { results := [.lit (.bool false)], args := [d] }
  | _ => none }
def MetaBackWrongFalsely : Prop := metaBackRow.holds Try.pinned (OpenSpec.ofChange metaBackWrong)

/-- 'creelkeep.MetaTurns': WHATEVER THE INPUT: true; the input reads as it did. -/
def metaTurnsSpec : ChangeSpec := { name := "metaTurns", fn := fun _ => fun
  | [d] => { results := [.lit (.bool true)], args := [d] }
  | _ => none }
def metaTurnsRow : OpenClaim := { program := "ytpibgdgcgflooaa", sum := "88e8a5ae9fb48c78345d124d6bab51eea8983732ce2478e7cd13277a906d4aeb", func := "creel/creelkeep.MetaTurns", spec := "metaTurns", apart := false }
def MetaTurnsSaid : Prop := metaTurnsRow.holds Try.pinned (OpenSpec.ofChange metaTurnsSpec)

/-- ITS FALSE NEIGHBOUR: 'it returns false'. Refute it at one input. -/
def metaTurnsWrong : ChangeSpec := { name := "metaTurns", fn := fun _ => fun
  | [d] => { results := [.lit (.bool false)], args := [d] }
  | _ => none }
def MetaTurnsWrongFalsely : Prop := metaTurnsRow.holds Try.pinned (OpenSpec.ofChange metaTurnsWrong)

/- THE SECOND FORM. 'bulk': how many values and letters a reading holds, each counted each time it is reached (what is shared counts as often as it is met; a slice's spare places count too). A statement '..UptoSaid' is the law's where the arguments, and the package variables that the reading takes, are together of bulk at most 1048576: NARROWER than '..Said'. Prove '..Said' where nothing that the law and all that it calls make is longer than what came in: it says more and counts as full. Else prove '..UptoSaid'. A law counts once. -/
mutual
def uptoBulk {H : Type} : DataW H → Nat
  | .lit (.string bytes) => bytes.length + 1
  | .lit _ => 1
  | .nil => 1
  | .ptr d => uptoBulk d + 1
  | .slice elems spare => uptoBulkAll elems + uptoBulkAll spare + 1
  | .agg parts => uptoBulkAll parts + 1
  | .iface _ d => uptoBulk d + 1
  | .map entries => uptoBulkEntries entries + 1
  | .held _ => 1
def uptoBulkAll {H : Type} : List (DataW H) → Nat
  | [] => 0
  | d :: r => uptoBulk d + uptoBulkAll r
def uptoBulkEntries {H : Type} : List (Lit × DataW H) → Nat
  | [] => 0
  | x :: r => uptoBulkEntry x + uptoBulkEntries r
def uptoBulkEntry {H : Type} : Lit × DataW H → Nat
  | (.string bytes, d) => bytes.length + uptoBulk d + 1
  | (_, d) => uptoBulk d + 1
 end
def uptoSmall : (H : Type) → List (DataW H) → Bool := fun _ ds => decide (uptoBulkAll ds ≤ 1048576)
def OpenSpec.upto (s : _root_.Go.ChangeSpec) : _root_.Go.OpenSpec := { _root_.Go.OpenSpec.ofChange s with cond := some uptoSmall }

/-- 'creelkeep.PadFew', WHERE WHAT IT READS IS OF BULK AT MOST 1048576: true; the input reads as it did. -/
def padFewUptoRow : OpenClaim := { program := "ytpibgdgcgflooaa", sum := "88e8a5ae9fb48c78345d124d6bab51eea8983732ce2478e7cd13277a906d4aeb", func := "creel/creelkeep.PadFew", spec := "padFew", apart := false, narrowed := true }
def PadFewUptoSaid : Prop := padFewUptoRow.holds Try.pinned (OpenSpec.upto padFewSpec)

/-- 'creelkeep.PathInside', WHERE WHAT IT READS IS OF BULK AT MOST 1048576: true; the input reads as it did. -/
def pathInsideUptoRow : OpenClaim := { program := "ytpibgdgcgflooaa", sum := "88e8a5ae9fb48c78345d124d6bab51eea8983732ce2478e7cd13277a906d4aeb", func := "creel/creelkeep.PathInside", spec := "pathInside", apart := false, narrowed := true }
def PathInsideUptoSaid : Prop := pathInsideUptoRow.holds Try.pinned (OpenSpec.upto pathInsideSpec)

/-- 'creelkeep.WriteSummed', WHERE WHAT IT READS IS OF BULK AT MOST 1048576: true; the input reads as it did. -/
def writeSummedUptoRow : OpenClaim := { program := "ytpibgdgcgflooaa", sum := "88e8a5ae9fb48c78345d124d6bab51eea8983732ce2478e7cd13277a906d4aeb", func := "creel/creelkeep.WriteSummed", spec := "writeSummed", apart := false, narrowed := true }
def WriteSummedUptoSaid : Prop := writeSummedUptoRow.holds Try.pinned (OpenSpec.upto writeSummedSpec)

/-- 'creelkeep.OctalRises', WHERE WHAT IT READS IS OF BULK AT MOST 1048576: true; the input reads as it did. -/
def octalRisesUptoRow : OpenClaim := { program := "ytpibgdgcgflooaa", sum := "88e8a5ae9fb48c78345d124d6bab51eea8983732ce2478e7cd13277a906d4aeb", func := "creel/creelkeep.OctalRises", spec := "octalRises", apart := false, narrowed := true }
def OctalRisesUptoSaid : Prop := octalRisesUptoRow.holds Try.pinned (OpenSpec.upto octalRisesSpec)

/-- 'creelkeep.MetaPlain', WHERE WHAT IT READS IS OF BULK AT MOST 1048576: true; the input reads as it did. -/
def metaPlainUptoRow : OpenClaim := { program := "ytpibgdgcgflooaa", sum := "88e8a5ae9fb48c78345d124d6bab51eea8983732ce2478e7cd13277a906d4aeb", func := "creel/creelkeep.MetaPlain", spec := "metaPlain", apart := false, narrowed := true }
def MetaPlainUptoSaid : Prop := metaPlainUptoRow.holds Try.pinned (OpenSpec.upto metaPlainSpec)

/-- 'creelkeep.OctalOver', WHERE WHAT IT READS IS OF BULK AT MOST 1048576: true; the input reads as it did. -/
def octalOverUptoRow : OpenClaim := { program := "ytpibgdgcgflooaa", sum := "88e8a5ae9fb48c78345d124d6bab51eea8983732ce2478e7cd13277a906d4aeb", func := "creel/creelkeep.OctalOver", spec := "octalOver", apart := false, narrowed := true }
def OctalOverUptoSaid : Prop := octalOverUptoRow.holds Try.pinned (OpenSpec.upto octalOverSpec)

/-- 'creelkeep.ListNext', WHERE WHAT IT READS IS OF BULK AT MOST 1048576: true; the input reads as it did. -/
def listNextUptoRow : OpenClaim := { program := "ytpibgdgcgflooaa", sum := "88e8a5ae9fb48c78345d124d6bab51eea8983732ce2478e7cd13277a906d4aeb", func := "creel/creelkeep.ListNext", spec := "listNext", apart := false, narrowed := true }
def ListNextUptoSaid : Prop := listNextUptoRow.holds Try.pinned (OpenSpec.upto listNextSpec)

/-- 'creelkeep.ListRound', WHERE WHAT IT READS IS OF BULK AT MOST 1048576: true; the input reads as it did. -/
def listRoundUptoRow : OpenClaim := { program := "ytpibgdgcgflooaa", sum := "88e8a5ae9fb48c78345d124d6bab51eea8983732ce2478e7cd13277a906d4aeb", func := "creel/creelkeep.ListRound", spec := "listRound", apart := false, narrowed := true }
def ListRoundUptoSaid : Prop := listRoundUptoRow.holds Try.pinned (OpenSpec.upto listRoundSpec)

/-- 'creelkeep.CutBack', WHERE WHAT IT READS IS OF BULK AT MOST 1048576: true; the input reads as it did. -/
def cutBackUptoRow : OpenClaim := { program := "ytpibgdgcgflooaa", sum := "88e8a5ae9fb48c78345d124d6bab51eea8983732ce2478e7cd13277a906d4aeb", func := "creel/creelkeep.CutBack", spec := "cutBack", inPlace := ["internal/bytealg.IndexByteString"], apart := false, narrowed := true }
def CutBackUptoSaid : Prop := cutBackUptoRow.holds Try.pinned (OpenSpec.upto cutBackSpec)

/-- 'creelkeep.OctalBack', WHERE WHAT IT READS IS OF BULK AT MOST 1048576: true; the input reads as it did. -/
def octalBackUptoRow : OpenClaim := { program := "ytpibgdgcgflooaa", sum := "88e8a5ae9fb48c78345d124d6bab51eea8983732ce2478e7cd13277a906d4aeb", func := "creel/creelkeep.OctalBack", spec := "octalBack", apart := false, narrowed := true }
def OctalBackUptoSaid : Prop := octalBackUptoRow.holds Try.pinned (OpenSpec.upto octalBackSpec)

/-- 'creelkeep.MetaBack', WHERE WHAT IT READS IS OF BULK AT MOST 1048576: true; the input reads as it did. -/
def metaBackUptoRow : OpenClaim := { program := "ytpibgdgcgflooaa", sum := "88e8a5ae9fb48c78345d124d6bab51eea8983732ce2478e7cd13277a906d4aeb", func := "creel/creelkeep.MetaBack", spec := "metaBack", apart := false, narrowed := true }
def MetaBackUptoSaid : Prop := metaBackUptoRow.holds Try.pinned (OpenSpec.upto metaBackSpec)

/-- 'creelkeep.MetaTurns', WHERE WHAT IT READS IS OF BULK AT MOST 1048576: true; the input reads as it did. -/
def metaTurnsUptoRow : OpenClaim := { program := "ytpibgdgcgflooaa", sum := "88e8a5ae9fb48c78345d124d6bab51eea8983732ce2478e7cd13277a906d4aeb", func := "creel/creelkeep.MetaTurns", spec := "metaTurns", apart := false, narrowed := true }
def MetaTurnsUptoSaid : Prop := metaTurnsUptoRow.holds Try.pinned (OpenSpec.upto metaTurnsSpec)

end Rows
end Go.Proofs.Ytpibgdgcgflooaa
