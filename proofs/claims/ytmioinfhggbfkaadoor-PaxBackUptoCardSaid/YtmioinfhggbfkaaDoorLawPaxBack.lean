/-
  PaxBack: whatever the input (of bulk at most 1048576), the law returns true and leaves its arguments as they were.
  Condition: the arguments hold together at most 1048576 values and letters.
-/
import Derived.Test.YtmioinfhggbfkaaDoorCards
import Derived.Test.YtmioinfhggbfkaaDoorTie
import Derived.Test.YtmioinfhggbfkaaDoorWords
import Derived.Test.YtmioinfhggbfkaaDoorPaxB
import Derived.Test.YtmioinfhggbfkaaDoorRawW
import Derived.Lay
import Derived.Deep.DeepWitnessRowRef
namespace Go.Proofs.YtmioinfhggbfkaaDoor
set_option linter.all false
open Go.ChangeShapes Go.WideShapes Go.ChangeAt Go.RowKit
open Go.ChangeMaps (open_string)

set_option maxRecDepth 100000 in
set_option linter.unusedVariables false in
theorem PaxBack_contract (H : Type) (enc : TypeId × Value → H) (W : World) (base : Nat) (args : Array Value) (ds gs : List (DataW H)) (before : List MemPlace)
    (hval : ∀ (j : Nat) t v, Tryd.f5.params[j]? = some t → args[j]? = some v → Value.okWide Tryd.prog W .any base t v)
    (hW : DataW.Whole enc Tryd.prog Tryd.f5.params.toList Rows.paxBackSpec.vars false W args.toList ds gs before)
    (hk : Rows.uptoSmall H (ds ++ gs) = true)
    (hsh : W.ShapedOpen Tryd.prog) (h10 : P10 W) :
    Calls Tryd.prog 5 args W fun e W' => ∃ v, e = .returned v ∧ Rows.paxBackSpec.post enc Tryd.prog Tryd.f5 false true false false W args v W' := by
  have hW' := hW
  obtain ⟨p, q, hA0, hV, hpq, hfz, hnd⟩ := hW
  have hA : DataW.TrodAll enc Tryd.prog W 0 (fun _ => true) true Tryd.f5.params.toList args.toList ds p := hA0
  rw [Tryd.params5] at hA hval
  obtain ⟨v0, vs0, d0, ds0, p0, q0, hargs, rfl, rfl, h0, r0⟩ := trodAll_cons hA
  obtain ⟨v1, vs1, d1, ds1, p1, q1, rfl, rfl, rfl, h1, r1⟩ := trodAll_cons r0
  obtain ⟨rfl, rfl, rfl⟩ := trodAll_nil r1
  obtain rfl : args = #[v0, v1] := by cases args; simp_all
  obtain ⟨rfl, rfl⟩ := trodVars_none hV
  obtain ⟨l0, o0, z0, n0⟩ := open_raws (hval 0 49 v0 rfl rfl) h0 hk (by simp)
  obtain ⟨l1, o1, z1, n1⟩ := open_raws (hval 1 49 v1 rfl rfl) h1 hk (by simp)
  refine (PaxBack_walk W hsh h10 v0 l0 o0 z0 n0 v1 l1 o1 z1 n1).mono fun e W' ⟨he, hb⟩ => ?_
  exact ⟨_, he, law_post Tryd_laidOut (by kernel_rfl) rfl rfl Tryd.underlying4 hW' rfl hb⟩

noncomputable def PaxBack_world (os : Os) : World := World.laidAll Tryd.prog os Rows.paxBackUptoRow.laid
theorem PaxBack_met (os : Os) : laidMet Tryd.prog Rows.paxBackUptoRow.laid ((PaxBack_world os).forCall (fun _ _ => 0) ⟨#[], #[.slice none 0 0, .slice none 0 0], []⟩).memory :=
  laidMet_laidAll _ (by kernel_rfl) (by kernel_rfl)
theorem PaxBack_reads (os : Os) {H : Type} (enc : TypeId × Value → H) : ∃ places, DataW.whole enc Tryd.prog ((PaxBack_world os).forCall (fun _ _ => 0) ⟨#[], #[.slice none 0 0, .slice none 0 0], []⟩).memory Tryd.f5.params.toList Rows.paxBackSpec.vars false (#[.slice none 0 0, .slice none 0 0] : Array Value).toList 8 = some ([.nil, .nil], [], places) :=
  ⟨[], by kernel_rfl⟩

set_option maxRecDepth 100000 in
theorem PaxBack_lifted (os : Os) (started : os.Started) (H : Type) (enc : TypeId × Value → H) (F : Stop.Interp) :
    ReturnsInHanded {} Tryd.checked os 5 .any ((Rows.OpenSpec.upto Rows.paxBackSpec).preRow enc Tryd.prog Tryd.f5 Rows.paxBackUptoRow.domain false Rows.paxBackUptoRow.laid) (((Rows.OpenSpec.upto Rows.paxBackSpec).at F).post enc Tryd.prog Tryd.f5 false true false false) := by
  obtain ⟨places, hx⟩ := PaxBack_reads os enc
  refine returnsInHanded_of_row (C := Tryd.checked) (s := Rows.OpenSpec.upto Rows.paxBackSpec) Tryd_own started (by kernel_rfl) Tryd.func5
    (witness_row_atRef (enc := enc) (C := Tryd.checked) false (PaxBack_world os) #[.slice none 0 0, .slice none 0 0] (World.laidAll_os _ _ _) (by kernel_rfl) (by kernel_rfl) (by kernel_rfl)
      (OpenSpec.preRow_of_cond 8 hx (by kernel_rfl) (fun k hk => by cases hk; kernel_rfl) (by kernel_rfl) (PaxBack_met os))) ?_
  intro W base args ds gs before hval hW _ hcond _ hlaid hsh _
  exact PaxBack_contract H enc W base args ds gs before hval hW (hcond _ rfl) hsh (P10.of_laid hlaid (by kernel_rfl))

theorem PaxBack_said : Rows.PaxBackUptoSaid :=
  OpenClaim.holds_of_cond 5 Tryd.f5 rfl rfl rfl rfl rfl rfl rfl ⟨rfl, rfl, rfl, rfl, rfl⟩ rfl rfl rfl rfl rfl (by kernel_rfl) Tryd.func5 (by kernel_rfl)
    (of_decide_eq_true (by kernel_rfl)) (by unfold Func.isWrapper; rw [if_neg (of_decide_eq_false (by kernel_rfl))]; exact ⟨rfl, rfl⟩)
    (fun os started H enc _ F => by rw [OpenClaim.pre_eq_preRow]; exact PaxBack_lifted os started H enc F)
theorem PaxBack_plain (f : FuncId) (fn : Func) (hf : Tryd.pinned.checked.prog.funcNamed Rows.paxBackUptoRow.func = some f) (hfn : Tryd.pinned.checked.prog.funcs[f]? = some fn) :
    Rows.paxBackUptoCard.stood.looks = Tryd.pinned.checked.prog.looks [] ∧ ∀ (j : Nat) t, fn.params[j]? = some t → Tryd.pinned.checked.prog.wantsStandIn t = false := by
  obtain rfl : f = 5 := Option.some.inj ((show Tryd.prog.funcNamed Rows.paxBackUptoRow.func = some 5 by kernel_rfl).symm.trans hf) |>.symm
  obtain rfl : fn = Tryd.f5 := (Option.some.inj (Tryd.func5.symm.trans hfn)).symm
  refine ⟨by kernel_rfl, fun j t ht => ?_⟩
  rw [Tryd.params5] at ht
  have hm := Array.mem_of_getElem? ht
  simp only [Array.mem_def, List.mem_cons, List.mem_nil_iff, or_false] at hm
  rcases hm with rfl | rfl
  · exact (show Tryd.prog.wantsStandIn 49 = false by kernel_rfl)
  · exact (show Tryd.prog.wantsStandIn 49 = false by kernel_rfl)
theorem PaxBack_holds : Rows.PaxBackUptoCardSaid :=
  Claim7.holds_tied_plain_at .later [] _ _ _ _ PaxBack_said (fun _ h => by cases h) (by kernel_rfl) (fun _ h => by cases h) paxBackUpto_row_tie rfl ⟨rfl, rfl⟩ (by kernel_rfl) rfl PaxBack_plain (by kernel_rfl)
#print axioms PaxBack_holds
end Go.Proofs.YtmioinfhggbfkaaDoor
