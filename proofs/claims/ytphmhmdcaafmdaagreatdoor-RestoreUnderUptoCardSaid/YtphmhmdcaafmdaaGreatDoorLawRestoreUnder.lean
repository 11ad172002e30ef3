import Derived.Test.YtphmhmdcaafmdaaGreatDoorCards
import Derived.Test.YtphmhmdcaafmdaaGreatDoorTie
import Derived.Test.YtphmhmdcaafmdaaGreatDoorWords
import Derived.Test.YtphmhmdcaafmdaaGreatDoorLeave
import Derived.Test.YtphmhmdcaafmdaaGreatDoorUnderL
import Derived.Test.YtphmhmdcaafmdaaGreatDoorFields
import Derived.Lay
import Derived.Deep.DeepWitnessRowRef
namespace Go.Proofs.YtphmhmdcaafmdaaGreatDoor
set_option linter.all false
open Go.ChangeShapes Go.WideShapes Go.ChangeAt Go.RowKit
open Go.ChangeMaps (open_string)
set_option maxRecDepth 100000 in
set_option linter.unusedVariables false in
theorem RestoreUnder_contract (H : Type) (enc : TypeId × Value→H) (W : World) (base : Nat) (args : Array Value) (ds gs : List (DataW H)) (before : List MemPlace)
    (hval : ∀ (j : Nat) t v,Tryz.f3.params[j]?=some t→args[j]?=some v→Value.okWide Tryz.prog W .any base t v)
    (hW : DataW.Whole enc Tryz.prog Tryz.f3.params.toList Rows.restoreUnderSpec.vars false W args.toList ds gs before)
    (hk : Rows.uptoSmall H (ds ++ gs)=true)
    (hsh : W.ShapedOpen Tryz.prog) (h10 : P10 W) :
    Calls Tryz.prog 3 args W fun e W' => ∃ v,e=.returned v∧Rows.restoreUnderSpec.post enc Tryz.prog Tryz.f3 false true false false W args v W':=by
  have hW':=hW
  obtain ⟨p,q,hA0,hV,hpq,hfz,hnd⟩:=hW
  have hA : DataW.TrodAll enc Tryz.prog W 0 (fun _ => true) true Tryz.f3.params.toList args.toList ds p:=hA0
  rw [Tryz.params3] at hA hval
  obtain ⟨v0,vs0,d0,ds0,p0,q0,hargs,rfl,rfl,h0,r0⟩:=trodAll_cons hA
  obtain ⟨v1,vs1,d1,ds1,p1,q1,rfl,rfl,rfl,h1,r1⟩:=trodAll_cons r0
  obtain ⟨rfl,rfl,rfl⟩:=trodAll_nil r1
  obtain rfl : args=#[v0,v1]:=by cases args;simp_all
  obtain ⟨rfl,rfl⟩:=trodVars_none hV
  obtain ⟨l0,o0,z0,n0⟩:=open_raws (hval 0 22 v0 rfl rfl) h0 hk (by simp)
  obtain ⟨l1,o1,z1,n1⟩:=open_raws (hval 1 22 v1 rfl rfl) h1 hk (by simp)
  refine (RestoreUnder_walk W hsh h10 v0 l0 o0 z0 n0 v1 l1 o1 z1 n1).mono fun e W' ⟨he,hb⟩ => ?_
  exact ⟨_,he,law_post Tryz_laidOut (by kernel_rfl) rfl rfl Tryz.underlying4 hW' rfl hb⟩
noncomputable def RestoreUnder_world (os : Os) : World:=World.laidAll Tryz.prog os Rows.restoreUnderUptoRow.laid
theorem RestoreUnder_met (os : Os) : laidMet Tryz.prog Rows.restoreUnderUptoRow.laid ((RestoreUnder_world os).forCall (fun _ _ => 0) ⟨#[],#[.slice none 0 0,.slice none 0 0],[]⟩).memory :=
  laidMet_laidAll _ (by kernel_rfl) (by kernel_rfl)
theorem RestoreUnder_reads (os : Os) {H : Type} (enc : TypeId × Value→H) : ∃ places,DataW.whole enc Tryz.prog ((RestoreUnder_world os).forCall (fun _ _ => 0) ⟨#[],#[.slice none 0 0,.slice none 0 0],[]⟩).memory Tryz.f3.params.toList Rows.restoreUnderSpec.vars false (#[.slice none 0 0,.slice none 0 0] : Array Value).toList 8=some ([.nil,.nil],[],places) :=
  ⟨[],by kernel_rfl⟩
set_option maxRecDepth 100000 in
theorem RestoreUnder_lifted (os : Os) (started : os.Started) (H : Type) (enc : TypeId × Value→H) (F : Stop.Interp) :
    ReturnsInHanded {} Tryz.checked os 3 .any ((Rows.OpenSpec.upto Rows.restoreUnderSpec).preRow enc Tryz.prog Tryz.f3 Rows.restoreUnderUptoRow.domain false Rows.restoreUnderUptoRow.laid) (((Rows.OpenSpec.upto Rows.restoreUnderSpec).at F).post enc Tryz.prog Tryz.f3 false true false false):=by
  obtain ⟨places,hx⟩:=RestoreUnder_reads os enc
  refine returnsInHanded_of_row (C:=Tryz.checked) (s:=Rows.OpenSpec.upto Rows.restoreUnderSpec) Tryz_own started (by kernel_rfl) Tryz.func3
    (witness_row_atRef (enc:=enc) (C:=Tryz.checked) false (RestoreUnder_world os) #[.slice none 0 0,.slice none 0 0] (World.laidAll_os _ _ _) (by kernel_rfl) (by kernel_rfl) (by kernel_rfl)
      (OpenSpec.preRow_of_cond 8 hx (by kernel_rfl) (fun k hk => by cases hk;kernel_rfl) (by kernel_rfl) (RestoreUnder_met os))) ?_
  intro W base args ds gs before hval hW _ hcond _ hlaid hsh _
  exact RestoreUnder_contract H enc W base args ds gs before hval hW (hcond _ rfl) hsh (P10.of_laid hlaid (by kernel_rfl))
set_option maxHeartbeats 1000000 in
theorem RestoreUnder_said : Rows.RestoreUnderUptoSaid :=
  leaving_of_alone rfl rfl rfl rfl (OpenClaim.holds_of_cond 3 Tryz.f3 rfl rfl rfl rfl rfl rfl rfl ⟨rfl,rfl,rfl,rfl,rfl⟩ rfl rfl rfl rfl rfl (by kernel_rfl) Tryz.func3 (by unfold joinedFacts;repeat' (with_reducible refine Bool.and_eq_true_iff.2 ⟨?_,?_⟩);all_goals (as_aux_lemma => kernel_rfl))
    (of_decide_eq_true (by kernel_rfl)) (by unfold Func.isWrapper;rw [if_neg (of_decide_eq_false (by kernel_rfl))];exact ⟨rfl,rfl⟩)
    (fun os started H enc _ F => by rw [OpenClaim.pre_eq_preRow];exact RestoreUnder_lifted os started H enc F))
theorem RestoreUnder_plain (f : FuncId) (fn : Func) (hf : Tryz.pinned.checked.prog.funcNamed Rows.restoreUnderUptoRow.func=some f) (hfn : Tryz.pinned.checked.prog.funcs[f]?=some fn) :
    Rows.restoreUnderUptoCard.stood.looks=Tryz.pinned.checked.prog.looks []∧∀ (j : Nat) t,fn.params[j]?=some t→Tryz.pinned.checked.prog.wantsStandIn t=false:=by
  obtain rfl : f=3:=Option.some.inj ((show Tryz.prog.funcNamed Rows.restoreUnderUptoRow.func=some 3 by kernel_rfl).symm.trans hf) |>.symm
  obtain rfl : fn=Tryz.f3:=(Option.some.inj (Tryz.func3.symm.trans hfn)).symm
  refine ⟨by kernel_rfl,fun j t ht => ?_⟩
  rw [Tryz.params3] at ht
  have hm:=Array.mem_of_getElem? ht
  simp only [Array.mem_def,List.mem_cons,List.mem_nil_iff,or_false] at hm
  rcases hm with rfl | rfl
  · exact (show Tryz.prog.wantsStandIn 22=false by kernel_rfl)
  · exact (show Tryz.prog.wantsStandIn 22=false by kernel_rfl)
theorem RestoreUnder_holds : Rows.RestoreUnderUptoCardSaid :=
  tied_goes .later _ _ _ _ _ RestoreUnder_said (by kernel_rfl) restoreUnderUpto_row_tie rfl ⟨rfl,rfl⟩ (by kernel_rfl) rfl RestoreUnder_plain (by kernel_rfl)
#print axioms RestoreUnder_holds
end Go.Proofs.YtphmhmdcaafmdaaGreatDoor
