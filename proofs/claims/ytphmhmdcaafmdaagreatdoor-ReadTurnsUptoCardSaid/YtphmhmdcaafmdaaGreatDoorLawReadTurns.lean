import Derived.Test.YtphmhmdcaafmdaaGreatDoorCards
import Derived.Test.YtphmhmdcaafmdaaGreatDoorTie
import Derived.Test.YtphmhmdcaafmdaaGreatDoorWords
import Derived.Test.YtphmhmdcaafmdaaGreatDoorRawW
import Derived.Test.YtphmhmdcaafmdaaGreatDoorRdTu
import Derived.Lay
import Derived.Deep.DeepWitnessRowRef
namespace Go.Proofs.YtphmhmdcaafmdaaGreatDoor
set_option linter.all false
open Go.ChangeShapes Go.WideShapes Go.ChangeAt Go.RowKit
open Go.ChangeMaps (open_string)
set_option maxRecDepth 100000 in
set_option linter.unusedVariables false in
theorem ReadTurns_contract (H : Type) (enc : TypeId × Value→H) (W : World) (base : Nat) (args : Array Value) (ds gs : List (DataW H)) (before : List MemPlace)
    (hval : ∀ (j : Nat) t v,Tryz.f6.params[j]?=some t→args[j]?=some v→Value.okWide Tryz.prog W .any base t v)
    (hW : DataW.Whole enc Tryz.prog Tryz.f6.params.toList Rows.readTurnsSpec.vars false W args.toList ds gs before)
    (hk : Rows.uptoSmall H (ds ++ gs)=true)
    (hsh : W.ShapedOpen Tryz.prog) (h10 : P10 W) (hse : Sent W) :
    Calls Tryz.prog 6 args W fun e W' => ∃ v,e=.returned v∧Rows.readTurnsSpec.post enc Tryz.prog Tryz.f6 false true false false W args v W':=by
  have hW':=hW
  obtain ⟨p,q,hA0,hV,hpq,hfz,hnd⟩:=hW
  have hA : DataW.TrodAll enc Tryz.prog W 0 (fun _ => true) true Tryz.f6.params.toList args.toList ds p:=hA0
  rw [Tryz.params6] at hA hval
  obtain ⟨v0,vs0,d0,ds0,p0,q0,hargs,rfl,rfl,h0,r0⟩:=trodAll_cons hA
  obtain ⟨v1,vs1,d1,ds1,p1,q1,rfl,rfl,rfl,h1,r1⟩:=trodAll_cons r0
  obtain ⟨v2,vs2,d2,ds2,p2,q2,rfl,rfl,rfl,h2,r2⟩:=trodAll_cons r1
  obtain ⟨rfl,rfl,rfl⟩:=trodAll_nil r2
  obtain rfl : args=#[v0,v1,v2]:=by cases args;simp_all
  obtain ⟨rfl,rfl⟩:=trodVars_none hV
  obtain ⟨l0,o0,z0,n0⟩:=open_raws (hval 0 22 v0 rfl rfl) h0 hk (by simp)
  obtain ⟨a1,rfl,rfl,rfl,w1⟩:=open_int Tryz.underlying3 (hval 1 3 v1 rfl rfl) h1
  obtain ⟨a2,rfl,rfl,rfl,w2⟩:=open_int Tryz.underlying5 (hval 2 5 v2 rfl rfl) h2
  refine (ReadTurns_walk W hsh h10 hse v0 l0 o0 z0 n0 a1 (i64_of_wf w1) a2 (u8_of_wf w2)).mono fun e W' ⟨he,hb⟩ => ?_
  exact ⟨_,he,law_post Tryz_laidOut (by kernel_rfl) rfl rfl Tryz.underlying4 hW' rfl hb⟩
noncomputable def ReadTurns_world (os : Os) : World:=World.laidAll Tryz.prog os Rows.readTurnsUptoRow.laid
theorem ReadTurns_met (os : Os) : laidMet Tryz.prog Rows.readTurnsUptoRow.laid ((ReadTurns_world os).forCall (fun _ _ => 0) ⟨#[],#[.slice none 0 0,.int .i64 0,.int .u8 0],[]⟩).memory :=
  laidMet_laidAll _ (by kernel_rfl) (by kernel_rfl)
theorem ReadTurns_reads (os : Os) {H : Type} (enc : TypeId × Value→H) : ∃ places,DataW.whole enc Tryz.prog ((ReadTurns_world os).forCall (fun _ _ => 0) ⟨#[],#[.slice none 0 0,.int .i64 0,.int .u8 0],[]⟩).memory Tryz.f6.params.toList Rows.readTurnsSpec.vars false (#[.slice none 0 0,.int .i64 0,.int .u8 0] : Array Value).toList 8=some ([.nil,.lit (.int .i64 0),.lit (.int .u8 0)],[],places) :=
  ⟨[],by kernel_rfl⟩
set_option maxRecDepth 100000 in
theorem ReadTurns_lifted (os : Os) (started : os.Started) (H : Type) (enc : TypeId × Value→H) (F : Stop.Interp) :
    ReturnsInHanded {} Tryz.checked os 6 .any ((Rows.OpenSpec.upto Rows.readTurnsSpec).preRow enc Tryz.prog Tryz.f6 Rows.readTurnsUptoRow.domain false Rows.readTurnsUptoRow.laid) (((Rows.OpenSpec.upto Rows.readTurnsSpec).at F).post enc Tryz.prog Tryz.f6 false true false false):=by
  obtain ⟨places,hx⟩:=ReadTurns_reads os enc
  refine returnsInHanded_of_row (C:=Tryz.checked) (s:=Rows.OpenSpec.upto Rows.readTurnsSpec) Tryz_own started (by kernel_rfl) Tryz.func6
    (witness_row_atRef (enc:=enc) (C:=Tryz.checked) false (ReadTurns_world os) #[.slice none 0 0,.int .i64 0,.int .u8 0] (World.laidAll_os _ _ _) (by kernel_rfl) (by kernel_rfl) (by kernel_rfl)
      (OpenSpec.preRow_of_cond 8 hx (by kernel_rfl) (fun k hk => by cases hk;kernel_rfl) (by kernel_rfl) (ReadTurns_met os))) ?_
  intro W base args ds gs before hval hW _ hcond _ hlaid hsh _
  exact ReadTurns_contract H enc W base args ds gs before hval hW (hcond _ rfl) hsh (P10.of_laid hlaid (by kernel_rfl))
    (Sent.of_laid hlaid (s1 := "*errors.errorString") (d1 := .ptr (.agg [.lit (.string [105, 110, 118, 97, 108, 105, 100, 32, 115, 121, 110, 116, 97, 120])])) (s2 := "*errors.errorString") (d2 := .ptr (.agg [.lit (.string [118, 97, 108, 117, 101, 32, 111, 117, 116, 32, 111, 102, 32, 114, 97, 110, 103, 101])])) (by kernel_rfl) (by kernel_rfl) rfl rfl)
set_option maxHeartbeats 1000000 in
theorem ReadTurns_said : Rows.ReadTurnsUptoSaid :=
  leaving_of_alone rfl rfl rfl rfl (OpenClaim.holds_of_cond 6 Tryz.f6 rfl rfl rfl rfl rfl rfl rfl ⟨rfl,rfl,rfl,rfl,rfl⟩ rfl rfl rfl rfl rfl (by kernel_rfl) Tryz.func6 (by unfold joinedFacts;repeat' (with_reducible refine Bool.and_eq_true_iff.2 ⟨?_,?_⟩);all_goals (as_aux_lemma => kernel_rfl))
    (of_decide_eq_true (by kernel_rfl)) (by unfold Func.isWrapper;rw [if_neg (of_decide_eq_false (by kernel_rfl))];exact ⟨rfl,rfl⟩)
    (fun os started H enc _ F => by rw [OpenClaim.pre_eq_preRow];exact ReadTurns_lifted os started H enc F))
theorem ReadTurns_plain (f : FuncId) (fn : Func) (hf : Tryz.pinned.checked.prog.funcNamed Rows.readTurnsUptoRow.func=some f) (hfn : Tryz.pinned.checked.prog.funcs[f]?=some fn) :
    Rows.readTurnsUptoCard.stood.looks=Tryz.pinned.checked.prog.looks []∧∀ (j : Nat) t,fn.params[j]?=some t→Tryz.pinned.checked.prog.wantsStandIn t=false:=by
  obtain rfl : f=6:=Option.some.inj ((show Tryz.prog.funcNamed Rows.readTurnsUptoRow.func=some 6 by kernel_rfl).symm.trans hf) |>.symm
  obtain rfl : fn=Tryz.f6:=(Option.some.inj (Tryz.func6.symm.trans hfn)).symm
  refine ⟨by kernel_rfl,fun j t ht => ?_⟩
  rw [Tryz.params6] at ht
  have hm:=Array.mem_of_getElem? ht
  simp only [Array.mem_def,List.mem_cons,List.mem_nil_iff,or_false] at hm
  rcases hm with rfl | rfl | rfl
  · exact (show Tryz.prog.wantsStandIn 22=false by kernel_rfl)
  · exact (show Tryz.prog.wantsStandIn 3=false by kernel_rfl)
  · exact (show Tryz.prog.wantsStandIn 5=false by kernel_rfl)
theorem ReadTurns_holds : Rows.ReadTurnsUptoCardSaid :=
  tied_goes .later _ _ _ _ _ ReadTurns_said (by kernel_rfl) readTurnsUpto_row_tie rfl ⟨rfl,rfl⟩ (by kernel_rfl) rfl ReadTurns_plain (by kernel_rfl)
#print axioms ReadTurns_holds
end Go.Proofs.YtphmhmdcaafmdaaGreatDoor
