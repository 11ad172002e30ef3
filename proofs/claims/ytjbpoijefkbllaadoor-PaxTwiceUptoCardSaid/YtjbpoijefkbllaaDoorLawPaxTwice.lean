/-
  PaxTwice: whatever the input (of bulk at most 1048576), the law returns true and leaves its arguments as they were.
  Condition: the arguments hold together at most 1048576 values and letters.
-/
import Derived.Test.YtjbpoijefkbllaaDoorCards
import Derived.Test.YtjbpoijefkbllaaDoorTie
import Derived.Test.YtjbpoijefkbllaaDoorWords
import Derived.Test.YtjbpoijefkbllaaDoorPaxTwice
import Derived.Test.YtjbpoijefkbllaaDoorRawW
import Derived.Lay
import Derived.Deep.DeepWitnessRowRef
namespace Go.Proofs.YtjbpoijefkbllaaDoor
open Go.ChangeShapes Go.WideShapes Go.ChangeAt Go.RowKit
open Go.ChangeMaps (open_string)

set_option maxRecDepth 100000 in
set_option linter.unusedVariables false in
theorem PaxTwice_contract (H : Type) (enc : TypeId × Value → H) (W : World) (base : Nat) (args : Array Value) (ds gs : List (DataW H)) (before : List MemPlace)
    (hval : ∀ (j : Nat) t v, Tryd.f7.params[j]? = some t → args[j]? = some v → Value.okWide Tryd.prog W .any base t v)
    (hW : DataW.Whole enc Tryd.prog Tryd.f7.params.toList Rows.paxTwiceSpec.vars false W args.toList ds gs before)
    (hk : Rows.uptoSmall H (ds ++ gs) = true)
    (hsh : W.ShapedOpen Tryd.prog) (h10 : P10 W) :
    Calls Tryd.prog 7 args W fun e W' => ∃ v, e = .returned v ∧ Rows.paxTwiceSpec.post enc Tryd.prog Tryd.f7 false true false false W args v W' := by
  have hW' := hW
  obtain ⟨p, q, hA0, hV, hpq, hfz, hnd⟩ := hW
  have hA : DataW.TrodAll enc Tryd.prog W 0 (fun _ => true) true Tryd.f7.params.toList args.toList ds p := hA0
  rw [Tryd.params7] at hA hval
  obtain ⟨v0, vs0, d0, ds0, p0, q0, hargs, rfl, rfl, h0, r0⟩ := trodAll_cons hA
  obtain ⟨v1, vs1, d1, ds1, p1, q1, rfl, rfl, rfl, h1, r1⟩ := trodAll_cons r0
  obtain ⟨rfl, rfl, rfl⟩ := trodAll_nil r1
  obtain rfl : args = #[v0, v1] := by cases args; simp_all
  obtain ⟨rfl, rfl⟩ := trodVars_none hV
  obtain ⟨l0, o0, z0, n0⟩ := open_raws (hval 0 22 v0 rfl rfl) h0 hk (by simp)
  obtain ⟨a1, rfl, rfl, rfl, w1⟩ := open_int Tryd.underlying3 (hval 1 3 v1 rfl rfl) h1
  refine (PaxTwice_walk W hsh h10 v0 l0 o0 z0 n0 a1 (i64_of_wf w1)).mono fun e W' ⟨he, hb⟩ => ?_
  exact ⟨_, he, law_post Tryd_laidOut (by kernel_rfl) rfl rfl Tryd.underlying4 hW' rfl hb⟩

noncomputable def PaxTwice_world (os : Os) : World := World.laidAll Tryd.prog os Rows.paxTwiceUptoRow.laid
theorem PaxTwice_met (os : Os) : laidMet Tryd.prog Rows.paxTwiceUptoRow.laid ((PaxTwice_world os).forCall (fun _ _ => 0) ⟨#[], #[.slice none 0 0, .int .i64 0], []⟩).memory :=
  laidMet_laidAll _ (by kernel_rfl) (by kernel_rfl)
theorem PaxTwice_reads (os : Os) {H : Type} (enc : TypeId × Value → H) : ∃ places, DataW.whole enc Tryd.prog ((PaxTwice_world os).forCall (fun _ _ => 0) ⟨#[], #[.slice none 0 0, .int .i64 0], []⟩).memory Tryd.f7.params.toList Rows.paxTwiceSpec.vars false (#[.slice none 0 0, .int .i64 0] : Array Value).toList 8 = some ([.nil, .lit (.int .i64 0)], [], places) :=
  ⟨[], by kernel_rfl⟩

set_option maxRecDepth 100000 in
theorem PaxTwice_lifted (os : Os) (started : os.Started) (H : Type) (enc : TypeId × Value → H) (F : Stop.Interp) :
    ReturnsInHanded {} Tryd.checked os 7 .any ((Rows.OpenSpec.upto Rows.paxTwiceSpec).preRow enc Tryd.prog Tryd.f7 Rows.paxTwiceUptoRow.domain false Rows.paxTwiceUptoRow.laid) (((Rows.OpenSpec.upto Rows.paxTwiceSpec).at F).post enc Tryd.prog Tryd.f7 false true false false) := by
  obtain ⟨places, hx⟩ := PaxTwice_reads os enc
  refine returnsInHanded_of_row (C := Tryd.checked) (s := Rows.OpenSpec.upto Rows.paxTwiceSpec) Tryd_own started (by kernel_rfl) Tryd.func7
    (witness_row_atRef (enc := enc) (C := Tryd.checked) false (PaxTwice_world os) #[.slice none 0 0, .int .i64 0] (World.laidAll_os _ _ _) (by kernel_rfl) (by kernel_rfl) (by kernel_rfl)
      (OpenSpec.preRow_of_cond 8 hx (by kernel_rfl) (fun k hk => by cases hk; kernel_rfl) (by kernel_rfl) (PaxTwice_met os))) ?_
  intro W base args ds gs before hval hW _ hcond _ hlaid hsh _
  exact PaxTwice_contract H enc W base args ds gs before hval hW (hcond _ rfl) hsh (P10.of_laid hlaid (by kernel_rfl))

theorem PaxTwice_said : Rows.PaxTwiceUptoSaid :=
  OpenClaim.holds_of_cond 7 Tryd.f7 rfl rfl rfl rfl rfl rfl rfl ⟨rfl, rfl, rfl, rfl, rfl⟩ rfl rfl rfl rfl rfl (by kernel_rfl) Tryd.func7 (by kernel_rfl)
    (of_decide_eq_true (by kernel_rfl)) (by unfold Func.isWrapper; rw [if_neg (of_decide_eq_false (by kernel_rfl))]; exact ⟨rfl, rfl⟩)
    (fun os started H enc _ F => by rw [OpenClaim.pre_eq_preRow]; exact PaxTwice_lifted os started H enc F)
theorem PaxTwice_plain (f : FuncId) (fn : Func) (hf : Tryd.pinned.checked.prog.funcNamed Rows.paxTwiceUptoRow.func = some f) (hfn : Tryd.pinned.checked.prog.funcs[f]? = some fn) :
    Rows.paxTwiceUptoCard.stood.looks = Tryd.pinned.checked.prog.looks [] ∧ ∀ (j : Nat) t, fn.params[j]? = some t → Tryd.pinned.checked.prog.wantsStandIn t = false := by
  obtain rfl : f = 7 := Option.some.inj ((show Tryd.prog.funcNamed Rows.paxTwiceUptoRow.func = some 7 by kernel_rfl).symm.trans hf) |>.symm
  obtain rfl : fn = Tryd.f7 := (Option.some.inj (Tryd.func7.symm.trans hfn)).symm
  refine ⟨by kernel_rfl, fun j t ht => ?_⟩
  rw [Tryd.params7] at ht
  have hm := Array.mem_of_getElem? ht
  simp only [Array.mem_def, List.mem_cons, List.mem_nil_iff, or_false] at hm
  rcases hm with rfl | rfl
  · exact (show Tryd.prog.wantsStandIn 22 = false by kernel_rfl)
  · exact (show Tryd.prog.wantsStandIn 3 = false by kernel_rfl)
theorem PaxTwice_holds : Rows.PaxTwiceUptoCardSaid :=
  Claim7.holds_tied_plain_at .later [] _ _ _ _ PaxTwice_said (fun _ h => by cases h) (by kernel_rfl) (fun _ h => by cases h) paxTwiceUpto_row_tie rfl ⟨rfl, rfl⟩ (by kernel_rfl) rfl PaxTwice_plain (by kernel_rfl)
#print axioms PaxTwice_holds
end Go.Proofs.YtjbpoijefkbllaaDoor
