/-
  MemberPlain: whatever the input (of bulk at most 1048576), the law returns true and leaves its arguments as they were.
  Condition: the arguments hold together at most 1048576 values and letters.
-/
import Derived.Test.YtjbpoijefkbllaaDoorCards
import Derived.Test.YtjbpoijefkbllaaDoorTie
import Derived.Test.YtjbpoijefkbllaaDoorWords
import Derived.Test.YtjbpoijefkbllaaDoorMPlain
import Derived.Test.YtjbpoijefkbllaaDoorRawW
namespace Go.Proofs.YtjbpoijefkbllaaDoor
open Go.ChangeShapes Go.WideShapes Go.ChangeAt Go.RowKit
open Go.ChangeMaps (open_string)

set_option maxRecDepth 100000 in
set_option linter.unusedVariables false in
theorem MemberPlain_contract (H : Type) (enc : TypeId × Value → H) (W : World) (base : Nat) (args : Array Value) (ds gs : List (DataW H)) (before : List MemPlace)
    (hval : ∀ (j : Nat) t v, Tryd.f5.params[j]? = some t → args[j]? = some v → Value.okWide Tryd.prog W .any base t v)
    (hW : DataW.Whole enc Tryd.prog Tryd.f5.params.toList Rows.memberPlainSpec.vars false W args.toList ds gs before)
    (hk : Rows.uptoSmall H (ds ++ gs) = true)
    (hsh : W.ShapedOpen Tryd.prog) (h10 : P10 W) :
    Calls Tryd.prog 5 args W fun e W' => ∃ v, e = .returned v ∧ Rows.memberPlainSpec.post enc Tryd.prog Tryd.f5 false true false false W args v W' := by
  have hW' := hW
  obtain ⟨p, q, hA0, hV, hpq, hfz, hnd⟩ := hW
  have hA : DataW.TrodAll enc Tryd.prog W 0 (fun _ => true) true Tryd.f5.params.toList args.toList ds p := hA0
  rw [Tryd.params5] at hA hval
  obtain ⟨v0, vs0, d0, ds0, p0, q0, hargs, rfl, rfl, h0, r0⟩ := trodAll_cons hA
  obtain ⟨rfl, rfl, rfl⟩ := trodAll_nil r0
  obtain rfl : args = #[v0] := by cases args; simp_all
  obtain ⟨rfl, rfl⟩ := trodVars_none hV
  obtain ⟨a0, rfl, z0⟩ := open_raw (hval 0 40 v0 rfl rfl) h0 hk (by simp)
  refine (MemberPlain_walk W hsh h10 a0 z0).mono fun e W' ⟨he, hb⟩ => ?_
  exact ⟨_, he, law_post Tryd_laidOut (by kernel_rfl) rfl rfl Tryd.underlying4 hW' rfl hb⟩

noncomputable def MemberPlain_world (os : Os) : World := bulks.laidWorld os [
  (5, bulks.flatN 3 Rows.laid_unicode_utf8_acceptRanges),
  (4, bulks.flatN 3 Rows.laid_unicode_utf8_first),
  (6, bulks.flatN 3 Rows.laid_math_bits_deBruijn32tab),
  (7, bulks.flatN 3 Rows.laid_math_bits_deBruijn64tab),
  (1, bulks.flatN 3 Rows.laid_internal_strconv_uint64pow10),
  ]
theorem MemberPlain_met (os : Os) : laidMet Tryd.prog Rows.memberPlainUptoRow.laid ((MemberPlain_world os).forCall (fun _ _ => 0) ⟨#[], #[.agg #[.int .i64 0, .int .i64 0, .int .i64 0, .string ⟨#[]⟩]], []⟩).memory :=
  laidMet_of_run' 8 (by kernel_rfl) (by kernel_rfl)
theorem MemberPlain_reads (os : Os) {H : Type} (enc : TypeId × Value → H) : ∃ places, DataW.whole enc Tryd.prog ((MemberPlain_world os).forCall (fun _ _ => 0) ⟨#[], #[.agg #[.int .i64 0, .int .i64 0, .int .i64 0, .string ⟨#[]⟩]], []⟩).memory Tryd.f5.params.toList Rows.memberPlainSpec.vars false (#[.agg #[.int .i64 0, .int .i64 0, .int .i64 0, .string ⟨#[]⟩]] : Array Value).toList 8 = some ([.agg [.lit (.int .i64 0), .lit (.int .i64 0), .lit (.int .i64 0), .lit (.string [])]], [], places) :=
  ⟨[], by kernel_rfl⟩

set_option maxRecDepth 100000 in
theorem MemberPlain_lifted (os : Os) (started : os.Started) (H : Type) (enc : TypeId × Value → H) (F : Stop.Interp) :
    ReturnsInHanded {} Tryd.checked os 5 .any ((Rows.OpenSpec.upto Rows.memberPlainSpec).preRow enc Tryd.prog Tryd.f5 Rows.memberPlainUptoRow.domain false Rows.memberPlainUptoRow.laid) (((Rows.OpenSpec.upto Rows.memberPlainSpec).at F).post enc Tryd.prog Tryd.f5 false true false false) := by
  obtain ⟨places, hx⟩ := MemberPlain_reads os enc
  refine returnsInHanded_of_row (C := Tryd.checked) (s := Rows.OpenSpec.upto Rows.memberPlainSpec) Tryd_own started (by kernel_rfl) Tryd.func5
    (witness_row_at (enc := enc) (C := Tryd.checked) false (MemberPlain_world os) #[.agg #[.int .i64 0, .int .i64 0, .int .i64 0, .string ⟨#[]⟩]] rfl (by kernel_rfl) (by kernel_rfl) (by kernel_rfl)
      (OpenSpec.preRow_of_cond 8 hx (by kernel_rfl) (fun k hk => by cases hk; kernel_rfl) (by kernel_rfl) (MemberPlain_met os))) ?_
  intro W base args ds gs before hval hW _ hcond _ hlaid hsh _
  exact MemberPlain_contract H enc W base args ds gs before hval hW (hcond _ rfl) hsh (P10.of_laid hlaid (by kernel_rfl))

theorem MemberPlain_said : Rows.MemberPlainUptoSaid :=
  OpenClaim.holds_of_cond 5 Tryd.f5 rfl rfl rfl rfl rfl rfl rfl ⟨rfl, rfl, rfl, rfl, rfl⟩ rfl rfl rfl rfl rfl (by kernel_rfl) Tryd.func5 (by kernel_rfl)
    (of_decide_eq_true (by kernel_rfl)) (by unfold Func.isWrapper; rw [if_neg (of_decide_eq_false (by kernel_rfl))]; exact ⟨rfl, rfl⟩)
    (fun os started H enc _ F => by rw [OpenClaim.pre_eq_preRow]; exact MemberPlain_lifted os started H enc F)
theorem MemberPlain_plain (f : FuncId) (fn : Func) (hf : Tryd.pinned.checked.prog.funcNamed Rows.memberPlainUptoRow.func = some f) (hfn : Tryd.pinned.checked.prog.funcs[f]? = some fn) :
    Rows.memberPlainUptoCard.stood.looks = Tryd.pinned.checked.prog.looks [] ∧ ∀ (j : Nat) t, fn.params[j]? = some t → Tryd.pinned.checked.prog.wantsStandIn t = false := by
  obtain rfl : f = 5 := Option.some.inj ((show Tryd.prog.funcNamed Rows.memberPlainUptoRow.func = some 5 by kernel_rfl).symm.trans hf) |>.symm
  obtain rfl : fn = Tryd.f5 := (Option.some.inj (Tryd.func5.symm.trans hfn)).symm
  refine ⟨by kernel_rfl, fun j t ht => ?_⟩
  rw [Tryd.params5] at ht
  have hm := Array.mem_of_getElem? ht
  simp only [Array.mem_def, List.mem_cons, List.mem_nil_iff, or_false] at hm
  obtain rfl := hm
  · exact (show Tryd.prog.wantsStandIn 40 = false by kernel_rfl)
theorem MemberPlain_holds : Rows.MemberPlainUptoCardSaid :=
  Claim7.holds_tied_plain_at .later [] _ _ _ _ MemberPlain_said (fun _ h => by cases h) (by kernel_rfl) (fun _ h => by cases h) memberPlainUpto_row_tie rfl ⟨rfl, rfl⟩ (by kernel_rfl) rfl MemberPlain_plain (by kernel_rfl)
#print axioms MemberPlain_holds
end Go.Proofs.YtjbpoijefkbllaaDoor
