/-
  ListSays: whatever the input (of bulk at most 1048576), the law returns true and leaves its arguments as they were.
  Condition: the arguments hold together at most 1048576 values and letters.
-/
import Derived.Test.YtmioinfhggbfkaaDoorCards
import Derived.Test.YtmioinfhggbfkaaDoorTie
import Derived.Test.YtmioinfhggbfkaaDoorWords
import Derived.Test.YtmioinfhggbfkaaDoorLSays
import Derived.Test.YtmioinfhggbfkaaDoorRawW
namespace Go.Proofs.YtmioinfhggbfkaaDoor
set_option linter.all false
open Go.ChangeShapes Go.WideShapes Go.ChangeAt Go.RowKit
open Go.ChangeMaps (open_string)

set_option maxRecDepth 100000 in
set_option linter.unusedVariables false in
theorem ListSays_contract (H : Type) (enc : TypeId × Value → H) (W : World) (base : Nat) (args : Array Value) (ds gs : List (DataW H)) (before : List MemPlace)
    (hval : ∀ (j : Nat) t v, Tryd.f4.params[j]? = some t → args[j]? = some v → Value.okWide Tryd.prog W .any base t v)
    (hW : DataW.Whole enc Tryd.prog Tryd.f4.params.toList Rows.listSaysSpec.vars false W args.toList ds gs before)
    (hk : Rows.uptoSmall H (ds ++ gs) = true)
    (hsh : W.ShapedOpen Tryd.prog) (h10 : P10 W) :
    Calls Tryd.prog 4 args W fun e W' => ∃ v, e = .returned v ∧ Rows.listSaysSpec.post enc Tryd.prog Tryd.f4 false true false false W args v W' := by
  have hW' := hW
  obtain ⟨p, q, hA0, hV, hpq, hfz, hnd⟩ := hW
  have hA : DataW.TrodAll enc Tryd.prog W 0 (fun _ => true) true Tryd.f4.params.toList args.toList ds p := hA0
  rw [Tryd.params4] at hA hval
  obtain ⟨v0, vs0, d0, ds0, p0, q0, hargs, rfl, rfl, h0, r0⟩ := trodAll_cons hA
  obtain ⟨rfl, rfl, rfl⟩ := trodAll_nil r0
  obtain rfl : args = #[v0] := by cases args; simp_all
  obtain ⟨rfl, rfl⟩ := trodVars_none hV
  obtain ⟨a0, rfl, z0⟩ := open_raw (hval 0 23 v0 rfl rfl) h0 hk (by simp)
  refine (ListSays_walk W hsh h10 a0 z0).mono fun e W' ⟨he, hb⟩ => ?_
  exact ⟨_, he, law_post Tryd_laidOut (by kernel_rfl) rfl rfl Tryd.underlying4 hW' rfl hb⟩

noncomputable def ListSays_world (os : Os) : World := bulks.laidWorld os [
  (5, bulks.flatN 3 Rows.laid_unicode_utf8_acceptRanges),
  (4, bulks.flatN 3 Rows.laid_unicode_utf8_first),
  (6, bulks.flatN 3 Rows.laid_math_bits_deBruijn32tab),
  (7, bulks.flatN 3 Rows.laid_math_bits_deBruijn64tab),
  (1, bulks.flatN 3 Rows.laid_internal_strconv_uint64pow10),
  ]
theorem ListSays_met (os : Os) : laidMet Tryd.prog Rows.listSaysUptoRow.laid ((ListSays_world os).forCall (fun _ _ => 0) ⟨#[], #[.agg #[.int .i64 0, .int .i64 0, .int .i64 0, .string ⟨#[]⟩]], []⟩).memory :=
  laidMet_of_run' 8 (by kernel_rfl) (by kernel_rfl)
theorem ListSays_reads (os : Os) {H : Type} (enc : TypeId × Value → H) : ∃ places, DataW.whole enc Tryd.prog ((ListSays_world os).forCall (fun _ _ => 0) ⟨#[], #[.agg #[.int .i64 0, .int .i64 0, .int .i64 0, .string ⟨#[]⟩]], []⟩).memory Tryd.f4.params.toList Rows.listSaysSpec.vars false (#[.agg #[.int .i64 0, .int .i64 0, .int .i64 0, .string ⟨#[]⟩]] : Array Value).toList 8 = some ([.agg [.lit (.int .i64 0), .lit (.int .i64 0), .lit (.int .i64 0), .lit (.string [])]], [], places) :=
  ⟨[], by kernel_rfl⟩

set_option maxRecDepth 100000 in
theorem ListSays_lifted (os : Os) (started : os.Started) (H : Type) (enc : TypeId × Value → H) (F : Stop.Interp) :
    ReturnsInHanded {} Tryd.checked os 4 .any ((Rows.OpenSpec.upto Rows.listSaysSpec).preRow enc Tryd.prog Tryd.f4 Rows.listSaysUptoRow.domain false Rows.listSaysUptoRow.laid) (((Rows.OpenSpec.upto Rows.listSaysSpec).at F).post enc Tryd.prog Tryd.f4 false true false false) := by
  obtain ⟨places, hx⟩ := ListSays_reads os enc
  refine returnsInHanded_of_row (C := Tryd.checked) (s := Rows.OpenSpec.upto Rows.listSaysSpec) Tryd_own started (by kernel_rfl) Tryd.func4
    (witness_row_at (enc := enc) (C := Tryd.checked) false (ListSays_world os) #[.agg #[.int .i64 0, .int .i64 0, .int .i64 0, .string ⟨#[]⟩]] rfl (by kernel_rfl) (by kernel_rfl) (by kernel_rfl)
      (OpenSpec.preRow_of_cond 8 hx (by kernel_rfl) (fun k hk => by cases hk; kernel_rfl) (by kernel_rfl) (ListSays_met os))) ?_
  intro W base args ds gs before hval hW _ hcond _ hlaid hsh _
  exact ListSays_contract H enc W base args ds gs before hval hW (hcond _ rfl) hsh (P10.of_laid hlaid (by kernel_rfl))

theorem ListSays_said : Rows.ListSaysUptoSaid :=
  OpenClaim.holds_of_cond 4 Tryd.f4 rfl rfl rfl rfl rfl rfl rfl ⟨rfl, rfl, rfl, rfl, rfl⟩ rfl rfl rfl rfl rfl (by kernel_rfl) Tryd.func4 (by kernel_rfl)
    (of_decide_eq_true (by kernel_rfl)) (by unfold Func.isWrapper; rw [if_neg (of_decide_eq_false (by kernel_rfl))]; exact ⟨rfl, rfl⟩)
    (fun os started H enc _ F => by rw [OpenClaim.pre_eq_preRow]; exact ListSays_lifted os started H enc F)
theorem ListSays_plain (f : FuncId) (fn : Func) (hf : Tryd.pinned.checked.prog.funcNamed Rows.listSaysUptoRow.func = some f) (hfn : Tryd.pinned.checked.prog.funcs[f]? = some fn) :
    Rows.listSaysUptoCard.stood.looks = Tryd.pinned.checked.prog.looks [] ∧ ∀ (j : Nat) t, fn.params[j]? = some t → Tryd.pinned.checked.prog.wantsStandIn t = false := by
  obtain rfl : f = 4 := Option.some.inj ((show Tryd.prog.funcNamed Rows.listSaysUptoRow.func = some 4 by kernel_rfl).symm.trans hf) |>.symm
  obtain rfl : fn = Tryd.f4 := (Option.some.inj (Tryd.func4.symm.trans hfn)).symm
  refine ⟨by kernel_rfl, fun j t ht => ?_⟩
  rw [Tryd.params4] at ht
  have hm := Array.mem_of_getElem? ht
  simp only [Array.mem_def, List.mem_cons, List.mem_nil_iff, or_false] at hm
  obtain rfl := hm
  · exact (show Tryd.prog.wantsStandIn 23 = false by kernel_rfl)
theorem ListSays_holds : Rows.ListSaysUptoCardSaid :=
  Claim7.holds_tied_plain_at .later [] _ _ _ _ ListSays_said (fun _ h => by cases h) (by kernel_rfl) (fun _ h => by cases h) listSaysUpto_row_tie rfl ⟨rfl, rfl⟩ (by kernel_rfl) rfl ListSays_plain (by kernel_rfl)
#print axioms ListSays_holds
end Go.Proofs.YtmioinfhggbfkaaDoor
