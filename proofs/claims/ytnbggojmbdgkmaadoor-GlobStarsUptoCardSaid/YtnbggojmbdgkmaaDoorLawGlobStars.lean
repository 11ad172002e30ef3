/-
  GlobStars: whatever the input (of bulk at most 1048576), the law returns true and leaves its arguments as they were.
  Condition: the arguments hold together at most 1048576 values and letters.
-/
import Derived.Test.YtnbggojmbdgkmaaDoorCards
import Derived.Test.YtnbggojmbdgkmaaDoorTie
import Derived.Test.YtnbggojmbdgkmaaDoorFrame
import Derived.Test.YtnbggojmbdgkmaaDoorBulk
import Derived.Test.YtnbggojmbdgkmaaDoorGlobTree
import Derived.Test.YtnbggojmbdgkmaaDoorRaws
namespace Go.Proofs.YtnbggojmbdgkmaaDoor
open Go.ChangeShapes Go.WideShapes Go.ChangeAt Go.RowKit
open Go.ChangeMaps (open_string)

set_option maxRecDepth 100000 in
set_option linter.unusedVariables false in
theorem GlobStars_contract (H : Type) (enc : TypeId × Value → H) (W : World) (base : Nat) (args : Array Value) (ds gs : List (DataW H)) (before : List MemPlace)
    (hval : ∀ (j : Nat) t v, Tryd.f10.params[j]? = some t → args[j]? = some v → Value.okWide Tryd.prog W .any base t v)
    (hW : DataW.Whole enc Tryd.prog Tryd.f10.params.toList Rows.globStarsSpec.vars false W args.toList ds gs before)
    (hk : Rows.uptoSmall H (ds ++ gs) = true)
    (hsh : W.ShapedOpen Tryd.prog) :
    Calls Tryd.prog 10 args W fun e W' => ∃ v, e = .returned v ∧ Rows.globStarsSpec.post enc Tryd.prog Tryd.f10 false true false false W args v W' := by
  have hW' := hW
  obtain ⟨p, q, hA0, hV, hpq, hfz, hnd⟩ := hW
  have hA : DataW.TrodAll enc Tryd.prog W 0 (fun _ => true) true Tryd.f10.params.toList args.toList ds p := hA0
  rw [Tryd.params10] at hA hval
  obtain ⟨v0, vs0, d0, ds0, p0, q0, hargs, rfl, rfl, h0, r0⟩ := trodAll_cons hA
  obtain ⟨v1, vs1, d1, ds1, p1, q1, rfl, rfl, rfl, h1, r1⟩ := trodAll_cons r0
  obtain ⟨rfl, rfl, rfl⟩ := trodAll_nil r1
  obtain rfl : args = #[v0, v1] := by cases args; simp_all
  obtain ⟨rfl, rfl⟩ := trodVars_none hV
  obtain ⟨l0, o0, z0, n0⟩ := open_raws (hval 0 47 v0 rfl rfl) h0 hk (by simp)
  obtain ⟨a1, rfl, rfl, rfl, w1⟩ := open_int Tryd.underlying3 (hval 1 3 v1 rfl rfl) h1
  refine (GlobStars_walk W hsh v0 l0 o0 z0 n0 a1 (i64_of_wf w1)).mono fun e W' ⟨he, hb⟩ => ?_
  exact ⟨_, he, law_post Tryd_laidOut (by kernel_rfl) rfl rfl Tryd.underlying4 hW' rfl hb⟩

noncomputable def GlobStars_world (os : Os) : World := bulks.laidWorld os [
  (3, bulks.flatN 3 Rows.laid_unicode_utf8_acceptRanges),
  (2, bulks.flatN 3 Rows.laid_unicode_utf8_first),
  (4, bulks.flatN 3 Rows.laid_math_bits_deBruijn32tab),
  (5, bulks.flatN 3 Rows.laid_math_bits_deBruijn64tab),
  (1, bulks.flatN 3 Rows.laid_internal_strconv_uint64pow10),
  ]
theorem GlobStars_met (os : Os) : laidMet Tryd.prog Rows.globStarsUptoRow.laid ((GlobStars_world os).forCall (fun _ _ => 0) ⟨#[], #[.slice none 0 0, .int .i64 0], []⟩).memory :=
  laidMet_of_run' 8 (by kernel_rfl) (by kernel_rfl)
theorem GlobStars_reads (os : Os) {H : Type} (enc : TypeId × Value → H) : ∃ places, DataW.whole enc Tryd.prog ((GlobStars_world os).forCall (fun _ _ => 0) ⟨#[], #[.slice none 0 0, .int .i64 0], []⟩).memory Tryd.f10.params.toList Rows.globStarsSpec.vars false (#[.slice none 0 0, .int .i64 0] : Array Value).toList 8 = some ([.nil, .lit (.int .i64 0)], [], places) :=
  ⟨[], by kernel_rfl⟩

set_option maxRecDepth 100000 in
theorem GlobStars_lifted (os : Os) (started : os.Started) (H : Type) (enc : TypeId × Value → H) (F : Stop.Interp) :
    ReturnsInHanded {} Tryd.checked os 10 .any ((Rows.OpenSpec.upto Rows.globStarsSpec).preRow enc Tryd.prog Tryd.f10 Rows.globStarsUptoRow.domain false Rows.globStarsUptoRow.laid) (((Rows.OpenSpec.upto Rows.globStarsSpec).at F).post enc Tryd.prog Tryd.f10 false true false false) := by
  obtain ⟨places, hx⟩ := GlobStars_reads os enc
  refine returnsInHanded_of_row (C := Tryd.checked) (s := Rows.OpenSpec.upto Rows.globStarsSpec) Tryd_own started (by kernel_rfl) Tryd.func10
    (witness_row_at (enc := enc) (C := Tryd.checked) false (GlobStars_world os) #[.slice none 0 0, .int .i64 0] rfl (by kernel_rfl) (by kernel_rfl) (by kernel_rfl)
      (OpenSpec.preRow_of_cond 8 hx (by kernel_rfl) (fun k hk => by cases hk; kernel_rfl) (by kernel_rfl) (GlobStars_met os))) ?_
  intro W base args ds gs before hval hW _ hcond _ _ hsh _
  exact GlobStars_contract H enc W base args ds gs before hval hW (hcond _ rfl) hsh

theorem GlobStars_said : Rows.GlobStarsUptoSaid :=
  OpenClaim.holds_of_cond 10 Tryd.f10 rfl rfl rfl rfl rfl rfl rfl ⟨rfl, rfl, rfl, rfl, rfl⟩ rfl rfl rfl rfl rfl (by kernel_rfl) Tryd.func10 (by kernel_rfl)
    (of_decide_eq_true (by kernel_rfl)) (by unfold Func.isWrapper; rw [if_neg (of_decide_eq_false (by kernel_rfl))]; exact ⟨rfl, rfl⟩)
    (fun os started H enc _ F => by rw [OpenClaim.pre_eq_preRow]; exact GlobStars_lifted os started H enc F)
theorem GlobStars_plain (f : FuncId) (fn : Func) (hf : Tryd.pinned.checked.prog.funcNamed Rows.globStarsUptoRow.func = some f) (hfn : Tryd.pinned.checked.prog.funcs[f]? = some fn) :
    Rows.globStarsUptoCard.stood.looks = Tryd.pinned.checked.prog.looks [] ∧ ∀ (j : Nat) t, fn.params[j]? = some t → Tryd.pinned.checked.prog.wantsStandIn t = false := by
  obtain rfl : f = 10 := Option.some.inj ((show Tryd.prog.funcNamed Rows.globStarsUptoRow.func = some 10 by kernel_rfl).symm.trans hf) |>.symm
  obtain rfl : fn = Tryd.f10 := (Option.some.inj (Tryd.func10.symm.trans hfn)).symm
  refine ⟨by kernel_rfl, fun j t ht => ?_⟩
  rw [Tryd.params10] at ht
  have hm := Array.mem_of_getElem? ht
  simp only [Array.mem_def, List.mem_cons, List.mem_nil_iff, or_false] at hm
  rcases hm with rfl | rfl
  · exact (show Tryd.prog.wantsStandIn 47 = false by kernel_rfl)
  · exact (show Tryd.prog.wantsStandIn 3 = false by kernel_rfl)
theorem GlobStars_holds : Rows.GlobStarsUptoCardSaid :=
  Claim7.holds_tied_plain_at .later [] _ _ _ _ GlobStars_said (fun _ h => by cases h) (by kernel_rfl) (fun _ h => by cases h) globStarsUpto_row_tie rfl ⟨rfl, rfl⟩ (by kernel_rfl) rfl GlobStars_plain (by kernel_rfl)
#print axioms GlobStars_holds
end Go.Proofs.YtnbggojmbdgkmaaDoor
