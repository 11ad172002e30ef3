/-
  FaultFirst: whatever the input (of bulk at most 1048576), the law returns true and leaves its arguments as they were.
  Condition: the arguments hold together at most 1048576 values and letters.
-/
import Derived.Test.YtpanjldionaaiaaGreatDoorCards
import Derived.Test.YtpanjldionaaiaaGreatDoorTie
import Derived.Test.YtpanjldionaaiaaGreatDoorWords
import Derived.Test.YtpanjldionaaiaaGreatDoorLeave
import Derived.Test.YtpanjldionaaiaaGreatDoorFaultL
import Derived.Test.YtpanjldionaaiaaGreatDoorRawW
namespace Go.Proofs.YtpanjldionaaiaaGreatDoor
set_option linter.all false
open Go.ChangeShapes Go.WideShapes Go.ChangeAt Go.RowKit
open Go.ChangeMaps (open_string)
set_option maxRecDepth 100000 in
set_option linter.unusedVariables false in
theorem FaultFirst_contract (H : Type) (enc : TypeId × Value → H) (W : World) (base : Nat) (args : Array Value) (ds gs : List (DataW H)) (before : List MemPlace)
    (hval : ∀ (j : Nat) t v, Tryz.f3.params[j]? = some t → args[j]? = some v → Value.okWide Tryz.prog W .any base t v)
    (hW : DataW.Whole enc Tryz.prog Tryz.f3.params.toList Rows.faultFirstSpec.vars false W args.toList ds gs before)
    (hk : Rows.uptoSmall H (ds ++ gs) = true)
    (hsh : W.ShapedOpen Tryz.prog) :
    Calls Tryz.prog 3 args W fun e W' => ∃ v, e = .returned v ∧ Rows.faultFirstSpec.post enc Tryz.prog Tryz.f3 false true false false W args v W' := by
  have hW' := hW
  obtain ⟨p, q, hA0, hV, hpq, hfz, hnd⟩ := hW
  have hA : DataW.TrodAll enc Tryz.prog W 0 (fun _ => true) true Tryz.f3.params.toList args.toList ds p := hA0
  rw [Tryz.params3] at hA hval
  obtain ⟨v0, vs0, d0, ds0, p0, q0, hargs, rfl, rfl, h0, r0⟩ := trodAll_cons hA
  obtain ⟨v1, vs1, d1, ds1, p1, q1, rfl, rfl, rfl, h1, r1⟩ := trodAll_cons r0
  obtain ⟨rfl, rfl, rfl⟩ := trodAll_nil r1
  obtain rfl : args = #[v0, v1] := by cases args; simp_all
  obtain ⟨rfl, rfl⟩ := trodVars_none hV
  obtain ⟨l0, o0, z0, n0⟩ := open_raws (hval 0 22 v0 rfl rfl) h0 hk (by simp)
  obtain ⟨l1, o1, w1, e1⟩ := open_intsAt Tryz.underlying23 Tryz.underlying3 (by kernel_rfl) (hval 1 23 v1 rfl rfl) h1
  have z1 : l1.length ≤ 1048576 := by
    rcases e1 with ⟨_, rfl⟩ | ⟨spare, rfl⟩
    · simp
    · have h := bulks.slice_len_le hk (elems := l1.map fun n => .lit (.int .i64 n)) (spare := spare) (List.mem_append_left _ (List.Mem.tail _ (List.Mem.head _)))
      rw [List.length_map] at h
      omega
  refine (FaultFirst_walk W hsh v0 l0 o0 z0 n0 v1 l1 o1 (fun n hn => i64_of_wf (w1 n hn)) z1).mono fun e W' ⟨he, hb⟩ => ?_
  exact ⟨_, he, law_post Tryz_laidOut (by kernel_rfl) rfl rfl Tryz.underlying4 hW' rfl hb⟩
noncomputable def FaultFirst_world (os : Os) : World := bulks.laidWorld os [
  (4, bulks.flatN 3 Rows.laid_unicode_utf8_acceptRanges),
  (3, bulks.flatN 3 Rows.laid_unicode_utf8_first),
  (6, bulks.flatN 3 Rows.laid_math_bits_deBruijn32tab),
  (7, bulks.flatN 3 Rows.laid_math_bits_deBruijn64tab),
  (5, bulks.flatN 3 Rows.laid_internal_strconv_uint64pow10),
  ]
theorem FaultFirst_met (os : Os) : laidMet Tryz.prog Rows.faultFirstUptoRow.laid ((FaultFirst_world os).forCall (fun _ _ => 0) ⟨#[], #[.slice none 0 0, .slice none 0 0], []⟩).memory :=
  laidMet_of_run' 8 (by kernel_rfl) (by kernel_rfl)
theorem FaultFirst_reads (os : Os) {H : Type} (enc : TypeId × Value → H) : ∃ places, DataW.whole enc Tryz.prog ((FaultFirst_world os).forCall (fun _ _ => 0) ⟨#[], #[.slice none 0 0, .slice none 0 0], []⟩).memory Tryz.f3.params.toList Rows.faultFirstSpec.vars false (#[.slice none 0 0, .slice none 0 0] : Array Value).toList 8 = some ([.nil, .nil], [], places) :=
  ⟨[], by kernel_rfl⟩
set_option maxRecDepth 100000 in
theorem FaultFirst_lifted (os : Os) (started : os.Started) (H : Type) (enc : TypeId × Value → H) (F : Stop.Interp) :
    ReturnsInHanded {} Tryz.checked os 3 .any ((Rows.OpenSpec.upto Rows.faultFirstSpec).preRow enc Tryz.prog Tryz.f3 Rows.faultFirstUptoRow.domain false Rows.faultFirstUptoRow.laid) (((Rows.OpenSpec.upto Rows.faultFirstSpec).at F).post enc Tryz.prog Tryz.f3 false true false false) := by
  obtain ⟨places, hx⟩ := FaultFirst_reads os enc
  refine returnsInHanded_of_row (C := Tryz.checked) (s := Rows.OpenSpec.upto Rows.faultFirstSpec) Tryz_own started (by kernel_rfl) Tryz.func3
    (witness_row_at (enc := enc) (C := Tryz.checked) false (FaultFirst_world os) #[.slice none 0 0, .slice none 0 0] rfl (by kernel_rfl) (by kernel_rfl) (by kernel_rfl)
      (OpenSpec.preRow_of_cond 8 hx (by kernel_rfl) (fun k hk => by cases hk; kernel_rfl) (by kernel_rfl) (FaultFirst_met os))) ?_
  intro W base args ds gs before hval hW _ hcond _ _ hsh _
  exact FaultFirst_contract H enc W base args ds gs before hval hW (hcond _ rfl) hsh
theorem FaultFirst_said : Rows.FaultFirstUptoSaid :=
  leaving_of_alone rfl rfl rfl rfl (OpenClaim.holds_of_cond 3 Tryz.f3 rfl rfl rfl rfl rfl rfl rfl ⟨rfl, rfl, rfl, rfl, rfl⟩ rfl rfl rfl rfl rfl (by kernel_rfl) Tryz.func3 (by kernel_rfl)
    (of_decide_eq_true (by kernel_rfl)) (by unfold Func.isWrapper; rw [if_neg (of_decide_eq_false (by kernel_rfl))]; exact ⟨rfl, rfl⟩)
    (fun os started H enc _ F => by rw [OpenClaim.pre_eq_preRow]; exact FaultFirst_lifted os started H enc F))
theorem FaultFirst_plain (f : FuncId) (fn : Func) (hf : Tryz.pinned.checked.prog.funcNamed Rows.faultFirstUptoRow.func = some f) (hfn : Tryz.pinned.checked.prog.funcs[f]? = some fn) :
    Rows.faultFirstUptoCard.stood.looks = Tryz.pinned.checked.prog.looks [] ∧ ∀ (j : Nat) t, fn.params[j]? = some t → Tryz.pinned.checked.prog.wantsStandIn t = false := by
  obtain rfl : f = 3 := Option.some.inj ((show Tryz.prog.funcNamed Rows.faultFirstUptoRow.func = some 3 by kernel_rfl).symm.trans hf) |>.symm
  obtain rfl : fn = Tryz.f3 := (Option.some.inj (Tryz.func3.symm.trans hfn)).symm
  refine ⟨by kernel_rfl, fun j t ht => ?_⟩
  rw [Tryz.params3] at ht
  have hm := Array.mem_of_getElem? ht
  simp only [Array.mem_def, List.mem_cons, List.mem_nil_iff, or_false] at hm
  rcases hm with rfl | rfl
  · exact (show Tryz.prog.wantsStandIn 22 = false by kernel_rfl)
  · exact (show Tryz.prog.wantsStandIn 23 = false by kernel_rfl)
theorem FaultFirst_holds : Rows.FaultFirstUptoCardSaid :=
  tied_goes .later _ _ _ _ _ FaultFirst_said (by kernel_rfl) faultFirstUpto_row_tie rfl ⟨rfl, rfl⟩ (by kernel_rfl) rfl FaultFirst_plain (by kernel_rfl)
#print axioms FaultFirst_holds
end Go.Proofs.YtpanjldionaaiaaGreatDoor
