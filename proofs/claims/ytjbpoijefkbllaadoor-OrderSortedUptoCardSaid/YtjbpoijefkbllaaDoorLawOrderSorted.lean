/-
  OrderSorted: whatever the input (of bulk at most 1048576), the law returns true and leaves its arguments as they were.
  Condition: the arguments hold together at most 1048576 values and letters.
-/
import Derived.Test.YtjbpoijefkbllaaDoorCards
import Derived.Test.YtjbpoijefkbllaaDoorTie
import Derived.Test.YtjbpoijefkbllaaDoorWords
import Derived.Test.YtjbpoijefkbllaaDoorOrderSorted
import Derived.Test.YtjbpoijefkbllaaDoorRawW
namespace Go.Proofs.YtjbpoijefkbllaaDoor
open Go.ChangeShapes Go.WideShapes Go.ChangeAt Go.RowKit
open Go.ChangeMaps (open_string)

set_option maxRecDepth 100000 in
set_option linter.unusedVariables false in
theorem OrderSorted_contract (H : Type) (enc : TypeId × Value → H) (W : World) (base : Nat) (args : Array Value) (ds gs : List (DataW H)) (before : List MemPlace)
    (hval : ∀ (j : Nat) t v, Tryd.f3.params[j]? = some t → args[j]? = some v → Value.okWide Tryd.prog W .any base t v)
    (hW : DataW.Whole enc Tryd.prog Tryd.f3.params.toList Rows.orderSortedSpec.vars false W args.toList ds gs before)
    (hk : Rows.uptoSmall H (ds ++ gs) = true)
    (hsh : W.ShapedOpen Tryd.prog) :
    Calls Tryd.prog 3 args W fun e W' => ∃ v, e = .returned v ∧ Rows.orderSortedSpec.post enc Tryd.prog Tryd.f3 false true false false W args v W' := by
  have hW' := hW
  obtain ⟨p, q, hA0, hV, hpq, hfz, hnd⟩ := hW
  have hA : DataW.TrodAll enc Tryd.prog W 0 (fun _ => true) true Tryd.f3.params.toList args.toList ds p := hA0
  rw [Tryd.params3] at hA hval
  obtain ⟨v0, vs0, d0, ds0, p0, q0, hargs, rfl, rfl, h0, r0⟩ := trodAll_cons hA
  obtain ⟨v1, vs1, d1, ds1, p1, q1, rfl, rfl, rfl, h1, r1⟩ := trodAll_cons r0
  obtain ⟨rfl, rfl, rfl⟩ := trodAll_nil r1
  obtain rfl : args = #[v0, v1] := by cases args; simp_all
  obtain ⟨rfl, rfl⟩ := trodVars_none hV
  obtain ⟨l0, o0, z0, n0⟩ := open_raws (hval 0 22 v0 rfl rfl) h0 hk (by simp)
  obtain ⟨l1, o1, w1, e1⟩ := open_intsAt Tryd.underlying23 Tryd.underlying3 (by kernel_rfl) (hval 1 23 v1 rfl rfl) h1
  have z1 : l1.length ≤ 1048576 := by
    rcases e1 with ⟨_, rfl⟩ | ⟨spare, rfl⟩
    · simp
    · have h := bulks.slice_len_le hk (elems := l1.map fun n => .lit (.int .i64 n)) (spare := spare) (List.mem_append_left _ (List.Mem.tail _ (List.Mem.head _)))
      rw [List.length_map] at h
      omega
  refine (OrderSorted_walk W hsh v0 l0 o0 z0 n0 v1 l1 o1 (fun n hn => i64_of_wf (w1 n hn)) z1).mono fun e W' ⟨he, hb⟩ => ?_
  exact ⟨_, he, law_post Tryd_laidOut (by kernel_rfl) rfl rfl Tryd.underlying4 hW' rfl hb⟩

noncomputable def OrderSorted_world (os : Os) : World := bulks.laidWorld os [
  (5, bulks.flatN 3 Rows.laid_unicode_utf8_acceptRanges),
  (4, bulks.flatN 3 Rows.laid_unicode_utf8_first),
  (6, bulks.flatN 3 Rows.laid_math_bits_deBruijn32tab),
  (7, bulks.flatN 3 Rows.laid_math_bits_deBruijn64tab),
  (1, bulks.flatN 3 Rows.laid_internal_strconv_uint64pow10),
  ]
theorem OrderSorted_met (os : Os) : laidMet Tryd.prog Rows.orderSortedUptoRow.laid ((OrderSorted_world os).forCall (fun _ _ => 0) ⟨#[], #[.slice none 0 0, .slice none 0 0], []⟩).memory :=
  laidMet_of_run' 8 (by kernel_rfl) (by kernel_rfl)
theorem OrderSorted_reads (os : Os) {H : Type} (enc : TypeId × Value → H) : ∃ places, DataW.whole enc Tryd.prog ((OrderSorted_world os).forCall (fun _ _ => 0) ⟨#[], #[.slice none 0 0, .slice none 0 0], []⟩).memory Tryd.f3.params.toList Rows.orderSortedSpec.vars false (#[.slice none 0 0, .slice none 0 0] : Array Value).toList 8 = some ([.nil, .nil], [], places) :=
  ⟨[], by kernel_rfl⟩

set_option maxRecDepth 100000 in
theorem OrderSorted_lifted (os : Os) (started : os.Started) (H : Type) (enc : TypeId × Value → H) (F : Stop.Interp) :
    ReturnsInHanded {} Tryd.checked os 3 .any ((Rows.OpenSpec.upto Rows.orderSortedSpec).preRow enc Tryd.prog Tryd.f3 Rows.orderSortedUptoRow.domain false Rows.orderSortedUptoRow.laid) (((Rows.OpenSpec.upto Rows.orderSortedSpec).at F).post enc Tryd.prog Tryd.f3 false true false false) := by
  obtain ⟨places, hx⟩ := OrderSorted_reads os enc
  refine returnsInHanded_of_row (C := Tryd.checked) (s := Rows.OpenSpec.upto Rows.orderSortedSpec) Tryd_own started (by kernel_rfl) Tryd.func3
    (witness_row_at (enc := enc) (C := Tryd.checked) false (OrderSorted_world os) #[.slice none 0 0, .slice none 0 0] rfl (by kernel_rfl) (by kernel_rfl) (by kernel_rfl)
      (OpenSpec.preRow_of_cond 8 hx (by kernel_rfl) (fun k hk => by cases hk; kernel_rfl) (by kernel_rfl) (OrderSorted_met os))) ?_
  intro W base args ds gs before hval hW _ hcond _ _ hsh _
  exact OrderSorted_contract H enc W base args ds gs before hval hW (hcond _ rfl) hsh

theorem OrderSorted_said : Rows.OrderSortedUptoSaid :=
  OpenClaim.holds_of_cond 3 Tryd.f3 rfl rfl rfl rfl rfl rfl rfl ⟨rfl, rfl, rfl, rfl, rfl⟩ rfl rfl rfl rfl rfl (by kernel_rfl) Tryd.func3 (by kernel_rfl)
    (of_decide_eq_true (by kernel_rfl)) (by unfold Func.isWrapper; rw [if_neg (of_decide_eq_false (by kernel_rfl))]; exact ⟨rfl, rfl⟩)
    (fun os started H enc _ F => by rw [OpenClaim.pre_eq_preRow]; exact OrderSorted_lifted os started H enc F)
theorem OrderSorted_plain (f : FuncId) (fn : Func) (hf : Tryd.pinned.checked.prog.funcNamed Rows.orderSortedUptoRow.func = some f) (hfn : Tryd.pinned.checked.prog.funcs[f]? = some fn) :
    Rows.orderSortedUptoCard.stood.looks = Tryd.pinned.checked.prog.looks [] ∧ ∀ (j : Nat) t, fn.params[j]? = some t → Tryd.pinned.checked.prog.wantsStandIn t = false := by
  obtain rfl : f = 3 := Option.some.inj ((show Tryd.prog.funcNamed Rows.orderSortedUptoRow.func = some 3 by kernel_rfl).symm.trans hf) |>.symm
  obtain rfl : fn = Tryd.f3 := (Option.some.inj (Tryd.func3.symm.trans hfn)).symm
  refine ⟨by kernel_rfl, fun j t ht => ?_⟩
  rw [Tryd.params3] at ht
  have hm := Array.mem_of_getElem? ht
  simp only [Array.mem_def, List.mem_cons, List.mem_nil_iff, or_false] at hm
  rcases hm with rfl | rfl
  · exact (show Tryd.prog.wantsStandIn 22 = false by kernel_rfl)
  · exact (show Tryd.prog.wantsStandIn 23 = false by kernel_rfl)
theorem OrderSorted_holds : Rows.OrderSortedUptoCardSaid :=
  Claim7.holds_tied_plain_at .later [] _ _ _ _ OrderSorted_said (fun _ h => by cases h) (by kernel_rfl) (fun _ h => by cases h) orderSortedUpto_row_tie rfl ⟨rfl, rfl⟩ (by kernel_rfl) rfl OrderSorted_plain (by kernel_rfl)
#print axioms OrderSorted_holds
end Go.Proofs.YtjbpoijefkbllaaDoor
