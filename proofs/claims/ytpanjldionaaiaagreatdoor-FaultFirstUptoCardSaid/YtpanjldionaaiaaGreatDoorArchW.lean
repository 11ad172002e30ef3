/-
  write.Archive, write.Places at members that may be, each once. Condition: the library's table of powers of ten lies as Go laid it.
  The laws WriteEnds and WriteFront: what they compute is true. Condition: raw things of the second form's bound; the library's table of powers of ten lies as Go laid it.
-/
import Derived.Test.YtpanjldionaaiaaGreatDoorMembers
import Derived.Test.YtpanjldionaaiaaGreatDoorPChecksS
import Derived.IntWalk
import Derived.Test.YtpanjldionaaiaaGreatDoorMake
import Derived.Test.YtpanjldionaaiaaGreatDoorTree
import Derived.Deep.QuietTactic
import Derived.BigQuiet
namespace Go.Proofs.YtpanjldionaaiaaGreatDoor
set_option linter.all false
section
open Go.RowKit
/-- in the loop of Archive -/
def ArSt (w0 : World) (v : Value) (t : List UInt8) (w : World) : Prop := Below w0.heap.size w0 w ∧ BytesOwn w w0.heap.size v t
theorem ArSt.below {w0 w w' : World} {v : Value} {t : List UInt8} (h : ArSt w0 v t w) (hb : Below w.heap.size w w') : ArSt w0 v t w' := ⟨h.1.trans (hb.mono h.1.size), h.2.below hb⟩
def IntRow (w : World) (base : Nat) (v : Value) (l : List Int) : Prop := w.ownsRow base 3 1 v l.length (l.map (.int .i64))
theorem IntRow.below {w w' : World} {base : Nat} {v : Value} {l : List Int} (h : IntRow w base v l) (hb : Below w.heap.size w w') : IntRow w' base v l := ownsRow_below h hb
def PlSt (w0 : World) (v : Value) (l : List Int) (w : World) : Prop := Below w0.heap.size w0 w ∧ IntRow w w0.heap.size v l
theorem PlSt.below {w0 w w' : World} {v : Value} {t : List Int} (h : PlSt w0 v t w) (hb : Below w.heap.size w w') : PlSt w0 v t w' := ⟨h.1.trans (hb.mono h.1.size), h.2.below hb⟩
theorem PlSt.snoc {w0 w w' : World} {v v' : Value} {t : List Int} {x : Int} (h : PlSt w0 v t w) (hg : w.grownBy w' v.ownBlock) (ho : w'.ownsRow w0.heap.size 3 1 v' (t.length + 1) (t.map (.int .i64) ++ [.int .i64 x])) : PlSt w0 v' (t ++ [x]) w' := by
  refine ⟨h.1.grown hg h.1.size (fun k e => (own_typed h.2 e).1), ?_⟩
  unfold IntRow
  rw [List.length_append, List.map_append]
  exact ho
end
section
open Go.RowKit
theorem small_plan_ : (planP (filterP smallP [])).length = 3 := by rw [planP_length, filter_none_ small_ok]; rfl
set_option maxRecDepth 100000 in
set_option maxHeartbeats 4000000 in
theorem entriesOf_any (l : List RawS) (v : Value) (most : Nat) (w : World) (hm : ML w) (hl : RawsAt w w.heap.size v l) (hok : ∀ x ∈ l, RawOk x) (hn : l.length ≤ 1048576) (hmost : most ≤ 40) :
    Calls Tryz.prog 11 #[v, .int .i64 most] w fun e w' => ∃ ev, e = .returned (.tuple #[ev, .bool true]) ∧ EntsOwn w' w.heap.size ev (planP (treeP l most)) ∧ Below w.heap.size w w' := by
  have HML : Hid (∀ W, Below w.heap.size w W → ML W) := Lib.hid (fun W hb => hm.below hb)
  have HT := Lib.hid (fun (_ : Unit) => Tree_any l v most w hm hl hok hn hmost)
  have hto := treeP_ok l most hmost
  have HMK := Lib.hid (fun W v1 t (hb : Below w.heap.size w W) (h : NodesAt W v1 t) (ht : TreeOk t) => Make_any v1 (.slice none 0 0) t [] W (fun W' hb' => HML.out W' (hb.trans (hb'.mono hb.size))) h ht (RulesAt.nil W) (by simp))
  have HFN := Lib.hid (filter_none_ hto)
  obtain ⟨Al, cl, rfl, -⟩ := hl
  clear hm hok hn
  generalize treeP l most = t at *
  have HTO := Lib.hid hto
  clear hto
  go_enter Tryz.func11, Tryz.ntmps11
  go_wp2_with fail
  refine (HT.out ()).mono ?_
  rintro e' w1 ⟨tv, rfl, htv, b1⟩
  have B1 := Lib.hid b1
  have H1 := Lib.hid (HMK.out w1 tv t b1 htv.at_ HTO.out)
  obtain ⟨_, At, ct, -, hte, -⟩ := htv.at_
  subst hte
  clear b1 htv HT
  go_wp2_with fail
  refine H1.out.mono ?_
  rintro e' w2 ⟨xv, rfl, hxv, b2⟩
  rw [HFN.out] at hxv
  have B2 := Lib.hid (B1.out.trans (b2.mono B1.out.size))
  have HX2 := Lib.hid (hxv.mono B1.out.size)
  obtain ⟨Ax, cx, hxe, -⟩ := hxv.slice
  subst hxe
  clear b2 hxv H1
  go_wp2_with fail
  refine (Small_any _).mono ?_
  rintro e' w3 ⟨sv, rfl, hsv, b3⟩
  have B3 := Lib.hid (B2.out.trans (b3.mono B2.out.size))
  have HX3 := Lib.hid (HX2.out.below b3)
  have H3 := Lib.hid (HMK.out w3 sv smallP B3.out hsv.at_ small_ok)
  obtain ⟨_, As, cs, -, hse, -⟩ := hsv.at_
  subst hse
  clear b3 hsv HX2
  go_wp2_with fail
  refine H3.out.mono ?_
  rintro e' w4 ⟨ov, rfl, hov, b4⟩
  have B4 := Lib.hid (B3.out.trans (b4.mono B3.out.size))
  have HX4 := Lib.hid (HX3.out.below b4)
  obtain ⟨Ao, co, hoe, -⟩ := hov.slice
  rw [small_plan_] at hoe
  subst hoe
  clear b4 hov H3 HX3
  go_wp2_with fail
  go_ret2
  exact ⟨_, rfl, HX4.out, B4.out⟩
/-! ### slices.IsSorted at []int -/
/-! ### lengths -/
end
end Go.Proofs.YtpanjldionaaiaaGreatDoor
