/-
  The law WriteBack: what it computes is true. Condition: raw things of the second form's bound; the library's table of powers of ten lies as Go laid it.
-/
import Derived.Test.YtmioinfhggbfkaaGreatDoorReadT
import Derived.Test.YtmioinfhggbfkaaGreatDoorEqE
namespace Go.Proofs.YtmioinfhggbfkaaGreatDoor
set_option linter.all false
open Go.RowKit
theorem endT_end : endT endB = true := by
  unfold endT
  rw [endB_len, allZ_end (l := endB) (fun _ hb => List.eq_of_mem_replicate hb)]
  rfl
theorem tail_end : TailOk endB 0 := .inr (.inl ⟨rfl, by rw [endB_len]; omega, allZ_end end_take⟩)
/-- what is archived is read as it was -/
theorem Archive_back (x : List EntP) (hok : EntsOk x) (v : Value) (w : World) (hm : ∀ W, Below w.heap.size w W → ML W) (h10 : ∀ W, Below w.heap.size w W → P10 W) (hv : BytesAt w w.heap.size v (arcB x ++ endB)) :
    Calls Tryz.prog 29 #[v] w fun e w' => ∃ lv, e = .returned (.tuple #[lv, .int .i64 0]) ∧ EntsOwn w' w.heap.size lv x ∧ Below w.heap.size w w' := by
  refine (Archive_any x hok.ent hok.len endB (fun _ => hok) tail_end (by rw [endB_len]; omega) v w hm h10 hv).mono fun e w' hh => ?_
  rcases hh with ⟨-, h⟩ | ⟨h, -⟩
  · exact h
  · rw [endT_end] at h; cases h
set_option maxRecDepth 100000 in
set_option maxHeartbeats 4000000 in
theorem WriteBack_walk (w : World) (hsh : w.ShapedOpen Tryz.prog) (h10 : P10 w) (v : Value) (l : List RawS) (hl : RawsAt w w.heap.size v l) (hok : ∀ x ∈ l, RawOk x) (hn : l.length ≤ 1048576) :
    Calls Tryz.prog 7 #[v] w fun e w' => e = .returned (.bool true) ∧ Below w.heap.size w w' := by
  have hm := ML.of_shaped hsh
  clear hsh
  have HML : Hid (∀ W, Below w.heap.size w W → ML W) := Lib.hid (fun W hb => hm.below hb)
  have HP10 : Hid (∀ W, Below w.heap.size w W → P10 W) := Lib.hid (fun W hb => h10.below hb)
  have HE := Lib.hid (entriesOf_any l v 20 w hm hl hok hn (by omega))
  have hoks := plan_ok (treeP_ok l 20 (by omega))
  obtain ⟨Al, cl, rfl, -⟩ := hl
  clear hm h10 hok hn
  generalize planP (treeP l 20) = x at *
  have HWA := Lib.hid (fun W (hb : Below w.heap.size w W) v (h : EntsOwn W w.heap.size v x) => (show Calls Tryz.prog 28 #[v] W fun e w' => ∃ bv, e = .returned (.tuple #[bv, .int .i64 0]) ∧ BytesOwn w' W.heap.size bv (arcB x ++ endB) ∧ Below W.heap.size W w' by
    obtain ⟨xs, hx⟩ := EntsRow.at_ h
    exact WArchive_ok v x xs W (fun W' hb' => HML.out W' (hb.trans (hb'.mono hb.size))) (fun W' hb' => HP10.out W' (hb.trans (hb'.mono hb.size))) hx hoks))
  have HRD := Lib.hid (fun W v (hb : Below w.heap.size w W) hv => Archive_back x hoks v W (fun W' hb' => HML.out W' (hb.trans (hb'.mono hb.size))) (fun W' hb' => HP10.out W' (hb.trans (hb'.mono hb.size))) hv)
  have HEF := Lib.hid (fun W v1 v2 (b1 b2 : Nat) (h1 : EntsOwn W b1 v1 x) (h2 : EntsOwn W b2 v2 x) => (show Calls Tryz.prog 30 #[v1, v2, .func (.func 25) #[] #[]] W fun e w' => e = .returned (.bool true) ∧ Below W.heap.size W w' by
    obtain ⟨xs, hx⟩ := EntsRow.at_ h1
    obtain ⟨ys, hy⟩ := EntsRow.at_ h2
    exact EqE_any v1 v2 x xs ys W hx hy))
  clear hoks HML HP10
  generalize arcB x ++ endB = M at *
  go_enter Tryz.func7, Tryz.ntmps7
  go_wp2_with fail
  refine HE.out.mono ?_
  rintro e w1 ⟨ev, rfl, hev, b1⟩
  have HB1 := Lib.hid b1
  have HV1 := Lib.hid hev
  obtain ⟨Ae, ce, rfl, -⟩ := hev.slice
  clear hev b1 HE
  go_wp2_with fail
  refine (HWA.out _ HB1.out _ HV1.out).mono ?_
  rintro e w2 ⟨bv, rfl, hbv, b2⟩
  have HB2 := Lib.hid (HB1.out.trans (b2.mono HB1.out.size))
  have HV2 := Lib.hid (HV1.out.below b2)
  have HAT := Lib.hid hbv.at_
  obtain ⟨Ab, cb, evb, -⟩ := hbv.at_
  generalize (List.map ofB M).length = n2 at evb
  subst evb
  clear hbv b2 HWA HV1 HB1
  go_wp2_with fail
  refine (HRD.out _ _ HB2.out HAT.out).mono ?_
  rintro e w3 ⟨lv, rfl, hlv, b3⟩
  have HB3 := Lib.hid (HB2.out.trans (b3.mono HB2.out.size))
  have HV3 := Lib.hid (HV2.out.below b3)
  have HY3 := Lib.hid hlv
  obtain ⟨Ay, cy, rfl, -⟩ := hlv.slice
  clear hlv b3 HRD HAT HB2 HV2
  go_wp2_with fail
  refine (HEF.out _ _ _ _ _ HV3.out HY3.out).mono ?_
  rintro e w4 ⟨rfl, b4⟩
  have HB4 := Lib.hid (HB3.out.trans (b4.mono HB3.out.size))
  clear b4 HEF
  go_wp2_with fail
  go_ret
  exact ⟨rfl, HB4.out⟩
end Go.Proofs.YtmioinfhggbfkaaGreatDoor

