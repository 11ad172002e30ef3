/-
  creelkeep.grows: the closed fact holds. No condition beyond the world's shape.
-/
import Derived.Test.YtngkfelhlabloaaDoorPut
import Derived.Test.YtngkfelhlabloaaDoorSmallP
import Derived.RegionTactic
namespace Go.Proofs.YtngkfelhlabloaaDoor
open Go.RowKit

theorem small_two : TreeOk (smallP.take 2) where
  len := by decide
  node := fun x hx => small_ok.node x (List.mem_of_mem_take hx)
  sorted := by decide
  up := by decide
  alike := by
    intro x hx y hy h
    have hx := List.mem_of_mem_take hx
    simp only [smallP, List.mem_cons, List.mem_nil_iff, or_false] at hx
    rcases hx with rfl | rfl | rfl
    all_goals exact absurd rfl h
theorem small_put : putP (smallP.take 2) smallP[2] = smallP := by decide
theorem small_drop : chkT (smallP.drop 1) = 10 := by decide
theorem own_three {w : World} {base : Nat} {v : Value} (h : NodesOwn w base v smallP) : ∃ (g c : Nat) (dv : Value), v = .slice (some ⟨g, 0, none⟩) 3 c ∧ 3 ≤ c ∧ (c : Int) ≤ 9223372036854775807 ∧ DataAt w base dv [] ∧
    w.cell? ⟨g, 24, none⟩ = some (.string ⟨#[99]⟩) ∧ w.cell? ⟨g, 25, none⟩ = some (.int .i64 3) ∧ w.cell? ⟨g, 26, none⟩ = some (.int .i64 0) ∧ w.cell? ⟨g, 27, none⟩ = some (.string ⟨#[97, 47, 98]⟩) ∧ w.cell? ⟨g, 28, none⟩ = some (.int .i64 0) ∧ w.cell? ⟨g, 29, none⟩ = some (.int .i64 0) ∧ w.cell? ⟨g, 30, none⟩ = some (.int .i64 0) ∧ w.cell? ⟨g, 31, none⟩ = some (.string ⟨#[]⟩) ∧ w.cell? ⟨g, 32, none⟩ = some (.string ⟨#[]⟩) ∧ w.cell? ⟨g, 33, none⟩ = some (.int .i64 0) ∧ w.cell? ⟨g, 34, none⟩ = some (.int .i64 0) ∧ w.cell? ⟨g, 35, none⟩ = some dv := by
  obtain ⟨g, c, hv, _, _, h1, h2, _, hrow⟩ := h.row (by decide)
  obtain ⟨dv, hd, _, hc⟩ := hrow 2 (by decide)
  refine ⟨g, c, dv, hv, h1, by unfold maxLen at h2; omega, hd, hc 0 (by omega), hc 1 (by omega), hc 2 (by omega), hc 3 (by omega), hc 4 (by omega), hc 5 (by omega), hc 6 (by omega), hc 7 (by omega), hc 8 (by omega), hc 9 (by omega), hc 10 (by omega), hc 11 (by omega)⟩
def GrSt (w : World) (tv : Value) (W : World) : Prop := NodesOwn W w.heap.size tv smallP ∧ Below w.heap.size w W
set_option maxRecDepth 100000 in
set_option maxHeartbeats 8000000 in
theorem Grows_any (w : World) (hm : ML w) :
    Calls Tryd.prog 30 #[] w fun e w' => e = .returned (.bool true) ∧ Below w.heap.size w w' := by
  have HML : Hid (∀ W, Below w.heap.size w W → ML W) := Lib.hid (fun W hb => hm.below hb)
  have HPT : Hid (∀ W g c dv, Below w.heap.size w W → NodesAt W (.slice (some ⟨g, 0, none⟩) 3 c) smallP → DataAt W 0 dv [] → Calls Tryd.prog 31 #[.slice (some ⟨g, 0, none⟩) 2 c, .agg #[.string ⟨#[99]⟩, .int .i64 3, .int .i64 0, .string ⟨#[97, 47, 98]⟩, .int .i64 0, .int .i64 0, .int .i64 0, .string ⟨#[]⟩, .string ⟨#[]⟩, .int .i64 0, .int .i64 0, dv]] W fun e w' => ∃ tv, e = .returned (.tuple #[tv, .int .i64 0]) ∧ NodesOwn w' W.heap.size tv smallP ∧ Below W.heap.size W w') := Lib.hid (fun W g c dv hb h hd => by
    have h1 := h.take 2 (by omega)
    refine (Put_any _ (smallP.take 2) (smallP[2], dv) W (HML.out W hb) h1 small_two.node (small_ok.node smallP[2] (by decide)) hd small_two.chk 0 (by rw [small_put]; exact chk_small)).mono ?_
    rintro e w' (⟨-, tv, h2, h3, h4⟩ | ⟨h2, -⟩)
    · rw [small_put] at h3
      exact ⟨tv, h2, h3, h4⟩
    · exact absurd rfl h2)
  clear hm
  have TOK : Hid True := Lib.hid trivial
  go_enter Tryd.func30, Tryd.ntmps30
  go_upto_region 1 with fail
  go_cut [1, 2] (fun s1 s2 wx => s2 = .int .i64 0 ∧ Hid (GrSt w s1 wx))
  case first =>
    go_region_with (first
      | (go_at_call 22; have tk := TOK; clear tk TOK; refine (Small_any _).mono ?_; rintro e w1 ⟨tv1, rfl, hs1, b1⟩; obtain ⟨g1, c1, dv1, rfl, h11, h12, -⟩ := own_three hs1; have H1 : Hid (NodesOwn w1 w.heap.size (.slice (some ⟨g1, 0, none⟩) 3 c1) smallP ∧ Below w.heap.size w w1) := Lib.hid ⟨hs1, (Below.refl w.heap.size w).drew.trans b1⟩; clear hs1 b1)
      | (go_at_call 22; refine (Small_any _).mono ?_; rintro e w2 ⟨tv2, rfl, hs2, b2⟩; obtain ⟨g2, c2, dv2, rfl, h21, h22, hd2, m0, m1, m2, m3, m4, m5, m6, m7, m8, m9, m10, m11⟩ := own_three hs2; have H2 := Lib.hid (And.intro hd2 b2); clear hs2 b2 hd2)
      | (go_at_call 31; go_loud (refine (HPT.out _ _ _ _ (H1.out.2.trans (H2.out.2.mono H1.out.2.size)) (H1.out.1.at_.below H2.out.2) (H2.out.1.mono (Nat.zero_le _))).mono ?_; rintro e w3 ⟨tv3, rfl, hs3, b3⟩; have H3 := Lib.hid (And.intro hs3 b3); clear hs3 b3)))
    all_goals
      have HB2 := Lib.hid (H1.out.2.trans (H2.out.2.mono H1.out.2.size))
      have H4 := Lib.hid (show GrSt w tv3 w3 from ⟨H3.out.1.mono HB2.out.size, HB2.out.trans (H3.out.2.mono HB2.out.size)⟩)
      go_wp2_with fail
      go_meet
      case rel => exact ⟨rfl, H4⟩
  case rest =>
    obtain ⟨rfl, HG⟩ := hcut
    obtain ⟨_, At, ct, -, hte, -⟩ := HG.out.1.at_
    rw [show smallP.length = 3 from rfl] at hte
    subst hte
    have HG2 := Lib.hid HG.out.2
    have HSM : Hid (∀ W v1 v2, NodesAt W v1 smallP → NodesAt W v2 smallP → Calls Tryd.prog 33 #[v1, v2] W fun e w' => e = .returned (.bool true) ∧ Below W.heap.size W w') := Lib.hid (fun W v1 v2 h1 h2 => by
      have := SameTree_any v1 v2 _ _ W h1 h2
      rwa [decide_eq_true rfl] at this)
    go_wp2_with fail
    refine (Small_any _).mono ?_
    rintro e w4 ⟨tv4, rfl, hs4, b4⟩
    have H4 := Lib.hid (And.intro hs4 b4)
    clear hs4 b4
    go_wp2_with fail
    refine (HSM.out _ _ _ (HG.out.1.at_.below H4.out.2) H4.out.1.at_).mono ?_
    rintro e w5 ⟨rfl, b5⟩
    have B5 := Lib.hid (HG2.out.trans ((H4.out.2.trans (b5.mono H4.out.2.size)).mono HG2.out.size))
    clear b5
    go_wp2_with fail
    refine (Small_any _).mono ?_
    rintro e w6 ⟨tv6, rfl, hs6, b6⟩
    obtain ⟨g6, c6, dv6, rfl, h61, h62, -⟩ := own_three hs6
    have B6 := Lib.hid (B5.out.trans (b6.mono B5.out.size))
    have hdr := hs6.at_.drop 1 (by omega)
    rw [if_neg (by omega)] at hdr
    have HCK := Lib.hid (TCheck_any _ _ w6 (HML.out _ B6.out) hdr (fun x hx => small_ok.node x (List.mem_of_mem_drop hx)))
    rw [small_drop] at HCK
    clear hs6 b6 hdr
    go_wp2_with fail
    refine HCK.out.mono ?_
    rintro e w7 ⟨rfl, b7⟩
    have B7 := Lib.hid (B6.out.trans (b7.mono B6.out.size))
    clear b7
    go_wp2_with fail
    go_ret
    exact ⟨rfl, B7.out⟩
end Go.Proofs.YtngkfelhlabloaaDoor
