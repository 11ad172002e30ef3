/-
  The law PlanGood: what it computes is true. Condition: raw things of the second form's bound.
-/
import Derived.Test.YtjglenhhgbokbaaGreatDoorPChecks
import Derived.Test.YtjglenhhgbokbaaGreatDoorTree
namespace Go.Proofs.YtjglenhhgbokbaaGreatDoor
open Go.RowKit

set_option maxRecDepth 100000 in
set_option maxHeartbeats 8000000 in
/-- a member in a directory that is not there -/
theorem PCheck_up (v : Value) (x : EntP) (xs : List EntV) (w : World) (hm : ∀ W, Below w.heap.size w W → ML W) (hl : EntsAt w v [x] xs) (hok : EntOk x) (hu : upP x.path ≠ []) :
    Calls Tryz.prog 18 #[v] w fun e w' => e = .returned (.int .i64 10) ∧ Below w.heap.size w w' := by
  have HLA := Lib.hid hl
  have HML := Lib.hid hm
  have HOK := Lib.hid hok
  have hpl := hok.path.2
  obtain ⟨A, c, -, rfl, hlc, hc, -, -⟩ := hl
  simp only [List.length_cons, List.length_nil, Nat.zero_add] at hlc HLA ⊢
  unfold maxLen at hc
  have H0 : Hid (PcSt w xs 0 (w.alloc (.map #[] 0))) := Lib.hid ⟨(Below.refl _ _).alloc (Nat.le_refl _) _, [], SMap.new w, PcM.start xs⟩
  have hsz0 : w.heap.size < (w.alloc (.map #[] 0)).heap.size := by simp
  clear hm hok
  have hmm := @run_makeMap Tryz.prog
  go_enter Tryz.func18, Tryz.ntmps18
  go_wp2_with fail
  clear hmm
  go_loopg [15] 1 (fun gg s15 wr => s15 = .int .i64 0 ∧ Hid (PcSt w xs 0 wr))
  case atStart => exact ⟨rfl, H0⟩
  case round =>
    obtain ⟨rfl, HS⟩ := hrel
    obtain ⟨ad, hkx, Ad, cd, rfl, hb, hxe, hdx, e0, e1, e2, e3, e4, e5, e6, e7, e8, e9, e10⟩ := (HLA.out.below HS.out.1).read (show 0 < [x].length by simp)
    simp only [List.getElem_cons_zero] at hdx hxe e0 e1 e2 e3 e4 e5 e6 e7 e8 e9 e10
    have HRT := Lib.hid (fun W hm => PRight_ok _ HOK.out Ad cd W hm)
    have HUN := Lib.hid hu
    clear hxe hdx hu
    obtain ⟨np, nk, nt, ⟨o1, o2, o3, o4, o5, o6, o7⟩, nd⟩ := x
    simp only at hpl HUN HRT e0 e1 e2 e3 e4 e5 e6 e7 e8 e9 e10
    have HSB : Hid (PcNd w xs 0 wr.heap.size (⟨np, nk, nt, ⟨o1, o2, o3, o4, o5, o6, o7⟩, nd⟩, .slice Ad nd.length cd) (wr.alloc (.cells #[.string (bs np), .int .i64 nk, .string (bs nt), .int .i64 o1, .int .i64 o2, .int .i64 o3, .string (bs o4), .string (bs o5), .int .i64 o6, .int .i64 o7, .slice Ad nd.length cd] 51))) := Lib.hid ⟨HS.out.below ((Below.refl _ _).alloc (Nat.le_refl _) _), Blk.new wr _ _, by
      obtain ⟨_, M, hM, _⟩ := HS.out
      exact hM.lt⟩
    unfold entC at HRT
    simp only at HRT
    have ha0 : ad.add (0 * 11) = ad := by unfold Addr.add; rw [if_pos rfl]
    rw [ha0] at e0 e1 e2 e3 e4 e5 e6 e7 e8 e9 e10
    clear ha0
    go_wp2_with fail
    refine (HRT.out _ (HML.out _ HSB.out.1.1)).mono ?_
    rintro e w1 ⟨rfl, hb1⟩
    have hS1 := Lib.hid (HSB.out.below hb1)
    clear hb1
    go_upto_region 10 with fail
    clear e0 e1 e2 e3 e4 e5 e6 e7 e8 e9 e10 HSB HRT
    obtain ⟨g5, hg5⟩ : ∃ g5, g5 = wr.heap.size := ⟨_, rfl⟩
    rw [← hg5] at hS1 ⊢
    clear hg5
    refine wp_region_quiet_below mixed_ok (by kernel_rfl) ?_
    repeat (go_big_quiet_step (fail))
    refine wpQuiet_nil ?_
    intro _ hw'
    obtain ⟨⟨dq, osq⟩, hw''⟩ := hw'
    subst hw''
    have HS4 := Lib.hid (hS1.out.below (below_regrown w1 dq osq))
    generalize Sort.grow (redrawn w1 dq) osq = w4 at *
    have c0 : w4.cell? ⟨g5, 0, none⟩ = some (.string (bs np)) := HS4.out.2.1.cell 0
    have HUP := Lib.hid (fun W => Up_any np (by omega) W)
    have t1 : ¬ (bs (upP np)).toList = [] := by rw [bs_toList]; exact HUN.out
    have t2 : (bs (upP np)).toList.isEmpty = false := by rw [bs_toList]; exact List.isEmpty_eq_false_iff.2 HUN.out
    obtain ⟨hB, M, hM, hPM⟩ := HS4.out.1
    have hM2 := hPM (upP np)
    rw [List.take_zero] at hM2
    have hlk := hM.get (P := Tryz.prog) (t := 82) Tryz.underlying82 Tryz.underlying9 (zeroE w4) (upP np)
    rw [hM2] at hlk
    simp only [List.find?_nil, Option.map_none, Option.getD_none] at hlk
    have HBF := Lib.hid hB
    clear hM hPM hM2 hB
    go_upto_region 13 with (go_at_call 34; (with_reducible refine (HUP.out _).mono ?_); rintro e w' ⟨rfl, rfl⟩)
    have hfk := fun (w : World) a0 a1 a2 a3 a4 a5 a6 a7 a8 a9 a10 => field_kind w a0 a1 a2 a3 a4 a5 a6 a7 a8 a9 a10
    go_wp2_with fail
    go_ret
    exact ⟨rfl, HBF.out⟩
def cG (b : Bool) : RuleG := ⟨b, [99], [[.inl 99]], ⟨by decide, by decide, by decide, by simp [okP]⟩⟩
theorem small_c : (planP (filterP smallP [cG false])).length = 2 := by rw [planP_length]; decide
theorem RulesAt.litC {w : World} (r : RuleG) : RulesAt (w.alloc (.cells #[.bool r.take, .string (bs r.pat)] 31)) (.slice (some ⟨w.heap.size, 0, none⟩) 1 1) [r] :=
  ⟨w.heap.size, ⟨rfl, .inr ⟨w.heap.size, 1, _, rfl, Nat.le_refl _, heap_alloc_new w _, Nat.le_refl _, by simp [maxLen], rfl, rfl⟩⟩⟩
theorem rulesG_lenC {rs : List RuleG} {l : List RawS} {most : Nat} (h : rs.map ruleP_ = rulesP l most) : rs.length ≤ most := by
  have := congrArg List.length h
  rw [List.length_map] at this
  rw [this]
  exact rulesP_len l most
def lostE : EntP := ⟨[97, 47, 98], 1, [], metaZ, []⟩
theorem lost_ok : EntOk lostE := ⟨by decide, metaZ_ok, .inl rfl, by decide, fun _ => rfl, by decide⟩
theorem lost_at (w : World) : EntsAt (w.alloc (.cells #[.string ⟨#[97, 47, 98]⟩, .int .i64 1, .string ⟨#[]⟩, .int .i64 0, .int .i64 0, .int .i64 0, .string ⟨#[]⟩, .string ⟨#[]⟩, .int .i64 0, .int .i64 0, .slice none 0 0] 51)) (.slice (some ⟨w.heap.size, 0, none⟩) 1 1) [lostE] [(lostE, .slice none 0 0)] := by
  refine ⟨some ⟨w.heap.size, 0, none⟩, 1, rfl, rfl, Nat.le_refl _, by simp [maxLen], ?_, fun x hx => ?_⟩
  · have h := new_row w 51 (entV (lostE, .slice none 0 0)) 1 11 rfl
    have hz : (w.alloc (.cells #[.string ⟨#[97, 47, 98]⟩, .int .i64 1, .string ⟨#[]⟩, .int .i64 0, .int .i64 0, .int .i64 0, .string ⟨#[]⟩, .string ⟨#[]⟩, .int .i64 0, .int .i64 0, .slice none 0 0] 51)).heap.size = w.heap.size + 1 := by simp
    rw [hz]
    exact h
  · rw [List.mem_singleton] at hx
    subst hx
    exact DataAt.nil _ _
set_option maxRecDepth 100000 in
set_option maxHeartbeats 8000000 in
theorem PlanGood_walk (w : World) (hsh : w.ShapedOpen Tryz.prog) (v : Value) (l : List RawS) (hl : RawsAt w w.heap.size v l) (hok : ∀ x ∈ l, RawOk x) (hn : l.length ≤ 1048576) (v2 : Value) (m : List RawS) (hl2 : RawsAt w w.heap.size v2 m) (hok2 : ∀ x ∈ m, RawOk x) (hn2 : m.length ≤ 1048576) :
    Calls Tryz.prog 6 #[v, v2] w fun e w' => e = .returned (.bool true) ∧ Below w.heap.size w w' := by
  have hm := ML.of_shaped hsh
  clear hsh
  have HML : Hid (∀ W, Below w.heap.size w W → ML W) := Lib.hid (fun W hb => hm.below hb)
  have HT := Lib.hid (fun (_ : Unit) => Tree_any l v 30 w hm hl hok hn (by omega))
  have HR : Hid (∀ W, Below w.heap.size w W → Calls Tryz.prog 10 #[v2, .int .i64 4] W fun e w' => ∃ rv, e = .returned rv ∧ RulesOwn w' W.heap.size rv (rulesP m 4) ∧ Below W.heap.size W w') := Lib.hid (fun W hb => Rules_any m v2 4 W ((hl2.below hb).more hb.size) hok2 hn2 (by omega))
  obtain ⟨rs, hrs⟩ := rules_known (l := rulesP m 4) (rules_mem m 4)
  have hrl := rulesG_lenC hrs
  have hto := treeP_ok l 30 (by omega)
  rw [← hrs] at HR
  have HMK : Hid (∀ W x y (a : List NodeP) (rs : List RuleG), Below w.heap.size w W → NodesAt W x a → TreeOk a → RulesAt W y rs → rs.length ≤ 12 → Calls Tryz.prog 16 #[x, y] W fun e w' => ∃ ev, e = .returned (.tuple #[ev, .int .i64 0]) ∧ EntsOwn w' W.heap.size ev (planP (filterP a rs)) ∧ Below W.heap.size W w') := Lib.hid (fun W x y a rs hb h1 h2 h3 h4 => Make_any x y a rs W (fun W2 h => HML.out W2 (hb.trans (h.mono hb.size))) h1 h2 h3 h4)
  clear hm hl hok hn hl2 hok2 hn2 hrs
  generalize treeP l 30 = t at *
  have HTO := Lib.hid hto
  have HPO := Lib.hid (plan_ok (filter_ok hto rs))
  clear hto
  go_enter Tryz.func6, Tryz.ntmps6
  go_wp2_with fail
  refine (HT.out ()).mono ?_
  rintro e' w1 ⟨tv, rfl, htv, b1⟩
  have B1 := Lib.hid b1
  have HT1 := Lib.hid htv.at_
  clear b1 htv HT
  go_wp2_with fail
  refine (HR.out _ B1.out).mono ?_
  rintro e' w2 ⟨rv, rfl, hrv, b2⟩
  have B2 := Lib.hid (B1.out.trans (b2.mono B1.out.size))
  have H2 := Lib.hid (HMK.out w2 tv rv t rs B2.out (HT1.out.below b2) HTO.out ⟨_, hrv⟩ (by omega))
  clear b2 hrv HT1 HR
  go_wp2_with fail
  refine H2.out.mono ?_
  rintro e' w3 ⟨xv, rfl, hxv, b3⟩
  have B3 := Lib.hid (B2.out.trans (b3.mono B2.out.size))
  have HX3 := Lib.hid hxv
  obtain ⟨Ax, cx, hxe, -, -⟩ := hxv.slice
  subst hxe
  clear b3 hxv H2
  go_wp2_with fail
  refine (Small_any _).mono ?_
  rintro e' w4 ⟨sv, rfl, hsv, b4⟩
  have B4 := Lib.hid (B3.out.trans (b4.mono B3.out.size))
  have HX4 := Lib.hid (HX3.out.below b4)
  have bL := (Below.refl w4.heap.size w4).alloc (Nat.le_refl _) (.cells #[.bool false, .string ⟨#[99]⟩] 31)
  have HBL := Lib.hid bL
  have H4 : Hid (Calls Tryz.prog 16 #[sv, .slice (some ⟨w4.heap.size, 0, none⟩) 1 1] (w4.alloc (.cells #[.bool false, .string ⟨#[99]⟩] 31)) fun e w' => ∃ ev, e = .returned (.tuple #[ev, .int .i64 0]) ∧ EntsOwn w' (w4.alloc (.cells #[.bool false, .string ⟨#[99]⟩] 31)).heap.size ev (planP (filterP smallP [cG false])) ∧ Below (w4.alloc (.cells #[.bool false, .string ⟨#[99]⟩] 31)).heap.size (w4.alloc (.cells #[.bool false, .string ⟨#[99]⟩] 31)) w') := Lib.hid (HMK.out _ _ _ smallP [cG false] (B4.out.trans (HBL.out.mono B4.out.size)) (hsv.at_.below HBL.out) small_ok (RulesAt.litC (cG false)) (by simp))
  clear b4 bL hsv HX3
  go_wp2_with fail
  refine H4.out.mono ?_
  rintro e' w5 ⟨ov, rfl, hov, b5⟩
  have HB5 := Lib.hid (HBL.out.trans (b5.mono HBL.out.size))
  have B5 := Lib.hid (B4.out.trans (HB5.out.mono B4.out.size))
  have HX5 := Lib.hid (HX4.out.below HB5.out)
  obtain ⟨Ao, co, hoe, -⟩ := hov.slice
  rw [small_c] at hoe
  subst hoe
  obtain ⟨xs, hxs⟩ := EntsRow.at_ HX5.out
  have H5 := Lib.hid (PCheck_ok _ _ xs w5 (fun W h => HML.out W (B5.out.trans (h.mono B5.out.size))) hxs HPO.out)
  clear b5 hov H4 HX4 hxs
  go_wp2_with fail
  refine H5.out.mono ?_
  rintro e' w6 ⟨rfl, b6⟩
  have B6 := Lib.hid (B5.out.trans (b6.mono B5.out.size))
  have bE := (Below.refl w6.heap.size w6).alloc (Nat.le_refl _) (.cells #[.string ⟨#[97, 47, 98]⟩, .int .i64 1, .string ⟨#[]⟩, .int .i64 0, .int .i64 0, .int .i64 0, .string ⟨#[]⟩, .string ⟨#[]⟩, .int .i64 0, .int .i64 0, .slice none 0 0] 51)
  have HBE := Lib.hid (B6.out.trans (bE.mono B6.out.size))
  have H6 := Lib.hid (PCheck_up _ lostE _ _ (fun W h => HML.out W (HBE.out.trans (h.mono HBE.out.size))) (lost_at w6) lost_ok (by decide))
  clear b6 bE H5
  go_wp2_with fail
  refine H6.out.mono ?_
  rintro e' w7 ⟨rfl, b7⟩
  have B7 := Lib.hid (HBE.out.trans (b7.mono HBE.out.size))
  clear b7
  go_wp2_with fail
  go_ret
  exact ⟨rfl, B7.out⟩
end Go.Proofs.YtjglenhhgbokbaaGreatDoor
