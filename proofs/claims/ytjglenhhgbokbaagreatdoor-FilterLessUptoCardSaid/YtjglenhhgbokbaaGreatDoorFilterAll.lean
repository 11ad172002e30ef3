/-
  The laws FilterAll and FilterLess: what they compute is true. Condition: raw things of the second form's bound.
-/
import Derived.Test.YtjglenhhgbokbaaGreatDoorFilt
import Derived.Test.YtjglenhhgbokbaaGreatDoorTree
namespace Go.Proofs.YtjglenhhgbokbaaGreatDoor
open Go.RowKit

theorem RulesAt.litA {w : World} (r : RuleG) : RulesAt (w.alloc (.cells #[.bool r.take, .string (bs r.pat)] 31)) (.slice (some ⟨w.heap.size, 0, none⟩) 1 1) [r] :=
  ⟨w.heap.size, ⟨rfl, .inr ⟨w.heap.size, 1, _, rfl, Nat.le_refl _, heap_alloc_new w _, Nat.le_refl _, by simp [maxLen], rfl, rfl⟩⟩⟩
theorem rulesG_lenA {rs : List RuleG} {l : List RawS} {most : Nat} (h : rs.map ruleP_ = rulesP l most) : rs.length ≤ most := by
  have := congrArg List.length h
  rw [List.length_map] at this
  rw [this]
  exact rulesP_len l most
theorem rules_app_end {w2 w3 w9 : World} {v v9 : Value} {rs : List RuleG} (b : Bool) (o : Obj) (h3 : RulesOwn w3 w2.heap.size v (rs.map ruleP_)) (hb : Below w2.heap.size w2 w3) (hg : (w3.alloc o).grownBy w9 v.ownBlock) (hown : w9.ownsRow w2.heap.size 31 2 v9 (rs.length + 1) ((rs.map ruleP_).flatMap ruleC ++ [.bool b, .string ⟨#[42, 42]⟩])) : RulesAt w9 v9 (rs ++ [allG b]) ∧ Below w2.heap.size w2 w9 := by
  have bA := (Below.refl w3.heap.size w3).alloc (Nat.le_refl _) o
  refine ⟨⟨w2.heap.size, ?_⟩, (hb.trans (bA.mono hb.size)).grown hg (Nat.le_trans hb.size bA.size) (fun g e => (own_typed (ownsRow_below h3 bA) e).1)⟩
  unfold RulesOwn
  rw [List.length_map, List.length_append, List.map_append, List.flatMap_append]
  exact hown
theorem rules_count {rs : List RuleG} : ((rs.map ruleP_).flatMap ruleC).length = rs.length * 2 := by rw [flat_length ruleC_length, List.length_map]
set_option maxRecDepth 100000 in
set_option maxHeartbeats 8000000 in
theorem FilterAll_walk (w : World) (hsh : w.ShapedOpen Tryz.prog) (v : Value) (l : List RawS) (hl : RawsAt w w.heap.size v l) (hok : ∀ x ∈ l, RawOk x) (hn : l.length ≤ 1048576) (v2 : Value) (m : List RawS) (hl2 : RawsAt w w.heap.size v2 m) (hok2 : ∀ x ∈ m, RawOk x) (hn2 : m.length ≤ 1048576) :
    Calls Tryz.prog 3 #[v, v2] w fun e w' => e = .returned (.bool true) ∧ Below w.heap.size w w' := by
  have hm := ML.of_shaped hsh
  clear hsh
  have HML : Hid (∀ W, Below w.heap.size w W → ML W) := Lib.hid (fun W hb => hm.below hb)
  have HT := Lib.hid (fun (_ : Unit) => Tree_any l v 20 w hm hl hok hn (by omega))
  have HR : Hid (∀ W, Below w.heap.size w W → Calls Tryz.prog 10 #[v2, .int .i64 5] W fun e w' => ∃ rv, e = .returned rv ∧ RulesOwn w' W.heap.size rv (rulesP m 5) ∧ Below W.heap.size W w') := Lib.hid (fun W hb => Rules_any m v2 5 W ((hl2.below hb).more hb.size) hok2 hn2 (by omega))
  obtain ⟨rs, hrs⟩ := rules_known (l := rulesP m 5) (rules_mem m 5)
  have hrl := rulesG_lenA hrs
  have hto := treeP_ok l 20 (by omega)
  rw [← hrs] at HR
  have HRUN : Hid (∀ W x y (a : List NodeP) (rs : List RuleG), Below w.heap.size w W → NodesAt W x a → TreeOk a → RulesAt W y rs → rs.length ≤ 12 → Calls Tryz.prog 9 #[x, y] W fun e w' => ∃ tv, e = .returned (.tuple #[tv, .int .i64 0]) ∧ NodesOwn w' W.heap.size tv (filterP a rs) ∧ Below W.heap.size W w') := Lib.hid (fun W x y a rs hb h1 h2 h3 h4 => FRun_any x y a rs W (fun W2 h => HML.out W2 (hb.trans (h.mono hb.size))) h1 h2 h3 h4)
  clear hm hl hok hn hl2 hok2 hn2 hrs
  generalize treeP l 20 = t at *
  have HTO := Lib.hid hto
  have hlen := hto.len
  have HF0 := Lib.hid (filter_none_ hto)
  have HF1 := Lib.hid (filter_all hto rs)
  have HF2 := Lib.hid (filter_nothing hto rs)
  have HCT := Lib.hid (rules_count (rs := rs))
  obtain ⟨i9, hi9, hy0, hy1, hy2⟩ := info_parts ruleinfo
  clear hto
  go_enter Tryz.func3, Tryz.ntmps3
  go_wp2_with fail
  refine (HT.out ()).mono ?_
  rintro e' w1 ⟨tv, rfl, htv, b1⟩
  have B1 := Lib.hid b1
  have HT1 := Lib.hid htv.at_
  have H1 := Lib.hid (HRUN.out w1 tv _ t [] b1 htv.at_ HTO.out (RulesAt.nil _) (by simp))
  rw [HF0.out] at H1
  obtain ⟨_, At, ct, -, hte, hct1, hct2, -⟩ := htv.at_
  subst hte
  unfold maxLen at hct2
  clear b1 htv HT HF0
  go_wp2_with fail
  refine H1.out.mono ?_
  rintro e' w2 ⟨xv, rfl, hxv, b2⟩
  have B2a := Lib.hid (B1.out.trans (b2.mono B1.out.size))
  have HT2 := Lib.hid (HT1.out.below b2)
  have HX2 := Lib.hid hxv.at_
  obtain ⟨_, Ax, cx, -, hxe, hcx1, hcx2, -⟩ := hxv.at_
  subst hxe
  clear b2 hxv HT1 H1
  go_wp2_with fail
  refine (HR.out _ B2a.out).mono ?_
  rintro e' w3 ⟨rva, rfl, hrva, b3⟩
  have HRVa := Lib.hid hrva
  have HB3a := Lib.hid b3
  obtain ⟨Ara, cra, hrea, hrc1a, hrc2a, -⟩ := ownsRow_read hrva
  rw [List.length_map] at hrea hrc1a
  subst hrea
  have HOWa : Hid (w3.ownsRow w2.heap.size 31 2 (.slice Ara rs.length cra) rs.length ((rs.map ruleP_).flatMap ruleC)) := Lib.hid (by have h := HRVa.out; unfold RulesOwn at h; rw [List.length_map] at h; exact h)
  have hsza := b3.size
  clear b3 hrva
  go_wp2_with (at_builtin; refine wpList_append_any _ rfl (.tmp 24) (.tmp 26) _ rfl w2.heap.size 31 i9 _ 2 24 Tryz.underlying28 hi9 hy0 hy1 hy2 rfl (by omega) _ rs.length _ rfl (ownsRow_below HOWa.out ((Below.refl _ _).alloc (Nat.le_refl _) _)) (w3.heap.size + 1) (some ⟨w3.heap.size, 0, none⟩) 1 1 [.bool true, .string ⟨#[42, 42]⟩] rfl (new_row w3 31 [.bool true, .string ⟨#[42, 42]⟩] 1 2 rfl) (by simp [Value.oneCell']) (by simp only [maxLen]; omega) (by omega) (by simp; omega) ?_; intro v9a w9 hown9 hg9 hat9; obtain ⟨A9a, c9a, hv9, -⟩ := ownsRow_read hown9; subst hv9; have HEa := Lib.hid (rules_app_end true _ HRVa.out HB3a.out hg9 hown9); clear hown9 hg9 hat9)
  refine (HRUN.out w9 _ _ t (rs ++ [allG true]) (B2a.out.trans (HEa.out.2.mono B2a.out.size)) (HT2.out.below HEa.out.2) HTO.out HEa.out.1 (by rw [List.length_append]; simp; omega)).mono ?_
  rintro e' w4 ⟨yv, rfl, hyv, b4⟩
  have HB4a := Lib.hid (HEa.out.2.trans (b4.mono HEa.out.2.size))
  rw [HF1.out] at hyv
  have B2b := Lib.hid (B2a.out.trans (HB4a.out.mono B2a.out.size))
  have HT4 := Lib.hid (HT2.out.below HB4a.out)
  have HX4 := Lib.hid (HX2.out.below HB4a.out)
  have HY4 := Lib.hid hyv.at_
  obtain ⟨_, Ay, cy, -, hye, -⟩ := hyv.at_
  subst hye
  clear b4 hyv HT2 HX2
  go_wp2_with fail
  refine (HR.out _ B2b.out).mono ?_
  rintro e' w5 ⟨rvb, rfl, hrvb, b3⟩
  have HRVb := Lib.hid hrvb
  have HB3b := Lib.hid b3
  obtain ⟨Arb, crb, hreb, hrc1b, hrc2b, -⟩ := ownsRow_read hrvb
  rw [List.length_map] at hreb hrc1b
  subst hreb
  have HOWb : Hid (w5.ownsRow w4.heap.size 31 2 (.slice Arb rs.length crb) rs.length ((rs.map ruleP_).flatMap ruleC)) := Lib.hid (by have h := HRVb.out; unfold RulesOwn at h; rw [List.length_map] at h; exact h)
  have hszb := b3.size
  clear b3 hrvb
  go_wp2_with (at_builtin; refine wpList_append_any _ rfl (.tmp 34) (.tmp 36) _ rfl w4.heap.size 31 i9 _ 2 24 Tryz.underlying28 hi9 hy0 hy1 hy2 rfl (by omega) _ rs.length _ rfl (ownsRow_below HOWb.out ((Below.refl _ _).alloc (Nat.le_refl _) _)) (w5.heap.size + 1) (some ⟨w5.heap.size, 0, none⟩) 1 1 [.bool false, .string ⟨#[42, 42]⟩] rfl (new_row w5 31 [.bool false, .string ⟨#[42, 42]⟩] 1 2 rfl) (by simp [Value.oneCell']) (by simp only [maxLen]; omega) (by omega) (by simp; omega) ?_; intro v9b w6 hown9 hg9 hat9; obtain ⟨A9b, c9b, hv9, -⟩ := ownsRow_read hown9; subst hv9; have HEb := Lib.hid (rules_app_end false _ HRVb.out HB3b.out hg9 hown9); clear hown9 hg9 hat9)
  refine (HRUN.out w6 _ _ t (rs ++ [allG false]) (B2b.out.trans (HEb.out.2.mono B2b.out.size)) (HT4.out.below HEb.out.2) HTO.out HEb.out.1 (by rw [List.length_append]; simp; omega)).mono ?_
  rintro e' w7 ⟨zv, rfl, hzv, b4⟩
  have HB4b := Lib.hid (HEb.out.2.trans (b4.mono HEb.out.2.size))
  rw [HF2.out] at hzv
  have B7 := Lib.hid (B2b.out.trans (HB4b.out.mono B2b.out.size))
  have HT7 := Lib.hid (HT4.out.below HB4b.out)
  have HX7 := Lib.hid (HX4.out.below HB4b.out)
  have HY7 := Lib.hid (HY4.out.below HB4b.out)
  obtain ⟨_, Az, cz, -, hze, -⟩ := hzv.at_
  subst hze
  rw [show ([] : List NodeP).length = 0 from rfl]
  clear b4 hzv HT4 HX4 HY4
  go_wp2_with fail
  refine (Small_any _).mono ?_
  rintro e' w10 ⟨sv, rfl, hsv, b10⟩
  have B10 := Lib.hid (B7.out.trans (b10.mono B7.out.size))
  have HT10 := Lib.hid (HT7.out.below b10)
  have HX10 := Lib.hid (HX7.out.below b10)
  have HY10 := Lib.hid (HY7.out.below b10)
  have bL := (Below.refl w10.heap.size w10).alloc (Nat.le_refl _) (.cells #[.bool false, .string ⟨#[97]⟩] 31)
  have HBL := Lib.hid bL
  have H10 : Hid (∀ v, v = sv → Calls Tryz.prog 9 #[v, .slice (some ⟨w10.heap.size, 0, none⟩) 1 1] (w10.alloc (.cells #[.bool false, .string ⟨#[97]⟩] 31)) fun e w' => ∃ tv, e = .returned (.tuple #[tv, .int .i64 0]) ∧ NodesOwn w' (w10.alloc (.cells #[.bool false, .string ⟨#[97]⟩] 31)).heap.size tv (filterP smallP [litG false]) ∧ Below (w10.alloc (.cells #[.bool false, .string ⟨#[97]⟩] 31)).heap.size (w10.alloc (.cells #[.bool false, .string ⟨#[97]⟩] 31)) w') := Lib.hid (fun v e => by
    subst e
    exact HRUN.out _ _ _ smallP [litG false] (B10.out.trans (HBL.out.mono B10.out.size)) (hsv.at_.below HBL.out) small_ok (RulesAt.litA (litG false)) (by simp))
  clear b10 bL hsv HT7 HX7 HY7
  go_wp2_with fail
  refine (H10.out _ rfl).mono ?_
  rintro e' w11 ⟨ov, rfl, hov, b11⟩
  have HB11 := Lib.hid (HBL.out.trans (b11.mono HBL.out.size))
  have B11 := Lib.hid (B10.out.trans (HB11.out.mono B10.out.size))
  have HT11 := Lib.hid (HT10.out.below HB11.out)
  have HX11 := Lib.hid (HX10.out.below HB11.out)
  have HY11 := Lib.hid (HY10.out.below HB11.out)
  obtain ⟨_, Ao, co, -, hoe, -⟩ := hov.at_
  rw [small_lit] at hoe
  subst hoe
  have HS1 := Lib.hid (SameTree_any _ _ t t w11 HX11.out HT11.out)
  rw [decide_eq_true rfl] at HS1
  clear b11 hov H10 HT10 HX10 HY10
  go_wp2_with fail
  refine HS1.out.mono ?_
  rintro e' w12 ⟨rfl, b12⟩
  have B12 := Lib.hid (B11.out.trans (b12.mono B11.out.size))
  have HS2 := Lib.hid (SameTree_any _ _ t t w12 (HY11.out.below b12) (HT11.out.below b12))
  rw [decide_eq_true rfl] at HS2
  clear b12 HS1
  go_wp2_with fail
  refine HS2.out.mono ?_
  rintro e' w13 ⟨rfl, b13⟩
  have B13 := Lib.hid (B12.out.trans (b13.mono B12.out.size))
  clear b13 HS2
  go_wp2_with fail
  go_ret
  exact ⟨rfl, B13.out⟩
set_option maxRecDepth 100000 in
set_option maxHeartbeats 8000000 in
theorem FilterLess_walk (w : World) (hsh : w.ShapedOpen Tryz.prog) (v : Value) (l : List RawS) (hl : RawsAt w w.heap.size v l) (hok : ∀ x ∈ l, RawOk x) (hn : l.length ≤ 1048576) (v2 : Value) (m : List RawS) (hl2 : RawsAt w w.heap.size v2 m) (hok2 : ∀ x ∈ m, RawOk x) (hn2 : m.length ≤ 1048576) :
    Calls Tryz.prog 4 #[v, v2] w fun e w' => e = .returned (.bool true) ∧ Below w.heap.size w w' := by
  have hm := ML.of_shaped hsh
  clear hsh
  have HML : Hid (∀ W, Below w.heap.size w W → ML W) := Lib.hid (fun W hb => hm.below hb)
  have HT := Lib.hid (fun (_ : Unit) => Tree_any l v 20 w hm hl hok hn (by omega))
  have HR : Hid (∀ W, Below w.heap.size w W → Calls Tryz.prog 10 #[v2, .int .i64 5] W fun e w' => ∃ rv, e = .returned rv ∧ RulesOwn w' W.heap.size rv (rulesP m 5) ∧ Below W.heap.size W w') := Lib.hid (fun W hb => Rules_any m v2 5 W ((hl2.below hb).more hb.size) hok2 hn2 (by omega))
  obtain ⟨rs, hrs⟩ := rules_known (l := rulesP m 5) (rules_mem m 5)
  have hrl := rulesG_lenA hrs
  have hto := treeP_ok l 20 (by omega)
  rw [← hrs] at HR
  have HRUN : Hid (∀ W x y (a : List NodeP) (rs : List RuleG), Below w.heap.size w W → NodesAt W x a → TreeOk a → RulesAt W y rs → rs.length ≤ 12 → Calls Tryz.prog 9 #[x, y] W fun e w' => ∃ tv, e = .returned (.tuple #[tv, .int .i64 0]) ∧ NodesOwn w' W.heap.size tv (filterP a rs) ∧ Below W.heap.size W w') := Lib.hid (fun W x y a rs hb h1 h2 h3 h4 => FRun_any x y a rs W (fun W2 h => HML.out W2 (hb.trans (h.mono hb.size))) h1 h2 h3 h4)
  clear hm hl hok hn hl2 hok2 hn2 hrs
  generalize treeP l 20 = t at *
  have HTO := Lib.hid hto
  have hlen := hto.len
  have HFO := Lib.hid (filter_ok hto rs)
  have HFA := Lib.hid (filter_again hto rs)
  have HFI := Lib.hid (fun k hk => filter_in hto rs (k := k) hk)
  have hfl := filterP_length t rs
  clear hto
  go_enter Tryz.func4, Tryz.ntmps4
  go_wp2_with fail
  refine (HT.out ()).mono ?_
  rintro e' w1 ⟨tv, rfl, htv, b1⟩
  have B1 := Lib.hid b1
  have HT1 := Lib.hid htv.at_
  obtain ⟨_, At, ct, -, hte, hct1, hct2, -⟩ := htv.at_
  subst hte
  unfold maxLen at hct2
  clear b1 htv HT
  go_wp2_with fail
  refine (HR.out _ B1.out).mono ?_
  rintro e' w2 ⟨rv, rfl, hrv, b2⟩
  have B2 := Lib.hid (B1.out.trans (b2.mono B1.out.size))
  have HT2 := Lib.hid (HT1.out.below b2)
  have HR2 : Hid (RulesAt w2 rv rs) := Lib.hid ⟨_, hrv⟩
  obtain ⟨Ar, cr, hre, -, -⟩ := HR2.out.slice
  subst hre
  clear b2 hrv HT1 HR
  go_wp2_with fail
  refine (HRUN.out w2 _ _ t rs B2.out HT2.out HTO.out HR2.out (by omega)).mono ?_
  rintro e' w3 ⟨xv, rfl, hxv, b3⟩
  have B3 := Lib.hid (B2.out.trans (b3.mono B2.out.size))
  have HT3 := Lib.hid (HT2.out.below b3)
  have HR3 := Lib.hid (HR2.out.below b3)
  have HX3 := Lib.hid hxv.at_
  obtain ⟨_, Ax, cx, -, hxe, hcx1, hcx2, -⟩ := hxv.at_
  subst hxe
  unfold maxLen at hcx2
  clear b3 hxv HT2 HR2
  have H3 := Lib.hid (HRUN.out w3 _ _ (filterP t rs) rs B3.out HX3.out HFO.out HR3.out (by omega))
  rw [HFA.out] at H3
  obtain ⟨X, hX⟩ : ∃ X, X = filterP t rs := ⟨_, rfl⟩
  rw [← hX] at H3 HX3 HFO hfl hcx1 ⊢
  have HFI2 : Hid (∀ k (hk : k < X.length), ∃ i, ∃ hi : i < t.length, findP t X[k].path = some i ∧ t[i] = X[k]) := Lib.hid (by rw [hX]; exact fun k hk => HFI.out k hk)
  clear hX HFI HFA
  go_wp2_with fail
  refine H3.out.mono ?_
  rintro e' w4 ⟨yv, rfl, hyv, b4⟩
  have B4 := Lib.hid (B3.out.trans (b4.mono B3.out.size))
  have HT4 := Lib.hid (HT3.out.below b4)
  have HX4 := Lib.hid (HX3.out.below b4)
  have HY4 := Lib.hid hyv.at_
  obtain ⟨_, Ay, cy, -, hye, -⟩ := hyv.at_
  subst hye
  clear b4 hyv HT3 HX3 HR3 H3
  go_wp2_with fail
  refine (Small_any _).mono ?_
  rintro e' w10 ⟨sv, rfl, hsv, b10⟩
  have B10 := Lib.hid (B4.out.trans (b10.mono B4.out.size))
  have HT10 := Lib.hid (HT4.out.below b10)
  have HX10 := Lib.hid (HX4.out.below b10)
  have HY10 := Lib.hid (HY4.out.below b10)
  have bL := (Below.refl w10.heap.size w10).alloc (Nat.le_refl _) (.cells #[.bool false, .string ⟨#[42, 42, 47, 98]⟩] 31)
  have HBL := Lib.hid bL
  have H10 : Hid (∀ v, v = sv → Calls Tryz.prog 9 #[v, .slice (some ⟨w10.heap.size, 0, none⟩) 1 1] (w10.alloc (.cells #[.bool false, .string ⟨#[42, 42, 47, 98]⟩] 31)) fun e w' => ∃ tv, e = .returned (.tuple #[tv, .int .i64 0]) ∧ NodesOwn w' (w10.alloc (.cells #[.bool false, .string ⟨#[42, 42, 47, 98]⟩] 31)).heap.size tv (filterP smallP [lastbG false]) ∧ Below (w10.alloc (.cells #[.bool false, .string ⟨#[42, 42, 47, 98]⟩] 31)).heap.size (w10.alloc (.cells #[.bool false, .string ⟨#[42, 42, 47, 98]⟩] 31)) w') := Lib.hid (fun v e => by
    subst e
    exact HRUN.out _ _ _ smallP [lastbG false] (B10.out.trans (HBL.out.mono B10.out.size)) (hsv.at_.below HBL.out) small_ok (RulesAt.litA (lastbG false)) (by simp))
  clear b10 bL hsv HT4 HX4 HY4
  go_wp2_with fail
  refine (H10.out _ rfl).mono ?_
  rintro e' w11 ⟨ov, rfl, hov, b11⟩
  have HB11 := Lib.hid (HBL.out.trans (b11.mono HBL.out.size))
  have B11 := Lib.hid (B10.out.trans (HB11.out.mono B10.out.size))
  have HT11 := Lib.hid (HT10.out.below HB11.out)
  have HX11 := Lib.hid (HX10.out.below HB11.out)
  have HY11 := Lib.hid (HY10.out.below HB11.out)
  obtain ⟨_, Ao, co, -, hoe, -⟩ := hov.at_
  rw [small_lastb] at hoe
  subst hoe
  have HS1 := Lib.hid (SameTree_any _ _ X X w11 HX11.out HY11.out)
  rw [decide_eq_true rfl] at HS1
  clear b11 hov H10 HT10 HX10 HY10
  go_wp2_with fail
  refine HS1.out.mono ?_
  rintro e' w12 ⟨rfl, b12⟩
  have B12 := Lib.hid (B11.out.trans (b12.mono B11.out.size))
  have HT12 := Lib.hid (HT11.out.below b12)
  have HX12 := Lib.hid (HX11.out.below b12)
  have HCK := Lib.hid (TCheck_any _ X w12 (HML.out _ B12.out) HX12.out HFO.out.node)
  rw [HFO.out.chk] at HCK
  clear b12 HS1 HT11 HX11 HY11
  go_wp2_with fail
  refine HCK.out.mono ?_
  rintro e' w13 ⟨rfl, b13⟩
  have B13 := Lib.hid (B12.out.trans (b13.mono B12.out.size))
  have HT13 := Lib.hid (HT12.out.below b13)
  have HX13 := Lib.hid (HX12.out.below b13)
  clear b13 HCK HT12 HX12
  go_wp2_with fail
  go_loopg [68] X.length (fun gg s68 wr => ∃ k : Nat, k ≤ X.length ∧ X.length - k ≤ gg ∧ s68 = .int .i64 k ∧ Hid (Below w13.heap.size w13 wr))
  case atStart => exact ⟨0, Nat.zero_le _, by omega, rfl, Lib.hid (Below.refl _ _)⟩
  case round =>
    obtain ⟨k, hk, hg, rfl, HW⟩ := hrel
    by_cases hlt : k < X.length
    · have hltz : (k : Int) < (X.length : Int) := by omega
      obtain ⟨xd, A3, c3, rfl, hb, hdx, e0, e1, e2, e3, e4, e5, e6, e7, e8, e9, e10, e11⟩ := node_read (HX13.out.below HW.out) hlt
      obtain ⟨i, hi, hfi, hti⟩ := HFI2.out k hlt
      have HTI := Lib.hid hti
      have HFN := Lib.hid (fun W (h : Below w13.heap.size w13 W) => Find_any _ t X[k].path W (HT13.out.below h))
      rw [hfi] at HFN
      unfold findR at HFN
      clear hfi hti
      obtain ⟨x, hx⟩ : ∃ x, x = X[k] := ⟨_, rfl⟩
      rw [← hx] at hdx HTI HFN e0 e1 e2 e3 e4 e5 e6 e7 e8 e9 e10 e11
      clear hx
      obtain ⟨np, nk, ns, nt, ⟨o1, o2, o3, o4, o5, o6, o7⟩, nd⟩ := x
      simp only at hdx HFN e0 e1 e2 e3 e4 e5 e6 e7 e8 e9 e10 e11
      obtain ⟨W2, hW2⟩ : ∃ W2, W2 = wr.alloc (.cells #[.string (bs np), .int .i64 nk, .int .i64 ns, .string (bs nt), .int .i64 o1, .int .i64 o2, .int .i64 o3, .string (bs o4), .string (bs o5), .int .i64 o6, .int .i64 o7, .slice A3 nd.length c3] 40) := ⟨_, rfl⟩
      have b2 : Below wr.heap.size wr W2 := by rw [hW2]; exact (Below.refl _ _).alloc (Nat.le_refl _) _
      have K2 : Blk W2 wr.heap.size 40 (nodeC (⟨np, nk, ns, nt, ⟨o1, o2, o3, o4, o5, o6, o7⟩, nd⟩, .slice A3 nd.length c3)).toArray := by rw [hW2]; exact Blk.new _ _ _
      have HW2 := Lib.hid (HW.out.trans (b2.mono HW.out.size))
      have HK2 := Lib.hid K2
      have HD2 := Lib.hid (hdx.below b2)
      clear b2 K2 hdx
      go_upto_region 10 with fail
      rw [← hW2]
      clear hW2 e0 e1 e2 e3 e4 e5 e6 e7 e8 e9 e10 e11
      have c0 : W2.cell? ⟨wr.heap.size, 0, none⟩ = some (.string (bs np)) := HK2.out.cell 0
      go_wp2_with fail
      refine (HFN.out _ HW2.out).mono ?_
      rintro e' w5 ⟨rfl, b5⟩
      have HB5 := Lib.hid (HW2.out.trans (b5.mono HW2.out.size))
      have HK5 := Lib.hid (HK2.out.below b5 HK2.out.lt)
      have HT5 := Lib.hid (HT13.out.below HB5.out)
      have HD5 := Lib.hid (HD2.out.below b5)
      clear c0 b5 HFN
      obtain ⟨pd, Ay2, cy2, rfl, hpb, hdy, f0, f1, f2, f3, f4, f5, f6, f7, f8, f9, f10, f11⟩ := node_read HT5.out hi
      rw [HTI.out] at hdy f0 f1 f2 f3 f4 f5 f6 f7 f8 f9 f10 f11
      simp only at hdy f0 f1 f2 f3 f4 f5 f6 f7 f8 f9 f10 f11
      obtain ⟨c0, c1, c2, c3', c4, c5, c6, c7, c8, c9, c10, c11⟩ := HK5.out.node
      have HSN := Lib.hid (fun d os => Calls.regrown_of (w := w5) (d := d) (os := os) (SameNode_any (⟨np, nk, ns, nt, ⟨o1, o2, o3, o4, o5, o6, o7⟩, nd⟩, .slice Ay2 nd.length cy2) (⟨np, nk, ns, nt, ⟨o1, o2, o3, o4, o5, o6, o7⟩, nd⟩, .slice A3 nd.length c3) _ (hdy.below (below_regrown w5 d os)) (HD5.out.below (below_regrown w5 d os))))
      rw [show sameB (⟨np, nk, ns, nt, ⟨o1, o2, o3, o4, o5, o6, o7⟩, nd⟩ : NodeP) ⟨np, nk, ns, nt, ⟨o1, o2, o3, o4, o5, o6, o7⟩, nd⟩ = true from by unfold sameB; simp] at HSN
      unfold nodeC at HSN
      simp only at HSN
      have i1 : (0 : Int) ≤ (i : Int) := by omega
      have i2 : (i : Int) < (t.length : Int) := by omega
      have f0 := fun d os => cell_regrown f0 d os
      have c0 := fun d os => cell_regrown c0 d os
      have f1 := fun d os => cell_regrown f1 d os
      have c1 := fun d os => cell_regrown c1 d os
      have f2 := fun d os => cell_regrown f2 d os
      have c2 := fun d os => cell_regrown c2 d os
      have f3 := fun d os => cell_regrown f3 d os
      have c3' := fun d os => cell_regrown c3' d os
      have f4 := fun d os => cell_regrown f4 d os
      have c4 := fun d os => cell_regrown c4 d os
      have f5 := fun d os => cell_regrown f5 d os
      have c5 := fun d os => cell_regrown c5 d os
      have f6 := fun d os => cell_regrown f6 d os
      have c6 := fun d os => cell_regrown c6 d os
      have f7 := fun d os => cell_regrown f7 d os
      have c7 := fun d os => cell_regrown c7 d os
      have f8 := fun d os => cell_regrown f8 d os
      have c8 := fun d os => cell_regrown c8 d os
      have f9 := fun d os => cell_regrown f9 d os
      have c9 := fun d os => cell_regrown c9 d os
      have f10 := fun d os => cell_regrown f10 d os
      have c10 := fun d os => cell_regrown c10 d os
      have f11 := fun d os => cell_regrown f11 d os
      have c11 := fun d os => cell_regrown c11 d os
      clear hdy hpb
      go_upto_region 11 with fail
      refine wp_region_quiet_below mixed_ok (by kernel_rfl) ?_
      repeat (go_big_quiet_step (exact HSN.out _ _))
      refine wpQuiet_nil ?_
      intro _ hw'
      obtain ⟨⟨dq, osq⟩, hw''⟩ := hw'
      subst hw''
      have HB6 := Lib.hid (HB5.out.trans ((below_regrown w5 dq osq).mono HB5.out.size))
      clear f0 f1 f2 f3 f4 f5 f6 f7 f8 f9 f10 f11 c0 c1 c2 c3' c4 c5 c6 c7 c8 c9 c10 c11 HSN i1 i2
      generalize Sort.grow (redrawn w5 dq) osq = w6 at *
      go_wp2_with fail
      go_roundg (X.length - (k + 1))
      case measure => omega
      case rel => exact ⟨k + 1, by omega, by omega, by go_num, HB6⟩
    · obtain rfl : k = X.length := by omega
      go_wp2_with fail
      go_ret
      exact ⟨rfl, B13.out.trans (HW.out.mono B13.out.size)⟩
end Go.Proofs.YtjglenhhgbokbaaGreatDoor
