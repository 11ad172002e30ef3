/-
  The law FilterEach: what it computes is true. Condition: raw things of the second form's bound.
-/
import Derived.Test.YtjglenhhgbokbaaDoorFilt
import Derived.Test.YtjglenhhgbokbaaDoorTree
namespace Go.Proofs.YtjglenhhgbokbaaDoor
open Go.RowKit

theorem RulesAt.lit {w : World} (r : RuleG) : RulesAt (w.alloc (.cells #[.bool r.take, .string (bs r.pat)] 47)) (.slice (some ⟨w.heap.size, 0, none⟩) 1 1) [r] :=
  ⟨w.heap.size, ⟨rfl, .inr ⟨w.heap.size, 1, _, rfl, Nat.le_refl _, heap_alloc_new w _, Nat.le_refl _, by simp [maxLen], rfl, rfl⟩⟩⟩
theorem rulesG_len {rs : List RuleG} {l : List RawS} {most : Nat} (h : rs.map ruleP_ = rulesP l most) : rs.length ≤ most := by
  have := congrArg List.length h
  rw [List.length_map] at this
  rw [this]
  exact rulesP_len l most
theorem check_up {t : List NodeP} (ht : TreeOk t) {p : List UInt8} (h : p ∈ t.map (·.path)) : upP p = [] ∨ upP p ∈ t.map (·.path) := by
  obtain ⟨x, hx, rfl⟩ := List.mem_map.1 h
  refine (ht.up x hx).imp id ?_
  rintro ⟨y, hy, e, _⟩
  rw [← e]
  exact List.mem_map_of_mem hy
/-- the path of the inner loop: what is still to be asked -/
def FeSt (rs : List RuleG) (t : List NodeP) (p0 p : List UInt8) (b : Bool) : Prop := (p = [] ∨ p ∈ t.map (·.path)) ∧ wantP rs p0 = (b && wantP rs p)
set_option maxRecDepth 100000 in
set_option maxHeartbeats 8000000 in
theorem FilterEach_walk (w : World) (hsh : w.ShapedOpen Tryd.prog) (v : Value) (l : List RawS) (hl : RawsAt w w.heap.size v l) (hok : ∀ x ∈ l, RawOk x) (hn : l.length ≤ 1048576) (v2 : Value) (m : List RawS) (hl2 : RawsAt w w.heap.size v2 m) (hok2 : ∀ x ∈ m, RawOk x) (hn2 : m.length ≤ 1048576) :
    Calls Tryd.prog 5 #[v, v2] w fun e w' => e = .returned (.bool true) ∧ Below w.heap.size w w' := by
  have hm := ML.of_shaped hsh
  clear hsh
  have HML : Hid (∀ W, Below w.heap.size w W → ML W) := Lib.hid (fun W hb => hm.below hb)
  have HT := Lib.hid (fun (_ : Unit) => Tree_any l v 20 w hm hl hok hn (by omega))
  have HR : Hid (∀ W, Below w.heap.size w W → Calls Tryd.prog 14 #[v2, .int .i64 5] W fun e w' => ∃ rv, e = .returned rv ∧ RulesOwn w' W.heap.size rv (rulesP m 5) ∧ Below W.heap.size W w') := Lib.hid (fun W hb => Rules_any m v2 5 W ((hl2.below hb).more hb.size) hok2 hn2 (by omega))
  obtain ⟨rs, hrs⟩ := rules_known (l := rulesP m 5) (rules_mem m 5)
  have hrl := rulesG_len hrs
  have hto := treeP_ok l 20 (by omega)
  rw [← hrs] at HR
  clear hm hl hok hn hl2 hok2 hn2 hrs
  generalize treeP l 20 = t at *
  have HTO := Lib.hid hto
  have hlen := hto.len
  clear hto
  go_enter Tryd.func5, Tryd.ntmps5
  go_wp2_with fail
  refine (HT.out ()).mono ?_
  rintro e' w1 ⟨tv, rfl, htv, b1⟩
  have B1 := Lib.hid b1
  have HTV1 := Lib.hid htv.at_
  clear b1 htv HT
  go_wp2_with fail
  refine (HR.out _ B1.out).mono ?_
  rintro e' w2 ⟨rv, rfl, hrv, b2⟩
  have B2 := Lib.hid (B1.out.trans (b2.mono B1.out.size))
  have HTV2 := Lib.hid (HTV1.out.below b2)
  have HRV2 : Hid (RulesAt w2 rv rs) := Lib.hid ⟨_, hrv⟩
  have HRUN := Lib.hid (FRun_any tv rv t rs w2 (fun W h => HML.out W (B2.out.trans (h.mono B2.out.size))) HTV2.out HTO.out HRV2.out (by omega))
  obtain ⟨_, At, ct, -, hte, hct1, hct2, -⟩ := HTV2.out
  subst hte
  unfold maxLen at hct2
  obtain ⟨Ar, cr, hre, -, -⟩ := HRV2.out.slice
  subst hre
  clear b2 hrv HR HTV1
  go_wp2_with fail
  refine HRUN.out.mono ?_
  rintro e' w3 ⟨xv, rfl, hxv, b3⟩
  have B3 := Lib.hid (B2.out.trans (b3.mono B2.out.size))
  have HTV3 := Lib.hid (HTV2.out.below b3)
  have HRV3 := Lib.hid (HRV2.out.below b3)
  have HXV3 := Lib.hid hxv.at_
  obtain ⟨_, Ax, cx, -, hxe, hcx1, hcx2, -⟩ := HXV3.out
  subst hxe
  unfold maxLen at hcx2
  have HLIT : Hid (Calls Tryd.prog 16 #[.slice (some ⟨w3.heap.size, 0, none⟩) 1 1, .string ⟨#[97]⟩] (w3.alloc (.cells #[.bool false, .string ⟨#[97]⟩] 47)) fun e w' => e = .returned (.tuple #[.bool false, .int .i64 0]) ∧ Below w3.heap.size w3 w') := Lib.hid (by
    have b := (Below.refl w3.heap.size w3).alloc (Nat.le_refl _) (.cells #[.bool false, .string ⟨#[97]⟩] 47)
    have h := FTakes_ok _ [litG false] [97] (w3.alloc (.cells #[.bool false, .string ⟨#[97]⟩] 47)) (fun W h => HML.out W (B3.out.trans ((b.trans (h.mono b.size)).mono B3.out.size))) (RulesAt.lit (litG false)) (by simp) (by decide) (by simp)
    rw [lit_not] at h
    refine h.mono ?_
    rintro e w' ⟨h1, h2⟩
    exact ⟨h1, b.trans (h2.mono b.size)⟩)
  clear b3 hxv HRUN HTV2 HRV2
  go_wp2_with fail
  refine HLIT.out.mono ?_
  rintro e' w4 ⟨rfl, b4⟩
  have B4 := Lib.hid (B3.out.trans (b4.mono B3.out.size))
  have HTV := Lib.hid (HTV3.out.below b4)
  have HRV := Lib.hid (HRV3.out.below b4)
  have HXV := Lib.hid (HXV3.out.below b4)
  have HTK : Hid (∀ s W, checkS s = 0 → s.length ≤ 400 → Below w4.heap.size w4 W → Calls Tryd.prog 16 #[.slice Ar rs.length cr, .string (bs s)] W fun e w' => e = .returned (.tuple #[.bool (takesG rs s), .int .i64 0]) ∧ Below W.heap.size W w') := Lib.hid (fun s W h1 h2 hb => FTakes_ok _ rs s W (fun W2 h => HML.out W2 (B4.out.trans ((hb.trans (h.mono hb.size)).mono B4.out.size))) (HRV.out.below hb) (by omega) h1 h2)
  clear b4 HTV3 HRV3 HXV3 HLIT
  go_wp2_with fail
  go_loopg [46] t.length (fun gg s46 wr => ∃ k : Nat, k ≤ t.length ∧ t.length - k ≤ gg ∧ s46 = .int .i64 k ∧ Hid (Below w4.heap.size w4 wr))
  case atStart => exact ⟨0, Nat.zero_le _, by omega, rfl, Lib.hid (Below.refl _ _)⟩
  case round =>
    obtain ⟨k, hk, hg, rfl, HW⟩ := hrel
    by_cases hlt : k < t.length
    · have hltz : (k : Int) < (t.length : Int) := by omega
      obtain ⟨ad, Ay, cy, rfl, hb, -, e0, e1, e2, e3, e4, e5, e6, e7, e8, e9, e10, e11⟩ := node_read (HTV.out.below HW.out) hlt
      have hmem : t[k].path ∈ t.map (·.path) := List.mem_map_of_mem (List.getElem_mem _)
      have HHAS := Lib.hid (filter_has HTO.out rs hlt)
      have HFIX := Lib.hid (fun W (h : Below w4.heap.size w4 W) => Find_any _ (filterP t rs) t[k].path W (HXV.out.below h))
      obtain ⟨x, hx⟩ : ∃ x, x = t[k] := ⟨_, rfl⟩
      rw [← hx] at hmem HHAS HFIX e0 e1 e2 e3 e4 e5 e6 e7 e8 e9 e10 e11
      clear hx
      obtain ⟨np, nk, ns, nt, ⟨o1, o2, o3, o4, o5, o6, o7⟩, nd⟩ := x
      simp only at hmem HHAS HFIX e0 e1 e2 e3 e4 e5 e6 e7 e8 e9 e10 e11
      obtain ⟨W2, hW2⟩ : ∃ W2, W2 = wr.alloc (.cells #[.string (bs np), .int .i64 nk, .int .i64 ns, .string (bs nt), .int .i64 o1, .int .i64 o2, .int .i64 o3, .string (bs o4), .string (bs o5), .int .i64 o6, .int .i64 o7, .slice Ay nd.length cy] 36) := ⟨_, rfl⟩
      have b2 : Below wr.heap.size wr W2 := by rw [hW2]; exact (Below.refl _ _).alloc (Nat.le_refl _) _
      have K2 : Blk W2 wr.heap.size 36 (nodeC (⟨np, nk, ns, nt, ⟨o1, o2, o3, o4, o5, o6, o7⟩, nd⟩, .slice Ay nd.length cy)).toArray := by rw [hW2]; exact Blk.new _ _ _
      have HW2 := Lib.hid (HW.out.trans (b2.mono HW.out.size))
      have HK2 := Lib.hid K2
      clear b2 K2
      go_upto_region 9 with fail
      rw [← hW2]
      clear hW2 e0 e1 e2 e3 e4 e5 e6 e7 e8 e9 e10 e11
      obtain ⟨g12, hg12⟩ : ∃ g12, g12 = wr.heap.size := ⟨_, rfl⟩
      rw [← hg12] at HK2 ⊢
      clear hg12
      have c0 : W2.cell? ⟨g12, 0, none⟩ = some (.string (bs np)) := HK2.out.cell 0
      have H0 : Hid (FeSt rs t np np true) := Lib.hid ⟨.inr hmem, by rw [Bool.true_and]⟩
      clear hmem
      go_wp2_with fail
      clear c0
      go_loopg [13, 14] np.length (fun gg2 s13 s14 wq => ∃ (p : List UInt8) (b : Bool), s13 = .bool b ∧ s14 = .string (bs p) ∧ p.length ≤ gg2 ∧ Hid (FeSt rs t np p b) ∧ Hid (Below w4.heap.size w4 wq) ∧ Hid (Blk wq g12 36 (nodeC (⟨np, nk, ns, nt, ⟨o1, o2, o3, o4, o5, o6, o7⟩, nd⟩, .slice Ay nd.length cy)).toArray))
      case atStart => exact ⟨np, true, rfl, rfl, by omega, H0, HW2, HK2⟩
      case round =>
        obtain ⟨p, b, rfl, rfl, hg2, HF, HV, HK⟩ := hrel
        by_cases hp : p = []
        · subst hp
          have HEND : Hid (wantP rs np = b) := Lib.hid (by have := HF.out.2; rwa [wantP_nil, Bool.and_true] at this)
          have t1 : (bs ([] : List UInt8)).toList = [] := bs_toList _
          have t2 : (bs ([] : List UInt8)).toList.isEmpty = true := by rw [t1]; rfl
          have HFI := Lib.hid (HFIX.out _ HV.out)
          have c0 : wr.cell? ⟨g12, 0, none⟩ = some (.string (bs np)) := HK.out.cell 0
          cases hq : findP (filterP t rs) np with
          | none =>
            rw [hq] at HFI
            have HB : Hid (b = false) := Lib.hid (by rw [← HEND.out]; exact HHAS.out.1 hq)
            obtain rfl := HB.out
            unfold findR at HFI
            clear hq HHAS
            go_wp2_with fail
            refine HFI.out.mono ?_
            rintro e w9 ⟨rfl, b9⟩
            have H9 := Lib.hid (HV.out.trans (b9.mono HV.out.size))
            clear b9
            go_wp2_with fail
            go_roundg (t.length - (k + 1))
            case measure => omega
            case rel => exact ⟨k + 1, by omega, by omega, by go_num, H9⟩
          | some i =>
            rw [hq] at HFI
            have HB : Hid (b = true) := Lib.hid (by
              rw [← HEND.out]
              by_cases h : wantP rs np = true
              · exact h
              · have := HHAS.out.2 (by simpa using h)
                rw [hq] at this
                cases this)
            obtain rfl := HB.out
            unfold findR at HFI
            clear hq HHAS
            go_wp2_with fail
            refine HFI.out.mono ?_
            rintro e w9 ⟨rfl, b9⟩
            have H9 := Lib.hid (HV.out.trans (b9.mono HV.out.size))
            clear b9
            go_wp2_with fail
            go_roundg (t.length - (k + 1))
            case measure => omega
            case rel => exact ⟨k + 1, by omega, by omega, by go_num, H9⟩
        · have t1 : ¬ (bs p).toList = [] := by rw [bs_toList]; exact hp
          have t2 : (bs p).toList.isEmpty = false := by rw [bs_toList]; exact List.isEmpty_eq_false_iff.2 hp
          have hmp := HF.out.1.resolve_left hp
          obtain ⟨y, hy, hye⟩ := List.mem_map.1 hmp
          have hyo := (HTO.out.node y hy).path
          rw [hye] at hyo
          obtain ⟨hy1, hy2⟩ := hyo
          have HNX := Lib.hid (check_up HTO.out hmp)
          have HWT := Lib.hid (wantP_cons rs hp)
          have hsh2 := upP_short hp
          have HTP := Lib.hid (HTK.out p _ hy1 hy2 HV.out)
          have HUP := Lib.hid (fun W => Up_any p (by omega) W)
          have HNE : Hid (FeSt rs t np (upP p) (b && takesG rs p)) := Lib.hid ⟨HNX.out, by rw [HF.out.2, HWT.out, Bool.and_assoc]⟩
          clear hp hmp hy hye hy1
          generalize takesG rs p = tb at *
          cases b
          all_goals
            go_wp2_with fail
            refine HTP.out.mono ?_
            rintro e w9 ⟨rfl, b9⟩
            have H9 := Lib.hid (HV.out.trans (b9.mono HV.out.size))
            have K9 := Lib.hid (HK.out.below b9 HK.out.lt)
            clear b9
            go_wp2_with fail
            refine (HUP.out _).mono ?_
            rintro e w' ⟨rfl, rfl⟩
            go_wp2_with fail
            go_roundg (upP p).length
            case measure => omega
            case rel => exact ⟨upP p, _, rfl, rfl, Nat.le_refl _, HNE, H9, K9⟩
    · obtain rfl : k = t.length := by omega
      go_wp2_with fail
      go_ret
      exact ⟨rfl, B4.out.trans (HW.out.mono B4.out.size)⟩
end Go.Proofs.YtjglenhhgbokbaaDoor
