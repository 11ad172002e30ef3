/-
  The law PlanOnce: what it computes is true. Condition: raw things of the second form's bound.
-/
import Derived.Test.YtjglenhhgbokbaaGreatDoorMake
import Derived.Test.YtjglenhhgbokbaaGreatDoorTree
namespace Go.Proofs.YtjglenhhgbokbaaGreatDoor
open Go.RowKit

theorem filter_nil_len {t : List NodeP} (ht : TreeOk t) : planP (filterP t []) = planP t := by rw [filter_none_ ht]
theorem small_plan : (planP (filterP smallP [])).length = 3 := by rw [planP_length, filter_none_ small_ok]; rfl
def PoSt (w : World) (A B F : Option Addr) (c d e n : Nat) (t : List NodeP) (W : World) : Prop := Below w.heap.size w W ∧ NodesAt W (.slice A n c) t ∧ EntsOwn W 0 (.slice B n d) (planP t) ∧ IntsOwn W 0 (.slice F n e) (firstsP t)
theorem PoSt.below {w W W' : World} {A B F : Option Addr} {c d e n : Nat} {t : List NodeP} (h : PoSt w A B F c d e n t W) (hb : Below W.heap.size W W') : PoSt w A B F c d e n t W' := ⟨h.1.trans (hb.mono h.1.size), h.2.1.below hb, h.2.2.1.below hb, h.2.2.2.below hb⟩
set_option maxRecDepth 100000 in
set_option maxHeartbeats 8000000 in
theorem PlanOnce_walk (w : World) (hsh : w.ShapedOpen Tryz.prog) (v : Value) (l : List RawS) (hl : RawsAt w w.heap.size v l) (hok : ∀ x ∈ l, RawOk x) (hn : l.length ≤ 1048576) :
    Calls Tryz.prog 5 #[v] w fun e w' => e = .returned (.bool true) ∧ Below w.heap.size w w' := by
  have hm := ML.of_shaped hsh
  clear hsh
  have HML : Hid (∀ W, Below w.heap.size w W → ML W) := Lib.hid (fun W hb => hm.below hb)
  have HT := Lib.hid (fun (_ : Unit) => Tree_any l v 30 w hm hl hok hn (by omega))
  have hto := treeP_ok l 30 (by omega)
  have HMK : Hid (∀ W x (a : List NodeP), Below w.heap.size w W → NodesAt W x a → TreeOk a → Calls Tryz.prog 16 #[x, .slice none 0 0] W fun e w' => ∃ ev, e = .returned (.tuple #[ev, .int .i64 0]) ∧ EntsOwn w' W.heap.size ev (planP (filterP a [])) ∧ Below W.heap.size W w') := Lib.hid (fun W x a hb h1 h2 => Make_any x _ a [] W (fun W2 h => HML.out W2 (hb.trans (h.mono hb.size))) h1 h2 (RulesAt.nil _) (by simp))
  clear hm hl hok hn
  generalize treeP l 30 = t at *
  have HTO := Lib.hid hto
  have hlen := hto.len
  have HPE := Lib.hid (filter_nil_len hto)
  have hpl := planP_length t
  have hfl := firstsP_length t
  have HPL := Lib.hid hpl
  have HFL := Lib.hid hfl
  clear hto
  go_enter Tryz.func5, Tryz.ntmps5
  go_wp2_with fail
  refine (HT.out ()).mono ?_
  rintro e' w1 ⟨tv, rfl, htv, b1⟩
  have B1 := Lib.hid b1
  have HT1 := Lib.hid htv.at_
  have H1 := Lib.hid (HMK.out w1 tv t b1 htv.at_ HTO.out)
  rw [HPE.out] at H1
  obtain ⟨_, At, ct, -, hte, hct1, hct2, -⟩ := htv.at_
  subst hte
  unfold maxLen at hct2
  clear b1 htv HT
  go_wp2_with fail
  refine H1.out.mono ?_
  rintro e' w2 ⟨xv, rfl, hxv, b2⟩
  have B2 := Lib.hid (B1.out.trans (b2.mono B1.out.size))
  have HT2 := Lib.hid (HT1.out.below b2)
  have HX2 := Lib.hid hxv
  obtain ⟨Ax, cx, hxe, hcx1, hcx2⟩ := hxv.slice
  rw [hpl] at hxe hcx1
  subst hxe
  unfold maxLen at hcx2
  have HFI := Lib.hid (Firsts_any _ t w2 (HML.out _ B2.out) HT2.out HTO.out.node HTO.out.chk)
  clear b2 hxv HT1 H1
  go_wp2_with fail
  refine HFI.out.mono ?_
  rintro e' w3 ⟨fv, rfl, hfv, b3⟩
  have B3 := Lib.hid (B2.out.trans (b3.mono B2.out.size))
  have HT3 := Lib.hid (HT2.out.below b3)
  have HX3 := Lib.hid (HX2.out.below b3)
  have HF3 := Lib.hid hfv
  obtain ⟨Af, cf, hfe, hcf1, hcf2⟩ := hfv.slice_
  rw [hfl] at hfe hcf1
  subst hfe
  unfold maxLen at hcf2
  clear b3 hfv HT2 HX2 HFI
  go_wp2_with fail
  refine (Small_any _).mono ?_
  rintro e' w4 ⟨sv, rfl, hsv, b4⟩
  have B4 := Lib.hid (B3.out.trans (b4.mono B3.out.size))
  have HT4 := Lib.hid (HT3.out.below b4)
  have HX4 := Lib.hid (HX3.out.below b4)
  have HF4 := Lib.hid (HF3.out.below b4)
  have H4 := Lib.hid (HMK.out w4 sv smallP B4.out hsv.at_ small_ok)
  clear b4 hsv HT3 HX3 HF3
  go_wp2_with fail
  refine H4.out.mono ?_
  rintro e' w5 ⟨ov, rfl, hov, b5⟩
  have H0 : Hid (PoSt w At Ax Af ct cx cf t.length t w5) := Lib.hid ⟨B4.out.trans (b5.mono B4.out.size), HT4.out.below b5, (HX4.out.below b5).mono (Nat.zero_le _), (HF4.out.below b5).mono (Nat.zero_le _)⟩
  obtain ⟨Ao, co, hoe, -⟩ := hov.slice
  rw [small_plan] at hoe
  subst hoe
  clear b5 hov H4 HT4 HX4 HF4 hpl hfl
  have q1 : ((t.length : Int) != (t.length : Int)) = false := bne_self_eq_false _
  have q2 : ((t.length : Int) == (t.length : Int)) = true := beq_self_eq_true _
  go_wp2_with fail
  go_loopg [60] t.length (fun gg s60 wr => ∃ k : Nat, k ≤ t.length ∧ t.length - k ≤ gg ∧ s60 = .int .i64 k ∧ Hid (PoSt w At Ax Af ct cx cf t.length t wr))
  case atStart => exact ⟨0, Nat.zero_le _, by omega, rfl, H0⟩
  case round =>
    obtain ⟨k, hk, hg, rfl, HS⟩ := hrel
    by_cases hlt : k < t.length
    · have hltz : (k : Int) < (t.length : Int) := by omega
      have hk0 : (0 : Int) ≤ (k : Int) := by omega
      have hkf : k < (firstsP t).length := by rw [HFL.out]; exact hlt
      have hkp : k < (planP t).length := by rw [HPL.out]; exact hlt
      obtain ⟨ad2, rfl, f1⟩ := HS.out.2.2.2.load hkf
      rw [show (firstsP t)[k] = (firstAt t k : Int) by simp [firstsP]] at f1
      obtain ⟨hfle, -, -⟩ := firstAt_spec hlt
      obtain ⟨gx, cgx, hve, -, -, -, -, -, hrow⟩ := HS.out.2.2.1.row (by omega)
      obtain ⟨rfl, rfl⟩ : Ax = some ⟨gx, 0, none⟩ ∧ cx = cgx := by injection hve with h1 _ h2; exact ⟨h1, h2⟩
      obtain ⟨Ad, cd, hdx, -, hcells⟩ := hrow k hkp
      have x1 := hcells 1 (by omega)
      have x2 := hcells 2 (by omega)
      have x10 := hcells 10 (by omega)
      rw [planP_at hlt] at hdx x1 x2 x10
      simp only [entC, List.getElem?_cons_zero, List.getElem?_cons_succ] at x1 x2 x10
      clear hve hrow hcells hkp hkf
      obtain ⟨ad, Ay, cy, rfl, hb, hdy, -, e1, -, -, -, -, -, -, -, -, -, e11⟩ := node_read HS.out.2.1 hlt
      have hgk : t.getD k default = t[k] := getD_at hlt
      by_cases hfk : firstAt t k = k
      · have he : entAt t k = entOf t[k] := by unfold entAt; rw [if_neg (by omega), hgk]
        rw [he] at hdx x1 x2 x10
        simp only [entOf] at hdx x1 x2 x10
        rw [hfk] at f1
        have hc1 := fun d os => conv_str (hdx.below (below_regrown wr d os)).bytes
        have hc2 := fun d os => conv_str (hdy.below (below_regrown wr d os)).bytes
        have e1 := fun d os => cell_regrown e1 d os
        have e11 := fun d os => cell_regrown e11 d os
        have x1 := fun d os => cell_regrown x1 d os
        have x10 := fun d os => cell_regrown x10 d os
        clear he hfk hgk hfle hdx hdy
        generalize t[k].kind = kk at *
        generalize bs t[k].target = bt at *
        generalize hbd : bs t[k].data = bd at *
        generalize t[k].data.length = dl at *
        clear hbd x2
        go_upto_region 11 with fail
        simp only [List.append]
        refine wp_region_quiet_below mixed_ok (by kernel_rfl) ?_
        repeat (go_big_quiet_step (fail))
        refine wpQuiet_nil ?_
        intro _ hw'
        obtain ⟨⟨dq, osq⟩, hw''⟩ := hw'
        subst hw''
        have HS2 := Lib.hid (HS.out.below (below_regrown wr dq osq))
        clear e1 e11 x1 x10 hc1 hc2 f1
        generalize Sort.grow (redrawn wr dq) osq = w9 at *
        go_wp2_with fail
        go_roundg (t.length - (k + 1))
        case measure => omega
        case rel => exact ⟨k + 1, by omega, by omega, by go_num, HS2⟩
      · have hfl2 : firstAt t k < t.length := by omega
        obtain ⟨ad', Az, cz, had, -, -, g0, -⟩ := node_read HS.out.2.1 hfl2
        injection had with had
        subst had
        have hgf : t.getD (firstAt t k) default = t[firstAt t k] := getD_at hfl2
        have he : entAt t k = entLink t[k] t[firstAt t k] := by unfold entAt; rw [if_pos (by omega), hgk, hgf]
        rw [he] at hdx x1 x2 x10
        simp only [entLink, List.length_nil] at x1 x2 x10
        have q3 : ((firstAt t k : Int) == (k : Int)) = false := by simp; omega
        have q4 : (firstAt t k == k) = false := by simp; omega
        have i1 : (0 : Int) ≤ (firstAt t k : Int) := by omega
        have i2 : (firstAt t k : Int) < (t.length : Int) := by omega
        clear he hgk hgf hdx hdy
        generalize bs t[firstAt t k].path = bp at *
        generalize firstAt t k = fk at *
        clear e1 e11
        have f1' := f1
        have f1 := fun d os => cell_regrown f1 d os
        have g0 := fun d os => cell_regrown g0 d os
        have x1 := fun d os => cell_regrown x1 d os
        have x2 := fun d os => cell_regrown x2 d os
        have x10 := fun d os => cell_regrown x10 d os
        go_upto_region 11 with fail
        simp only [List.append]
        refine wp_region_quiet_below mixed_ok (by kernel_rfl) ?_
        repeat (go_big_quiet_step (fail))
        refine wpQuiet_nil ?_
        intro _ hw'
        obtain ⟨⟨dq, osq⟩, hw''⟩ := hw'
        subst hw''
        have HS2 := Lib.hid (HS.out.below (below_regrown wr dq osq))
        clear g0 x1 x2 x10 f1 f1'
        generalize Sort.grow (redrawn wr dq) osq = w9 at *
        go_wp2_with fail
        go_roundg (t.length - (k + 1))
        case measure => omega
        case rel => exact ⟨k + 1, by omega, by omega, by go_num, HS2⟩
    · obtain rfl : k = t.length := by omega
      go_wp2_with fail
      go_ret
      exact ⟨rfl, HS.out.1⟩
end Go.Proofs.YtjglenhhgbokbaaGreatDoor
