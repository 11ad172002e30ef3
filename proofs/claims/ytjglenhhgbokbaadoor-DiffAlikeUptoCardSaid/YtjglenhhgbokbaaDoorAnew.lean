/-
  link.Anew: files that are one told by the place of the first one. Condition: a tree that passes tree.Check, its nodes each by themselves.
-/
import Derived.Test.YtjglenhhgbokbaaDoorNamesL
namespace Go.Proofs.YtjglenhhgbokbaaDoor
open Go.RowKit

def setSame (x : NodeP) (s : Int) : NodeP := ⟨x.path, x.kind, s, x.target, x.mt, x.data⟩
def anewS (t : List NodeP) (i : Nat) : Int := if 1 < (firstsP t).count (firstAt t i : Int) then (firstAt t i : Int) + 1 else 0
def anewAt (t : List NodeP) (i : Nat) : NodeP := setSame (t.getD i default) (anewS t i)
def anewP (t : List NodeP) : List NodeP := (List.range t.length).map (anewAt t)
theorem anewP_length (t : List NodeP) : (anewP t).length = t.length := by simp [anewP]
theorem anewP_at {t : List NodeP} {i : Nat} (hi : i < t.length) : (anewP t)[i]'(by rw [anewP_length]; exact hi) = anewAt t i := by simp [anewP]
/-- what i rounds leave -/
def anewTo (t : List NodeP) (i : Nat) : List NodeP := (anewP t).take i ++ t.drop i
theorem anewTo_length (t : List NodeP) (i : Nat) (hi : i ≤ t.length) : (anewTo t i).length = t.length := by
  unfold anewTo; rw [List.length_append, List.length_take, List.length_drop, anewP_length]; omega
theorem anewTo_zero (t : List NodeP) : anewTo t 0 = t := by simp [anewTo]
theorem anewTo_all (t : List NodeP) : anewTo t t.length = anewP t := by
  unfold anewTo; rw [List.take_of_length_le (by rw [anewP_length]; omega), List.drop_length, List.append_nil]
theorem anewTo_at {t : List NodeP} {i : Nat} (hi : i < t.length) : (anewTo t i)[i]'(by rw [anewTo_length _ _ (by omega)]; exact hi) = t[i] := by
  unfold anewTo
  rw [List.getElem_append_right (by rw [List.length_take, anewP_length]; omega)]
  simp only [List.length_take, anewP_length, List.getElem_drop]
  congr 1; omega
theorem anewTo_set {t : List NodeP} {i : Nat} (hi : i < t.length) : (anewTo t i).set i (anewAt t i) = anewTo t (i + 1) := by
  unfold anewTo
  rw [List.set_append_right _ _ (by rw [List.length_take, anewP_length]; omega), List.take_succ_eq_append_getElem (by rw [anewP_length]; exact hi), List.append_assoc]
  have e : i - ((anewP t).take i).length = 0 := by rw [List.length_take, anewP_length]; omega
  rw [e, List.drop_eq_getElem_cons hi, List.set_cons_zero, anewP_at hi]
  rfl
theorem setSame_data (x : NodeP) (s : Int) : (setSame x s).data = x.data := rfl
theorem setSame_cells (x : NodeP) (s : Int) (dv : Value) : (nodeC (x, dv)).set 2 (.int .i64 s) = nodeC (setSame x s, dv) := rfl
set_option maxRecDepth 100000 in
set_option maxHeartbeats 4000000 in
theorem Anew_any (v : Value) (l : List NodeP) (w : World) (hm : ML w) (hl : NodesAt w v l) (hok : ∀ x ∈ l, NodeOk x) (hch : chkT l = 0) :
    Calls Tryd.prog 63 #[v] w fun e w' => ∃ nv, e = .returned (.tuple #[nv, .int .i64 0]) ∧ NodesOwn w' w.heap.size nv (anewP l) ∧ Below w.heap.size w w' := by
  have hlen := (chkT_all hch).1
  have HF := Lib.hid (Firsts_any v l w hm hl hok hch)
  have HN : Hid (∀ W, Below w.heap.size w W → Calls Tryd.prog 87 #[v] W fun e w' => ∃ nv, e = .returned (.tuple #[nv, .int .i64 0]) ∧ IntsOwn w' W.heap.size nv (cntL (firstsP l)) ∧ Below W.heap.size W w') := Lib.hid (fun W hb => Names_any v l W (hm.below hb) (hl.below hb) hok hch)
  have HC : Hid (∀ W, Below w.heap.size w W → Calls Tryd.prog 21 #[v] W fun e w' => ∃ tv, e = .returned tv ∧ NodesOwn w' W.heap.size tv l ∧ Below W.heap.size W w') := Lib.hid (fun W hb => Copy_any v l W (hl.below hb) (by omega) (fun x hx => by have := (hok x hx).data.1; omega))
  have hfl := firstsP_length l
  clear hm hl hok hch
  go_enter Tryd.func63, Tryd.ntmps63
  go_wp2_with fail
  refine HF.out.mono ?_
  rintro e w1 ⟨fv, rfl, hfv, b1⟩
  have B1 := Lib.hid b1
  have HFV1 := Lib.hid hfv
  clear b1 hfv
  go_wp2_with fail
  refine (HN.out _ B1.out).mono ?_
  rintro e w2 ⟨nv, rfl, hnv, b2⟩
  have B2 := Lib.hid (B1.out.trans (b2.mono B1.out.size))
  have HFV2 := Lib.hid (HFV1.out.below b2)
  have HNV2 := Lib.hid hnv
  clear b2 hnv HFV1
  go_wp2_with fail
  refine (HC.out _ B2.out).mono ?_
  rintro e w3 ⟨tv, rfl, htv, b3⟩
  have B3 := Lib.hid (B2.out.trans (b3.mono B2.out.size))
  have HFV3 := Lib.hid (HFV2.out.below b3)
  have HNV3 := Lib.hid (HNV2.out.below b3)
  obtain ⟨A2, c2, hfe, hc21, hc22⟩ := HFV3.out.slice_
  obtain ⟨A3, c3, hne, hc31, hc32⟩ := HNV3.out.slice_
  have h0 := htv
  obtain ⟨xs, -, hox, -⟩ := htv
  obtain ⟨A1, c1, hte, hc11, hc12, -⟩ := ownsRow_read hox
  rw [cntL_length, hfl] at hne hc31
  rw [hfl] at hfe hc21
  subst hfe hne hte
  unfold maxLen at hc12 hc22 hc32
  have H0 : Hid (Below w2.heap.size w2 w3 ∧ NodesOwn w3 w2.heap.size (.slice A1 l.length c1) (anewTo l 0)) := Lib.hid ⟨b3, by rw [anewTo_zero]; exact h0⟩
  have HFL := Lib.hid hfl
  clear b3 h0 hox HFV3 HNV3 hfl
  go_wp2_with fail
  go_loopg [27] l.length (fun gg s27 wr => ∃ k : Nat, k ≤ l.length ∧ l.length - k ≤ gg ∧ s27 = .int .i64 k ∧ Hid (Below w2.heap.size w2 wr ∧ NodesOwn wr w2.heap.size (.slice A1 l.length c1) (anewTo l k)))
  case atStart => exact ⟨0, Nat.zero_le _, by omega, rfl, H0⟩
  case round =>
    obtain ⟨i, hi, hg, rfl, HS⟩ := hrel
    by_cases hlt : i < l.length
    · have hltz : (i : Int) < (l.length : Int) := by omega
      have hL : i < (firstsP l).length := by rw [HFL.out]; exact hlt
      obtain ⟨ad2, rfl, f1⟩ := (HFV2.out.below HS.out.1).load hL
      obtain ⟨ad3, rfl, n1⟩ := (HNV2.out.below HS.out.1).load (k := i) (by rw [cntL_length]; exact hL)
      have e1 : (firstsP l)[i] = (firstAt l i : Int) := by simp [firstsP]
      have e2 : (cntL (firstsP l))[i]'(by rw [cntL_length]; exact hL) = ((firstsP l).count (firstAt l i : Int) : Int) := by simp [cntL, firstsP]
      rw [e1] at f1
      rw [e2] at n1
      have hfle := (firstAt_spec hlt).1
      have hlt2 := anewTo_length l i hi
      obtain ⟨g, cg, hv, hgb, hglt, -, -, hfz, hrow⟩ := HS.out.2.row (by omega)
      rw [hlt2] at hv
      injection hv with hv1 _ hv2
      subst hv1 hv2
      obtain ⟨dv, -, -, hcells⟩ := hrow i (by omega)
      have c2' := hcells 2 (by omega)
      rw [anewTo_at hlt] at c2'
      simp only [nodeC, List.getElem?_cons_zero, List.getElem?_cons_succ] at c2'
      have hfz2 := hfz (i * 12 + 2)
      have hib : (0 : Int) ≤ (i : Int) := by omega
      -- the first store, and both
      have hs1 : Hid (∀ s, Below w2.heap.size w2 (wr.setCell ⟨g, i * 12 + 2, none⟩ (.int .i64 s)) ∧ NodesOwn (wr.setCell ⟨g, i * 12 + 2, none⟩ (.int .i64 s)) w2.heap.size (.slice (some ⟨g, 0, none⟩) l.length c1) ((anewTo l i).set i (setSame l[i] s))) := Lib.hid (fun s => ⟨HS.out.1.setCell (p := ⟨g, i * 12 + 2, none⟩) hgb _, HS.out.2.set_ rfl (by omega) (by omega) _ (by rw [setSame_data, anewTo_at hlt]) (fun dv => by rw [anewTo_at hlt]; rfl)⟩)
      have hgt : Hid (l.getD i default = l[i]) := Lib.hid (getD_at hlt)
      have HST := Lib.hid (anewTo_set hlt)
      have HAN : Hid (anewAt l i = setSame l[i] (anewS l i)) := Lib.hid (by unfold anewAt; rw [hgt.out])
      have hcne : ad2.block ≠ g := by
        intro e
        have h1 : ad2.block < w2.heap.size := by
          obtain ⟨_, _, hve, _, _, _, hr⟩ := ownsRow_read HFV2.out
          obtain ⟨ad, _, he, hb, _, _⟩ := hr.at_ (k := i) (by omega)
          injection hve with hve
          subst hve
          injection he with he
          rw [he]; exact hb
        omega
      have hcne3 : ad3.block ≠ g := by
        intro e
        have h1 : ad3.block < w2.heap.size := by
          obtain ⟨_, _, hve, _, _, _, hr⟩ := ownsRow_read HNV2.out
          obtain ⟨ad, _, he, hb, _, _⟩ := hr.at_ (k := i) (by rw [cntL_length]; omega)
          injection hve with hve
          subst hve
          injection he with he
          rw [he]; exact hb
        omega
      have hc40 : (firstsP l).count (firstAt l i : Int) ≤ 40 := by
        have := List.count_le_length (a := (firstAt l i : Int)) (l := firstsP l)
        have h2 := HFL.out
        omega
      obtain ⟨W2, hW2⟩ : ∃ W2, W2 = wr.setCell ⟨g, i * 12 + 2, none⟩ (.int .i64 0) := ⟨_, rfl⟩
      have HB2 := Lib.hid (hs1.out 0)
      rw [← hW2] at HB2
      have f2 : W2.cell? (ad2.add i) = some (.int .i64 (firstAt l i : Int)) := by
        rw [hW2, World.cell?_setCell_other _ _ _ _ (fun e => hcne (by rw [← block_of_add ad2 i, ← e]))]; exact f1
      have n2 : W2.cell? (ad3.add i) = some (.int .i64 ((firstsP l).count (firstAt l i : Int) : Int)) := by
        rw [hW2, World.cell?_setCell_other _ _ _ _ (fun e => hcne3 (by rw [← block_of_add ad3 i, ← e]))]; exact n1
      have HSS : Hid (∀ s, W2.setCell ⟨g, i * 12 + 2, none⟩ (.int .i64 s) = W2.setCell ⟨g, i * 12 + 2, none⟩ (.int .i64 s)) := Lib.hid (fun _ => rfl)
      have hc2 : W2.cell? ⟨g, i * 12 + 2, none⟩ = some (.int .i64 0) := by
        have hbk : g < wr.heap.size := hglt
        rw [hW2]; exact World.cell?_setCell_same _ _ _ c2'
      have hz2 : W2.frozen? ⟨g, i * 12 + 2, none⟩ = false := by
        have hl2 : ((anewTo l i).set i (setSame l[i] 0)).length = l.length := by rw [List.length_set, hlt2]
        obtain ⟨g', cg', hv', -, -, -, -, hfz', -⟩ := HB2.out.2.row (by omega)
        injection hv' with hv1 _ _
        injection hv1 with hv1
        injection hv1 with hv1
        rw [hv1]; exact hfz' _
      clear e1 e2 hlt2 hrow hcells hfz hcne hcne3 hL f1 n1
      by_cases hc : 1 < (firstsP l).count (firstAt l i : Int)
      · have HAS : Hid (anewS l i = (firstAt l i : Int) + 1) := Lib.hid (by unfold anewS; rw [if_pos hc])
        have HFIN : Hid (Below w2.heap.size w2 (W2.setCell ⟨g, i * 12 + 2, none⟩ (.int .i64 ((firstAt l i : Int) + 1))) ∧ NodesOwn (W2.setCell ⟨g, i * 12 + 2, none⟩ (.int .i64 ((firstAt l i : Int) + 1))) w2.heap.size (.slice (some ⟨g, 0, none⟩) l.length c1) (anewTo l (i + 1))) := Lib.hid ⟨HB2.out.1.setCell (p := ⟨g, i * 12 + 2, none⟩) hgb _, by
          rw [← HST.out, HAN.out, HAS.out]
          have h := HB2.out.2.set_ (j := i) (i := 2) (u := .int .i64 ((firstAt l i : Int) + 1)) rfl (by rw [List.length_set, anewTo_length _ _ hi]; exact hlt) (by omega) (setSame l[i] ((firstAt l i : Int) + 1)) (by rw [List.getElem_set_self]; rfl) (fun dv => by rw [List.getElem_set_self]; rfl)
          rw [List.set_set] at h
          exact h⟩
        clear HAS
        generalize (firstsP l).count (firstAt l i : Int) = cn at *
        generalize firstAt l i = fk at *
        go_upto_region 10 with fail
        rw [← hW2]
        clear hW2
        go_wp2_with fail
        go_roundg (l.length - (i + 1))
        case measure => omega
        case rel => exact ⟨i + 1, by omega, by omega, by go_num, HFIN⟩
      · have HAS : Hid (anewS l i = 0) := Lib.hid (by unfold anewS; rw [if_neg hc])
        have HFIN : Hid (Below w2.heap.size w2 W2 ∧ NodesOwn W2 w2.heap.size (.slice (some ⟨g, 0, none⟩) l.length c1) (anewTo l (i + 1))) := Lib.hid ⟨HB2.out.1, by
          rw [← HST.out, HAN.out, HAS.out]
          exact HB2.out.2⟩
        clear HAS
        generalize (firstsP l).count (firstAt l i : Int) = cn at *
        generalize firstAt l i = fk at *
        go_upto_region 10 with fail
        rw [← hW2]
        clear hW2
        go_wp2_with fail
        go_roundg (l.length - (i + 1))
        case measure => omega
        case rel => exact ⟨i + 1, by omega, by omega, by go_num, HFIN⟩
    · obtain rfl : i = l.length := by omega
      go_wp2_with fail
      go_ret2
      refine ⟨_, rfl, ?_, B2.out.trans (HS.out.1.mono B2.out.size)⟩
      have h := HS.out.2
      rw [anewTo_all] at h
      exact h.mono B2.out.size
end Go.Proofs.YtjglenhhgbokbaaDoor
