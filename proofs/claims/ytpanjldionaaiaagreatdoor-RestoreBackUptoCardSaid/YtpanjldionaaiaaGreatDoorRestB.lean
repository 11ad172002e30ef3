/-
  A renumbered tree is alike, plainly. Condition: a tree that may be.
  The law RestoreBack: what it computes is true. Condition: raw things of the second form's bound; the library's table of powers of ten lies as Go laid it.
-/
import Derived.Test.YtpanjldionaaiaaGreatDoorAlikeK
namespace Go.Proofs.YtpanjldionaaiaaGreatDoor
set_option linter.all false
open Go.RowKit
/-! ### renumbering, plainly -/
theorem anew_firsts (t : List NodeP) (i : Nat) (hi : i < t.length) : (anewP t).getD i default = setSame t[i] (anewS t i) := by
  rw [getD_at (by rw [anewP_length]; exact hi), anewP_at hi]
  unfold anewAt
  rw [getD_at hi]
theorem firstAt_one {t : List NodeP} {i j : Nat} (hi : i < t.length) (hj : j < t.length) : firstAt t i = firstAt t j ↔ i = j ∨ (t[i].same ≠ 0 ∧ t[i].same = t[j].same) := by
  have key : ∀ {i j : Nat} (hi : i < t.length) (hj : j < t.length), t[i].same ≠ 0 → t[i].same = t[j].same → firstAt t i = firstAt t j := fun {i j} hi hj h1 h2 => by
    have hex : ∃ k, t.findIdx? (sameAt t[i].same) = some k := by
      cases hq : t.findIdx? (sameAt t[i].same) with
      | some k => exact ⟨k, rfl⟩
      | none =>
        rw [List.findIdx?_eq_none_iff] at hq
        have := hq t[i] (List.getElem_mem _)
        simp [sameAt] at this
    obtain ⟨k, hk⟩ := hex
    unfold firstAt
    rw [getD_at hi, getD_at hj, if_neg h1, if_neg (by rw [← h2]; exact h1), ← h2, hk]; rfl
  constructor
  · intro h
    by_cases e : i = j
    · exact .inl e
    · refine .inr ?_
      obtain ⟨a1, a2, a3⟩ := firstAt_spec hi
      obtain ⟨b1, b2, b3⟩ := firstAt_spec hj
      by_cases e1 : firstAt t i = i
      · obtain ⟨h1, h2, h3⟩ := b3 (by rw [← h, e1]; exact e)
        have h4 : t[firstAt t j]'h1 = t[i] := by congr 1; rw [← h, e1]
        rw [h4] at h2
        exact ⟨by rw [h2]; exact h3, h2⟩
      · obtain ⟨h1, h2, h3⟩ := a3 e1
        by_cases e2 : firstAt t j = j
        · have h4 : t[firstAt t i]'h1 = t[j] := by congr 1; rw [h, e2]
          rw [h4] at h2
          exact ⟨h3, h2.symm⟩
        · obtain ⟨g1, g2, g3⟩ := b3 e2
          have h4 : t[firstAt t i]'h1 = t[firstAt t j]'g1 := by congr 1
          exact ⟨h3, by rw [← h2, h4, g2]⟩
  · rintro (rfl | ⟨h1, h2⟩)
    · rfl
    · exact key hi hj h1 h2
theorem count_firsts (t : List NodeP) (f : Nat) : 1 < (firstsP t).count (f : Int) ↔ ∃ i j, i < j ∧ j < t.length ∧ firstAt t i = f ∧ firstAt t j = f := by
  have gen : ∀ (n : Nat) (g : Nat → Nat), ((1 < ((List.range n).map fun i => (g i : Int)).count (f : Int)) ↔ ∃ i j, i < j ∧ j < n ∧ g i = f ∧ g j = f) ∧ ((0 < ((List.range n).map fun i => (g i : Int)).count (f : Int)) ↔ ∃ i, i < n ∧ g i = f) := by
    intro n g
    induction n with
    | zero => simp
    | succ n ih =>
      obtain ⟨ih1, ih2⟩ := ih
      rw [List.range_succ, List.map_append, List.count_append, List.map_singleton, List.count_singleton]
      by_cases h : g n = f
      · have e : ((g n : Int) == (f : Int)) = true := by simp [h]
        rw [e]
        simp only [if_true]
        constructor
        · constructor
          · intro h1
            obtain ⟨i, hi, hg⟩ := ih2.1 (by omega)
            exact ⟨i, n, hi, by omega, hg, h⟩
          · rintro ⟨i, j, hij, hj, hi, hgj⟩
            have := ih2.2 ⟨i, by omega, hi⟩
            omega
        · exact ⟨fun _ => ⟨n, by omega, h⟩, fun _ => by omega⟩
      · have e : ((g n : Int) == (f : Int)) = false := by simp; exact fun a => h (by omega)
        rw [e]
        simp only [Bool.false_eq_true, if_false, Nat.add_zero]
        constructor
        · rw [ih1]
          constructor
          · rintro ⟨i, j, a, b, c, d⟩; exact ⟨i, j, a, by omega, c, d⟩
          · rintro ⟨i, j, a, b, c, d⟩
            refine ⟨i, j, a, ?_, c, d⟩
            rcases Nat.lt_or_ge j n with hl | hl
            · exact hl
            · exact absurd (by rw [← d]; congr 1; omega) h
        · rw [ih2]
          constructor
          · rintro ⟨i, a, c⟩; exact ⟨i, by omega, c⟩
          · rintro ⟨i, a, c⟩
            refine ⟨i, ?_, c⟩
            rcases Nat.lt_or_ge i n with hl | hl
            · exact hl
            · exact absurd (by rw [← c]; congr 1; omega) h
  exact (gen t.length (firstAt t)).1
theorem anew_same (t : List NodeP) {i j : Nat} (hi : i < t.length) (hj : j < t.length) (hne : i ≠ j) : (0 < anewS t i ∧ anewS t i = anewS t j) ↔ firstAt t i = firstAt t j := by
  unfold anewS
  constructor
  · rintro ⟨h1, h2⟩
    by_cases a : 1 < (firstsP t).count (firstAt t i : Int)
    · by_cases b : 1 < (firstsP t).count (firstAt t j : Int)
      · rw [if_pos a, if_pos b] at h2; omega
      · rw [if_pos a, if_neg b] at h2; omega
    · rw [if_neg a] at h1; omega
  · intro h
    have a : 1 < (firstsP t).count (firstAt t i : Int) := by
      rw [count_firsts]
      rcases Nat.lt_or_ge i j with hl | hl
      · exact ⟨i, j, hl, hj, rfl, h.symm⟩
      · exact ⟨j, i, by omega, hi, h.symm, rfl⟩
    rw [← h, if_pos a]
    exact ⟨by omega, rfl⟩
/-- told anew, the same nodes are one -/
theorem anew_firstAt (t : List NodeP) {i : Nat} (hi : i < t.length) : firstAt (anewP t) i = firstAt t i := by
  have hl := anewP_length t
  obtain ⟨a1, a2, a3⟩ := firstAt_spec (t := anewP t) (i := i) (by omega)
  obtain ⟨b1, b2, b3⟩ := firstAt_spec hi
  have hs : ∀ k (hk : k < t.length), ((anewP t)[k]'(by omega)).same = anewS t k := fun k hk => by rw [anewP_at hk]; rfl
  have hpos : ∀ k, 0 ≤ anewS t k := fun k => by unfold anewS; split <;> omega
  have two : ∀ {x y : Nat} (hx : x < t.length) (hy : y < t.length), firstAt (anewP t) x = firstAt (anewP t) y ↔ firstAt t x = firstAt t y := fun {x y} hx hy => by
    rw [firstAt_one (t := anewP t) (by omega) (by omega), hs x hx, hs y hy]
    by_cases e : x = y
    · subst e; simp
    · rw [← anew_same t hx hy e]
      have := hpos x
      constructor
      · rintro (h | ⟨h1, h2⟩)
        · exact absurd h e
        · exact ⟨by omega, h2⟩
      · rintro ⟨h1, h2⟩
        exact .inr ⟨by omega, h2⟩
  have c1 : firstAt t (firstAt (anewP t) i) = firstAt t i := (two (by omega) hi).1 a2
  have c2 : firstAt (anewP t) (firstAt t i) = firstAt (anewP t) i := (two (by omega) hi).2 b2
  have d1 := (firstAt_spec (t := t) (i := firstAt (anewP t) i) (by omega)).1
  have d2 := (firstAt_spec (t := anewP t) (i := firstAt t i) (by omega)).1
  omega
theorem anew_node {t : List NodeP} (ht : TreeOk t) : ∀ x ∈ anewP t, NodeOk x := by
  intro x hx
  obtain ⟨i, hi, rfl⟩ := List.getElem_of_mem hx
  have hi2 : i < t.length := by rw [anewP_length] at hi; exact hi
  rw [anewP_at hi2]
  unfold anewAt
  rw [getD_at hi2]
  have hn := ht.node t[i] (List.getElem_mem _)
  obtain ⟨a1, a2, a3⟩ := firstAt_spec hi2
  have hlen := ht.len
  refine ⟨hn.path, hn.mt, ⟨?_, ?_, fun hk => ?_⟩, hn.kind, hn.data, hn.none, hn.target⟩
  · show 0 ≤ anewS t i; unfold anewS; split <;> omega
  · show anewS t i ≤ 1048576; unfold anewS; split <;> omega
  · have h0 := hn.same.2.2 hk
    show anewS t i = 0
    unfold anewS
    rw [if_neg]
    intro hc
    rw [count_firsts] at hc
    obtain ⟨x, y, hxy, hy, e1, e2⟩ := hc
    have hx : x < t.length := by omega
    have f1 := (firstAt_one hx hi2).1 e1
    have f2 := (firstAt_one hy hi2).1 e2
    rcases f1 with rfl | ⟨g1, g2⟩
    · rcases f2 with f2 | ⟨g3, g4⟩
      · omega
      · rw [g4] at g3; exact g3 h0
    · rw [g2] at g1; exact g1 h0
theorem linkd_iff {t : List NodeP} (hn : ∀ x ∈ t, NodeOk x) {i k : Nat} (hi : i < t.length) (hk : k < i) : linkd t i k = decide (firstAt t i = firstAt t k) := by
  have hk2 : k < t.length := by omega
  unfold linkd
  rw [getD_at hi, getD_at hk2, Bool.eq_iff_iff, Bool.and_eq_true, decide_eq_true_eq, beq_iff_eq, decide_eq_true_eq, firstAt_one hi hk2]
  have hp := (hn t[i] (List.getElem_mem _)).same.1
  constructor
  · rintro ⟨h1, h2⟩
    exact .inr ⟨by omega, h2⟩
  · rintro (h | ⟨h1, h2⟩)
    · omega
    · exact ⟨by omega, h2⟩
theorem anew_alike {t : List NodeP} (ht : TreeOk t) : alikeT (anewP t) t = true := by
  refine alikeT_on (anewP_length t) (fun i hi => ?_)
  rw [anewP_length] at hi
  refine alikeAt_on ?_ (fun k hk => ?_)
  · rw [anew_firsts t i hi, getD_at hi]
    unfold nodeAlike sameB setSame
    simp
  · rw [linkd_iff (anew_node ht) (by rw [anewP_length]; exact hi) hk, linkd_iff ht.node hi hk, anew_firstAt t hi, anew_firstAt t (by omega)]
    simp
end Go.Proofs.YtpanjldionaaiaaGreatDoor
namespace Go.Proofs.YtpanjldionaaiaaGreatDoor
set_option linter.all false
open Go.RowKit
set_option maxRecDepth 100000 in
set_option maxHeartbeats 4000000 in
theorem RestoreBack_walk (w : World) (hsh : w.ShapedOpen Tryz.prog) (h10 : P10 w) (v : Value) (l : List RawS) (hl : RawsAt w w.heap.size v l) (hok : ∀ x ∈ l, RawOk x) (hn : l.length ≤ 1048576) :
    Calls Tryz.prog 4 #[v] w fun e w' => e = .returned (.bool true) ∧ Below w.heap.size w w' := by
  have hm := ML.of_shaped hsh
  clear hsh
  have HML : Hid (∀ W, Below w.heap.size w W → ML W) := Lib.hid (fun W hb => hm.below hb)
  have HP10 : Hid (∀ W, Below w.heap.size w W → P10 W) := Lib.hid (fun W hb => h10.below hb)
  have HE := Lib.hid (entriesOf_any l v 20 w hm hl hok hn (by omega))
  have hto := treeP_ok l 20 (by omega)
  have HTR : Hid (∀ W, Below w.heap.size w W → Calls Tryz.prog 10 #[v, .int .i64 20] W fun e w' => ∃ tv, e = .returned tv ∧ NodesOwn w' W.heap.size tv (treeP l 20) ∧ Below W.heap.size W w') := Lib.hid (fun W hb => Tree_any l v 20 W (HML.out W hb) ((hl.below hb).more hb.size) hok hn (by omega))
  obtain ⟨Al, cl, rfl, -⟩ := hl
  clear hm h10 hok hn
  generalize treeP l 20 = t at *
  have HAL := Lib.hid (anew_alike hto)
  have hal := anewP_length t
  have hlen := hto.len
  have HWA := Lib.hid (fun W (hb : Below w.heap.size w W) v (h : EntsOwn W w.heap.size v (planP t)) => (show Calls Tryz.prog 18 #[v] W fun e w' => ∃ bv, e = .returned (.tuple #[bv, .int .i64 0]) ∧ BytesOwn w' W.heap.size bv (arcB (planP t) ++ endB) ∧ Below W.heap.size W w' by
    obtain ⟨xs, hx⟩ := EntsRow.at_ h
    exact WArchive_ok v (planP t) xs W (fun W' hb' => HML.out W' (hb.trans (hb'.mono hb.size))) (fun W' hb' => HP10.out W' (hb.trans (hb'.mono hb.size))) hx (plan_ok hto)))
  have HRT := Lib.hid (fun W v (hb : Below w.heap.size w W) hv => RTree_back t hto v W (fun W' hb' => HML.out W' (hb.trans (hb'.mono hb.size))) (fun W' hb' => HP10.out W' (hb.trans (hb'.mono hb.size))) hv)
  have HAK := Lib.hid (fun W v1 v2 (h1 : NodesAt W v1 (anewP t)) (h2 : NodesAt W v2 t) => (show Calls Tryz.prog 20 #[v1, v2] W fun e w' => e = .returned (.bool true) ∧ Below W.heap.size W w' by
    have h := AlikeK_any v1 v2 _ _ W h1 h2 (by rw [hal]; omega)
    rw [HAL.out] at h
    exact h))
  clear hto hal hlen HML HP10 HAL
  generalize arcB (planP t) ++ endB = M at *
  generalize planP t = x at *
  generalize anewP t = y at *
  go_enter Tryz.func4, Tryz.ntmps4
  go_wp2_with fail
  refine HE.out.mono ?_
  rintro e w1 ⟨ev, rfl, hev, b1⟩
  have HB1 := Lib.hid b1
  have HV1 := Lib.hid hev
  obtain ⟨Ae, ce, rfl, -⟩ := hev.slice
  clear hev b1 HE
  go_wp2_with fail
  refine (HWA.out _ HB1.out _ HV1.out).mono ?_
  rintro e w2 ⟨bv, rfl, hbv, b2⟩
  have HB2 := Lib.hid (HB1.out.trans (b2.mono HB1.out.size))
  have HAT := Lib.hid hbv.at_
  obtain ⟨Ab, cb, evb, -⟩ := hbv.at_
  generalize (List.map ofB M).length = n2 at evb
  subst evb
  clear hbv b2 HWA HV1 HB1
  go_wp2_with fail
  refine (HRT.out _ _ HB2.out HAT.out).mono ?_
  rintro e w3 ⟨yv, rfl, hyv, b3⟩
  have HB3 := Lib.hid (HB2.out.trans (b3.mono HB2.out.size))
  have HY3 := Lib.hid hyv.at_
  obtain ⟨_, Ay, cy, -, hye, -⟩ := hyv.at_
  subst hye
  clear hyv b3 HRT HAT HB2
  go_wp2_with fail
  refine (HTR.out _ HB3.out).mono ?_
  rintro e w4 ⟨tv, rfl, htv, b4⟩
  have HB4 := Lib.hid (HB3.out.trans (b4.mono HB3.out.size))
  have HY4 := Lib.hid (HY3.out.below b4)
  have HT4 := Lib.hid htv.at_
  obtain ⟨_, At, ct, -, hte, -⟩ := htv.at_
  subst hte
  clear htv b4 HTR HY3 HB3
  go_wp2_with fail
  refine (HAK.out _ _ _ HY4.out HT4.out).mono ?_
  rintro e w5 ⟨rfl, b5⟩
  have HB5 := Lib.hid (HB4.out.trans (b5.mono HB4.out.size))
  clear b5 HAK
  go_wp2_with fail
  go_ret
  exact ⟨rfl, HB5.out⟩
end Go.Proofs.YtpanjldionaaiaaGreatDoor
