/-
  slices.Delete of one node of a row of the call's own. No condition.
-/
import Derived.Test.YtpanjldionaaiaaDoorRemove
import Derived.Deep.RegionLaw
namespace Go.Proofs.YtpanjldionaaiaaDoor
set_option linter.all false
open Go.RowKit
/-- whole elements stored -/
theorem NodesOwn.stores {w : World} {base g n c : Nat} {l : List NodeP} (h : NodesOwn w base (.slice (some ⟨g, 0, none⟩) n c) l) {j : Nat} (ys : List NodeV) (hj : j + ys.length ≤ l.length) (hy : ∀ y ∈ ys, DataAt w base y.2 y.1.data) :
    NodesOwn (w.setCells g (j * 12) (ys.flatMap nodeC)) base (.slice (some ⟨g, 0, none⟩) n c) (l.take j ++ (ys.map (·.1) ++ l.drop (j + ys.length))) := by
  obtain ⟨xs, h0, ⟨h1, h2⟩, h3⟩ := h
  have hxl : xs.length = l.length := by rw [← h0, List.length_map]
  rcases h2 with ⟨h4, _⟩ | ⟨g', cap, cur, hv, hb, hg, hn, hm, hs, ht⟩
  · simp at h4
  · obtain ⟨rfl, rfl, rfl⟩ : g = g' ∧ n = l.length ∧ c = cap := by simpa using hv
    have hyl : (ys.flatMap nodeC).length = ys.length * 12 := flat_length nodeC_length ys
    have hsz : j * 12 + (ys.flatMap nodeC).length ≤ cur.size := by rw [hs, hyl]; omega
    have hk := U8Kept.setCells (w := w) hg (by decide) (j * 12) (ys.flatMap nodeC)
    have hll : (l.take j ++ (ys.map (·.1) ++ l.drop (j + ys.length))).length = l.length := by
      simp only [List.length_append, List.length_take, List.length_map, List.length_drop]; omega
    have hxl2 : (xs.take j ++ (ys ++ xs.drop (j + ys.length))).length = l.length := by
      simp only [List.length_append, List.length_take, List.length_drop]; omega
    refine ⟨xs.take j ++ (ys ++ xs.drop (j + ys.length)), by rw [List.map_append, List.map_append, List.map_take, List.map_drop, h0], ⟨by rw [flat_length nodeC_length, hxl2, hll], .inr ⟨g, c, _, by rw [hll], hb, setCells_row _ _ hg hsz, by rw [hll]; exact hn, hm, ?_, ?_⟩⟩, ?_⟩
    · simp only [List.size_toArray, List.length_append, List.length_take, List.length_drop, Array.length_toList, hyl]
      omega
    · rw [hll]
      have e3 : (xs.take j ++ (ys ++ xs.drop (j + ys.length))).flatMap nodeC = (xs.flatMap nodeC).take (j * 12) ++ ys.flatMap nodeC ++ (xs.flatMap nodeC).drop (j * 12 + ys.length * 12) := by
        rw [flat_takeN, show j * 12 + ys.length * 12 = (j + ys.length) * 12 by omega, flat_dropN _ (by omega), List.flatMap_append, List.flatMap_append, List.append_assoc]
      have hA : (cur.toList.take (j * 12)).length = j * 12 := by rw [List.length_take, Array.length_toList]; omega
      have t1 : (cur.toList.take (j * 12)).take (l.length * 12) = cur.toList.take (j * 12) := List.take_of_length_le (by omega)
      have t2 : (ys.flatMap nodeC).take (l.length * 12 - j * 12) = ys.flatMap nodeC := List.take_of_length_le (by rw [hyl]; omega)
      rw [e3, ← ht, List.take_take, Nat.min_eq_left (by omega), List.drop_take, List.append_assoc, List.take_append, t1, hA, List.take_append, t2, hyl, List.append_assoc, Nat.sub_sub]
    · intro z hz
      rcases List.mem_append.1 hz with hz | hz
      · exact (h3 z (List.mem_of_mem_take hz)).kept hk
      · rcases List.mem_append.1 hz with hz | hz
        · exact (hy z hz).kept hk
        · exact (h3 z (List.mem_of_mem_drop hz)).kept hk
theorem erase_two (l : List NodeP) (i : Nat) (hi : i < l.length) : (l.take i ++ ((l.drop (i + 1)) ++ l.drop (i + (l.drop (i + 1)).length))).take (l.length - 1) = l.eraseIdx i := by
  rw [List.eraseIdx_eq_take_drop_succ, ← List.append_assoc, List.take_append_of_le_length (by simp only [List.length_append, List.length_take, List.length_drop]; omega), List.take_of_length_le (by simp only [List.length_append, List.length_take, List.length_drop]; omega)]
/-- what the moving of the later ones asks, and leaves -/
theorem del_row {w : World} {base g n c : Nat} {l : List NodeP} (hbs : base ≤ w.heap.size) (h : NodesOwn w base (.slice (some ⟨g, 0, none⟩) n c) l) {i : Nat} (hi : i < n) :
    ∃ news zs : List Value, news.length = (n - (i + 1)) * 12 ∧ (∀ j u, news[j]? = some u → w.drew.cell? ⟨g, (i + 1) * 12 + j, none⟩ = some u) ∧ (∀ u ∈ news, u.oneCell' = true) ∧
      (∀ j, j < news.length → (w.drew.cell? ⟨g, 0 + i * 12 + j, none⟩).isSome = true ∧ w.drew.frozen? ⟨g, 0 + i * 12 + j, none⟩ = false) ∧
      (Builtin.clear_ #[23] 0 #[.slice (some ⟨g, (n - 1) * 12, none⟩) 1 (c - (n - 1))]).run Tryd.prog (w.drew.setCells g (0 + i * 12) news) = .ok (.tuple #[]) ((w.drew.setCells g (0 + i * 12) news).setCells g ((n - 1) * 12) zs) ∧
      NodesOwn ((w.drew.setCells g (0 + i * 12) news).setCells g ((n - 1) * 12) zs) base (.slice (some ⟨g, 0, none⟩) (n - 1) c) (l.eraseIdx i) ∧ Below base w ((w.drew.setCells g (0 + i * 12) news).setCells g ((n - 1) * 12) zs) := by
  have hd : NodesOwn w.drew base (.slice (some ⟨g, 0, none⟩) n c) l := h
  obtain ⟨xs, h0, hown, h3⟩ := id hd
  have hxl : xs.length = l.length := by rw [← h0, List.length_map]
  have hnl : n = l.length := by
    obtain ⟨A, c', e, -⟩ := ownsRow_read hown
    injection e
  subst hnl
  obtain ⟨g2, c2, hv2, hgb, hlc, hmc, hgl, hfz, hrow⟩ := hd.row (by omega)
  obtain ⟨hv3, -, hv4⟩ := Value.slice.inj hv2
  have hv3 := congrArg Addr.block (Option.some.inj hv3)
  simp only at hv3
  subst hv3 hv4
  have hcell : ∀ t, t < l.length * 12 → (w.drew.cell? ⟨g, t, none⟩).isSome = true := fun t ht => by
    obtain ⟨dw, -, -, he⟩ := hrow (t / 12) (by omega)
    have := he (t % 12) (Nat.mod_lt _ (by omega))
    rw [show t / 12 * 12 + t % 12 = t by omega] at this
    rw [this, List.getElem?_eq_getElem (by show t % 12 < 12; omega)]
    rfl
  have hst := hd.stores (j := i) (xs.drop (i + 1)) (by rw [List.length_drop]; omega) (fun y hy => h3 y (List.mem_of_mem_drop hy))
  have hml : (xs.drop (i + 1)).map (·.1) = l.drop (i + 1) := by rw [List.map_drop, h0]
  have hdl : (xs.drop (i + 1)).length = (l.drop (i + 1)).length := by rw [List.length_drop, List.length_drop, hxl]
  rw [hml, hdl] at hst
  have hcx : ∀ t u, (xs.flatMap nodeC)[t]? = some u → w.drew.cell? ⟨g, t, none⟩ = some u := fun t u hu => by
    rcases hown.2 with ⟨e, _⟩ | ⟨g', cap', cur, hv, -, hg, -, -, hsz, htk⟩
    · cases e
    · obtain ⟨hv1, -, -⟩ := Value.slice.inj hv
      have hv1 := congrArg Addr.block (Option.some.inj hv1)
      simp only at hv1
      subst hv1
      unfold World.cell?
      rw [hg]
      simp only [Option.isSome_none]
      rw [← htk, List.getElem?_take] at hu
      split at hu
      · simpa using hu
      · cases hu
  have hnl : ((xs.drop (i + 1)).flatMap nodeC).length = (l.length - (i + 1)) * 12 := by rw [flat_length nodeC_length, List.length_drop, hxl]
  have hnw : (xs.drop (i + 1)).flatMap nodeC = (xs.flatMap nodeC).drop ((i + 1) * 12) := (flat_dropN _ (by omega)).symm
  have hon := one_nodes (ys := xs.drop (i + 1)) (fun y hy => h3 y (List.mem_of_mem_drop hy))
  generalize (xs.drop (i + 1)).flatMap nodeC = news at *
  obtain ⟨W1, hW1⟩ : ∃ W1, W1 = w.drew.setCells g (i * 12) news := ⟨_, rfl⟩
  rw [← hW1] at hst
  have hll : (l.take i ++ (l.drop (i + 1) ++ l.drop (i + (l.drop (i + 1)).length))).length = l.length := by
    simp only [List.length_append, List.length_take, List.length_drop]; omega
  obtain ⟨g4, c4, hv4, -, -, -, -, hfz1, hrow1⟩ := hst.row (by omega)
  obtain ⟨hv5, -, -⟩ := Value.slice.inj hv4
  have hv5 := congrArg Addr.block (Option.some.inj hv5)
  simp only at hv5
  subst hv5
  obtain ⟨zs, hzl, hclr⟩ := run_clear_nodes W1 0 g ((l.length - 1) * 12) 1 (c - (l.length - 1)) (by omega) (fun t ht => by
    obtain ⟨dw, -, -, he⟩ := hrow1 (l.length - 1) (by omega)
    have := he t (by omega)
    rw [this, List.getElem?_eq_getElem (by show t < 12; omega)]
    rfl) (fun t _ => hfz1 _)
  have hcut := hst.cut (i := l.length - 1) (by omega) zs (by rw [hzl]; omega)
  rw [erase_two l i hi] at hcut
  refine ⟨news, zs, hnl, fun j u hu => hcx _ u ?_, hon, fun j hj => ⟨?_, hfz _⟩, ?_, ?_, ?_⟩
  · rw [hnw, List.getElem?_drop] at hu
    exact hu
  · rw [Nat.zero_add]
    exact hcell _ (by omega)
  · rw [Nat.zero_add, ← hW1]
    exact hclr
  · rw [Nat.zero_add, ← hW1]
    exact hcut
  · exact Below.setCells hgb _ _ (Below.setCells hgb _ _ (below_drewN (Below.refl base w) 1))
set_option maxRecDepth 100000 in
set_option maxHeartbeats 4000000 in
theorem Del1_any (base g n c : Nat) (l : List NodeP) (w : World) (hbs : base ≤ w.heap.size) (h : NodesOwn w base (.slice (some ⟨g, 0, none⟩) n c) l) (i : Nat) (hi : i < n) (hn : n ≤ 1000) (m : Nat) (hm : m = n - 1) :
    Calls Tryd.prog 27 #[.slice (some ⟨g, 0, none⟩) n c, .int .i64 i, .int .i64 ((i : Int) + 1)] w fun e w' => e = .returned (.slice (some ⟨g, 0, none⟩) m c) ∧ NodesOwn w' base (.slice (some ⟨g, 0, none⟩) m c) (l.eraseIdx i) ∧ Below base w w' := by
  obtain ⟨news, zs, n1, n2, n3, n4, n5, n6, n7⟩ := del_row hbs h hi
  rw [← hm] at n5 n6 n7
  have HF := Lib.hid (And.intro n6 n7)
  have hnc : n ≤ c ∧ c ≤ maxLen := by
    obtain ⟨xs, h0, hown, -⟩ := h
    obtain ⟨A, c', e, h1, h2, -⟩ := ownsRow_read hown
    injection e with _ e1 e2
    subst e2
    exact ⟨by omega, h2⟩
  obtain ⟨hnc, hcm⟩ := hnc
  unfold maxLen at hcm
  obtain ⟨i9, hi9, hy0, hy1, hy2⟩ := info_parts nodeinfo
  have N1 := Lib.hid n1
  have N2 := Lib.hid n2
  have N3 := Lib.hid n3
  have N4 := Lib.hid n4
  have N5 := Lib.hid n5
  obtain ⟨W2, hW2⟩ : ∃ W2, W2 = w.drew.setCells g (0 + i * 12) news := ⟨_, rfl⟩
  rw [← hW2] at N5 HF
  obtain ⟨W3, hW3⟩ : ∃ W3, W3 = W2.setCells g (m * 12) zs := ⟨_, rfl⟩
  rw [← hW3] at N5 HF
  have HW2 := Lib.hid hW2
  clear n1 n2 n3 n4 n5 n6 n7 h hbs hW2 hW3
  have i0 : (0 : Int) ≤ (i : Int) := by omega
  have i1 : (0 : Int) ≤ (i : Int) + 1 := by omega
  have i2 : (i : Int) + 1 ≤ (n : Int) := by omega
  have i3 : (n : Int) ≤ (c : Int) := by omega
  have i4 : (i : Int) ≤ (i : Int) + 1 := by omega
  have i5 : ((i : Int) == (i : Int) + 1) = false := by rw [beq_eq_false_iff_ne]; omega
  have i6 : (i : Int) ≤ (c : Int) := by omega
  have i7 : i ≤ c := by omega
  have i8 : n ≠ i := by omega
  have i9' : (i : Int) + 1 ≤ (c : Int) := by omega
  have e1 : i + (n - (i + 1)) = m := by omega
  have r1 : (n : Int) ≤ (n : Int) := Int.le_refl _
  have i11 : (m : Int) ≤ (n : Int) := by omega
  have i12 : c ≠ m := by omega
  have i13 : n - m = 1 := by omega
  have i14 : m ≤ c := by omega
  have i15 : (m : Int) ≤ (c : Int) := by omega
  have E1 := Lib.hid e1
  have I10 := Lib.hid (And.intro i11 (And.intro i12 (And.intro i13 (And.intro i14 i15))))
  clear e1 r1 i11 i12 i13 i14 i15
  go_enter Tryd.func27, Tryd.ntmps27
  by_cases hc : c = i + 1
  · subst hc
    obtain rfl : n = i + 1 := by omega
    obtain rfl : m = i := hm
    have N2' : Hid (∀ j u, news[j]? = some u → w.drew.cell? ((⟨g, 0, none⟩ : Addr).add j) = some u) := Lib.hid (fun j u hu => by
      have h := N1.out
      rw [Nat.sub_self, Nat.zero_mul] at h
      rw [List.eq_nil_of_length_eq_zero h] at hu
      simp at hu)
    have N1' : Hid (news.length = 0 * 12) := Lib.hid (by have h := N1.out; rw [Nat.sub_self] at h; exact h)
    have HW2' : Hid (W2 = w.drew.setCells g (m * 12) news) := Lib.hid (by rw [HW2.out, Nat.zero_add])
    have N5' : Hid ((Builtin.clear_ #[23] 0 #[.slice (some ⟨g, m * 12, none⟩) 1 1]).run Tryd.prog W2 = .ok (.tuple #[]) W3) := Lib.hid (by
      have h := N5.out
      rw [show m + 1 - m = 1 by omega] at h
      exact h)
    clear N1 N2 N5 E1 I10 i3 hnc
    go_upto_region 5 with fail
    go_region_law (refine step_append_room rfl (.tmp 22) (.tmp 25) _ rfl 40 i9 12 Tryd.underlying23 hi9 hy1 g 0 m (m + 1) (by simp [Act.eval, Act.put]) ⟨g, 0, none⟩ 0 0 news (by simp [Act.eval, Act.put]) N1'.out N2'.out N3.out (by omega) N4.out ?_)
    rw [← HW2'.out]
    have i11 : (m : Int) ≤ (m : Int) + 1 := by omega
    have n5 := N5'.out
    have i16 : m + 1 - m = 1 := by omega
    go_wp2_with fail
    go_ret
    exact ⟨rfl, HF.out⟩
  · have N2' : Hid (∀ j u, news[j]? = some u → w.drew.cell? ((⟨g, (i + 1) * 12, none⟩ : Addr).add j) = some u) := Lib.hid (fun j u hu => by rw [add_flat]; exact N2.out j u hu)
    have HW2' : Hid (W2 = w.drew.setCells g (i * 12) news) := Lib.hid (by rw [HW2.out, Nat.zero_add])
    have hc' : ¬ i + 1 = c := fun h => hc h.symm
    clear hm
    go_upto_region 5 with fail
    go_region_law (refine step_append_room rfl (.tmp 22) (.tmp 25) _ rfl 40 i9 12 Tryd.underlying23 hi9 hy1 g 0 i c (by simp [Act.eval, Act.put]) ⟨g, (i + 1) * 12, none⟩ (n - (i + 1)) (c - (i + 1)) news (by simp [Act.eval, Act.put]; try omega) N1.out N2'.out N3.out (by omega) N4.out ?_)
    rw [← HW2'.out, E1.out]
    obtain ⟨i11, i12, i13, i14, i15⟩ := I10.out
    have n5 := N5.out
    go_wp2_with fail
    go_ret
    exact ⟨rfl, HF.out⟩
end Go.Proofs.YtpanjldionaaiaaDoor
