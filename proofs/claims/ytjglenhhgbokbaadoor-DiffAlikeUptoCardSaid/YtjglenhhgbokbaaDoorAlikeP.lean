/-
  Trees that are alike, plainly: told anew they are the same. No program in sight, no condition.
-/
import Derived.Test.YtjglenhhgbokbaaDoorAlikeK
import Derived.Test.YtjglenhhgbokbaaDoorDiffP
namespace Go.Proofs.YtjglenhhgbokbaaDoor
open Go.RowKit

theorem eqFN_stay : ∀ (l m : List NodeP), eqFN stayB l m = decide (l = m)
  | [], [] => rfl
  | _ :: _, [] => by simp [eqFN]
  | [], _ :: _ => by simp [eqFN]
  | x :: l, y :: m => by
    rw [eqFN, eqFN_stay l m, Bool.eq_iff_iff]
    simp [stay_iff]
/-- two nodes are linked just if they tell the same first one -/
theorem linkd_first {t : List NodeP} (hs : ∀ x ∈ t, 0 ≤ x.same) {i k : Nat} (hi : i < t.length) (hk : k < i) : linkd t i k = true ↔ firstAt t k = firstAt t i := by
  have hkl : k < t.length := by omega
  have h0 := hs _ (List.getElem_mem hi)
  unfold linkd
  rw [getD_at hi, getD_at hkl, Bool.and_eq_true, decide_eq_true_eq, beq_iff_eq]
  constructor
  · rintro ⟨h1, h2⟩
    unfold firstAt
    rw [getD_at hi, getD_at hkl, if_neg (by omega), if_neg (by omega), ← h2]
    cases hq : t.findIdx? (sameAt t[i].same) with
    | some j => rfl
    | none =>
      rw [List.findIdx?_eq_none_iff] at hq
      have := hq t[i] (List.getElem_mem _)
      simp [sameAt] at this
  · intro he
    obtain ⟨a1, _, a3⟩ := firstAt_spec hi
    obtain ⟨b1, _, b3⟩ := firstAt_spec hkl
    obtain ⟨hl, c1, c2⟩ := a3 (by omega)
    refine ⟨by omega, ?_⟩
    by_cases hf : firstAt t k = k
    · have e : firstAt t i = k := by omega
      simp only [e] at c1
      exact c1.symm
    · obtain ⟨hl2, d1, _⟩ := b3 hf
      have e : t[firstAt t k].same = t[firstAt t i].same := by simp only [he]
      rw [← c1, ← e, d1]
theorem firsts_count {t : List NodeP} {i k : Nat} (hi : i < t.length) (hk : k < i) (h : firstAt t k = firstAt t i) : 1 < (firstsP t).count (firstAt t i : Int) := by
  have hl := firstsP_length t
  have e : firstsP t = (firstsP t).take i ++ (firstsP t).drop i := (List.take_append_drop i _).symm
  rw [e, List.count_append]
  have h1 : 0 < ((firstsP t).take i).count (firstAt t i : Int) := by
    rw [List.count_pos_iff, List.mem_take_iff_getElem]
    refine ⟨k, by omega, ?_⟩
    simp [firstsP, h]
  have h2 : 0 < ((firstsP t).drop i).count (firstAt t i : Int) := by
    rw [List.count_pos_iff, List.mem_drop_iff_getElem]
    refine ⟨0, by omega, ?_⟩
    simp [firstsP]
  omega
theorem linkd_anew {t : List NodeP} (hs : ∀ x ∈ t, 0 ≤ x.same) {i k : Nat} (hi : i < t.length) (hk : k < i) : linkd t i k = true ↔ (anewS t k = anewS t i ∧ anewS t i ≠ 0) := by
  rw [linkd_first hs hi hk]
  constructor
  · intro he
    have hc := firsts_count hi hk he
    unfold anewS
    rw [he, if_pos hc]
    exact ⟨rfl, by omega⟩
  · rintro ⟨h1, h2⟩
    unfold anewS at h1 h2
    split at h2
    · split at h1
      · omega
      · omega
    · exact absurd rfl h2
theorem first_le_of {a b : List NodeP} (ha : ∀ x ∈ a, 0 ≤ x.same) (hb : ∀ x ∈ b, 0 ≤ x.same) (hl : a.length = b.length) {i : Nat} (hi : i < a.length) (h : ∀ k, k < i → linkd a i k = true → linkd b i k = true) : firstAt b i ≤ firstAt a i := by
  obtain ⟨a1, a2, _⟩ := firstAt_spec hi
  by_cases hf : firstAt a i = i
  · rw [hf]; exact (firstAt_spec (t := b) (by omega)).1
  · have hk : firstAt a i < i := by omega
    have h1 := (linkd_first hb (by omega) hk).1 (h _ hk ((linkd_first ha hi hk).2 a2))
    rw [← h1]
    exact (firstAt_spec (t := b) (by omega)).1
theorem anew_alike {a b : List NodeP} (ha : ∀ x ∈ a, 0 ≤ x.same) (hb : ∀ x ∈ b, 0 ≤ x.same) : decide (anewP a = anewP b) = alikeT a b := by
  rw [Bool.eq_iff_iff, decide_eq_true_eq]
  constructor
  · intro he
    have hl : a.length = b.length := by rw [← anewP_length a, ← anewP_length b, he]
    have hat : ∀ i, i < a.length → anewAt a i = anewAt b i := fun i hi => by
      have h1 := anewP_at hi
      have h2 := anewP_at (t := b) (i := i) (by omega)
      rw [← h1, ← h2]
      simp only [he]
    have hsm : ∀ i, i < a.length → anewS a i = anewS b i := fun i hi => by
      have := congrArg NodeP.same (hat i hi)
      exact this
    refine alikeT_on hl fun i hi => alikeAt_on ?_ fun k hk => ?_
    · have := hat i hi
      unfold anewAt at this
      unfold nodeAlike
      have e : setSame (a.getD i default) 0 = setSame (b.getD i default) 0 := by
        have := congrArg (fun x => setSame x 0) this
        exact this
      rw [e]
      unfold sameB; simp
    · have h1 := linkd_anew ha hi hk
      have h2 := linkd_anew hb (by omega : i < b.length) hk
      rw [hsm i hi, hsm k (by omega)] at h1
      have : linkd a i k = linkd b i k := by rw [Bool.eq_iff_iff]; exact h1.trans h2.symm
      rw [this, bne_self_eq_false]
  · intro h
    unfold alikeT at h
    rw [Bool.and_eq_true, decide_eq_true_eq, List.all_eq_true] at h
    obtain ⟨hl, h2⟩ := h
    have hf : ∀ i, i < a.length → firstAt a i = firstAt b i := fun i hi => by
      have h3 := h2 i (by simpa using hi)
      unfold alikeAt at h3
      rw [Bool.and_eq_true, List.all_eq_true] at h3
      have hk : ∀ k, k < i → linkd a i k = linkd b i k := fun k hk => by
        have := h3.2 k (by simpa using hk)
        simpa using this
      have e1 := first_le_of ha hb hl hi (fun k a1 a2 => by rw [← hk k a1]; exact a2)
      have e2 := first_le_of hb ha hl.symm (i := i) (by omega) (fun k a1 a2 => by rw [hk k a1]; exact a2)
      omega
    have hfs : firstsP a = firstsP b := by
      unfold firstsP
      rw [hl]
      refine List.map_congr_left fun i hi => ?_
      rw [hf i (by rw [hl]; simpa using hi)]
    unfold anewP
    rw [hl]
    refine List.map_congr_left fun i hi => ?_
    have hi : i < a.length := by rw [hl]; simpa using hi
    have h3 := h2 i (by simpa using hi)
    unfold alikeAt at h3
    rw [Bool.and_eq_true] at h3
    have h4 := h3.1
    unfold nodeAlike sameB at h4
    rw [decide_eq_true_eq] at h4
    unfold anewAt anewS
    rw [hf i hi, hfs]
    have key : ∀ (x y : NodeP) (s : Int), setSame x 0 = setSame y 0 → setSame x s = setSame y s := fun x y s h => by
      have e := congrArg (fun z => setSame z s) h
      exact e
    exact key _ _ _ h4

/-! ### numbers that are shifted -/
def shiftN (d : Int) (x : NodeP) : NodeP := if 0 < x.same then setSame x (x.same + d) else x
theorem shiftN_set (d : Int) (x : NodeP) (s : Int) : setSame (shiftN d x) s = setSame x s := by unfold shiftN; split <;> rfl
theorem shiftN_same (d : Int) (x : NodeP) : (shiftN d x).same = if 0 < x.same then x.same + d else x.same := by unfold shiftN; split <;> rfl
theorem shiftN_path (d : Int) (x : NodeP) : (shiftN d x).path = x.path := by unfold shiftN; split <;> rfl
theorem shiftN_kind (d : Int) (x : NodeP) : (shiftN d x).kind = x.kind := by unfold shiftN; split <;> rfl
theorem shiftN_target (d : Int) (x : NodeP) : (shiftN d x).target = x.target := by unfold shiftN; split <;> rfl
theorem shiftN_mt (d : Int) (x : NodeP) : (shiftN d x).mt = x.mt := by unfold shiftN; split <;> rfl
theorem shiftN_data (d : Int) (x : NodeP) : (shiftN d x).data = x.data := by unfold shiftN; split <;> rfl
theorem shift_eq {d : Int} (hd : 0 ≤ d) {x y : NodeP} (hx : 0 ≤ x.same) (hy : 0 ≤ y.same) : (shiftN d x).same = (shiftN d y).same ↔ x.same = y.same := by
  rw [shiftN_same, shiftN_same]
  split <;> split <;> omega
theorem shift_ok {t : List NodeP} (h : TreeOk t) {d : Int} (hd : 0 ≤ d) (hd2 : ∀ x ∈ t, x.same + d ≤ 1048576) : TreeOk (t.map (shiftN d)) := by
  refine ⟨by rw [List.length_map]; exact h.len, fun x hx => ?_, ?_, fun x hx => ?_, fun x hx y hy hs he => ?_⟩
  · obtain ⟨y, hy, rfl⟩ := List.mem_map.1 hx
    obtain ⟨k1, k2, k3, k4, k5, k6, k7⟩ := h.node y hy
    have := hd2 y hy
    refine ⟨by rw [shiftN_path]; exact k1, by rw [shiftN_mt]; exact k2, ?_, by rw [shiftN_kind]; exact k4, by rw [shiftN_kind, shiftN_data]; exact k5, by rw [shiftN_kind, shiftN_target]; exact k6, by rw [shiftN_kind, shiftN_target]; exact k7⟩
    rw [shiftN_kind, shiftN_same]
    refine ⟨by split <;> omega, by split <;> omega, fun hn => ?_⟩
    have := k3.2.2 hn
    rw [if_neg (by omega)]; exact this
  · rw [List.pairwise_map]
    simpa only [shiftN_path] using h.sorted
  · obtain ⟨y, hy, rfl⟩ := List.mem_map.1 hx
    rw [shiftN_path]
    refine (h.up y hy).imp id ?_
    rintro ⟨z, hz, e1, e2⟩
    exact ⟨shiftN d z, List.mem_map_of_mem hz, by rw [shiftN_path]; exact e1, by rw [shiftN_kind]; exact e2⟩
  · obtain ⟨x', hx', rfl⟩ := List.mem_map.1 hx
    obtain ⟨y', hy', rfl⟩ := List.mem_map.1 hy
    have e := (shift_eq hd (h.node x' hx').same.1 (h.node y' hy').same.1).1 he
    have := h.alike x' hx' y' hy' (by intro e0; rw [shiftN_same, e0] at hs; simp at hs) e
    unfold alikeB at this ⊢
    rw [shiftN_mt, shiftN_mt, shiftN_data, shiftN_data]; exact this
theorem shift_first {t : List NodeP} (hs : ∀ x ∈ t, 0 ≤ x.same) {d : Int} (hd : 0 ≤ d) {i : Nat} (hi : i < t.length) : firstAt (t.map (shiftN d)) i = firstAt t i := by
  have hi2 : i < (t.map (shiftN d)).length := by rw [List.length_map]; exact hi
  unfold firstAt
  rw [getD_at hi, getD_at hi2, List.getElem_map]
  have h0 := hs _ (List.getElem_mem hi)
  by_cases h : t[i].same = 0
  · rw [if_pos h, if_pos (by rw [shiftN_same, h]; rfl)]
  · rw [if_neg h, if_neg (by rw [shiftN_same, if_pos (by omega)]; omega), List.findIdx?_map]
    congr 1
    have key : ∀ l : List NodeP, (∀ x ∈ l, 0 ≤ x.same) → l.findIdx? (sameAt (shiftN d t[i]).same ∘ shiftN d) = l.findIdx? (sameAt t[i].same) := by
      intro l hl
      induction l with
      | nil => rfl
      | cons x l ih =>
        have e : (sameAt (shiftN d t[i]).same ∘ shiftN d) x = sameAt t[i].same x := by
          rw [Bool.eq_iff_iff]
          simp only [Function.comp, sameAt, beq_iff_eq]
          exact shift_eq hd (hl x (by simp)) h0
        rw [List.findIdx?_cons, List.findIdx?_cons, e, ih (fun y hy => hl y (by simp [hy]))]
    exact key t hs
theorem shift_anew {t : List NodeP} (hs : ∀ x ∈ t, 0 ≤ x.same) {d : Int} (hd : 0 ≤ d) : anewP (t.map (shiftN d)) = anewP t := by
  have hf : firstsP (t.map (shiftN d)) = firstsP t := by
    unfold firstsP
    rw [List.length_map]
    exact List.map_congr_left fun i hi => by rw [shift_first hs hd (by simpa using hi)]
  unfold anewP
  rw [List.length_map]
  refine List.map_congr_left fun i hi => ?_
  have hi : i < t.length := by simpa using hi
  unfold anewAt anewS
  rw [shift_first hs hd hi, hf, getD_at hi, getD_at (by rw [List.length_map]; exact hi), List.getElem_map, shiftN_set]
end Go.Proofs.YtjglenhhgbokbaaDoor
