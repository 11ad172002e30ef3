/-
  slices.DeleteFunc over nodes, in place. No condition beyond short trees in a row of the call's own.
  tree.Remove: a path and all in it taken out of a tree. Condition: a tree that passes tree.Check, its nodes each by themselves.
  tree.Remove, plainly: what is left may be; what was put and is taken out again. No program in sight, no condition.
-/
import Derived.Test.YtphmhmdcaafmdaaGreatDoorPut
import Derived.Lib.SliceRun
import Derived.Test.YtphmhmdcaafmdaaGreatDoorTFR
import Derived.Test.YtphmhmdcaafmdaaGreatDoorPathW
import Derived.Test.YtphmhmdcaafmdaaGreatDoorNearG
namespace Go.Proofs.YtphmhmdcaafmdaaGreatDoor
set_option linter.all false
section
open Go.RowKit
/-! ### cells stored in a run -/
theorem setCells_row {g : Nat} {e : TypeId} {fr : Nat × Nat} : ∀ (vs : List Value) (o : Nat) {w : World} {cur : Array Value}, w.heap[g]? = some (.cells cur e fr) → o + vs.length ≤ cur.size →
    (w.setCells g o vs).heap[g]? = some (.cells (cur.toList.take o ++ vs ++ cur.toList.drop (o + vs.length)).toArray e fr)
  | [], o, w, cur, h, hs => by
    simp only [List.append_nil, List.length_nil, Nat.add_zero, List.take_append_drop]
    exact h
  | v :: r, o, w, cur, h, hs => by
    simp only [List.length_cons] at hs
    have h1 : (w.setCell ⟨g, o, none⟩ v).heap[g]? = some (.cells (cur.setIfInBounds o v) e fr) := by
      simp [World.setCell, Array.getElem?_modify, h]
    have h2 := setCells_row r (o + 1) h1 (by simp; omega)
    rw [World.setCells, h2, Array.toList_setIfInBounds]
    have ho : o < cur.toList.length := by simp; omega
    have e1 : (cur.toList.set o v).take (o + 1) = cur.toList.take o ++ [v] := by
      rw [List.take_succ_eq_append_getElem (by simpa using ho), List.take_set_of_le (by omega), List.getElem_set_self]
    have e2 : (cur.toList.set o v).drop (o + 1 + r.length) = cur.toList.drop (o + (r.length + 1)) := by
      rw [List.drop_set_of_lt (by omega)]
      congr 1; omega
    rw [e1, e2]
    simp
theorem heap_setCells_far {g k : Nat} (hk : k ≠ g) : ∀ (vs : List Value) (o : Nat) (w : World), (w.setCells g o vs).heap[k]? = w.heap[k]?
  | [], _, _ => rfl
  | v :: r, o, w => by
    rw [World.setCells, heap_setCells_far hk r (o + 1)]
    exact Below.heap_setCell w ⟨g, o, none⟩ v k hk
theorem Below.setCells {B g : Nat} (hB : B ≤ g) : ∀ (vs : List Value) (o : Nat) {a w : World}, Below B a w → Below B a (w.setCells g o vs)
  | [], _, _, _, h => h
  | v :: r, o, _, _, h => Below.setCells hB r (o + 1) (h.setCell (p := ⟨g, o, none⟩) hB v)
theorem U8Kept.setCells {w : World} {g : Nat} {C : Array Value} {t : TypeId} {fr : Nat × Nat} (hg : w.heap[g]? = some (.cells C t fr)) (hne : t ≠ 5) (o : Nat) (vs : List Value) : U8Kept w (w.setCells g o vs) := by
  intro k C' fr' hk
  have hkg : k ≠ g := by
    rintro rfl
    rw [hg] at hk
    injection hk with hk
    injection hk with _ ht
    exact hne ht
  rw [heap_setCells_far hkg]
  exact hk
theorem flat_takeN {xs : List NodeV} (j : Nat) : (xs.flatMap nodeC).take (j * 12) = (xs.take j).flatMap nodeC := by
  by_cases hj : j ≤ xs.length
  · have h9 : xs.flatMap nodeC = (xs.take j).flatMap nodeC ++ (xs.drop j).flatMap nodeC := by rw [← List.flatMap_append, List.take_append_drop]
    rw [h9, List.take_left']
    rw [flat_length nodeC_length, List.length_take, Nat.min_eq_left hj]
  · rw [List.take_of_length_le (by rw [flat_length nodeC_length]; omega), List.take_of_length_le (by omega)]
theorem flat_dropN {xs : List NodeV} (j : Nat) (hj : j ≤ xs.length) : (xs.flatMap nodeC).drop (j * 12) = (xs.drop j).flatMap nodeC := by
  have h9 : xs.flatMap nodeC = (xs.take j).flatMap nodeC ++ (xs.drop j).flatMap nodeC := by rw [← List.flatMap_append, List.take_append_drop]
  rw [h9, List.drop_left']
  rw [flat_length nodeC_length, List.length_take, Nat.min_eq_left hj]
/-- a whole element stored -/
theorem NodesOwn.store {w : World} {base g n c : Nat} {l : List NodeP} (h : NodesOwn w base (.slice (some ⟨g, 0, none⟩) n c) l) {j : Nat} (hj : j < l.length) (x : NodeV) (hx : DataAt w base x.2 x.1.data) :
    NodesOwn (w.setCells g (j * 12) (nodeC x)) base (.slice (some ⟨g, 0, none⟩) n c) (l.set j x.1) := by
  obtain ⟨xs, h0, ⟨h1, h2⟩, h3⟩ := h
  have hxl : xs.length = l.length := by rw [← h0, List.length_map]
  rcases h2 with ⟨h4, _⟩ | ⟨g', cap, cur, hv, hb, hg, hn, hm, hs, ht⟩
  · simp at h4
  · obtain ⟨rfl, rfl, rfl⟩ : g = g' ∧ n = l.length ∧ c = cap := by simpa using hv
    have hjx : j < xs.length := by omega
    have hsz : j * 12 + (nodeC x).length ≤ cur.size := by rw [hs, nodeC_length]; omega
    have hk := U8Kept.setCells (w := w) hg (by decide) (j * 12) (nodeC x)
    refine ⟨xs.set j x, by rw [List.map_set, h0], ⟨by rw [flat_length nodeC_length, List.length_set, List.length_set, hxl], .inr ⟨g, c, _, by rw [List.length_set], hb, setCells_row _ _ hg hsz, by rw [List.length_set]; exact hn, hm, ?_, ?_⟩⟩, ?_⟩
    · simp only [List.size_toArray, List.length_append, List.length_take, List.length_drop, Array.length_toList, nodeC_length]
      omega
    · rw [List.length_set]
      simp only [nodeC_length]
      have e3 : (xs.set j x).flatMap nodeC = (xs.flatMap nodeC).take (j * 12) ++ nodeC x ++ (xs.flatMap nodeC).drop (j * 12 + 12) := by
        rw [flat_takeN, show j * 12 + 12 = (j + 1) * 12 by omega, flat_dropN _ (by omega), List.set_eq_take_append_cons_drop, if_pos hjx, List.flatMap_append, List.flatMap_cons]
        simp
      have hA : (cur.toList.take (j * 12)).length = j * 12 := by rw [List.length_take, Array.length_toList]; omega
      have t1 : (cur.toList.take (j * 12)).take (l.length * 12) = cur.toList.take (j * 12) := List.take_of_length_le (by omega)
      have t2 : (nodeC x).take (l.length * 12 - j * 12) = nodeC x := List.take_of_length_le (by rw [nodeC_length]; omega)
      rw [e3, ← ht, List.take_take, Nat.min_eq_left (by omega), List.drop_take, List.append_assoc, List.take_append, t1, hA, List.take_append, t2, nodeC_length, List.append_assoc, Nat.sub_sub]
    · intro z hz
      rcases List.mem_or_eq_of_mem_set hz with hz | rfl
      · exact (h3 z hz).kept hk
      · exact hx.kept hk
/-- the first ones, whatever is stored behind them -/
theorem NodesOwn.cut {w : World} {base g n c : Nat} {l : List NodeP} (h : NodesOwn w base (.slice (some ⟨g, 0, none⟩) n c) l) {i : Nat} (hi : i ≤ l.length) (vs : List Value) (hv : i * 12 + vs.length ≤ n * 12) :
    NodesOwn (w.setCells g (i * 12) vs) base (.slice (some ⟨g, 0, none⟩) i c) (l.take i) := by
  obtain ⟨xs, h0, ⟨h1, h2⟩, h3⟩ := h
  have hxl : xs.length = l.length := by rw [← h0, List.length_map]
  rcases h2 with ⟨h4, _⟩ | ⟨g', cap, cur, hv', hb, hg, hn, hm, hs, ht⟩
  · simp at h4
  · obtain ⟨rfl, rfl, rfl⟩ : g = g' ∧ n = l.length ∧ c = cap := by simpa using hv'
    have hsz : i * 12 + vs.length ≤ cur.size := by rw [hs]; omega
    have hk := U8Kept.setCells (w := w) hg (by decide) (i * 12) vs
    have hlt : (l.take i).length = i := by rw [List.length_take]; omega
    refine ⟨xs.take i, by rw [List.map_take, h0], ⟨by rw [flat_length nodeC_length, List.length_take, hlt]; congr 1; omega, .inr ⟨g, c, _, by rw [hlt], hb, setCells_row _ _ hg hsz, by rw [hlt]; omega, hm, ?_, ?_⟩⟩, ?_⟩
    · simp only [List.size_toArray, List.length_append, List.length_take, List.length_drop, Array.length_toList]
      omega
    · have hA : (cur.toList.take (i * 12)).length = i * 12 := by rw [List.length_take, Array.length_toList]; omega
      have t1 : (cur.toList.take (i * 12)).take (i * 12) = cur.toList.take (i * 12) := List.take_of_length_le (by omega)
      rw [hlt, ← flat_takeN, ← ht, List.take_take, Nat.min_eq_left (by omega), List.append_assoc, List.take_append, t1, hA, Nat.sub_self, List.take_zero, List.append_nil]
    · intro z hz
      exact (h3 z (List.mem_of_mem_take hz)).kept hk
/-! ### slices.DeleteFunc -/
/-- what the rounds leave: the first i are those that stay, those from j on are as they were -/
def DelSt (w : World) (base : Nat) (l : List NodeP) (p : NodeP → Bool) (g c i j : Nat) (W : World) : Prop :=
  Below base w W ∧ ∃ cur : List NodeP, cur.length = l.length ∧ i ≤ j ∧ cur.take i = (l.take j).filter (fun x => !p x) ∧ cur.drop j = l.drop j ∧ NodesOwn W base (.slice (some ⟨g, 0, none⟩) l.length c) cur
theorem DelSt.below {w W W' : World} {base : Nat} {l : List NodeP} {p : NodeP → Bool} {g c i j : Nat} (h : DelSt w base l p g c i j W) (hs : base ≤ W.heap.size) (hb : Below W.heap.size W W') : DelSt w base l p g c i j W' := by
  obtain ⟨h1, cur, h2, h3, h4, h5, h6⟩ := h
  exact ⟨h1.trans (hb.mono hs), cur, h2, h3, h4, h5, h6.below hb⟩
theorem DelSt.at_ {w W : World} {base : Nat} {l : List NodeP} {p : NodeP → Bool} {g c i j : Nat} (h : DelSt w base l p g c i j W) (hj : j < l.length) : ∃ cur : List NodeP, ∃ hc : j < cur.length, cur[j] = l[j] ∧ NodesOwn W base (.slice (some ⟨g, 0, none⟩) l.length c) cur := by
  obtain ⟨h1, cur, h2, h3, h4, h5, h6⟩ := h
  have hjc : j < cur.length := by omega
  refine ⟨cur, hjc, ?_, h6⟩
  have e1 : (cur.drop j)[0]? = (l.drop j)[0]? := by rw [h5]
  rw [List.getElem?_drop, List.getElem?_drop, Nat.add_zero, List.getElem?_eq_getElem hjc, List.getElem?_eq_getElem hj] at e1
  exact Option.some.inj e1
theorem DelSt.keep {w W : World} {base : Nat} {l : List NodeP} {p : NodeP → Bool} {g c i j : Nat} (h : DelSt w base l p g c i j W) (hg : base ≤ g) (hj : j < l.length) (hp : p l[j] = false) (dv : Value) (hd : DataAt W base dv l[j].data) :
    DelSt w base l p g c (i + 1) (j + 1) (W.setCells g (i * 12) (nodeC (l[j], dv))) := by
  obtain ⟨h1, cur, h2, h3, h4, h5, h6⟩ := h
  have hic : i < cur.length := by omega
  refine ⟨Below.setCells hg _ _ h1, cur.set i l[j], by rw [List.length_set]; exact h2, by omega, ?_, ?_, h6.store hic (l[j], dv) hd⟩
  · rw [List.take_succ_eq_append_getElem (by rw [List.length_set]; exact hic), List.getElem_set_self, List.take_set_of_le (by omega), List.take_succ_eq_append_getElem hj, List.filter_append, h4]
    simp [hp]
  · rw [List.drop_set_of_lt (by omega)]
    have := congrArg (List.drop 1) h5
    rw [List.drop_drop, List.drop_drop] at this
    exact this
end
section
open Go.RowKit
end
section
open Go.RowKit
end
end Go.Proofs.YtphmhmdcaafmdaaGreatDoor
