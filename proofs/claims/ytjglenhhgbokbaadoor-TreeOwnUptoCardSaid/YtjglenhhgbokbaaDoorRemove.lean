/-
  slices.DeleteFunc over nodes, in place. No condition beyond short trees in a row of the call's own.
  tree.Remove: a path and all in it taken out of a tree. Condition: a tree that passes tree.Check, its nodes each by themselves.
  tree.Remove, plainly: what is left may be; what was put and is taken out again. No program in sight, no condition.
-/
import Derived.Test.YtjglenhhgbokbaaDoorPut
import Derived.Lib.SliceRun
import Derived.Test.YtjglenhhgbokbaaDoorTFR
import Derived.Test.YtjglenhhgbokbaaDoorPathIn
import Derived.Test.YtjglenhhgbokbaaDoorNear
namespace Go.Proofs.YtjglenhhgbokbaaDoor
section
open Go.RowKit

/-! ### cells stored in a run -/
theorem setCells_row {g : Nat} {e : TypeId} {fr : Nat × Nat} : ∀ (vs : List Value) (o : Nat) {w : World} {cur : Array Value}, w.heap[g]? = some (.cells cur e fr) → o + vs.length ≤ cur.size →
    (w.setCells g o vs).heap[g]? = some (.cells (cur.toList.take o ++ vs ++ cur.toList.drop (o + vs.length)).toArray e fr)
  | [], o, w, cur, h, hs => by
    simp only [List.append_nil, List.length_nil, Nat.add_zero, List.take_append_drop]
    exact h
  | v :: r, o, w, cur, h, hs => by
    simp only [List.length_cons] at hs
    have h1 : (w.setCell ⟨g, o, none⟩ v).heap[g]? = some (.cells (cur.setIfInBounds o v) e fr) := by
      simp [World.setCell, Array.getElem?_modify, h]
    have h2 := setCells_row r (o + 1) h1 (by simp; omega)
    rw [World.setCells, h2, Array.toList_setIfInBounds]
    have ho : o < cur.toList.length := by simp; omega
    have e1 : (cur.toList.set o v).take (o + 1) = cur.toList.take o ++ [v] := by
      rw [List.take_succ_eq_append_getElem (by simpa using ho), List.take_set_of_le (by omega), List.getElem_set_self]
    have e2 : (cur.toList.set o v).drop (o + 1 + r.length) = cur.toList.drop (o + (r.length + 1)) := by
      rw [List.drop_set_of_lt (by omega)]
      congr 1; omega
    rw [e1, e2]
    simp
theorem heap_setCells_far {g k : Nat} (hk : k ≠ g) : ∀ (vs : List Value) (o : Nat) (w : World), (w.setCells g o vs).heap[k]? = w.heap[k]?
  | [], _, _ => rfl
  | v :: r, o, w => by
    rw [World.setCells, heap_setCells_far hk r (o + 1)]
    exact Below.heap_setCell w ⟨g, o, none⟩ v k hk
theorem Below.setCells {B g : Nat} (hB : B ≤ g) : ∀ (vs : List Value) (o : Nat) {a w : World}, Below B a w → Below B a (w.setCells g o vs)
  | [], _, _, _, h => h
  | v :: r, o, _, _, h => Below.setCells hB r (o + 1) (h.setCell (p := ⟨g, o, none⟩) hB v)
theorem U8Kept.setCells {w : World} {g : Nat} {C : Array Value} {t : TypeId} {fr : Nat × Nat} (hg : w.heap[g]? = some (.cells C t fr)) (hne : t ≠ 5) (o : Nat) (vs : List Value) : U8Kept w (w.setCells g o vs) := by
  intro k C' fr' hk
  have hkg : k ≠ g := by
    rintro rfl
    rw [hg] at hk
    injection hk with hk
    injection hk with _ ht
    exact hne ht
  rw [heap_setCells_far hkg]
  exact hk
theorem flat_takeN {xs : List NodeV} (j : Nat) : (xs.flatMap nodeC).take (j * 12) = (xs.take j).flatMap nodeC := by
  by_cases hj : j ≤ xs.length
  · have h9 : xs.flatMap nodeC = (xs.take j).flatMap nodeC ++ (xs.drop j).flatMap nodeC := by rw [← List.flatMap_append, List.take_append_drop]
    rw [h9, List.take_left']
    rw [flat_length nodeC_length, List.length_take, Nat.min_eq_left hj]
  · rw [List.take_of_length_le (by rw [flat_length nodeC_length]; omega), List.take_of_length_le (by omega)]
theorem flat_dropN {xs : List NodeV} (j : Nat) (hj : j ≤ xs.length) : (xs.flatMap nodeC).drop (j * 12) = (xs.drop j).flatMap nodeC := by
  have h9 : xs.flatMap nodeC = (xs.take j).flatMap nodeC ++ (xs.drop j).flatMap nodeC := by rw [← List.flatMap_append, List.take_append_drop]
  rw [h9, List.drop_left']
  rw [flat_length nodeC_length, List.length_take, Nat.min_eq_left hj]
/-- a whole element stored -/
theorem NodesOwn.store {w : World} {base g n c : Nat} {l : List NodeP} (h : NodesOwn w base (.slice (some ⟨g, 0, none⟩) n c) l) {j : Nat} (hj : j < l.length) (x : NodeV) (hx : DataAt w base x.2 x.1.data) :
    NodesOwn (w.setCells g (j * 12) (nodeC x)) base (.slice (some ⟨g, 0, none⟩) n c) (l.set j x.1) := by
  obtain ⟨xs, h0, ⟨h1, h2⟩, h3⟩ := h
  have hxl : xs.length = l.length := by rw [← h0, List.length_map]
  rcases h2 with ⟨h4, _⟩ | ⟨g', cap, cur, hv, hb, hg, hn, hm, hs, ht⟩
  · simp at h4
  · obtain ⟨rfl, rfl, rfl⟩ : g = g' ∧ n = l.length ∧ c = cap := by simpa using hv
    have hjx : j < xs.length := by omega
    have hsz : j * 12 + (nodeC x).length ≤ cur.size := by rw [hs, nodeC_length]; omega
    have hk := U8Kept.setCells (w := w) hg (by decide) (j * 12) (nodeC x)
    refine ⟨xs.set j x, by rw [List.map_set, h0], ⟨by rw [flat_length nodeC_length, List.length_set, List.length_set, hxl], .inr ⟨g, c, _, by rw [List.length_set], hb, setCells_row _ _ hg hsz, by rw [List.length_set]; exact hn, hm, ?_, ?_⟩⟩, ?_⟩
    · simp only [List.size_toArray, List.length_append, List.length_take, List.length_drop, Array.length_toList, nodeC_length]
      omega
    · rw [List.length_set]
      simp only [nodeC_length]
      have e3 : (xs.set j x).flatMap nodeC = (xs.flatMap nodeC).take (j * 12) ++ nodeC x ++ (xs.flatMap nodeC).drop (j * 12 + 12) := by
        rw [flat_takeN, show j * 12 + 12 = (j + 1) * 12 by omega, flat_dropN _ (by omega), List.set_eq_take_append_cons_drop, if_pos hjx, List.flatMap_append, List.flatMap_cons]
        simp
      have hA : (cur.toList.take (j * 12)).length = j * 12 := by rw [List.length_take, Array.length_toList]; omega
      have t1 : (cur.toList.take (j * 12)).take (l.length * 12) = cur.toList.take (j * 12) := List.take_of_length_le (by omega)
      have t2 : (nodeC x).take (l.length * 12 - j * 12) = nodeC x := List.take_of_length_le (by rw [nodeC_length]; omega)
      rw [e3, ← ht, List.take_take, Nat.min_eq_left (by omega), List.drop_take, List.append_assoc, List.take_append, t1, hA, List.take_append, t2, nodeC_length, List.append_assoc, Nat.sub_sub]
    · intro z hz
      rcases List.mem_or_eq_of_mem_set hz with hz | rfl
      · exact (h3 z hz).kept hk
      · exact hx.kept hk
/-- the first ones, whatever is stored behind them -/
theorem NodesOwn.cut {w : World} {base g n c : Nat} {l : List NodeP} (h : NodesOwn w base (.slice (some ⟨g, 0, none⟩) n c) l) {i : Nat} (hi : i ≤ l.length) (vs : List Value) (hv : i * 12 + vs.length ≤ n * 12) :
    NodesOwn (w.setCells g (i * 12) vs) base (.slice (some ⟨g, 0, none⟩) i c) (l.take i) := by
  obtain ⟨xs, h0, ⟨h1, h2⟩, h3⟩ := h
  have hxl : xs.length = l.length := by rw [← h0, List.length_map]
  rcases h2 with ⟨h4, _⟩ | ⟨g', cap, cur, hv', hb, hg, hn, hm, hs, ht⟩
  · simp at h4
  · obtain ⟨rfl, rfl, rfl⟩ : g = g' ∧ n = l.length ∧ c = cap := by simpa using hv'
    have hsz : i * 12 + vs.length ≤ cur.size := by rw [hs]; omega
    have hk := U8Kept.setCells (w := w) hg (by decide) (i * 12) vs
    have hlt : (l.take i).length = i := by rw [List.length_take]; omega
    refine ⟨xs.take i, by rw [List.map_take, h0], ⟨by rw [flat_length nodeC_length, List.length_take, hlt]; congr 1; omega, .inr ⟨g, c, _, by rw [hlt], hb, setCells_row _ _ hg hsz, by rw [hlt]; omega, hm, ?_, ?_⟩⟩, ?_⟩
    · simp only [List.size_toArray, List.length_append, List.length_take, List.length_drop, Array.length_toList]
      omega
    · have hA : (cur.toList.take (i * 12)).length = i * 12 := by rw [List.length_take, Array.length_toList]; omega
      have t1 : (cur.toList.take (i * 12)).take (i * 12) = cur.toList.take (i * 12) := List.take_of_length_le (by omega)
      rw [hlt, ← flat_takeN, ← ht, List.take_take, Nat.min_eq_left (by omega), List.append_assoc, List.take_append, t1, hA, Nat.sub_self, List.take_zero, List.append_nil]
    · intro z hz
      exact (h3 z (List.mem_of_mem_take hz)).kept hk
theorem run_clear_nodes (w : World) (ty : TypeId) (g o n c : Nat) (hn : 0 < n) (hc : ∀ j, j < n * 12 → (w.cell? ⟨g, o + j, none⟩).isSome = true) (hf : ∀ j, j < n * 12 → w.frozen? ⟨g, o + j, none⟩ = false) :
    ∃ zs : List Value, zs.length = n * 12 ∧ (Builtin.clear_ #[23] ty #[.slice (some ⟨g, o, none⟩) n c]).run Tryd.prog w = .ok (.tuple #[]) (w.setCells g o zs) := by
  refine ⟨(Builtin.zeroCells (Value.agg #[.string ⟨#[]⟩, .int .i64 0, .int .i64 0, .string ⟨#[]⟩, .int .i64 0, .int .i64 0, .int .i64 0, .string ⟨#[]⟩, .string ⟨#[]⟩, .int .i64 0, .int .i64 0, .slice none 0 0]).cells n).toList, by simp [Builtin.zeroCells, Value.cells], ?_⟩
  have hl : (Builtin.zeroCells (Value.agg #[.string ⟨#[]⟩, .int .i64 0, .int .i64 0, .string ⟨#[]⟩, .int .i64 0, .int .i64 0, .int .i64 0, .string ⟨#[]⟩, .string ⟨#[]⟩, .int .i64 0, .int .i64 0, .slice none 0 0]).cells n).toList.length = n * 12 := by simp [Builtin.zeroCells, Value.cells]
  have h1 : ∀ v ∈ (Builtin.zeroCells (Value.agg #[.string ⟨#[]⟩, .int .i64 0, .int .i64 0, .string ⟨#[]⟩, .int .i64 0, .int .i64 0, .int .i64 0, .string ⟨#[]⟩, .string ⟨#[]⟩, .int .i64 0, .int .i64 0, .slice none 0 0]).cells n).toList, v.oneCell' = true := by
    intro v hv
    simp only [Builtin.zeroCells, Value.cells, Array.toList_map, List.mem_map] at hv
    obtain ⟨i, _, rfl⟩ := hv
    have hi : i % 12 < 12 := Nat.mod_lt _ (by omega)
    have key : ∀ k, k < 12 → (#[Value.string ⟨#[]⟩, .int .i64 0, .int .i64 0, .string ⟨#[]⟩, .int .i64 0, .int .i64 0, .int .i64 0, .string ⟨#[]⟩, .string ⟨#[]⟩, .int .i64 0, .int .i64 0, .slice none 0 0][k]!).oneCell' = true := by
      intro k hk
      rcases (show k = 0 ∨ k = 1 ∨ k = 2 ∨ k = 3 ∨ k = 4 ∨ k = 5 ∨ k = 6 ∨ k = 7 ∨ k = 8 ∨ k = 9 ∨ k = 10 ∨ k = 11 by omega) with rfl | rfl | rfl | rfl | rfl | rfl | rfl | rfl | rfl | rfl | rfl | rfl <;> rfl
    exact key _ hi
  have hst := run_storeCells_cells (P := Tryd.prog) g o _ 0 w (by rw [hl]; simpa using hc) (by rw [hl]; simpa using hf) h1
  simp only [Nat.add_zero] at hst
  obtain ⟨m, rfl⟩ : ∃ m, n = m + 1 := ⟨n - 1, by omega⟩
  simp [Builtin.clear_, run_underlying Tryd.underlying23, hst]

/-! ### slices.DeleteFunc -/
/-- what the rounds leave: the first i are those that stay, those from j on are as they were -/
def DelSt (w : World) (base : Nat) (l : List NodeP) (p : NodeP → Bool) (g c i j : Nat) (W : World) : Prop :=
  Below base w W ∧ ∃ cur : List NodeP, cur.length = l.length ∧ i ≤ j ∧ cur.take i = (l.take j).filter (fun x => !p x) ∧ cur.drop j = l.drop j ∧ NodesOwn W base (.slice (some ⟨g, 0, none⟩) l.length c) cur
theorem DelSt.below {w W W' : World} {base : Nat} {l : List NodeP} {p : NodeP → Bool} {g c i j : Nat} (h : DelSt w base l p g c i j W) (hs : base ≤ W.heap.size) (hb : Below W.heap.size W W') : DelSt w base l p g c i j W' := by
  obtain ⟨h1, cur, h2, h3, h4, h5, h6⟩ := h
  exact ⟨h1.trans (hb.mono hs), cur, h2, h3, h4, h5, h6.below hb⟩
theorem DelSt.at_ {w W : World} {base : Nat} {l : List NodeP} {p : NodeP → Bool} {g c i j : Nat} (h : DelSt w base l p g c i j W) (hj : j < l.length) : ∃ cur : List NodeP, ∃ hc : j < cur.length, cur[j] = l[j] ∧ NodesOwn W base (.slice (some ⟨g, 0, none⟩) l.length c) cur := by
  obtain ⟨h1, cur, h2, h3, h4, h5, h6⟩ := h
  have hjc : j < cur.length := by omega
  refine ⟨cur, hjc, ?_, h6⟩
  have e1 : (cur.drop j)[0]? = (l.drop j)[0]? := by rw [h5]
  rw [List.getElem?_drop, List.getElem?_drop, Nat.add_zero, List.getElem?_eq_getElem hjc, List.getElem?_eq_getElem hj] at e1
  exact Option.some.inj e1
theorem DelSt.drop_ {w W : World} {base : Nat} {l : List NodeP} {p : NodeP → Bool} {g c i j : Nat} (h : DelSt w base l p g c i j W) (hj : j < l.length) (hp : p l[j] = true) : DelSt w base l p g c i (j + 1) W := by
  obtain ⟨h1, cur, h2, h3, h4, h5, h6⟩ := h
  refine ⟨h1, cur, h2, by omega, ?_, ?_, h6⟩
  · rw [List.take_succ_eq_append_getElem hj, List.filter_append, h4]
    simp [hp]
  · have := congrArg (List.drop 1) h5
    rw [List.drop_drop, List.drop_drop] at this
    exact this
theorem DelSt.keep {w W : World} {base : Nat} {l : List NodeP} {p : NodeP → Bool} {g c i j : Nat} (h : DelSt w base l p g c i j W) (hg : base ≤ g) (hj : j < l.length) (hp : p l[j] = false) (dv : Value) (hd : DataAt W base dv l[j].data) :
    DelSt w base l p g c (i + 1) (j + 1) (W.setCells g (i * 12) (nodeC (l[j], dv))) := by
  obtain ⟨h1, cur, h2, h3, h4, h5, h6⟩ := h
  have hic : i < cur.length := by omega
  refine ⟨Below.setCells hg _ _ h1, cur.set i l[j], by rw [List.length_set]; exact h2, by omega, ?_, ?_, h6.store hic (l[j], dv) hd⟩
  · rw [List.take_succ_eq_append_getElem (by rw [List.length_set]; exact hic), List.getElem_set_self, List.take_set_of_le (by omega), List.take_succ_eq_append_getElem hj, List.filter_append, h4]
    simp [hp]
  · rw [List.drop_set_of_lt (by omega)]
    have := congrArg (List.drop 1) h5
    rw [List.drop_drop, List.drop_drop] at this
    exact this
theorem DelSt.done {w W : World} {base : Nat} {l : List NodeP} {p : NodeP → Bool} {g c i : Nat} (h : DelSt w base l p g c i l.length W) (hi : i ≤ l.length) (hg : base ≤ g) (zs : List Value) (hz : zs.length = (l.length - i) * 12) :
    NodesOwn (W.setCells g (i * 12) zs) base (.slice (some ⟨g, 0, none⟩) i c) (l.filter (fun x => !p x)) ∧ Below base w (W.setCells g (i * 12) zs) := by
  obtain ⟨h1, cur, h2, h3, h4, h5, h6⟩ := h
  rw [List.take_length] at h4
  refine ⟨?_, Below.setCells hg _ _ h1⟩
  rw [← h4]
  exact h6.cut (by omega) zs (by rw [hz]; omega)
theorem filter_none {l : List NodeP} {p : NodeP → Bool} (h : idxN p l = -1) : l.filter (fun x => !p x) = l := by
  unfold idxN at h
  split at h
  · omega
  · next hq =>
    rw [List.findIdx?_eq_none_iff] at hq
    exact List.filter_eq_self.2 (fun x hx => by simp [hq x hx])
theorem del_start {w : World} {base g c : Nat} {l : List NodeP} {p : NodeP → Bool} {k : Nat} (h : l.findIdx? p = some k) (hn : NodesOwn w base (.slice (some ⟨g, 0, none⟩) l.length c) l) : k < l.length ∧ DelSt w base l p g c k (k + 1) w := by
  rw [List.findIdx?_eq_some_iff_getElem] at h
  obtain ⟨hk, h1, h2⟩ := h
  refine ⟨hk, Below.refl _ _, l, rfl, by omega, ?_, rfl, hn⟩
  rw [List.take_succ_eq_append_getElem hk, List.filter_append]
  have e1 : (l.take k).filter (fun x => !p x) = l.take k := List.filter_eq_self.2 (fun x hx => by
    obtain ⟨j, hj, rfl⟩ := List.getElem_of_mem hx
    rw [List.length_take] at hj
    have := h2 j (by omega)
    simp only [List.getElem_take]
    simpa using this)
  rw [e1]
  simp [h1]

set_option maxRecDepth 100000 in
set_option maxHeartbeats 8000000 in
theorem Del_any (f : FuncId) (cb : Array Value) (eg : ∀ args w, (callFunc f args).run Tryd.prog w = .ok (.enter f args) w) (v : Value) (l : List NodeP) (p : NodeP → Bool) (base : Nat) (w : World) (hb0 : base ≤ w.heap.size) (hl : NodesOwn w base v l) (hn : l.length ≤ 1000)
    (hp : ∀ (W : World) (x : NodeV), Below base w W → Calls Tryd.prog f (#[.agg (nodeC x).toArray] ++ cb) W fun e w' => e = .returned (.bool (p x.1)) ∧ Below W.heap.size W w') :
    Calls Tryd.prog 54 #[v, .func (.func f) #[] cb] w fun e w' => ∃ tv, e = .returned tv ∧ NodesOwn w' base tv (l.filter (fun x => !p x)) ∧ Below base w w' := by
  have HIX := Lib.hid (IdxN_any f cb eg v l p w hl.at_ (fun W x hb => (hp W x (hb.mono hb0)).mono fun e w' ⟨h1, h2⟩ => ⟨h1, hb.trans (h2.mono hb.size)⟩))
  have HP := Lib.hid hp
  have HB0 := Lib.hid hb0
  have HL := Lib.hid hl
  clear hp
  cases hq : l.findIdx? p with
  | none =>
    have h1 : idxN p l = -1 := by unfold idxN; rw [hq]
    have HF := Lib.hid (filter_none h1)
    rw [h1] at HIX
    obtain ⟨_, A, c, -, rfl, -⟩ := hl.at_
    clear hl hq h1
    go_enter Tryd.func54, Tryd.ntmps54
    go_wp2_with fail
    refine HIX.out.mono ?_
    rintro e w1 ⟨rfl, b1⟩
    have B1 := Lib.hid b1
    clear b1
    go_wp2_with fail
    go_ret
    exact ⟨_, rfl, by rw [HF.out]; exact HL.out.below B1.out, B1.out.mono HB0.out⟩
  | some k =>
    have h1 : idxN p l = k := by unfold idxN; rw [hq]
    rw [h1] at HIX
    have hk : k < l.length := by
      rw [List.findIdx?_eq_some_iff_getElem] at hq
      exact hq.1
    obtain ⟨g, c, rfl, hgb, hglt, hc1, hc2, -, -⟩ := hl.row (by omega)
    unfold maxLen at hc2
    have HQ := Lib.hid hq
    have q1 : ((k : Int) == -1) = false := by simp
    clear hl hq h1
    go_enter Tryd.func54, Tryd.ntmps54
    go_wp2_with fail
    refine HIX.out.mono ?_
    rintro e w1 ⟨rfl, b1⟩
    have B1 := Lib.hid b1
    have H0 : Hid (DelSt w1 base l p g c k (k + 1) w1) := Lib.hid (del_start HQ.out (HL.out.below b1)).2
    have hle1 : base ≤ w1.heap.size := Nat.le_trans hb0 b1.size
    clear b1
    go_wp2_with fail
    clear q1
    go_loopg [5, 6] l.length (fun gg s5 s6 wr => ∃ i j : Nat, s5 = .int .i64 i ∧ s6 = .int .i64 j ∧ i < j ∧ j ≤ l.length ∧ l.length - j ≤ gg ∧ Hid (DelSt w1 base l p g c i j wr))
    case atStart => exact ⟨k, k + 1, rfl, by go_num, by omega, by omega, by omega, H0⟩
    case round =>
      obtain ⟨i, j, rfl, rfl, hij, hjl, hg, HS⟩ := hrel
      have hles : base ≤ wr.heap.size := Nat.le_trans hle1 HS.out.1.size
      by_cases hlt : j < l.length
      · have hltz : (j : Int) < (l.length : Int) := by omega
        obtain ⟨cur, hjc, hcj, hown⟩ := HS.out.at_ hlt
        obtain ⟨g2, c2, hv2, -, -, -, -, -, hrow⟩ := hown.row (by omega)
        have hgg : g = g2 := by
          injection hv2 with h _ _
          injection h with h
          injection h
        subst hgg
        clear hv2
        obtain ⟨dv, hdd, -, he⟩ := hrow j hjc
        rw [hcj] at hdd he
        have HDR := Lib.hid (fun h => HS.out.drop_ hlt h)
        have HKP := Lib.hid (fun W (hW : Below wr.heap.size wr W) h (hd : DataAt W base dv l[j].data) => (HS.out.below hles hW).keep hgb hlt h dv hd)
        clear hrow hown hcj hjc
        obtain ⟨x, hx⟩ : ∃ x, x = l[j] := ⟨_, rfl⟩
        rw [← hx] at hdd he HDR HKP
        clear hx
        obtain ⟨np, nk, ns, nt, ⟨o1, o2, o3, o4, o5, o6, o7⟩, nd⟩ := x
        simp only at hdd
        obtain ⟨Ax, cx, rfl, -⟩ := id hdd
        have e0 : wr.cell? ⟨g, j * 12, none⟩ = some (.string (bs np)) := he 0 (by omega)
        have e1 : wr.cell? ⟨g, j * 12 + 1, none⟩ = some (.int .i64 nk) := he 1 (by omega)
        have e2 : wr.cell? ⟨g, j * 12 + 2, none⟩ = some (.int .i64 ns) := he 2 (by omega)
        have e3 : wr.cell? ⟨g, j * 12 + 3, none⟩ = some (.string (bs nt)) := he 3 (by omega)
        have e4 : wr.cell? ⟨g, j * 12 + 4, none⟩ = some (.int .i64 o1) := he 4 (by omega)
        have e5 : wr.cell? ⟨g, j * 12 + 5, none⟩ = some (.int .i64 o2) := he 5 (by omega)
        have e6 : wr.cell? ⟨g, j * 12 + 6, none⟩ = some (.int .i64 o3) := he 6 (by omega)
        have e7 : wr.cell? ⟨g, j * 12 + 7, none⟩ = some (.string (bs o4)) := he 7 (by omega)
        have e8 : wr.cell? ⟨g, j * 12 + 8, none⟩ = some (.string (bs o5)) := he 8 (by omega)
        have e9 : wr.cell? ⟨g, j * 12 + 9, none⟩ = some (.int .i64 o6) := he 9 (by omega)
        have e10 : wr.cell? ⟨g, j * 12 + 10, none⟩ = some (.int .i64 o7) := he 10 (by omega)
        have e11 : wr.cell? ⟨g, j * 12 + 11, none⟩ = some (.slice Ax nd.length cx) := he 11 (by omega)
        have hne : g ≠ wr.heap.size := by
          have h1 := HS.out.1.size
          have h2 := B1.out.size
          omega
        obtain ⟨W2, hW2⟩ : ∃ W2, W2 = wr.alloc (.cells #[.string (bs np), .int .i64 nk, .int .i64 ns, .string (bs nt), .int .i64 o1, .int .i64 o2, .int .i64 o3, .string (bs o4), .string (bs o5), .int .i64 o6, .int .i64 o7, .slice Ax nd.length cx] 36) := ⟨_, rfl⟩
        have b2 : Below wr.heap.size wr W2 := by rw [hW2]; exact (Below.refl _ _).alloc (Nat.le_refl _) _
        have K2 : Blk W2 wr.heap.size 36 (nodeC (⟨np, nk, ns, nt, ⟨o1, o2, o3, o4, o5, o6, o7⟩, nd⟩, .slice Ax nd.length cx)).toArray := by rw [hW2]; exact Blk.new _ _ _
        have HB2 := Lib.hid b2
        have HK2 := Lib.hid K2
        have hb1w : Below base w1 W2 := HS.out.1.trans (b2.mono hles)
        have HCL := Lib.hid (HP.out W2 (⟨np, nk, ns, nt, ⟨o1, o2, o3, o4, o5, o6, o7⟩, nd⟩, .slice Ax nd.length cx) ((B1.out.mono HB0.out).trans hb1w))
        unfold nodeC at HCL
        simp only at HCL
        have HDD := Lib.hid hdd
        clear b2 K2 hdd he hb1w
        cases hpx : p ⟨np, nk, ns, nt, ⟨o1, o2, o3, o4, o5, o6, o7⟩, nd⟩ with
        | true =>
          rw [hpx] at HCL
          have H1 := Lib.hid (HDR.out hpx)
          clear hpx
          go_upto_region 8 with fail
          rw [← hW2]
          clear hW2 e0 e1 e2 e3 e4 e5 e6 e7 e8 e9 e10 e11
          obtain ⟨c0, c1, c2, c3, c4, c5, c6, c7, c8, c9, c10, c11⟩ := HK2.out.node
          go_wp2_with (go_at_fn f; refine HCL.out.mono ?_; rintro e w3 ⟨rfl, hb3⟩)
          go_roundg (l.length - (j + 1))
          case measure => omega
          case rel => exact ⟨i, j + 1, rfl, by go_num, by omega, by omega, Nat.le_refl _, Lib.hid (H1.out.below hles (HB2.out.trans (hb3.mono HB2.out.size)))⟩
        | false =>
          rw [hpx] at HCL
          have HPX := Lib.hid hpx
          clear hpx
          go_upto_region 8 with fail
          rw [← hW2]
          clear hW2 e0 e1 e2 e3 e4 e5 e6 e7 e8 e9 e10 e11
          obtain ⟨c0, c1, c2, c3, c4, c5, c6, c7, c8, c9, c10, c11⟩ := HK2.out.node
          go_upto_region 9 with (go_at_fn f; refine HCL.out.mono ?_; rintro e w3 ⟨rfl, hb3⟩)
          clear c0 c1 c2 c3 c4 c5 c6 c7 c8 c9 c10 c11
          have HB3 := Lib.hid (HB2.out.trans (hb3.mono HB2.out.size))
          have HK3 := Lib.hid (HK2.out.below hb3 HK2.out.lt)
          obtain ⟨-, cur3, hcl3, -, -, -, hown3⟩ := HS.out.below hles HB3.out
          obtain ⟨g3, c3', hv3, -, -, -, -, hfz, hrow⟩ := hown3.row (by omega)
          have hgg : g = g3 := by
            injection hv3 with h _ _
            injection h with h
            injection h
          subst hgg
          clear hv3
          obtain ⟨dw, -, -, he⟩ := hrow i (by omega)
          obtain ⟨y, hy⟩ : ∃ y, y = cur3[i]'(by omega) := ⟨_, rfl⟩
          rw [← hy] at he
          obtain ⟨mp, mk, ms, mt, ⟨p1, p2, p3, p4, p5, p6, p7⟩, md⟩ := y
          have e0 : w3.cell? ⟨g, i * 12, none⟩ = some (.string (bs mp)) := he 0 (by omega)
          have e1 : w3.cell? ⟨g, i * 12 + 1, none⟩ = some (.int .i64 mk) := he 1 (by omega)
          have e2 : w3.cell? ⟨g, i * 12 + 2, none⟩ = some (.int .i64 ms) := he 2 (by omega)
          have e3 : w3.cell? ⟨g, i * 12 + 3, none⟩ = some (.string (bs mt)) := he 3 (by omega)
          have e4 : w3.cell? ⟨g, i * 12 + 4, none⟩ = some (.int .i64 p1) := he 4 (by omega)
          have e5 : w3.cell? ⟨g, i * 12 + 5, none⟩ = some (.int .i64 p2) := he 5 (by omega)
          have e6 : w3.cell? ⟨g, i * 12 + 6, none⟩ = some (.int .i64 p3) := he 6 (by omega)
          have e7 : w3.cell? ⟨g, i * 12 + 7, none⟩ = some (.string (bs p4)) := he 7 (by omega)
          have e8 : w3.cell? ⟨g, i * 12 + 8, none⟩ = some (.string (bs p5)) := he 8 (by omega)
          have e9 : w3.cell? ⟨g, i * 12 + 9, none⟩ = some (.int .i64 p6) := he 9 (by omega)
          have e10 : w3.cell? ⟨g, i * 12 + 10, none⟩ = some (.int .i64 p7) := he 10 (by omega)
          have e11 : w3.cell? ⟨g, i * 12 + 11, none⟩ = some dw := he 11 (by omega)
          have HR3 := Lib.hid (HKP.out w3 HB3.out HPX.out (HDD.out.below HB3.out))
          clear hb3 hrow hown3 hcl3 he hy
          obtain ⟨c0, c1, c2, c3, c4, c5, c6, c7, c8, c9, c10, c11⟩ := HK3.out.node
          have hilt : (i : Int) < (l.length : Int) := by omega
          have hi0 : (0 : Int) ≤ (i : Int) := by omega
          go_wp2_with fail
          go_roundg (l.length - (j + 1))
          case measure => omega
          case rel => exact ⟨i + 1, j + 1, by go_num, by go_num, by omega, by omega, Nat.le_refl _, HR3⟩
      · obtain rfl : j = l.length := by omega
        have hile : i ≤ l.length := by omega
        obtain ⟨-, cur3, hcl3, -, -, -, hown3⟩ := HS.out
        obtain ⟨g3, c3', hv3, -, -, -, -, hfz, hrow⟩ := hown3.row (by omega)
        have hgg : g = g3 := by
          injection hv3 with h _ _
          injection h with h
          injection h
        subst hgg
        clear hv3
        have hcells : ∀ t, t < (l.length - i) * 12 → (wr.cell? ⟨g, i * 12 + t, none⟩).isSome = true := fun t ht => by
          obtain ⟨dw, -, -, he⟩ := hrow (i + t / 12) (by omega)
          have := he (t % 12) (Nat.mod_lt _ (by omega))
          rw [show (i + t / 12) * 12 + t % 12 = i * 12 + t by omega] at this
          rw [this, List.getElem?_eq_getElem (by show t % 12 < 12; omega)]
          rfl
        have HCLR := Lib.hid (fun ty => run_clear_nodes wr ty g (i * 12) (l.length - i) (c - i) (by omega) hcells (fun t _ => hfz _))
        clear hown3 hcl3 hrow hfz hcells
        have hi0 : (0 : Int) ≤ (i : Int) := by omega
        have hi1 : (i : Int) ≤ (l.length : Int) := by omega
        have hi2 : (i : Int) ≤ (c : Int) := by omega
        have hci : c ≠ i := by omega
        obtain ⟨zs, hzl, hclr⟩ := HCLR.out 0
        have HDN := Lib.hid (HS.out.done hile hgb zs hzl)
        clear hzl
        generalize wr.setCells g (i * 12) zs = w9 at *
        go_wp2_with fail
        clear hclr
        go_ret
        exact ⟨_, rfl, HDN.out.1, (B1.out.mono HB0.out).trans HDN.out.2⟩
end
section
open Go.RowKit

def goneB (s : List UInt8) (x : NodeP) : Bool := (x.path == s) || inB x.path s
def removeP (t : List NodeP) (s : List UInt8) : List NodeP := t.filter fun x => !goneB s x
theorem eg_remove : ∀ args w, (callFunc 55 args).run Tryd.prog w = .ok (.enter 55 args) w := enters_of Tryd.func55 (by kernel_rfl) rfl
set_option maxHeartbeats 1000000 in
theorem remC_any (s : List UInt8) (hs : s.length ≤ 400) (B : Nat) (W : World) (x : NodeV) (hB : B < W.heap.size) (hc : W.cell? ⟨B, 0, none⟩ = some (.string (bs s))) :
    Calls Tryd.prog 55 #[.agg (nodeC x).toArray, .pointer (some ⟨B, 0, none⟩)] W fun e w' => e = .returned (.bool (goneB s x.1)) ∧ Below W.heap.size W w' := by
  obtain ⟨⟨q, k, sm, t, ⟨m1, m2, m3, m4, m5, m6, m7⟩, d⟩, dv⟩ := x
  unfold nodeC
  simp only
  have hne : B ≠ W.heap.size := by omega
  have HIN : Hid (∀ W, Calls Tryd.prog 56 #[.string (bs q), .string (bs s)] W fun e w' => e = .returned (.bool (inB q s)) ∧ W = w') := Lib.hid (fun W => by
    have h := In_any (bs q) (bs s) (by rw [bs_size]; omega) W
    rw [bs_data, bs_data] at h
    exact h)
  have hb : ∀ o, Below W.heap.size W (W.alloc o) := fun o => (Below.refl _ _).alloc (Nat.le_refl _) o
  have HB := Lib.hid hb
  by_cases hq : q = s
  · have HR : Hid (goneB s ⟨q, k, sm, t, ⟨m1, m2, m3, m4, m5, m6, m7⟩, d⟩ = true) := Lib.hid (by unfold goneB; simp [hq])
    subst hq
    clear hb
    generalize bs q = bq at *
    go_enter Tryd.func55, Tryd.ntmps55
    go_wp2_with fail
    go_ret
    exact ⟨ret_bool HR.out.symm, HB.out _⟩
  · have HR : Hid (goneB s ⟨q, k, sm, t, ⟨m1, m2, m3, m4, m5, m6, m7⟩, d⟩ = inB q s) := Lib.hid (by unfold goneB; simp [hq])
    have q1 : ((bs q).toList == (bs s).toList) = false := by rw [bs_beq]; simp [hq]
    clear hq hb
    generalize inB q s = bb at *
    generalize bs q = bq at *
    generalize bs s = bp at *
    go_enter Tryd.func55, Tryd.ntmps55
    go_wp2_with fail
    refine (HIN.out _).mono ?_
    rintro e w' ⟨rfl, rfl⟩
    go_wp2_with fail
    go_ret
    exact ⟨ret_bool HR.out.symm, HB.out _⟩
set_option maxRecDepth 100000 in
set_option maxHeartbeats 4000000 in
theorem Remove_any (v : Value) (t : List NodeP) (s : List UInt8) (w : World) (hm : ML w) (hl : NodesAt w v t) (hok : ∀ y ∈ t, NodeOk y) (hch : chkT t = 0) (hs : s.length ≤ 400) (i : Nat) (hf : findP t s = some i) :
    Calls Tryd.prog 20 #[v, .string (bs s)] w fun e w' => ∃ tv, e = .returned (.tuple #[tv, .int .i64 0]) ∧ NodesOwn w' w.heap.size tv (removeP t s) ∧ Below w.heap.size w w' := by
  have hlen := (chkT_all hch).1
  have b0 : Below w.heap.size w (w.alloc (.cells #[.string (bs s)] 9)) := (Below.refl _ _).alloc (Nat.le_refl _) _
  have HCK : Hid (∀ W, Below w.heap.size w W → Calls Tryd.prog 41 #[v] W fun e w' => e = .returned (.int .i64 0) ∧ Below W.heap.size W w') := Lib.hid (fun W hb => by
    have := TCheck_any v t W (hm.below hb) (hl.below hb) hok
    rw [hch] at this
    exact this)
  have HFI : Hid (∀ W, Below w.heap.size w W → Calls Tryd.prog 18 #[v, .string (bs s)] W fun e w' => e = .returned (.tuple #[.int .i64 (i : Int), .int .i64 0]) ∧ Below W.heap.size W w') := Lib.hid (fun W hb => by
    have := Find_any v t s W (hl.below hb)
    rw [hf] at this
    exact this)
  have HCP : Hid (∀ W, Below w.heap.size w W → Calls Tryd.prog 21 #[v] W fun e w' => ∃ cv, e = .returned cv ∧ NodesOwn w' W.heap.size cv t ∧ Below W.heap.size W w') := Lib.hid (fun W hb => Copy_any v t W (hl.below hb) (by omega) (fun y hy => by have := (hok y hy).data.1; omega))
  have HDL : Hid (∀ W cv base, w.heap.size < base → base ≤ W.heap.size → NodesOwn W base cv t → W.cell? ⟨w.heap.size, 0, none⟩ = some (.string (bs s)) → Calls Tryd.prog 54 #[cv, .func (.func 55) #[] #[.pointer (some ⟨w.heap.size, 0, none⟩)]] W fun e w' => ∃ tv, e = .returned tv ∧ NodesOwn w' base tv (removeP t s) ∧ Below base W w') := Lib.hid (fun W cv base h0 h1 h2 h3 =>
    Del_any 55 #[.pointer (some ⟨w.heap.size, 0, none⟩)] eg_remove cv t (goneB s) base W h1 h2 (by omega) (fun W2 x hb => remC_any s hs w.heap.size W2 x (by have := hb.size; omega) ((hb.cell (p := ⟨w.heap.size, 0, none⟩) h0).trans h3)))
  have K0 := Blk.new w 9 #[.string (bs s)]
  obtain ⟨W0, hW0⟩ : ∃ W0, W0 = w.alloc (.cells #[.string (bs s)] 9) := ⟨_, rfl⟩
  rw [← hW0] at b0 K0
  have hz0 : W0.heap.size = w.heap.size + 1 := by rw [hW0]; simp
  have B0 := Lib.hid b0
  have HK0 := Lib.hid K0
  have HZ0 := Lib.hid hz0
  clear hm hl hok hch hf b0 K0 hz0
  generalize bs s = bp at *
  go_enter Tryd.func20, Tryd.ntmps20
  go_upto_region 1 with fail
  rw [← hW0]
  clear hW0
  go_wp2_with fail
  refine (HCK.out _ B0.out).mono ?_
  rintro e w1 ⟨rfl, b1⟩
  have B1 := Lib.hid (B0.out.trans (b1.mono B0.out.size))
  have HK1 := Lib.hid (HK0.out.below b1 HK0.out.lt)
  have HZ1 := Lib.hid (show w.heap.size < w1.heap.size by have := b1.size; have := HZ0.out; omega)
  have c0 : w1.cell? ⟨w.heap.size, 0, none⟩ = some (.string bp) := HK1.out.cell 0
  clear b1
  go_wp2_with fail
  refine (HFI.out _ B1.out).mono ?_
  rintro e w2 ⟨rfl, b2⟩
  have B2 := Lib.hid (B1.out.trans (b2.mono B1.out.size))
  have HK2 := Lib.hid (HK1.out.below b2 HK1.out.lt)
  have HZ2 := Lib.hid (show w.heap.size < w2.heap.size by have := b2.size; have := HZ1.out; omega)
  clear b2 c0
  go_wp2_with fail
  refine (HCP.out _ B2.out).mono ?_
  rintro e w3 ⟨cv, rfl, hcv, b3⟩
  have B3 := Lib.hid (B2.out.trans (b3.mono B2.out.size))
  have HK3 := Lib.hid (HK2.out.below b3 HK2.out.lt)
  have HDD := Lib.hid (HDL.out w3 cv w2.heap.size HZ2.out b3.size hcv (HK3.out.cell 0))
  clear b3 hcv
  go_wp2_with fail
  refine HDD.out.mono ?_
  rintro e w4 ⟨tv, rfl, htv, b4⟩
  have HTV := Lib.hid (htv.mono B2.out.size)
  have B4 := Lib.hid (B3.out.trans (b4.mono B2.out.size))
  clear htv b4
  obtain ⟨_, A, c, -, rfl, -⟩ := HTV.out.at_
  go_wp2_with fail
  go_ret2
  exact ⟨_, rfl, HTV.out, B4.out⟩
end
section
open Go.RowKit

theorem upP_form {p : List UInt8} (h : upP p ≠ []) : ∃ b, p = upP p ++ 47 :: b ∧ (47 : UInt8) ∉ b := by
  rcases cutLast p with h1 | ⟨a, b, rfl, h1⟩
  · exact absurd (upP_none h1) h
  · rw [upP_some h1] at *
    exact ⟨b, rfl, h1⟩
theorem inB_up {p s : List UInt8} (hs : s ≠ []) (hu : upP p ≠ []) (h : inB (upP p) s = true ∨ upP p = s) : inB p s = true := by
  obtain ⟨b, hb, _⟩ := upP_form hu
  rw [inB_iff hs]
  rcases h with h | h
  · obtain ⟨r, hr⟩ := (inB_iff hs).1 h
    exact ⟨r ++ 47 :: b, by rw [hb, hr]; simp⟩
  · exact ⟨b, by rw [hb, h]⟩
/-- what stands in a path: its parent does, or is it -/
theorem up_inB {p s : List UInt8} (hs : s ≠ []) (h : inB p s = true) : upP p ≠ [] ∧ (upP p = s ∨ inB (upP p) s = true) := by
  obtain ⟨r, rfl⟩ := (inB_iff hs).1 h
  rcases cutLast r with h1 | ⟨a, b, rfl, h1⟩
  · have e : upP (s ++ 47 :: r) = s := upP_some h1
    rw [e]
    exact ⟨hs, .inl rfl⟩
  · have e : upP (s ++ 47 :: (a ++ 47 :: b)) = s ++ 47 :: a := by
      rw [show s ++ 47 :: (a ++ 47 :: b) = (s ++ 47 :: a) ++ 47 :: b by simp]
      exact upP_some h1
    rw [e]
    exact ⟨by simp, .inr ((inB_iff hs).2 ⟨a, rfl⟩)⟩
theorem TreeOk.anc {t : List NodeP} (ht : TreeOk t) {s : List UInt8} (hs : s ≠ []) : ∀ (n : Nat) {y : NodeP}, y.path.length ≤ n → y ∈ t → inB y.path s = true → ∃ z ∈ t, z.path = s
  | 0, y, hn, _, h => by
    obtain ⟨r, hr⟩ := (inB_iff hs).1 h
    rw [hr] at hn
    simp at hn
  | n + 1, y, hn, hy, h => by
    obtain ⟨h1, h2⟩ := up_inB hs h
    obtain ⟨b, hb, _⟩ := upP_form h1
    rcases ht.up y hy with h3 | ⟨z, hz, h4, _⟩
    · exact absurd h3 h1
    · rcases h2 with h2 | h2
      · exact ⟨z, hz, by rw [h4, h2]⟩
      · refine TreeOk.anc ht hs n ?_ hz (by rw [h4]; exact h2)
        have := congrArg List.length hb
        rw [List.length_append, List.length_cons] at this
        rw [h4]; omega
theorem path_ne {x : NodeP} (h : NodeOk x) : x.path ≠ [] := by
  intro e
  have := h.path.1
  rw [e] at this
  revert this
  decide
theorem remove_ok {t : List NodeP} (ht : TreeOk t) {s : List UInt8} (hs : s ≠ []) : TreeOk (removeP t s) where
  len := Nat.le_trans (List.length_filter_le _ _) ht.len
  node := fun x hx => ht.node x (List.mem_filter.1 hx).1
  sorted := ht.sorted.filter _
  up := by
    intro x hx
    unfold removeP at hx
    rw [List.mem_filter] at hx
    rcases ht.up x hx.1 with h | ⟨y, hy, h1, h2⟩
    · exact .inl h
    · by_cases hu : upP x.path = []
      · exact .inl hu
      · refine .inr ⟨y, ?_, h1, h2⟩
        unfold removeP
        rw [List.mem_filter]
        refine ⟨hy, ?_⟩
        cases hg : goneB s y with
        | false => rfl
        | true =>
          have h3 : goneB s x = true := by
            unfold goneB at hg ⊢
            rw [Bool.or_eq_true] at hg ⊢
            right
            refine inB_up hs hu ?_
            rw [← h1]
            rcases hg with hg | hg
            · exact .inr (by simpa using hg)
            · exact .inl hg
          rw [h3] at hx
          exact absurd hx.2 (by simp)
  alike := fun x hx y hy => ht.alike x (List.mem_filter.1 hx).1 y (List.mem_filter.1 hy).1
theorem remove_less {t : List NodeP} {x : NodeP} (hx : x ∈ t) : (removeP t x.path).length < t.length := by
  unfold removeP
  apply List.length_filter_lt_length_iff_exists.2
  exact ⟨x, hx, by unfold goneB; simp⟩
/-- put where nothing was, and taken out again -/
theorem remove_put {t : List NodeP} (ht : TreeOk t) {n : NodeP} (hn : NodeOk n) (hno : findP t n.path = none) : removeP (putP t n) n.path = t := by
  rw [findP_none] at hno
  have hhas : hasAt t n.path = false := by
    unfold hasAt
    rw [decide_eq_false_iff_not]
    rintro ⟨h1, h2⟩
    exact hno _ (List.getElem_mem _) (parts_inj (cmpL_zero h2))
  have hstay : ∀ y ∈ t, goneB n.path y = false := fun y hy => by
    unfold goneB
    rw [Bool.or_eq_false_iff]
    refine ⟨by simpa using hno y hy, ?_⟩
    cases hi : inB y.path n.path with
    | false => rfl
    | true =>
      obtain ⟨z, hz, e⟩ := ht.anc (path_ne hn) _ (Nat.le_refl _) hy hi
      exact absurd e (hno z hz)
  unfold putP removeP
  rw [hhas, List.filter_append, List.filter_cons]
  have e1 : (t.take (lowP t n.path)).filter (fun x => !goneB n.path x) = t.take (lowP t n.path) := List.filter_eq_self.2 (fun x hx => by rw [hstay x (List.mem_of_mem_take hx)]; rfl)
  have e2 : (t.drop (lowP t n.path)).filter (fun x => !goneB n.path x) = t.drop (lowP t n.path) := List.filter_eq_self.2 (fun x hx => by rw [hstay x (List.mem_of_mem_drop hx)]; rfl)
  have e3 : goneB n.path n = true := by unfold goneB; simp
  simp only [e3, Bool.not_true, Bool.false_eq_true, if_false]
  rw [e1, e2, List.take_append_drop]
end
end Go.Proofs.YtjglenhhgbokbaaDoor
