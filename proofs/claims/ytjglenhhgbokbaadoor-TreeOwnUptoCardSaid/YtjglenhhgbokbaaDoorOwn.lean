/-
  A row of nodes whose bytes are turned one by one: what stays. tree.Remove where nothing is; a new node that may be put. No condition beyond short trees.
-/
import Derived.Test.YtjglenhhgbokbaaDoorRemove
import Derived.Test.YtjglenhhgbokbaaDoorSmallP
namespace Go.Proofs.YtjglenhhgbokbaaDoor
open Go.RowKit

theorem setCell_row {w : World} {g : Nat} {C : Array Value} {t : TypeId} {fr : Nat × Nat} (hg : w.heap[g]? = some (.cells C t fr)) (o : Nat) (u : Value) : (w.setCell ⟨g, o, none⟩ u).heap[g]? = some (.cells (C.setIfInBounds o u) t fr) := by
  simp [World.setCell, Array.getElem?_modify, hg]
/-- one byte stored somewhere: the bytes of whatever slice are bytes still -/
theorem DataAt.poke {w : World} {base : Nat} {v : Value} {l : List UInt8} (h : DataAt w base v l) {g : Nat} {C0 : Array Value} {fr0 : Nat × Nat} (hg : w.heap[g]? = some (.cells C0 5 fr0)) (o : Nat) (b : UInt8) :
    ∃ l' : List UInt8, l'.length = l.length ∧ DataAt (w.setCell ⟨g, o, none⟩ (.int .u8 (b.toNat : Int))) base v l' := by
  obtain ⟨A, c, h1, h2, h3, h4, h5⟩ := h
  rcases A with _ | ad
  · exact ⟨l, rfl, none, c, h1, h2, h3, h4, fun ad e => by cases e⟩
  · obtain ⟨s, hb, C, fr, hc, hx⟩ := h5 ad rfl
    by_cases hbk : ad.block = g
    · rw [hbk, hg] at hc
      injection hc with hc
      injection hc with hC _ hfr
      subst hC hfr
      refine ⟨(List.range l.length).map fun j => if ad.off + j = o then b else l.getD j 0, by simp, some ad, c, by simpa using h1, by simpa using h2, h3, (fun e => by cases e), fun ad' e => ?_⟩
      injection e with e
      subst e
      refine ⟨s, hb, C0.setIfInBounds o (.int .u8 (b.toNat : Int)), fr0, by rw [hbk]; exact setCell_row hg o _, fun j hj => ?_⟩
      have hj : j < l.length := by simpa using hj
      obtain ⟨x1, x2⟩ := hx j hj
      refine ⟨?_, x2⟩
      rw [List.getElem_map, List.getElem_range]
      by_cases ho : ad.off + j = o
      · rw [if_pos ho, ho, Array.getElem?_setIfInBounds_self_of_lt]
        rw [ho] at x1
        exact (Array.getElem?_eq_some_iff.1 x1).1
      · rw [if_neg ho, Array.getElem?_setIfInBounds_ne (fun e => ho e.symm), x1, List.getD_eq_getElem?_getD, List.getElem?_eq_getElem hj]
        rfl
    · refine ⟨l, rfl, some ad, c, h1, h2, h3, h4, fun ad' e => ?_⟩
      injection e with e
      subst e
      exact ⟨s, hb, C, fr, by rw [Below.heap_setCell _ _ _ _ hbk]; exact hc, hx⟩
theorem poke_list {Q : Value → List UInt8 → Prop} : ∀ xs : List NodeV, (∀ x ∈ xs, ∃ d : List UInt8, d.length = x.1.data.length ∧ Q x.2 d) →
    ∃ ys : List NodeV, ys.flatMap nodeC = xs.flatMap nodeC ∧ ys.map (fun y => y.1.data.length) = xs.map (fun x => x.1.data.length) ∧ ∀ y ∈ ys, Q y.2 y.1.data
  | [], _ => ⟨[], rfl, rfl, by simp⟩
  | x :: xs, h => by
    obtain ⟨d, hd, hq⟩ := h x (by simp)
    obtain ⟨ys, h1, h2, h3⟩ := poke_list xs (fun y hy => h y (by simp [hy]))
    obtain ⟨⟨p, k, s, t, m, d0⟩, dv⟩ := x
    refine ⟨(⟨p, k, s, t, m, d⟩, dv) :: ys, ?_, ?_, fun y hy => ?_⟩
    · rw [List.flatMap_cons, List.flatMap_cons, h1]; rfl
    · rw [List.map_cons, List.map_cons, h2]; exact congrArg (· :: _) hd
    · rcases List.mem_cons.1 hy with rfl | hy
      · exact hq
      · exact h3 y hy
theorem ownsRow_far {w : World} {base : Nat} {e : TypeId} {size n : Nat} {v : Value} {xs : List Value} (h : w.ownsRow base e size v n xs) {g : Nat} {C : Array Value} {t : TypeId} {fr : Nat × Nat} (hg : w.heap[g]? = some (.cells C t fr)) (hne : e ≠ t) (o : Nat) (u : Value) : (w.setCell ⟨g, o, none⟩ u).ownsRow base e size v n xs := by
  obtain ⟨h1, h2⟩ := h
  refine ⟨h1, ?_⟩
  rcases h2 with h | ⟨k, cap, cur, hv, hb, hk, r⟩
  · exact .inl h
  · refine .inr ⟨k, cap, cur, hv, hb, ?_, r⟩
    rw [Below.heap_setCell _ _ _ _ ?_]
    · exact hk
    · rintro rfl
      rw [hg] at hk
      injection hk with hk
      injection hk with _ ht
      exact hne ht.symm
/-- a row of nodes of the call's own, of which the lengths of the data are known -/
def OwSt (W : World) (base : Nat) (v : Value) (D : List Nat) : Prop := ∃ l : List NodeP, l.map (fun x => x.data.length) = D ∧ NodesOwn W base v l
theorem OwSt.of {W : World} {base : Nat} {v : Value} {l : List NodeP} (h : NodesOwn W base v l) : OwSt W base v (l.map fun x => x.data.length) := ⟨l, rfl, h⟩
theorem OwSt.poke {W : World} {base : Nat} {v : Value} {D : List Nat} (h : OwSt W base v D) {g : Nat} {C0 : Array Value} {fr0 : Nat × Nat} (hg : W.heap[g]? = some (.cells C0 5 fr0)) (o : Nat) (b : UInt8) : OwSt (W.setCell ⟨g, o, none⟩ (.int .u8 (b.toNat : Int))) base v D := by
  obtain ⟨l, h0, xs, h1, h2, h3⟩ := h
  obtain ⟨ys, y1, y2, y3⟩ := poke_list (Q := fun dv d => DataAt (W.setCell ⟨g, o, none⟩ (.int .u8 (b.toNat : Int))) base dv d) xs (fun x hx => (h3 x hx).poke hg o b)
  have hl : (ys.map (·.1)).length = l.length := by
    have := congrArg List.length y2
    rw [List.length_map, List.length_map] at this
    rw [List.length_map, this, ← h1, List.length_map]
  refine ⟨ys.map (·.1), ?_, ys, rfl, ?_, y3⟩
  · rw [← h0, ← h1, List.map_map, List.map_map]; exact y2
  · rw [hl, y1]
    exact ownsRow_far h2 hg (by decide) o _
theorem OwSt.name {W : World} {base g n c : Nat} {D : List Nat} (h : OwSt W base (.slice (some ⟨g, 0, none⟩) n c) D) {k : Nat} (hk : k < D.length) (p : List UInt8) : OwSt (W.setCell ⟨g, k * 12, none⟩ (.string (bs p))) base (.slice (some ⟨g, 0, none⟩) n c) D := by
  obtain ⟨l, h0, h1⟩ := h
  have hkl : k < l.length := by rw [← h0, List.length_map] at hk; exact hk
  have h2 := h1.set_ (j := k) (i := 0) (u := .string (bs p)) rfl hkl (by omega) ⟨p, l[k].kind, l[k].same, l[k].target, l[k].mt, l[k].data⟩ rfl (fun dv => rfl)
  refine ⟨_, ?_, h2⟩
  rw [← h0, List.map_set]
  have e : l[k].data.length = (l.map fun x => x.data.length)[k]'(by rw [List.length_map]; exact hkl) := by rw [List.getElem_map]
  show (l.map fun x => x.data.length).set k l[k].data.length = _
  rw [e]
  exact List.set_getElem_self _
theorem OwSt.below {W W' : World} {base : Nat} {v : Value} {D : List Nat} (h : OwSt W base v D) (hb : Below W.heap.size W W') : OwSt W' base v D := by
  obtain ⟨l, h0, h1⟩ := h
  exact ⟨l, h0, h1.below hb⟩
theorem OwSt.read {W : World} {base : Nat} {v : Value} {D : List Nat} (h : OwSt W base v D) {k : Nat} (hk : k < D.length) : ∃ (g c : Nat) (Ax : Option Addr) (cx : Nat), v = .slice (some ⟨g, 0, none⟩) D.length c ∧ base ≤ g ∧ D.length ≤ c ∧ c ≤ maxLen ∧ (∀ i, W.frozen? ⟨g, i, none⟩ = false) ∧
    (∃ p, W.cell? ⟨g, k * 12, none⟩ = some (.string (bs p))) ∧ W.cell? ⟨g, k * 12 + 11, none⟩ = some (.slice Ax D[k] cx) ∧ D[k] ≤ cx ∧ cx ≤ maxLen ∧
    ∀ j, j < D[k] → ∃ (gd od : Nat) (z : UInt8) (C : Array Value) (fr : Nat × Nat), Ax = some ⟨gd, od, none⟩ ∧ base ≤ gd ∧ W.heap[gd]? = some (.cells C 5 fr) ∧ W.cell? ⟨gd, od + j, none⟩ = some (.int .u8 (z.toNat : Int)) ∧ W.frozen? ⟨gd, od + j, none⟩ = false := by
  obtain ⟨l, h0, h1⟩ := h
  subst h0
  have hkl : k < l.length := by rw [List.length_map] at hk; exact hk
  obtain ⟨g, c, hv, hgb, _, hc1, hc2, hfz, hrow⟩ := h1.row (by omega)
  obtain ⟨dv, hd, e0, he⟩ := hrow k hkl
  obtain ⟨Ax, cx, hdv, d2, d3, d4, d5⟩ := hd
  refine ⟨g, c, Ax, cx, by rw [List.length_map]; exact hv, hgb, by rw [List.length_map]; exact hc1, hc2, hfz, ⟨_, e0⟩, ?_, by rw [List.getElem_map]; exact d2, d3, fun j hj => ?_⟩
  · rw [List.getElem_map, ← hdv]; exact he 11 (by omega)
  · rw [List.getElem_map] at hj
    rcases Ax with _ | ad
    · exact absurd hj (by rw [(d4 rfl).2]; simp)
    · obtain ⟨s, hb, C, fr, hc, hx⟩ := d5 ad rfl
      obtain ⟨x1, x2⟩ := hx j hj
      obtain ⟨gd, od, sp⟩ := ad
      simp only at s hb hc x1 x2
      subst s
      refine ⟨gd, od, l[k].data[j], C, fr, rfl, hb, hc, ?_, ?_⟩
      · rw [cell_of_row _ _ _ _ _ _ hc]; exact x1
      · obtain ⟨lo, hi⟩ := fr
        simp only [World.frozen?, hc]
        exact x2
set_option maxHeartbeats 1000000 in
theorem Remove_no (v : Value) (t : List NodeP) (s : List UInt8) (w : World) (hm : ML w) (hl : NodesAt w v t) (hok : ∀ y ∈ t, NodeOk y) (hch : chkT t = 0) (hf : findP t s = none) :
    Calls Tryd.prog 20 #[v, .string (bs s)] w fun e w' => e = .returned (.tuple #[.slice none 0 0, .int .i64 5]) ∧ Below w.heap.size w w' := by
  have b0 : Below w.heap.size w (w.alloc (.cells #[.string (bs s)] 9)) := (Below.refl _ _).alloc (Nat.le_refl _) _
  have HCK : Hid (∀ W, Below w.heap.size w W → Calls Tryd.prog 41 #[v] W fun e w' => e = .returned (.int .i64 0) ∧ Below W.heap.size W w') := Lib.hid (fun W hb => by
    have := TCheck_any v t W (hm.below hb) (hl.below hb) hok
    rw [hch] at this
    exact this)
  have HFI : Hid (∀ W, Below w.heap.size w W → Calls Tryd.prog 18 #[v, .string (bs s)] W fun e w' => e = .returned (.tuple #[.int .i64 0, .int .i64 5]) ∧ Below W.heap.size W w') := Lib.hid (fun W hb => by
    have := Find_any v t s W (hl.below hb)
    rw [hf] at this
    exact this)
  have K0 := Blk.new w 9 #[.string (bs s)]
  obtain ⟨W0, hW0⟩ : ∃ W0, W0 = w.alloc (.cells #[.string (bs s)] 9) := ⟨_, rfl⟩
  rw [← hW0] at b0 K0
  have B0 := Lib.hid b0
  have HK0 := Lib.hid K0
  clear hm hl hok hch hf b0 K0
  generalize bs s = bp at *
  go_enter Tryd.func20, Tryd.ntmps20
  go_upto_region 1 with fail
  rw [← hW0]
  clear hW0
  go_wp2_with fail
  refine (HCK.out _ B0.out).mono ?_
  rintro e w1 ⟨rfl, b1⟩
  have B1 := Lib.hid (B0.out.trans (b1.mono B0.out.size))
  have HK1 := Lib.hid (HK0.out.below b1 HK0.out.lt)
  have c0 : w1.cell? ⟨w.heap.size, 0, none⟩ = some (.string bp) := HK1.out.cell 0
  clear b1
  go_wp2_with fail
  refine (HFI.out _ B1.out).mono ?_
  rintro e w2 ⟨rfl, b2⟩
  have B2 := Lib.hid (B1.out.trans (b2.mono B1.out.size))
  clear b2 c0
  go_wp2_with fail
  go_ret2
  exact ⟨rfl, B2.out⟩

/-! ### the new node -/
def zzN : NodeP := ⟨[122, 122], 1, 0, [], ⟨0, 0, 0, [], [], 0, 0⟩, [100, 97, 116, 97]⟩
theorem zz_new {t : List NodeP} (ht : ∀ x ∈ t, PartsOk x.path) : ∀ x ∈ t, x.path ≠ [122, 122] := by
  intro x hx e
  have h := (ht x hx).2 [122, 122] (by rw [e]; decide)
  exact absurd h (by decide)
theorem none_new {t : List NodeP} (ht : ∀ x ∈ t, PartsOk x.path) : findP t [110, 111, 110, 101] = none := by
  rw [findP_none]
  intro x hx e
  have h := (ht x hx).2 [110, 111, 110, 101] (by rw [e]; decide)
  exact absurd h (by decide)
theorem zz_has {t : List NodeP} (ht : ∀ x ∈ t, PartsOk x.path) : hasAt t [122, 122] = false := by
  unfold hasAt
  rw [decide_eq_false_iff_not]
  rintro ⟨h, e⟩
  exact zz_new ht _ (List.getElem_mem h) (parts_inj (cmpL_zero e))
/-- what is put where nothing is, at the root, may be -/
theorem zz_put {t : List NodeP} (h : TreeOk t) (ht : ∀ x ∈ t, PartsOk x.path) (hl : t.length ≤ 20) (hz : NodeOk zzN) : chkT (putP t zzN) = 0 ∧ (putP t zzN).length = t.length + 1 := by
  have hp : putP t zzN = t.take (lowP t [122, 122]) ++ zzN :: t.drop (lowP t [122, 122]) := by
    unfold putP
    rw [show zzN.path = [122, 122] from rfl, zz_has ht]
    rfl
  have hle := lowP_le t [122, 122]
  have hlen : (putP t zzN).length = t.length + 1 := by
    rw [hp, List.length_append, List.length_cons, List.length_take, List.length_drop]; omega
  have hmem : ∀ x, x ∈ putP t zzN ↔ x = zzN ∨ x ∈ t := by
    intro x
    rw [hp, List.mem_append, List.mem_cons]
    constructor
    · rintro (h | h | h)
      · exact .inr (List.mem_of_mem_take h)
      · exact .inl h
      · exact .inr (List.mem_of_mem_drop h)
    · rintro (h | h)
      · exact .inr (.inl h)
      · rw [← List.take_append_drop (lowP t [122, 122]) t, List.mem_append] at h
        exact h.imp id .inr
  refine ⟨TreeOk.chk ⟨by omega, fun x hx => ?_, ?_, fun x hx => ?_, fun x hx y hy hs he => ?_⟩, hlen⟩
  · rcases (hmem x).1 hx with rfl | hx
    · exact hz
    · exact h.node x hx
  · rw [hp, List.pairwise_append, List.pairwise_cons]
    have ha : ∀ x ∈ t.take (lowP t [122, 122]), cmpP x.path [122, 122] < 0 := fun x hx => by
      obtain ⟨j, hj, rfl⟩ := List.getElem_of_mem hx
      rw [List.length_take] at hj
      rw [List.getElem_take]
      exact lowP_lt (by omega) (by omega)
    have hb : ∀ y ∈ t.drop (lowP t [122, 122]), cmpP [122, 122] y.path < 0 := fun y hy => by
      obtain ⟨j, hj, rfl⟩ := List.getElem_of_mem hy
      rw [List.length_drop] at hj
      rw [List.getElem_drop]
      have h1 := lowP_ge h.sorted (p := [122, 122]) (j := lowP t [122, 122] + j) (by omega) (by omega)
      have h2 : cmpP [122, 122] t[lowP t [122, 122] + j].path = -cmpP t[lowP t [122, 122] + j].path [122, 122] := cmpL_neg _ _
      have h3 : cmpP t[lowP t [122, 122] + j].path [122, 122] ≠ 0 := fun e => zz_new ht _ (List.getElem_mem _) (parts_inj (cmpL_zero e))
      omega
    refine ⟨h.sorted.sublist (List.take_sublist _ _), ⟨hb, h.sorted.sublist (List.drop_sublist _ _)⟩, fun x hx y hy => ?_⟩
    rcases List.mem_cons.1 hy with rfl | hy
    · exact ha x hx
    · have := List.pairwise_append.1 (show (t.take (lowP t [122, 122]) ++ t.drop (lowP t [122, 122])).Pairwise (fun x y => cmpP x.path y.path < 0) by rw [List.take_append_drop]; exact h.sorted)
      exact this.2.2 x hx y hy
  · rcases (hmem x).1 hx with rfl | hx
    · exact .inl (by decide)
    · refine (h.up x hx).imp id ?_
      rintro ⟨y, hy, r⟩
      exact ⟨y, (hmem y).2 (.inr hy), r⟩
  · rcases (hmem x).1 hx with rfl | hx
    · exact absurd rfl hs
    · rcases (hmem y).1 hy with rfl | hy
      · exact absurd he hs
      · exact h.alike x hx y hy hs he
theorem zzN_ok : NodeOk zzN := ⟨by decide, metaZ_ok, by decide, by decide, by decide, by decide, by decide⟩
end Go.Proofs.YtjglenhhgbokbaaDoor
