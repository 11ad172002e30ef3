/-
  A row of nodes whose bytes are turned one by one: what stays. tree.Remove where nothing is; a new node that may be put. No condition beyond short trees.
-/
import Derived.Test.YtphmhmdcaafmdaaGreatDoorRemove
import Derived.Test.YtphmhmdcaafmdaaGreatDoorCopyS
namespace Go.Proofs.YtphmhmdcaafmdaaGreatDoor
set_option linter.all false
open Go.RowKit
/-- a row of nodes of the call's own, of which the lengths of the data are known -/
def OwSt (W : World) (base : Nat) (v : Value) (D : List Nat) : Prop := ∃ l : List NodeP, l.map (fun x => x.data.length) = D ∧ NodesOwn W base v l
theorem OwSt.of {W : World} {base : Nat} {v : Value} {l : List NodeP} (h : NodesOwn W base v l) : OwSt W base v (l.map fun x => x.data.length) := ⟨l, rfl, h⟩
theorem OwSt.name {W : World} {base g n c : Nat} {D : List Nat} (h : OwSt W base (.slice (some ⟨g, 0, none⟩) n c) D) {k : Nat} (hk : k < D.length) (p : List UInt8) : OwSt (W.setCell ⟨g, k * 12, none⟩ (.string (bs p))) base (.slice (some ⟨g, 0, none⟩) n c) D := by
  obtain ⟨l, h0, h1⟩ := h
  have hkl : k < l.length := by rw [← h0, List.length_map] at hk; exact hk
  have h2 := h1.set_ (j := k) (i := 0) (u := .string (bs p)) rfl hkl (by omega) ⟨p, l[k].kind, l[k].same, l[k].target, l[k].mt, l[k].data⟩ rfl (fun dv => rfl)
  refine ⟨_, ?_, h2⟩
  rw [← h0, List.map_set]
  have e : l[k].data.length = (l.map fun x => x.data.length)[k]'(by rw [List.length_map]; exact hkl) := by rw [List.getElem_map]
  show (l.map fun x => x.data.length).set k l[k].data.length = _
  rw [e]
  exact List.set_getElem_self _
theorem OwSt.below {W W' : World} {base : Nat} {v : Value} {D : List Nat} (h : OwSt W base v D) (hb : Below W.heap.size W W') : OwSt W' base v D := by
  obtain ⟨l, h0, h1⟩ := h
  exact ⟨l, h0, h1.below hb⟩
theorem OwSt.read {W : World} {base : Nat} {v : Value} {D : List Nat} (h : OwSt W base v D) {k : Nat} (hk : k < D.length) : ∃ (g c : Nat) (Ax : Option Addr) (cx : Nat), v = .slice (some ⟨g, 0, none⟩) D.length c ∧ base ≤ g ∧ D.length ≤ c ∧ c ≤ maxLen ∧ (∀ i, W.frozen? ⟨g, i, none⟩ = false) ∧
    (∃ p, W.cell? ⟨g, k * 12, none⟩ = some (.string (bs p))) ∧ W.cell? ⟨g, k * 12 + 11, none⟩ = some (.slice Ax D[k] cx) ∧ D[k] ≤ cx ∧ cx ≤ maxLen ∧
    ∀ j, j < D[k] → ∃ (gd od : Nat) (z : UInt8) (C : Array Value) (fr : Nat × Nat), Ax = some ⟨gd, od, none⟩ ∧ base ≤ gd ∧ W.heap[gd]? = some (.cells C 5 fr) ∧ W.cell? ⟨gd, od + j, none⟩ = some (.int .u8 (z.toNat : Int)) ∧ W.frozen? ⟨gd, od + j, none⟩ = false := by
  obtain ⟨l, h0, h1⟩ := h
  subst h0
  have hkl : k < l.length := by rw [List.length_map] at hk; exact hk
  obtain ⟨g, c, hv, hgb, _, hc1, hc2, hfz, hrow⟩ := h1.row (by omega)
  obtain ⟨dv, hd, e0, he⟩ := hrow k hkl
  obtain ⟨Ax, cx, hdv, d2, d3, d4, d5⟩ := hd
  refine ⟨g, c, Ax, cx, by rw [List.length_map]; exact hv, hgb, by rw [List.length_map]; exact hc1, hc2, hfz, ⟨_, e0⟩, ?_, by rw [List.getElem_map]; exact d2, d3, fun j hj => ?_⟩
  · rw [List.getElem_map, ← hdv]; exact he 11 (by omega)
  · rw [List.getElem_map] at hj
    rcases Ax with _ | ad
    · exact absurd hj (by rw [(d4 rfl).2]; simp)
    · obtain ⟨s, hb, C, fr, hc, hx⟩ := d5 ad rfl
      obtain ⟨x1, x2⟩ := hx j hj
      obtain ⟨gd, od, sp⟩ := ad
      simp only at s hb hc x1 x2
      subst s
      refine ⟨gd, od, l[k].data[j], C, fr, rfl, hb, hc, ?_, ?_⟩
      · rw [cell_of_row _ _ _ _ _ _ hc]; exact x1
      · obtain ⟨lo, hi⟩ := fr
        simp only [World.frozen?, hc]
        exact x2
set_option maxHeartbeats 1000000 in
theorem Remove_no (v : Value) (t : List NodeP) (s : List UInt8) (w : World) (hm : ML w) (hl : NodesAt w v t) (hok : ∀ y ∈ t, NodeOk y) (hch : chkT t = 0) (hf : findP t s = none) :
    Calls Tryz.prog 41 #[v, .string (bs s)] w fun e w' => e = .returned (.tuple #[.slice none 0 0, .int .i64 5]) ∧ Below w.heap.size w w' := by
  have b0 : Below w.heap.size w (w.alloc (.cells #[.string (bs s)] 9)) := (Below.refl _ _).alloc (Nat.le_refl _) _
  have HCK : Hid (∀ W, Below w.heap.size w W → Calls Tryz.prog 37 #[v] W fun e w' => e = .returned (.int .i64 0) ∧ Below W.heap.size W w') := Lib.hid (fun W hb => by
    have := TCheck_any v t W (hm.below hb) (hl.below hb) hok
    rw [hch] at this
    exact this)
  have HFI : Hid (∀ W, Below w.heap.size w W → Calls Tryz.prog 38 #[v, .string (bs s)] W fun e w' => e = .returned (.tuple #[.int .i64 0, .int .i64 5]) ∧ Below W.heap.size W w') := Lib.hid (fun W hb => by
    have := Find_any v t s W (hl.below hb)
    rw [hf] at this
    exact this)
  have K0 := Blk.new w 9 #[.string (bs s)]
  obtain ⟨W0, hW0⟩ : ∃ W0, W0 = w.alloc (.cells #[.string (bs s)] 9) := ⟨_, rfl⟩
  rw [← hW0] at b0 K0
  have B0 := Lib.hid b0
  have HK0 := Lib.hid K0
  clear hm hl hok hch hf b0 K0
  generalize bs s = bp at *
  go_enter Tryz.func41, Tryz.ntmps41
  go_upto_region 1 with fail
  rw [← hW0]
  clear hW0
  go_wp2_with fail
  refine (HCK.out _ B0.out).mono ?_
  rintro e w1 ⟨rfl, b1⟩
  have B1 := Lib.hid (B0.out.trans (b1.mono B0.out.size))
  have HK1 := Lib.hid (HK0.out.below b1 HK0.out.lt)
  have c0 : w1.cell? ⟨w.heap.size, 0, none⟩ = some (.string bp) := HK1.out.cell 0
  clear b1
  go_wp2_with fail
  refine (HFI.out _ B1.out).mono ?_
  rintro e w2 ⟨rfl, b2⟩
  have B2 := Lib.hid (B1.out.trans (b2.mono B1.out.size))
  clear b2 c0
  go_wp2_with fail
  go_ret2
  exact ⟨rfl, B2.out⟩
/-! ### the new node -/
theorem none_new {t : List NodeP} (ht : ∀ x ∈ t, PartsOk x.path) : findP t [110, 111, 110, 101] = none := by
  rw [findP_none]
  intro x hx e
  have h := (ht x hx).2 [110, 111, 110, 101] (by rw [e]; decide)
  exact absurd h (by decide)
end Go.Proofs.YtphmhmdcaafmdaaGreatDoor
