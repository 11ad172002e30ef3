/-
  The law MemberHead: what it computes is true. Condition: raw things of the second form's bound; the library's table of powers of ten lies as Go laid it.
-/
import Derived.Test.YtmioinfhggbfkaaDoorMPlain
import Derived.Test.YtmioinfhggbfkaaDoorSameE
import Derived.Test.YtmioinfhggbfkaaDoorHeadEq
namespace Go.Proofs.YtmioinfhggbfkaaDoor
set_option linter.all false
open Go.RowKit

/-! ### what heads and records say -/
def noData (x : EntP) : EntP := ⟨x.path, x.kind, x.target, x.mt, []⟩
theorem pack_same {x y : EntP} (hx : EntOk x) (hy : EntOk y) : (packH x = packH y ∧ packR x = packR y) ↔ (noData x = noData y ∧ x.data.length = y.data.length) := by
  constructor
  · rintro ⟨h1, h2⟩
    have e1 := unpack_pack hx
    have e2 := unpack_pack hy
    have e3 : noData (unpackP (packH x) (packR x) x.data) = noData (unpackP (packH y) (packR y) y.data) := by rw [h1, h2]; rfl
    refine ⟨?_, ?_⟩
    · rw [e1, e2] at e3; exact e3
    · have : (packH x).size = (packH y).size := by rw [h1]
      exact this
  · rintro ⟨h1, h2⟩
    obtain ⟨xp, xk, xt, xm, xd⟩ := x
    obtain ⟨yp, yk, yt, ym, yd⟩ := y
    unfold noData at h1
    simp only [EntP.mk.injEq, and_true] at h1
    obtain ⟨rfl, rfl, rfl, rfl⟩ := h1
    simp only at h2
    refine ⟨?_, rfl⟩
    unfold packH
    simp only [h2]

theorem wpList_eql_ {P : Program} (w : World) {ops : Array Oper} {rest : List Oper} {o : Oper} {a : Act} {Q : Exit → Act → World → Prop} (hg : o.guard = none) (x y : Operand) (t t2 : TypeId) (hop : o.op = Op.binOp .eql t x y t2) (vx vy : Value) (hx : a.eval x = vx) (hy : a.eval y = vy) (b : Bool)
    (hG : (eqGuard .eql t x y vx vy).run P w = .ok () w) (hrun : (binOp .eql t vx vy).run P w = .ok (.bool b) w) (hK : wpList P ops Q rest (a.put o.dst (.bool b)) w) : wpList P ops Q (o :: rest) a w :=
  wpList_plain hg fun _ hK' => by
    unfold Oper.wp
    simp [execOp, hop, hx, hy, hG, hrun, Result.andThen]
    exact hK' _ _ hK
/-! ### both members once more, in blocks of their own -/
def Two6 (B : World) (g6 g7 : Nat) (x y : Array Value) (W : World) : Prop := Below B.heap.size B W ∧ B.heap.size ≤ g6 ∧ B.heap.size ≤ g7 ∧ g6 ≠ g7 ∧ Blk W g6 28 x ∧ Blk W g7 28 y
theorem twoE_one (B : World) (x y : Array Value) : Two6 B B.heap.size (B.heap.size + 1) x y ((B.alloc (.cells x 28)).alloc (.cells y 28)).drew :=
  ⟨(((Below.refl _ _).alloc (Nat.le_refl _) _).alloc (by simp) _).drew, Nat.le_refl _, by omega, by omega, ((Blk.new B _ _).alloc _).drew, by
    have := (Blk.new (B.alloc (.cells x 28)) 28 y).drew
    simpa using this⟩
theorem twoE_two (B : World) (x y : Array Value) : Two6 B (B.heap.size + 1) B.heap.size x y ((B.alloc (.cells y 28)).alloc (.cells x 28)).drew := by
  obtain ⟨h1, h2, h3, h4, h5, h6⟩ := twoE_one B y x
  exact ⟨h1, h3, h2, fun e => h4 e.symm, h6, h5⟩
theorem Two6.bare {B W : World} {g6 g7 : Nat} {x y x' y' : Array Value} (h : Two6 B g6 g7 x y W) (hx : x.setIfInBounds 10 (.slice none 0 0) = x') (hy : y.setIfInBounds 10 (.slice none 0 0) = y') : Two6 B g6 g7 x' y' ((W.setCell ⟨g6, 10, none⟩ (.slice none 0 0)).setCell ⟨g7, 10, none⟩ (.slice none 0 0)) := by
  obtain ⟨h1, h2, h3, h4, h5, h6⟩ := h
  subst hx hy
  exact ⟨(h1.setCell (p := ⟨g6, 10, none⟩) h2 _).setCell (p := ⟨g7, 10, none⟩) h3 _, h2, h3, h4, (h5.set_ 10 (.slice none 0 0)).far (p := ⟨g7, 10, none⟩) h4 _, (h6.far (p := ⟨g6, 10, none⟩) (fun e => h4 e.symm) _).set_ 10 (.slice none 0 0)⟩

set_option maxRecDepth 100000 in
set_option maxHeartbeats 8000000 in
theorem MemberHead_walk (w : World) (hsh : w.ShapedOpen Tryd.prog) (h10 : P10 w) (r : RawS) (h : RawOk r) (s : RawS) (h' : RawOk s) :
    Calls Tryd.prog 3 #[rawV r, rawV s] w fun e w' => e = .returned (.bool true) ∧ Below w.heap.size w w' := by
  have hm := ML.of_shaped hsh
  clear hsh
  have HML : Hid (∀ W, Below w.heap.size w W → ML W) := Lib.hid (fun W hb => hm.below hb)
  have HP10 : Hid (∀ W, Below w.heap.size w W → P10 W) := Lib.hid (fun W hb => h10.below hb)
  have hox := entP_ok h
  have hoy := entP_ok h'
  have HEx := Lib.hid (fun W (hb : Below w.heap.size w W) => Entry_any r h W (HML.out W hb))
  have HEy := Lib.hid (fun W (hb : Below w.heap.size w W) => Entry_any s h' W (HML.out W hb))
  clear hm h10 h h'
  generalize entP r = x at *
  generalize entP s = y at *
  have HRx := Lib.hid (fun W (hb : Below w.heap.size w W) A c => MRecords_ok x hox A c W (HML.out W hb) (HP10.out W hb))
  have HRy := Lib.hid (fun W (hb : Below w.heap.size w W) A c => MRecords_ok y hoy A c W (HML.out W hb) (HP10.out W hb))
  have HHx := Lib.hid (fun W (hb : Below w.heap.size w W) A c => MHead_ok x hox A c W (HML.out W hb) (HP10.out W hb))
  have HHy := Lib.hid (fun W (hb : Below w.heap.size w W) A c => MHead_ok y hoy A c W (HML.out W hb) (HP10.out W hb))
  have HWn := Lib.hid (fun W (hb : Below w.heap.size w W) => Written_any W (HML.out W hb) (HP10.out W hb))
  have HPS := Lib.hid (pack_same hox hoy)
  have hrx := packR_len x
  have hry := packR_len y
  have hdx := hox.data.1
  have hdy := hoy.data.1
  clear hox hoy
  generalize packR x = Rx at *
  generalize packR y = Ry at *
  generalize packH x = Hx at *
  generalize packH y = Hy at *
  obtain ⟨xp, xk, xt, ⟨m1, m2, m3, m4, m5, m6, m7⟩, xd⟩ := x
  obtain ⟨yp, yk, yt, ⟨n1, n2, n3, n4, n5, n6, n7⟩, yd⟩ := y
  unfold entC at HEx HEy HRx HRy HHx HHy
  simp only at hdx hdy HEx HEy HRx HRy HHx HHy
  obtain ⟨W0, hW0⟩ : ∃ W0, W0 = (w.alloc (.cells #[.int .i64 r.kind, .int .i64 r.a, .int .i64 r.b, .string (bs r.text)] 23)).alloc (.cells #[.int .i64 s.kind, .int .i64 s.a, .int .i64 s.b, .string (bs s.text)] 23) := ⟨_, rfl⟩
  have hz0 : (w.alloc (.cells #[.int .i64 r.kind, .int .i64 r.a, .int .i64 r.b, .string (bs r.text)] 23)).heap.size = w.heap.size + 1 := by simp
  have hk0 : Blk W0 w.heap.size 23 #[.int .i64 r.kind, .int .i64 r.a, .int .i64 r.b, .string (bs r.text)] := by rw [hW0]; exact (Blk.new _ _ _).alloc _
  have hk1 : Blk W0 (w.heap.size + 1) 23 #[.int .i64 s.kind, .int .i64 s.a, .int .i64 s.b, .string (bs s.text)] := by
    have h := Blk.new (w.alloc (.cells #[.int .i64 r.kind, .int .i64 r.a, .int .i64 r.b, .string (bs r.text)] 23)) 23 #[.int .i64 s.kind, .int .i64 s.a, .int .i64 s.b, .string (bs s.text)]
    rw [hz0, ← hW0] at h
    exact h
  have hb0 : Below w.heap.size w W0 := by rw [hW0]; exact ((Below.refl _ _).alloc (Nat.le_refl _) _).alloc (by simp) _
  have hs0 : W0.heap.size = w.heap.size + 2 := by rw [hW0]; simp
  have HB0 := Lib.hid hb0
  have HZ0 := Lib.hid hs0
  have HS0 : Hid (W0.drew.cell? ⟨w.heap.size, 0, none⟩ = some (.int .i64 r.kind) ∧ W0.drew.cell? ⟨w.heap.size, 1, none⟩ = some (.int .i64 r.a) ∧ W0.drew.cell? ⟨w.heap.size, 2, none⟩ = some (.int .i64 r.b) ∧ W0.drew.cell? ⟨w.heap.size, 3, none⟩ = some (.string (bs r.text)) ∧ W0.drew.cell? ⟨w.heap.size + 1, 0, none⟩ = some (.int .i64 s.kind) ∧ W0.drew.cell? ⟨w.heap.size + 1, 1, none⟩ = some (.int .i64 s.a) ∧ W0.drew.cell? ⟨w.heap.size + 1, 2, none⟩ = some (.int .i64 s.b) ∧ W0.drew.cell? ⟨w.heap.size + 1, 3, none⟩ = some (.string (bs s.text)) ∧ Below W0.heap.size W0 W0.drew) := Lib.hid ⟨hk0.cell 0, hk0.cell 1, hk0.cell 2, hk0.cell 3, hk1.cell 0, hk1.cell 1, hk1.cell 2, hk1.cell 3, (Below.refl _ _).drew⟩
  have HKS : Hid (∀ W W', (W.cell? ⟨w.heap.size, 0, none⟩ = some (.int .i64 r.kind) ∧ W.cell? ⟨w.heap.size, 1, none⟩ = some (.int .i64 r.a) ∧ W.cell? ⟨w.heap.size, 2, none⟩ = some (.int .i64 r.b) ∧ W.cell? ⟨w.heap.size, 3, none⟩ = some (.string (bs r.text)) ∧ W.cell? ⟨w.heap.size + 1, 0, none⟩ = some (.int .i64 s.kind) ∧ W.cell? ⟨w.heap.size + 1, 1, none⟩ = some (.int .i64 s.a) ∧ W.cell? ⟨w.heap.size + 1, 2, none⟩ = some (.int .i64 s.b) ∧ W.cell? ⟨w.heap.size + 1, 3, none⟩ = some (.string (bs s.text)) ∧ Below W0.heap.size W0 W) → Below W.heap.size W W' → (W'.cell? ⟨w.heap.size, 0, none⟩ = some (.int .i64 r.kind) ∧ W'.cell? ⟨w.heap.size, 1, none⟩ = some (.int .i64 r.a) ∧ W'.cell? ⟨w.heap.size, 2, none⟩ = some (.int .i64 r.b) ∧ W'.cell? ⟨w.heap.size, 3, none⟩ = some (.string (bs r.text)) ∧ W'.cell? ⟨w.heap.size + 1, 0, none⟩ = some (.int .i64 s.kind) ∧ W'.cell? ⟨w.heap.size + 1, 1, none⟩ = some (.int .i64 s.a) ∧ W'.cell? ⟨w.heap.size + 1, 2, none⟩ = some (.int .i64 s.b) ∧ W'.cell? ⟨w.heap.size + 1, 3, none⟩ = some (.string (bs s.text)) ∧ Below W0.heap.size W0 W')) := Lib.hid (fun W W' h hb => by
    obtain ⟨h0, h1, h2, h3, h4, h5, h6, h7, h8⟩ := h
    exact ⟨(hb.cell (World.block_lt_of_cell? _ _ h0)).trans h0, (hb.cell (World.block_lt_of_cell? _ _ h1)).trans h1, (hb.cell (World.block_lt_of_cell? _ _ h2)).trans h2, (hb.cell (World.block_lt_of_cell? _ _ h3)).trans h3, (hb.cell (World.block_lt_of_cell? _ _ h4)).trans h4, (hb.cell (World.block_lt_of_cell? _ _ h5)).trans h5, (hb.cell (World.block_lt_of_cell? _ _ h6)).trans h6, (hb.cell (World.block_lt_of_cell? _ _ h7)).trans h7, h8.trans (hb.mono h8.size)⟩)
  have HKF : Hid (∀ W gn (ec : List Value), (W.cell? ⟨w.heap.size, 0, none⟩ = some (.int .i64 r.kind) ∧ W.cell? ⟨w.heap.size, 1, none⟩ = some (.int .i64 r.a) ∧ W.cell? ⟨w.heap.size, 2, none⟩ = some (.int .i64 r.b) ∧ W.cell? ⟨w.heap.size, 3, none⟩ = some (.string (bs r.text)) ∧ W.cell? ⟨w.heap.size + 1, 0, none⟩ = some (.int .i64 s.kind) ∧ W.cell? ⟨w.heap.size + 1, 1, none⟩ = some (.int .i64 s.a) ∧ W.cell? ⟨w.heap.size + 1, 2, none⟩ = some (.int .i64 s.b) ∧ W.cell? ⟨w.heap.size + 1, 3, none⟩ = some (.string (bs s.text)) ∧ Below W0.heap.size W0 W) → w.heap.size + 2 ≤ gn → ((setAll W gn 0 ec).cell? ⟨w.heap.size, 0, none⟩ = some (.int .i64 r.kind) ∧ (setAll W gn 0 ec).cell? ⟨w.heap.size, 1, none⟩ = some (.int .i64 r.a) ∧ (setAll W gn 0 ec).cell? ⟨w.heap.size, 2, none⟩ = some (.int .i64 r.b) ∧ (setAll W gn 0 ec).cell? ⟨w.heap.size, 3, none⟩ = some (.string (bs r.text)) ∧ (setAll W gn 0 ec).cell? ⟨w.heap.size + 1, 0, none⟩ = some (.int .i64 s.kind) ∧ (setAll W gn 0 ec).cell? ⟨w.heap.size + 1, 1, none⟩ = some (.int .i64 s.a) ∧ (setAll W gn 0 ec).cell? ⟨w.heap.size + 1, 2, none⟩ = some (.int .i64 s.b) ∧ (setAll W gn 0 ec).cell? ⟨w.heap.size + 1, 3, none⟩ = some (.string (bs s.text)) ∧ Below W0.heap.size W0 (setAll W gn 0 ec))) := Lib.hid (fun W gn ec h hg => by
    have hz := HZ0.out
    have k0 : w.heap.size ≠ gn := by omega
    have k1 : w.heap.size + 1 ≠ gn := by omega
    obtain ⟨h0, h1, h2, h3, h4, h5, h6, h7, h8⟩ := h
    exact ⟨(cell_setAll_ k0 ec 0).trans h0, (cell_setAll_ k0 ec 0).trans h1, (cell_setAll_ k0 ec 0).trans h2, (cell_setAll_ k0 ec 0).trans h3, (cell_setAll_ k1 ec 0).trans h4, (cell_setAll_ k1 ec 0).trans h5, (cell_setAll_ k1 ec 0).trans h6, (cell_setAll_ k1 ec 0).trans h7, Below.setAll (by omega) ec 0 h8⟩)
  have HBW : Hid (∀ W, (W.cell? ⟨w.heap.size, 0, none⟩ = some (.int .i64 r.kind) ∧ W.cell? ⟨w.heap.size, 1, none⟩ = some (.int .i64 r.a) ∧ W.cell? ⟨w.heap.size, 2, none⟩ = some (.int .i64 r.b) ∧ W.cell? ⟨w.heap.size, 3, none⟩ = some (.string (bs r.text)) ∧ W.cell? ⟨w.heap.size + 1, 0, none⟩ = some (.int .i64 s.kind) ∧ W.cell? ⟨w.heap.size + 1, 1, none⟩ = some (.int .i64 s.a) ∧ W.cell? ⟨w.heap.size + 1, 2, none⟩ = some (.int .i64 s.b) ∧ W.cell? ⟨w.heap.size + 1, 3, none⟩ = some (.string (bs s.text)) ∧ Below W0.heap.size W0 W) → Below w.heap.size w W) := Lib.hid (fun W h => HB0.out.trans (h.2.2.2.2.2.2.2.2.mono HB0.out.size))
  have HSz : Hid (∀ W, (W.cell? ⟨w.heap.size, 0, none⟩ = some (.int .i64 r.kind) ∧ W.cell? ⟨w.heap.size, 1, none⟩ = some (.int .i64 r.a) ∧ W.cell? ⟨w.heap.size, 2, none⟩ = some (.int .i64 r.b) ∧ W.cell? ⟨w.heap.size, 3, none⟩ = some (.string (bs r.text)) ∧ W.cell? ⟨w.heap.size + 1, 0, none⟩ = some (.int .i64 s.kind) ∧ W.cell? ⟨w.heap.size + 1, 1, none⟩ = some (.int .i64 s.a) ∧ W.cell? ⟨w.heap.size + 1, 2, none⟩ = some (.int .i64 s.b) ∧ W.cell? ⟨w.heap.size + 1, 3, none⟩ = some (.string (bs s.text)) ∧ Below W0.heap.size W0 W) → w.heap.size + 2 ≤ W.heap.size) := Lib.hid (fun W h => by have := h.2.2.2.2.2.2.2.2.size; have := HZ0.out; omega)
  clear hk0 hk1 hb0 hs0 hz0
  unfold rawV at HEx HEy ⊢
  go_enter Tryd.func3, Tryd.ntmps3
  go_upto_region 1 with fail
  rw [← hW0]
  clear hW0
  go_cut [5, 6] from 18 to 22 (fun s5 s6 wx => ∃ ga gb A c A' c', s5 = .pointer (some ⟨ga, 0, none⟩) ∧ s6 = .pointer (some ⟨gb, 0, none⟩) ∧ Hid (Blk wx ga 28 #[.string (bs xp), .int .i64 xk, .string (bs xt), .int .i64 m1, .int .i64 m2, .int .i64 m3, .string (bs m4), .string (bs m5), .int .i64 m6, .int .i64 m7, .slice A xd.length c] ∧ Blk wx gb 28 #[.string (bs yp), .int .i64 yk, .string (bs yt), .int .i64 n1, .int .i64 n2, .int .i64 n3, .string (bs n4), .string (bs n5), .int .i64 n6, .int .i64 n7, .slice A' yd.length c'] ∧ DataAt wx w.heap.size (.slice A xd.length c) xd ∧ DataAt wx w.heap.size (.slice A' yd.length c') yd ∧ Below w.heap.size w wx ∧ w.heap.size ≤ ga ∧ w.heap.size ≤ gb))
  case first =>
    refine wp_region_held_drew (S := fun W => W.cell? ⟨w.heap.size, 0, none⟩ = some (.int .i64 r.kind) ∧ W.cell? ⟨w.heap.size, 1, none⟩ = some (.int .i64 r.a) ∧ W.cell? ⟨w.heap.size, 2, none⟩ = some (.int .i64 r.b) ∧ W.cell? ⟨w.heap.size, 3, none⟩ = some (.string (bs r.text)) ∧ W.cell? ⟨w.heap.size + 1, 0, none⟩ = some (.int .i64 s.kind) ∧ W.cell? ⟨w.heap.size + 1, 1, none⟩ = some (.int .i64 s.a) ∧ W.cell? ⟨w.heap.size + 1, 2, none⟩ = some (.int .i64 s.b) ∧ W.cell? ⟨w.heap.size + 1, 3, none⟩ = some (.string (bs s.text)) ∧ Below W0.heap.size W0 W) (by kernel_rfl) HS0.out (fun hHeld => ?_)
    generalize W0.drew = Wd at hHeld ⊢
--[first
    refine wpAnyH_take (i := 0) (v := ?v1) rfl (by kernel_rfl) (by kernel_rfl) (by kernel_rfl) (fun _ _ _ h => h) (Or.inl ⟨by rfl, ?hy1⟩) hHeld ?rest1
    case hy1 => (intro w hSw; (try dsimp only at hSw); go_simp; try with_reducible rfl)
    simp only [Act.put, List.setIfInBounds_toArray, List.set_cons_zero, List.set_cons_succ, List.getElem_toArray, List.getElem_cons_zero]
    refine wpAnyH_take (i := 2) (v := ?v2) rfl (by kernel_rfl) (by kernel_rfl) (by kernel_rfl) (fun _ _ _ h => h) (Or.inl ⟨by rfl, ?hy2⟩) hHeld ?rest2
    case hy2 => (intro w hSw; (try dsimp only at hSw); go_simp; try with_reducible rfl)
    simp only [Act.put, List.setIfInBounds_toArray, List.set_cons_zero, List.set_cons_succ, List.getElem_toArray, List.getElem_cons_zero, List.getElem_cons_succ]
    refine wpAnyH_ready (rs := [1, 4, 5]) (by kernel_rfl) (by simp) (AllReadyH.cons rfl (fun K hK => ?_) (AllReadyH.cons rfl (fun K hK => ?_) (AllReadyH.cons rfl (fun K hK => ?_) AllReadyH.nil)))
    · skip
      go_simp
      go_at_call 6
      refine (HEx.out _ (HBW.out _ hHeld)).mono ?_
      rintro e w' ⟨A, c, rfl, hd, hb⟩
      have hst := HKS.out _ _ hHeld hb
      have hd1 := hd.mono (Nat.le_trans (Nat.le_add_right _ 2) (HSz.out _ hHeld))
      clear hb hd
      go_wp2_with fail
      refine hK.out _ _ hst (fun hHeld => ?_)
      clear hK K hst
      try simp only [Act.put, List.setIfInBounds_toArray, List.set_cons_zero, List.set_cons_succ, List.getElem_toArray, List.getElem_cons_zero, List.getElem_cons_succ]
      refine wpAnyH_ready (rs := [3, 4, 5]) (by kernel_rfl) (by simp) (AllReadyH.cons rfl (fun K hK => ?_) (AllReadyH.cons rfl (fun K hK => ?_) (AllReadyH.cons rfl (fun K hK => ?_) AllReadyH.nil)))
      · skip
        go_simp
        go_at_call 6
        refine (HEy.out _ (HBW.out _ hHeld)).mono ?_
        rintro e w' ⟨A', c', rfl, hd, hb⟩
        have hst := HKS.out _ _ hHeld hb
        have hd2 := hd.mono (Nat.le_trans (Nat.le_add_right _ 2) (HSz.out _ hHeld))
        have hd1 := hd1.below hb
        clear hb hd
        go_wp2_with fail
        refine hK.out _ _ hst (fun hHeld => ?_)
        clear hK K hst
        try simp only [Act.put, List.setIfInBounds_toArray, List.set_cons_zero, List.set_cons_succ, List.getElem_toArray, List.getElem_cons_zero, List.getElem_cons_succ]
        refine wpAnyH_ready (rs := [4, 5]) (by kernel_rfl) (by simp) (AllReadyH.cons rfl (fun K hK => ?_) (AllReadyH.cons rfl (fun K hK => ?_) AllReadyH.nil))
        · skip
          go_simp
          try go_wp2_with fail
          have hba := (Below.refl w'.heap.size w').alloc (Nat.le_refl _) (.cells #[.string ⟨#[]⟩, .int .i64 0, .string ⟨#[]⟩, .int .i64 0, .int .i64 0, .int .i64 0, .string ⟨#[]⟩, .string ⟨#[]⟩, .int .i64 0, .int .i64 0, .slice none 0 0] 28)
          refine hK.out _ _ (HKS.out _ _ hHeld hba) (fun hHeld2 => ?_)
          clear hK K
          have hd1 := hd1.below hba
          have hd2 := hd2.below hba
          obtain ⟨ga, hga⟩ : ∃ ga, ga = w'.heap.size := ⟨_, rfl⟩
          have hA : HasBlk (w'.alloc (.cells #[.string ⟨#[]⟩, .int .i64 0, .string ⟨#[]⟩, .int .i64 0, .int .i64 0, .int .i64 0, .string ⟨#[]⟩, .string ⟨#[]⟩, .int .i64 0, .int .i64 0, .slice none 0 0] 28)) w'.heap.size 28 11 := HasBlk.newE w'
          have ga2 : w.heap.size + 2 ≤ ga := by have := HSz.out _ hHeld; omega
          obtain ⟨V4, hV4⟩ : ∃ V4, V4 = w'.alloc (.cells #[.string ⟨#[]⟩, .int .i64 0, .string ⟨#[]⟩, .int .i64 0, .int .i64 0, .int .i64 0, .string ⟨#[]⟩, .string ⟨#[]⟩, .int .i64 0, .int .i64 0, .slice none 0 0] 28) := ⟨_, rfl⟩
          rw [← hga] at hA ⊢
          rw [← hV4] at hA hHeld2 hd1 hd2 ⊢
          have ga3 := hA.lt
          clear hV4 hga hHeld hba
          have hHeld := hHeld2
          clear hHeld2
          try simp only [Act.put, List.setIfInBounds_toArray, List.set_cons_zero, List.set_cons_succ, List.getElem_toArray, List.getElem_cons_zero, List.getElem_cons_succ]
          refine wpAnyH_ready (rs := [5]) (by kernel_rfl) (by simp) (AllReadyH.cons rfl (fun K hK => ?_) AllReadyH.nil)
          go_simp
          try go_wp2_with fail
          have hba := (Below.refl V4.heap.size V4).alloc (Nat.le_refl _) (.cells #[.string ⟨#[]⟩, .int .i64 0, .string ⟨#[]⟩, .int .i64 0, .int .i64 0, .int .i64 0, .string ⟨#[]⟩, .string ⟨#[]⟩, .int .i64 0, .int .i64 0, .slice none 0 0] 28)
          refine hK.out _ _ (HKS.out _ _ hHeld hba) (fun hHeld2 => ?_)
          clear hK K
          have hlt := hA.lt
          have hd1 := hd1.below hba
          have hd2 := hd2.below hba
          have hA := hA.below hba
          obtain ⟨gb, hgb⟩ : ∃ gb, gb = V4.heap.size := ⟨_, rfl⟩
          have hB : HasBlk (V4.alloc (.cells #[.string ⟨#[]⟩, .int .i64 0, .string ⟨#[]⟩, .int .i64 0, .int .i64 0, .int .i64 0, .string ⟨#[]⟩, .string ⟨#[]⟩, .int .i64 0, .int .i64 0, .slice none 0 0] 28)) V4.heap.size 28 11 := HasBlk.newE V4
          have gb2 : w.heap.size + 2 ≤ gb := by have := HSz.out _ hHeld; omega
          have hne : ga ≠ gb := by omega
          obtain ⟨V5, hV5⟩ : ∃ V5, V5 = V4.alloc (.cells #[.string ⟨#[]⟩, .int .i64 0, .string ⟨#[]⟩, .int .i64 0, .int .i64 0, .int .i64 0, .string ⟨#[]⟩, .string ⟨#[]⟩, .int .i64 0, .int .i64 0, .slice none 0 0] 28) := ⟨_, rfl⟩
          rw [← hgb] at hB ⊢
          rw [← hV5] at hB hHeld2 hd1 hd2 hA ⊢
          have gb3 := hB.lt
          clear hV5 hgb hHeld hba
          have hHeld := hHeld2
          clear hHeld2
          try simp only [Act.put, List.setIfInBounds_toArray, List.set_cons_zero, List.set_cons_succ, List.getElem_toArray, List.getElem_cons_zero, List.getElem_cons_succ]
          refine wpAnyH_ready (rs := [6]) (by kernel_rfl) (by simp) (AllReadyH.cons rfl (fun K hK => ?_) AllReadyH.nil)
          have n20 := hA.peek_ (i := 0) (by omega); have f20 := hA.frozen 0; have n21 := hA.peek_ (i := 1) (by omega); have f21 := hA.frozen 1; have n22 := hA.peek_ (i := 2) (by omega); have f22 := hA.frozen 2; have n23 := hA.peek_ (i := 3) (by omega); have f23 := hA.frozen 3; have n24 := hA.peek_ (i := 4) (by omega); have f24 := hA.frozen 4; have n25 := hA.peek_ (i := 5) (by omega); have f25 := hA.frozen 5; have n26 := hA.peek_ (i := 6) (by omega); have f26 := hA.frozen 6; have n27 := hA.peek_ (i := 7) (by omega); have f27 := hA.frozen 7; have n28 := hA.peek_ (i := 8) (by omega); have f28 := hA.frozen 8; have n29 := hA.peek_ (i := 9) (by omega); have f29 := hA.frozen 9; have n30 := hA.peek_ (i := 10) (by omega); have f30 := hA.frozen 10
          go_simp
          clear n20 f20 n21 f21 n22 f22 n23 f23 n24 f24 n25 f25 n26 f26 n27 f27 n28 f28 n29 f29 n30 f30
          have hst := HKF.out _ ga [.string (bs xp), .int .i64 xk, .string (bs xt), .int .i64 m1, .int .i64 m2, .int .i64 m3, .string (bs m4), .string (bs m5), .int .i64 m6, .int .i64 m7, .slice A xd.length c] hHeld ga2
          have hk6 := hA.fill [.string (bs xp), .int .i64 xk, .string (bs xt), .int .i64 m1, .int .i64 m2, .int .i64 m3, .string (bs m4), .string (bs m5), .int .i64 m6, .int .i64 m7, .slice A xd.length c] rfl
          have hd1 := hd1.kept (U8Kept.setAll (by decide) [.string (bs xp), .int .i64 xk, .string (bs xt), .int .i64 m1, .int .i64 m2, .int .i64 m3, .string (bs m4), .string (bs m5), .int .i64 m6, .int .i64 m7, .slice A xd.length c] 0 hA)
          have hd2 := hd2.kept (U8Kept.setAll (by decide) [.string (bs xp), .int .i64 xk, .string (bs xt), .int .i64 m1, .int .i64 m2, .int .i64 m3, .string (bs m4), .string (bs m5), .int .i64 m6, .int .i64 m7, .slice A xd.length c] 0 hA)
          obtain ⟨cs, hcs, hBB⟩ := hB
          have hB : HasBlk _ gb 28 11 := ⟨cs, hcs, Blk.far_setAll (fun e => hne e.symm) [.string (bs xp), .int .i64 xk, .string (bs xt), .int .i64 m1, .int .i64 m2, .int .i64 m3, .string (bs m4), .string (bs m5), .int .i64 m6, .int .i64 m7, .slice A xd.length c] 0 hBB⟩
          obtain ⟨V6, hV6⟩ : ∃ V6, V6 = setAll V5 ga 0 [.string (bs xp), .int .i64 xk, .string (bs xt), .int .i64 m1, .int .i64 m2, .int .i64 m3, .string (bs m4), .string (bs m5), .int .i64 m6, .int .i64 m7, .slice A xd.length c] := ⟨_, rfl⟩
          rw [← hV6] at hst hk6 hd1 hd2 hB
          simp only [setAll, Nat.zero_add, Nat.reduceAdd] at hV6
          rw [← hV6]
          clear hV6 hBB hcs
          refine hK.out _ _ hst (fun hHeld => ?_)
          clear hK K hst
          try simp only [Act.put, List.setIfInBounds_toArray, List.set_cons_zero, List.set_cons_succ, List.getElem_toArray, List.getElem_cons_zero, List.getElem_cons_succ]
          refine wpAnyH_ready (rs := [7]) (by kernel_rfl) (by simp) (AllReadyH.cons rfl (fun K hK => ?_) AllReadyH.nil)
          have n20 := hB.peek_ (i := 0) (by omega); have f20 := hB.frozen 0; have n21 := hB.peek_ (i := 1) (by omega); have f21 := hB.frozen 1; have n22 := hB.peek_ (i := 2) (by omega); have f22 := hB.frozen 2; have n23 := hB.peek_ (i := 3) (by omega); have f23 := hB.frozen 3; have n24 := hB.peek_ (i := 4) (by omega); have f24 := hB.frozen 4; have n25 := hB.peek_ (i := 5) (by omega); have f25 := hB.frozen 5; have n26 := hB.peek_ (i := 6) (by omega); have f26 := hB.frozen 6; have n27 := hB.peek_ (i := 7) (by omega); have f27 := hB.frozen 7; have n28 := hB.peek_ (i := 8) (by omega); have f28 := hB.frozen 8; have n29 := hB.peek_ (i := 9) (by omega); have f29 := hB.frozen 9; have n30 := hB.peek_ (i := 10) (by omega); have f30 := hB.frozen 10
          go_simp
          clear n20 f20 n21 f21 n22 f22 n23 f23 n24 f24 n25 f25 n26 f26 n27 f27 n28 f28 n29 f29 n30 f30
          have hst := HKF.out _ gb [.string (bs yp), .int .i64 yk, .string (bs yt), .int .i64 n1, .int .i64 n2, .int .i64 n3, .string (bs n4), .string (bs n5), .int .i64 n6, .int .i64 n7, .slice A' yd.length c'] hHeld gb2
          have hk7 := hB.fill [.string (bs yp), .int .i64 yk, .string (bs yt), .int .i64 n1, .int .i64 n2, .int .i64 n3, .string (bs n4), .string (bs n5), .int .i64 n6, .int .i64 n7, .slice A' yd.length c'] rfl
          have hd1 := hd1.kept (U8Kept.setAll (by decide) [.string (bs yp), .int .i64 yk, .string (bs yt), .int .i64 n1, .int .i64 n2, .int .i64 n3, .string (bs n4), .string (bs n5), .int .i64 n6, .int .i64 n7, .slice A' yd.length c'] 0 hB)
          have hd2 := hd2.kept (U8Kept.setAll (by decide) [.string (bs yp), .int .i64 yk, .string (bs yt), .int .i64 n1, .int .i64 n2, .int .i64 n3, .string (bs n4), .string (bs n5), .int .i64 n6, .int .i64 n7, .slice A' yd.length c'] 0 hB)
          have hk6 := Blk.far_setAll hne [.string (bs yp), .int .i64 yk, .string (bs yt), .int .i64 n1, .int .i64 n2, .int .i64 n3, .string (bs n4), .string (bs n5), .int .i64 n6, .int .i64 n7, .slice A' yd.length c'] 0 hk6
          obtain ⟨V7, hV7⟩ : ∃ V7, V7 = setAll V6 gb 0 [.string (bs yp), .int .i64 yk, .string (bs yt), .int .i64 n1, .int .i64 n2, .int .i64 n3, .string (bs n4), .string (bs n5), .int .i64 n6, .int .i64 n7, .slice A' yd.length c'] := ⟨_, rfl⟩
          rw [← hV7] at hst hk6 hd1 hd2 hk7
          simp only [setAll, Nat.zero_add, Nat.reduceAdd] at hV7
          rw [← hV7]
          clear hV7
          refine hK.out _ _ hst (fun hHeld => ?_)
          clear hK K hst
          try simp only [Act.put, List.setIfInBounds_toArray, List.set_cons_zero, List.set_cons_succ, List.getElem_toArray, List.getElem_cons_zero, List.getElem_cons_succ]
          refine wpAnyH_done (by kernel_rfl) ?_ _
          try go_wp2_with fail
          go_meet
          case rel => exact ⟨ga, gb, A, c, A', c', rfl, rfl, Lib.hid ⟨hk6, hk7, hd1, hd2, HBW.out _ hHeld, by omega, by omega⟩⟩
        · skip
          go_simp
          try go_wp2_with fail
          have hba := (Below.refl w'.heap.size w').alloc (Nat.le_refl _) (.cells #[.string ⟨#[]⟩, .int .i64 0, .string ⟨#[]⟩, .int .i64 0, .int .i64 0, .int .i64 0, .string ⟨#[]⟩, .string ⟨#[]⟩, .int .i64 0, .int .i64 0, .slice none 0 0] 28)
          refine hK.out _ _ (HKS.out _ _ hHeld hba) (fun hHeld2 => ?_)
          clear hK K
          have hd1 := hd1.below hba
          have hd2 := hd2.below hba
          obtain ⟨gb, hgb⟩ : ∃ gb, gb = w'.heap.size := ⟨_, rfl⟩
          have hB : HasBlk (w'.alloc (.cells #[.string ⟨#[]⟩, .int .i64 0, .string ⟨#[]⟩, .int .i64 0, .int .i64 0, .int .i64 0, .string ⟨#[]⟩, .string ⟨#[]⟩, .int .i64 0, .int .i64 0, .slice none 0 0] 28)) w'.heap.size 28 11 := HasBlk.newE w'
          have gb2 : w.heap.size + 2 ≤ gb := by have := HSz.out _ hHeld; omega
          obtain ⟨V5, hV5⟩ : ∃ V5, V5 = w'.alloc (.cells #[.string ⟨#[]⟩, .int .i64 0, .string ⟨#[]⟩, .int .i64 0, .int .i64 0, .int .i64 0, .string ⟨#[]⟩, .string ⟨#[]⟩, .int .i64 0, .int .i64 0, .slice none 0 0] 28) := ⟨_, rfl⟩
          rw [← hgb] at hB ⊢
          rw [← hV5] at hB hHeld2 hd1 hd2 ⊢
          have gb3 := hB.lt
          clear hV5 hgb hHeld hba
          have hHeld := hHeld2
          clear hHeld2
          try simp only [Act.put, List.setIfInBounds_toArray, List.set_cons_zero, List.set_cons_succ, List.getElem_toArray, List.getElem_cons_zero, List.getElem_cons_succ]
          refine wpAnyH_ready (rs := [4]) (by kernel_rfl) (by simp) (AllReadyH.cons rfl (fun K hK => ?_) AllReadyH.nil)
          go_simp
          try go_wp2_with fail
          have hba := (Below.refl V5.heap.size V5).alloc (Nat.le_refl _) (.cells #[.string ⟨#[]⟩, .int .i64 0, .string ⟨#[]⟩, .int .i64 0, .int .i64 0, .int .i64 0, .string ⟨#[]⟩, .string ⟨#[]⟩, .int .i64 0, .int .i64 0, .slice none 0 0] 28)
          refine hK.out _ _ (HKS.out _ _ hHeld hba) (fun hHeld2 => ?_)
          clear hK K
          have hlt := hB.lt
          have hd1 := hd1.below hba
          have hd2 := hd2.below hba
          have hB := hB.below hba
          obtain ⟨ga, hga⟩ : ∃ ga, ga = V5.heap.size := ⟨_, rfl⟩
          have hA : HasBlk (V5.alloc (.cells #[.string ⟨#[]⟩, .int .i64 0, .string ⟨#[]⟩, .int .i64 0, .int .i64 0, .int .i64 0, .string ⟨#[]⟩, .string ⟨#[]⟩, .int .i64 0, .int .i64 0, .slice none 0 0] 28)) V5.heap.size 28 11 := HasBlk.newE V5
          have ga2 : w.heap.size + 2 ≤ ga := by have := HSz.out _ hHeld; omega
          have hne : ga ≠ gb := by omega
          obtain ⟨V4, hV4⟩ : ∃ V4, V4 = V5.alloc (.cells #[.string ⟨#[]⟩, .int .i64 0, .string ⟨#[]⟩, .int .i64 0, .int .i64 0, .int .i64 0, .string ⟨#[]⟩, .string ⟨#[]⟩, .int .i64 0, .int .i64 0, .slice none 0 0] 28) := ⟨_, rfl⟩
          rw [← hga] at hA ⊢
          rw [← hV4] at hA hHeld2 hd1 hd2 hB ⊢
          have ga3 := hA.lt
          clear hV4 hga hHeld hba
          have hHeld := hHeld2
          clear hHeld2
          try simp only [Act.put, List.setIfInBounds_toArray, List.set_cons_zero, List.set_cons_succ, List.getElem_toArray, List.getElem_cons_zero, List.getElem_cons_succ]
          refine wpAnyH_ready (rs := [6]) (by kernel_rfl) (by simp) (AllReadyH.cons rfl (fun K hK => ?_) AllReadyH.nil)
          have n20 := hA.peek_ (i := 0) (by omega); have f20 := hA.frozen 0; have n21 := hA.peek_ (i := 1) (by omega); have f21 := hA.frozen 1; have n22 := hA.peek_ (i := 2) (by omega); have f22 := hA.frozen 2; have n23 := hA.peek_ (i := 3) (by omega); have f23 := hA.frozen 3; have n24 := hA.peek_ (i := 4) (by omega); have f24 := hA.frozen 4; have n25 := hA.peek_ (i := 5) (by omega); have f25 := hA.frozen 5; have n26 := hA.peek_ (i := 6) (by omega); have f26 := hA.frozen 6; have n27 := hA.peek_ (i := 7) (by omega); have f27 := hA.frozen 7; have n28 := hA.peek_ (i := 8) (by omega); have f28 := hA.frozen 8; have n29 := hA.peek_ (i := 9) (by omega); have f29 := hA.frozen 9; have n30 := hA.peek_ (i := 10) (by omega); have f30 := hA.frozen 10
          go_simp
          clear n20 f20 n21 f21 n22 f22 n23 f23 n24 f24 n25 f25 n26 f26 n27 f27 n28 f28 n29 f29 n30 f30
          have hst := HKF.out _ ga [.string (bs xp), .int .i64 xk, .string (bs xt), .int .i64 m1, .int .i64 m2, .int .i64 m3, .string (bs m4), .string (bs m5), .int .i64 m6, .int .i64 m7, .slice A xd.length c] hHeld ga2
          have hk6 := hA.fill [.string (bs xp), .int .i64 xk, .string (bs xt), .int .i64 m1, .int .i64 m2, .int .i64 m3, .string (bs m4), .string (bs m5), .int .i64 m6, .int .i64 m7, .slice A xd.length c] rfl
          have hd1 := hd1.kept (U8Kept.setAll (by decide) [.string (bs xp), .int .i64 xk, .string (bs xt), .int .i64 m1, .int .i64 m2, .int .i64 m3, .string (bs m4), .string (bs m5), .int .i64 m6, .int .i64 m7, .slice A xd.length c] 0 hA)
          have hd2 := hd2.kept (U8Kept.setAll (by decide) [.string (bs xp), .int .i64 xk, .string (bs xt), .int .i64 m1, .int .i64 m2, .int .i64 m3, .string (bs m4), .string (bs m5), .int .i64 m6, .int .i64 m7, .slice A xd.length c] 0 hA)
          obtain ⟨cs, hcs, hBB⟩ := hB
          have hB : HasBlk _ gb 28 11 := ⟨cs, hcs, Blk.far_setAll (fun e => hne e.symm) [.string (bs xp), .int .i64 xk, .string (bs xt), .int .i64 m1, .int .i64 m2, .int .i64 m3, .string (bs m4), .string (bs m5), .int .i64 m6, .int .i64 m7, .slice A xd.length c] 0 hBB⟩
          obtain ⟨V6, hV6⟩ : ∃ V6, V6 = setAll V4 ga 0 [.string (bs xp), .int .i64 xk, .string (bs xt), .int .i64 m1, .int .i64 m2, .int .i64 m3, .string (bs m4), .string (bs m5), .int .i64 m6, .int .i64 m7, .slice A xd.length c] := ⟨_, rfl⟩
          rw [← hV6] at hst hk6 hd1 hd2 hB
          simp only [setAll, Nat.zero_add, Nat.reduceAdd] at hV6
          rw [← hV6]
          clear hV6 hBB hcs
          refine hK.out _ _ hst (fun hHeld => ?_)
          clear hK K hst
          try simp only [Act.put, List.setIfInBounds_toArray, List.set_cons_zero, List.set_cons_succ, List.getElem_toArray, List.getElem_cons_zero, List.getElem_cons_succ]
          refine wpAnyH_ready (rs := [7]) (by kernel_rfl) (by simp) (AllReadyH.cons rfl (fun K hK => ?_) AllReadyH.nil)
          have n20 := hB.peek_ (i := 0) (by omega); have f20 := hB.frozen 0; have n21 := hB.peek_ (i := 1) (by omega); have f21 := hB.frozen 1; have n22 := hB.peek_ (i := 2) (by omega); have f22 := hB.frozen 2; have n23 := hB.peek_ (i := 3) (by omega); have f23 := hB.frozen 3; have n24 := hB.peek_ (i := 4) (by omega); have f24 := hB.frozen 4; have n25 := hB.peek_ (i := 5) (by omega); have f25 := hB.frozen 5; have n26 := hB.peek_ (i := 6) (by omega); have f26 := hB.frozen 6; have n27 := hB.peek_ (i := 7) (by omega); have f27 := hB.frozen 7; have n28 := hB.peek_ (i := 8) (by omega); have f28 := hB.frozen 8; have n29 := hB.peek_ (i := 9) (by omega); have f29 := hB.frozen 9; have n30 := hB.peek_ (i := 10) (by omega); have f30 := hB.frozen 10
          go_simp
          clear n20 f20 n21 f21 n22 f22 n23 f23 n24 f24 n25 f25 n26 f26 n27 f27 n28 f28 n29 f29 n30 f30
          have hst := HKF.out _ gb [.string (bs yp), .int .i64 yk, .string (bs yt), .int .i64 n1, .int .i64 n2, .int .i64 n3, .string (bs n4), .string (bs n5), .int .i64 n6, .int .i64 n7, .slice A' yd.length c'] hHeld gb2
          have hk7 := hB.fill [.string (bs yp), .int .i64 yk, .string (bs yt), .int .i64 n1, .int .i64 n2, .int .i64 n3, .string (bs n4), .string (bs n5), .int .i64 n6, .int .i64 n7, .slice A' yd.length c'] rfl
          have hd1 := hd1.kept (U8Kept.setAll (by decide) [.string (bs yp), .int .i64 yk, .string (bs yt), .int .i64 n1, .int .i64 n2, .int .i64 n3, .string (bs n4), .string (bs n5), .int .i64 n6, .int .i64 n7, .slice A' yd.length c'] 0 hB)
          have hd2 := hd2.kept (U8Kept.setAll (by decide) [.string (bs yp), .int .i64 yk, .string (bs yt), .int .i64 n1, .int .i64 n2, .int .i64 n3, .string (bs n4), .string (bs n5), .int .i64 n6, .int .i64 n7, .slice A' yd.length c'] 0 hB)
          have hk6 := Blk.far_setAll hne [.string (bs yp), .int .i64 yk, .string (bs yt), .int .i64 n1, .int .i64 n2, .int .i64 n3, .string (bs n4), .string (bs n5), .int .i64 n6, .int .i64 n7, .slice A' yd.length c'] 0 hk6
          obtain ⟨V7, hV7⟩ : ∃ V7, V7 = setAll V6 gb 0 [.string (bs yp), .int .i64 yk, .string (bs yt), .int .i64 n1, .int .i64 n2, .int .i64 n3, .string (bs n4), .string (bs n5), .int .i64 n6, .int .i64 n7, .slice A' yd.length c'] := ⟨_, rfl⟩
          rw [← hV7] at hst hk6 hd1 hd2 hk7
          simp only [setAll, Nat.zero_add, Nat.reduceAdd] at hV7
          rw [← hV7]
          clear hV7
          refine hK.out _ _ hst (fun hHeld => ?_)
          clear hK K hst
          try simp only [Act.put, List.setIfInBounds_toArray, List.set_cons_zero, List.set_cons_succ, List.getElem_toArray, List.getElem_cons_zero, List.getElem_cons_succ]
          refine wpAnyH_done (by kernel_rfl) ?_ _
          try go_wp2_with fail
          go_meet
          case rel => exact ⟨ga, gb, A, c, A', c', rfl, rfl, Lib.hid ⟨hk6, hk7, hd1, hd2, HBW.out _ hHeld, by omega, by omega⟩⟩
      · skip
        go_simp
        try go_wp2_with fail
        have hba := (Below.refl w'.heap.size w').alloc (Nat.le_refl _) (.cells #[.string ⟨#[]⟩, .int .i64 0, .string ⟨#[]⟩, .int .i64 0, .int .i64 0, .int .i64 0, .string ⟨#[]⟩, .string ⟨#[]⟩, .int .i64 0, .int .i64 0, .slice none 0 0] 28)
        refine hK.out _ _ (HKS.out _ _ hHeld hba) (fun hHeld2 => ?_)
        clear hK K
        have hd1 := hd1.below hba
        obtain ⟨ga, hga⟩ : ∃ ga, ga = w'.heap.size := ⟨_, rfl⟩
        have hA : HasBlk (w'.alloc (.cells #[.string ⟨#[]⟩, .int .i64 0, .string ⟨#[]⟩, .int .i64 0, .int .i64 0, .int .i64 0, .string ⟨#[]⟩, .string ⟨#[]⟩, .int .i64 0, .int .i64 0, .slice none 0 0] 28)) w'.heap.size 28 11 := HasBlk.newE w'
        have ga2 : w.heap.size + 2 ≤ ga := by have := HSz.out _ hHeld; omega
        obtain ⟨V4, hV4⟩ : ∃ V4, V4 = w'.alloc (.cells #[.string ⟨#[]⟩, .int .i64 0, .string ⟨#[]⟩, .int .i64 0, .int .i64 0, .int .i64 0, .string ⟨#[]⟩, .string ⟨#[]⟩, .int .i64 0, .int .i64 0, .slice none 0 0] 28) := ⟨_, rfl⟩
        rw [← hga] at hA ⊢
        rw [← hV4] at hA hHeld2 hd1 ⊢
        have ga3 := hA.lt
        clear hV4 hga hHeld hba
        have hHeld := hHeld2
        clear hHeld2
        try simp only [Act.put, List.setIfInBounds_toArray, List.set_cons_zero, List.set_cons_succ, List.getElem_toArray, List.getElem_cons_zero, List.getElem_cons_succ]
        refine wpAnyH_ready (rs := [3, 5]) (by kernel_rfl) (by simp) (AllReadyH.cons rfl (fun K hK => ?_) (AllReadyH.cons rfl (fun K hK => ?_) AllReadyH.nil))
        · skip
          go_simp
          go_at_call 6
          refine (HEy.out _ (HBW.out _ hHeld)).mono ?_
          rintro e w' ⟨A', c', rfl, hd, hb⟩
          have hst := HKS.out _ _ hHeld hb
          have hd2 := hd.mono (Nat.le_trans (Nat.le_add_right _ 2) (HSz.out _ hHeld))
          have hd1 := hd1.below hb
          have hA := hA.below hb
          clear hb hd
          go_wp2_with fail
          refine hK.out _ _ hst (fun hHeld => ?_)
          clear hK K hst
          try simp only [Act.put, List.setIfInBounds_toArray, List.set_cons_zero, List.set_cons_succ, List.getElem_toArray, List.getElem_cons_zero, List.getElem_cons_succ]
          refine wpAnyH_ready (rs := [5]) (by kernel_rfl) (by simp) (AllReadyH.cons rfl (fun K hK => ?_) AllReadyH.nil)
          go_simp
          try go_wp2_with fail
          have hba := (Below.refl w'.heap.size w').alloc (Nat.le_refl _) (.cells #[.string ⟨#[]⟩, .int .i64 0, .string ⟨#[]⟩, .int .i64 0, .int .i64 0, .int .i64 0, .string ⟨#[]⟩, .string ⟨#[]⟩, .int .i64 0, .int .i64 0, .slice none 0 0] 28)
          refine hK.out _ _ (HKS.out _ _ hHeld hba) (fun hHeld2 => ?_)
          clear hK K
          have hlt := hA.lt
          have hd1 := hd1.below hba
          have hA := hA.below hba
          have hd2 := hd2.below hba
          obtain ⟨gb, hgb⟩ : ∃ gb, gb = w'.heap.size := ⟨_, rfl⟩
          have hB : HasBlk (w'.alloc (.cells #[.string ⟨#[]⟩, .int .i64 0, .string ⟨#[]⟩, .int .i64 0, .int .i64 0, .int .i64 0, .string ⟨#[]⟩, .string ⟨#[]⟩, .int .i64 0, .int .i64 0, .slice none 0 0] 28)) w'.heap.size 28 11 := HasBlk.newE w'
          have gb2 : w.heap.size + 2 ≤ gb := by have := HSz.out _ hHeld; omega
          have hne : ga ≠ gb := by omega
          obtain ⟨V5, hV5⟩ : ∃ V5, V5 = w'.alloc (.cells #[.string ⟨#[]⟩, .int .i64 0, .string ⟨#[]⟩, .int .i64 0, .int .i64 0, .int .i64 0, .string ⟨#[]⟩, .string ⟨#[]⟩, .int .i64 0, .int .i64 0, .slice none 0 0] 28) := ⟨_, rfl⟩
          rw [← hgb] at hB ⊢
          rw [← hV5] at hB hHeld2 hd1 hA hd2 ⊢
          have gb3 := hB.lt
          clear hV5 hgb hHeld hba
          have hHeld := hHeld2
          clear hHeld2
          try simp only [Act.put, List.setIfInBounds_toArray, List.set_cons_zero, List.set_cons_succ, List.getElem_toArray, List.getElem_cons_zero, List.getElem_cons_succ]
          refine wpAnyH_ready (rs := [6]) (by kernel_rfl) (by simp) (AllReadyH.cons rfl (fun K hK => ?_) AllReadyH.nil)
          have n20 := hA.peek_ (i := 0) (by omega); have f20 := hA.frozen 0; have n21 := hA.peek_ (i := 1) (by omega); have f21 := hA.frozen 1; have n22 := hA.peek_ (i := 2) (by omega); have f22 := hA.frozen 2; have n23 := hA.peek_ (i := 3) (by omega); have f23 := hA.frozen 3; have n24 := hA.peek_ (i := 4) (by omega); have f24 := hA.frozen 4; have n25 := hA.peek_ (i := 5) (by omega); have f25 := hA.frozen 5; have n26 := hA.peek_ (i := 6) (by omega); have f26 := hA.frozen 6; have n27 := hA.peek_ (i := 7) (by omega); have f27 := hA.frozen 7; have n28 := hA.peek_ (i := 8) (by omega); have f28 := hA.frozen 8; have n29 := hA.peek_ (i := 9) (by omega); have f29 := hA.frozen 9; have n30 := hA.peek_ (i := 10) (by omega); have f30 := hA.frozen 10
          go_simp
          clear n20 f20 n21 f21 n22 f22 n23 f23 n24 f24 n25 f25 n26 f26 n27 f27 n28 f28 n29 f29 n30 f30
          have hst := HKF.out _ ga [.string (bs xp), .int .i64 xk, .string (bs xt), .int .i64 m1, .int .i64 m2, .int .i64 m3, .string (bs m4), .string (bs m5), .int .i64 m6, .int .i64 m7, .slice A xd.length c] hHeld ga2
          have hk6 := hA.fill [.string (bs xp), .int .i64 xk, .string (bs xt), .int .i64 m1, .int .i64 m2, .int .i64 m3, .string (bs m4), .string (bs m5), .int .i64 m6, .int .i64 m7, .slice A xd.length c] rfl
          have hd1 := hd1.kept (U8Kept.setAll (by decide) [.string (bs xp), .int .i64 xk, .string (bs xt), .int .i64 m1, .int .i64 m2, .int .i64 m3, .string (bs m4), .string (bs m5), .int .i64 m6, .int .i64 m7, .slice A xd.length c] 0 hA)
          have hd2 := hd2.kept (U8Kept.setAll (by decide) [.string (bs xp), .int .i64 xk, .string (bs xt), .int .i64 m1, .int .i64 m2, .int .i64 m3, .string (bs m4), .string (bs m5), .int .i64 m6, .int .i64 m7, .slice A xd.length c] 0 hA)
          obtain ⟨cs, hcs, hBB⟩ := hB
          have hB : HasBlk _ gb 28 11 := ⟨cs, hcs, Blk.far_setAll (fun e => hne e.symm) [.string (bs xp), .int .i64 xk, .string (bs xt), .int .i64 m1, .int .i64 m2, .int .i64 m3, .string (bs m4), .string (bs m5), .int .i64 m6, .int .i64 m7, .slice A xd.length c] 0 hBB⟩
          obtain ⟨V6, hV6⟩ : ∃ V6, V6 = setAll V5 ga 0 [.string (bs xp), .int .i64 xk, .string (bs xt), .int .i64 m1, .int .i64 m2, .int .i64 m3, .string (bs m4), .string (bs m5), .int .i64 m6, .int .i64 m7, .slice A xd.length c] := ⟨_, rfl⟩
          rw [← hV6] at hst hk6 hd1 hd2 hB
          simp only [setAll, Nat.zero_add, Nat.reduceAdd] at hV6
          rw [← hV6]
          clear hV6 hBB hcs
          refine hK.out _ _ hst (fun hHeld => ?_)
          clear hK K hst
          try simp only [Act.put, List.setIfInBounds_toArray, List.set_cons_zero, List.set_cons_succ, List.getElem_toArray, List.getElem_cons_zero, List.getElem_cons_succ]
          refine wpAnyH_ready (rs := [7]) (by kernel_rfl) (by simp) (AllReadyH.cons rfl (fun K hK => ?_) AllReadyH.nil)
          have n20 := hB.peek_ (i := 0) (by omega); have f20 := hB.frozen 0; have n21 := hB.peek_ (i := 1) (by omega); have f21 := hB.frozen 1; have n22 := hB.peek_ (i := 2) (by omega); have f22 := hB.frozen 2; have n23 := hB.peek_ (i := 3) (by omega); have f23 := hB.frozen 3; have n24 := hB.peek_ (i := 4) (by omega); have f24 := hB.frozen 4; have n25 := hB.peek_ (i := 5) (by omega); have f25 := hB.frozen 5; have n26 := hB.peek_ (i := 6) (by omega); have f26 := hB.frozen 6; have n27 := hB.peek_ (i := 7) (by omega); have f27 := hB.frozen 7; have n28 := hB.peek_ (i := 8) (by omega); have f28 := hB.frozen 8; have n29 := hB.peek_ (i := 9) (by omega); have f29 := hB.frozen 9; have n30 := hB.peek_ (i := 10) (by omega); have f30 := hB.frozen 10
          go_simp
          clear n20 f20 n21 f21 n22 f22 n23 f23 n24 f24 n25 f25 n26 f26 n27 f27 n28 f28 n29 f29 n30 f30
          have hst := HKF.out _ gb [.string (bs yp), .int .i64 yk, .string (bs yt), .int .i64 n1, .int .i64 n2, .int .i64 n3, .string (bs n4), .string (bs n5), .int .i64 n6, .int .i64 n7, .slice A' yd.length c'] hHeld gb2
          have hk7 := hB.fill [.string (bs yp), .int .i64 yk, .string (bs yt), .int .i64 n1, .int .i64 n2, .int .i64 n3, .string (bs n4), .string (bs n5), .int .i64 n6, .int .i64 n7, .slice A' yd.length c'] rfl
          have hd1 := hd1.kept (U8Kept.setAll (by decide) [.string (bs yp), .int .i64 yk, .string (bs yt), .int .i64 n1, .int .i64 n2, .int .i64 n3, .string (bs n4), .string (bs n5), .int .i64 n6, .int .i64 n7, .slice A' yd.length c'] 0 hB)
          have hd2 := hd2.kept (U8Kept.setAll (by decide) [.string (bs yp), .int .i64 yk, .string (bs yt), .int .i64 n1, .int .i64 n2, .int .i64 n3, .string (bs n4), .string (bs n5), .int .i64 n6, .int .i64 n7, .slice A' yd.length c'] 0 hB)
          have hk6 := Blk.far_setAll hne [.string (bs yp), .int .i64 yk, .string (bs yt), .int .i64 n1, .int .i64 n2, .int .i64 n3, .string (bs n4), .string (bs n5), .int .i64 n6, .int .i64 n7, .slice A' yd.length c'] 0 hk6
          obtain ⟨V7, hV7⟩ : ∃ V7, V7 = setAll V6 gb 0 [.string (bs yp), .int .i64 yk, .string (bs yt), .int .i64 n1, .int .i64 n2, .int .i64 n3, .string (bs n4), .string (bs n5), .int .i64 n6, .int .i64 n7, .slice A' yd.length c'] := ⟨_, rfl⟩
          rw [← hV7] at hst hk6 hd1 hd2 hk7
          simp only [setAll, Nat.zero_add, Nat.reduceAdd] at hV7
          rw [← hV7]
          clear hV7
          refine hK.out _ _ hst (fun hHeld => ?_)
          clear hK K hst
          try simp only [Act.put, List.setIfInBounds_toArray, List.set_cons_zero, List.set_cons_succ, List.getElem_toArray, List.getElem_cons_zero, List.getElem_cons_succ]
          refine wpAnyH_done (by kernel_rfl) ?_ _
          try go_wp2_with fail
          go_meet
          case rel => exact ⟨ga, gb, A, c, A', c', rfl, rfl, Lib.hid ⟨hk6, hk7, hd1, hd2, HBW.out _ hHeld, by omega, by omega⟩⟩
        · skip
          go_simp
          try go_wp2_with fail
          have hba := (Below.refl V4.heap.size V4).alloc (Nat.le_refl _) (.cells #[.string ⟨#[]⟩, .int .i64 0, .string ⟨#[]⟩, .int .i64 0, .int .i64 0, .int .i64 0, .string ⟨#[]⟩, .string ⟨#[]⟩, .int .i64 0, .int .i64 0, .slice none 0 0] 28)
          refine hK.out _ _ (HKS.out _ _ hHeld hba) (fun hHeld2 => ?_)
          clear hK K
          have hlt := hA.lt
          have hd1 := hd1.below hba
          have hA := hA.below hba
          obtain ⟨gb, hgb⟩ : ∃ gb, gb = V4.heap.size := ⟨_, rfl⟩
          have hB : HasBlk (V4.alloc (.cells #[.string ⟨#[]⟩, .int .i64 0, .string ⟨#[]⟩, .int .i64 0, .int .i64 0, .int .i64 0, .string ⟨#[]⟩, .string ⟨#[]⟩, .int .i64 0, .int .i64 0, .slice none 0 0] 28)) V4.heap.size 28 11 := HasBlk.newE V4
          have gb2 : w.heap.size + 2 ≤ gb := by have := HSz.out _ hHeld; omega
          have hne : ga ≠ gb := by omega
          obtain ⟨V5, hV5⟩ : ∃ V5, V5 = V4.alloc (.cells #[.string ⟨#[]⟩, .int .i64 0, .string ⟨#[]⟩, .int .i64 0, .int .i64 0, .int .i64 0, .string ⟨#[]⟩, .string ⟨#[]⟩, .int .i64 0, .int .i64 0, .slice none 0 0] 28) := ⟨_, rfl⟩
          rw [← hgb] at hB ⊢
          rw [← hV5] at hB hHeld2 hd1 hA ⊢
          have gb3 := hB.lt
          clear hV5 hgb hHeld hba
          have hHeld := hHeld2
          clear hHeld2
          try simp only [Act.put, List.setIfInBounds_toArray, List.set_cons_zero, List.set_cons_succ, List.getElem_toArray, List.getElem_cons_zero, List.getElem_cons_succ]
          refine wpAnyH_ready (rs := [3]) (by kernel_rfl) (by simp) (AllReadyH.cons rfl (fun K hK => ?_) AllReadyH.nil)
          go_simp
          go_at_call 6
          refine (HEy.out _ (HBW.out _ hHeld)).mono ?_
          rintro e w' ⟨A', c', rfl, hd, hb⟩
          have hst := HKS.out _ _ hHeld hb
          have hd2 := hd.mono (Nat.le_trans (Nat.le_add_right _ 2) (HSz.out _ hHeld))
          have hd1 := hd1.below hb
          have hA := hA.below hb
          have hB := hB.below hb
          clear hb hd
          go_wp2_with fail
          refine hK.out _ _ hst (fun hHeld => ?_)
          clear hK K hst
          try simp only [Act.put, List.setIfInBounds_toArray, List.set_cons_zero, List.set_cons_succ, List.getElem_toArray, List.getElem_cons_zero, List.getElem_cons_succ]
          refine wpAnyH_ready (rs := [6]) (by kernel_rfl) (by simp) (AllReadyH.cons rfl (fun K hK => ?_) AllReadyH.nil)
          have n20 := hA.peek_ (i := 0) (by omega); have f20 := hA.frozen 0; have n21 := hA.peek_ (i := 1) (by omega); have f21 := hA.frozen 1; have n22 := hA.peek_ (i := 2) (by omega); have f22 := hA.frozen 2; have n23 := hA.peek_ (i := 3) (by omega); have f23 := hA.frozen 3; have n24 := hA.peek_ (i := 4) (by omega); have f24 := hA.frozen 4; have n25 := hA.peek_ (i := 5) (by omega); have f25 := hA.frozen 5; have n26 := hA.peek_ (i := 6) (by omega); have f26 := hA.frozen 6; have n27 := hA.peek_ (i := 7) (by omega); have f27 := hA.frozen 7; have n28 := hA.peek_ (i := 8) (by omega); have f28 := hA.frozen 8; have n29 := hA.peek_ (i := 9) (by omega); have f29 := hA.frozen 9; have n30 := hA.peek_ (i := 10) (by omega); have f30 := hA.frozen 10
          go_simp
          clear n20 f20 n21 f21 n22 f22 n23 f23 n24 f24 n25 f25 n26 f26 n27 f27 n28 f28 n29 f29 n30 f30
          have hst := HKF.out _ ga [.string (bs xp), .int .i64 xk, .string (bs xt), .int .i64 m1, .int .i64 m2, .int .i64 m3, .string (bs m4), .string (bs m5), .int .i64 m6, .int .i64 m7, .slice A xd.length c] hHeld ga2
          have hk6 := hA.fill [.string (bs xp), .int .i64 xk, .string (bs xt), .int .i64 m1, .int .i64 m2, .int .i64 m3, .string (bs m4), .string (bs m5), .int .i64 m6, .int .i64 m7, .slice A xd.length c] rfl
          have hd1 := hd1.kept (U8Kept.setAll (by decide) [.string (bs xp), .int .i64 xk, .string (bs xt), .int .i64 m1, .int .i64 m2, .int .i64 m3, .string (bs m4), .string (bs m5), .int .i64 m6, .int .i64 m7, .slice A xd.length c] 0 hA)
          have hd2 := hd2.kept (U8Kept.setAll (by decide) [.string (bs xp), .int .i64 xk, .string (bs xt), .int .i64 m1, .int .i64 m2, .int .i64 m3, .string (bs m4), .string (bs m5), .int .i64 m6, .int .i64 m7, .slice A xd.length c] 0 hA)
          obtain ⟨cs, hcs, hBB⟩ := hB
          have hB : HasBlk _ gb 28 11 := ⟨cs, hcs, Blk.far_setAll (fun e => hne e.symm) [.string (bs xp), .int .i64 xk, .string (bs xt), .int .i64 m1, .int .i64 m2, .int .i64 m3, .string (bs m4), .string (bs m5), .int .i64 m6, .int .i64 m7, .slice A xd.length c] 0 hBB⟩
          obtain ⟨V6, hV6⟩ : ∃ V6, V6 = setAll w' ga 0 [.string (bs xp), .int .i64 xk, .string (bs xt), .int .i64 m1, .int .i64 m2, .int .i64 m3, .string (bs m4), .string (bs m5), .int .i64 m6, .int .i64 m7, .slice A xd.length c] := ⟨_, rfl⟩
          rw [← hV6] at hst hk6 hd1 hd2 hB
          simp only [setAll, Nat.zero_add, Nat.reduceAdd] at hV6
          rw [← hV6]
          clear hV6 hBB hcs
          refine hK.out _ _ hst (fun hHeld => ?_)
          clear hK K hst
          try simp only [Act.put, List.setIfInBounds_toArray, List.set_cons_zero, List.set_cons_succ, List.getElem_toArray, List.getElem_cons_zero, List.getElem_cons_succ]
          refine wpAnyH_ready (rs := [7]) (by kernel_rfl) (by simp) (AllReadyH.cons rfl (fun K hK => ?_) AllReadyH.nil)
          have n20 := hB.peek_ (i := 0) (by omega); have f20 := hB.frozen 0; have n21 := hB.peek_ (i := 1) (by omega); have f21 := hB.frozen 1; have n22 := hB.peek_ (i := 2) (by omega); have f22 := hB.frozen 2; have n23 := hB.peek_ (i := 3) (by omega); have f23 := hB.frozen 3; have n24 := hB.peek_ (i := 4) (by omega); have f24 := hB.frozen 4; have n25 := hB.peek_ (i := 5) (by omega); have f25 := hB.frozen 5; have n26 := hB.peek_ (i := 6) (by omega); have f26 := hB.frozen 6; have n27 := hB.peek_ (i := 7) (by omega); have f27 := hB.frozen 7; have n28 := hB.peek_ (i := 8) (by omega); have f28 := hB.frozen 8; have n29 := hB.peek_ (i := 9) (by omega); have f29 := hB.frozen 9; have n30 := hB.peek_ (i := 10) (by omega); have f30 := hB.frozen 10
          go_simp
          clear n20 f20 n21 f21 n22 f22 n23 f23 n24 f24 n25 f25 n26 f26 n27 f27 n28 f28 n29 f29 n30 f30
          have hst := HKF.out _ gb [.string (bs yp), .int .i64 yk, .string (bs yt), .int .i64 n1, .int .i64 n2, .int .i64 n3, .string (bs n4), .string (bs n5), .int .i64 n6, .int .i64 n7, .slice A' yd.length c'] hHeld gb2
          have hk7 := hB.fill [.string (bs yp), .int .i64 yk, .string (bs yt), .int .i64 n1, .int .i64 n2, .int .i64 n3, .string (bs n4), .string (bs n5), .int .i64 n6, .int .i64 n7, .slice A' yd.length c'] rfl
          have hd1 := hd1.kept (U8Kept.setAll (by decide) [.string (bs yp), .int .i64 yk, .string (bs yt), .int .i64 n1, .int .i64 n2, .int .i64 n3, .string (bs n4), .string (bs n5), .int .i64 n6, .int .i64 n7, .slice A' yd.length c'] 0 hB)
          have hd2 := hd2.kept (U8Kept.setAll (by decide) [.string (bs yp), .int .i64 yk, .string (bs yt), .int .i64 n1, .int .i64 n2, .int .i64 n3, .string (bs n4), .string (bs n5), .int .i64 n6, .int .i64 n7, .slice A' yd.length c'] 0 hB)
          have hk6 := Blk.far_setAll hne [.string (bs yp), .int .i64 yk, .string (bs yt), .int .i64 n1, .int .i64 n2, .int .i64 n3, .string (bs n4), .string (bs n5), .int .i64 n6, .int .i64 n7, .slice A' yd.length c'] 0 hk6
          obtain ⟨V7, hV7⟩ : ∃ V7, V7 = setAll V6 gb 0 [.string (bs yp), .int .i64 yk, .string (bs yt), .int .i64 n1, .int .i64 n2, .int .i64 n3, .string (bs n4), .string (bs n5), .int .i64 n6, .int .i64 n7, .slice A' yd.length c'] := ⟨_, rfl⟩
          rw [← hV7] at hst hk6 hd1 hd2 hk7
          simp only [setAll, Nat.zero_add, Nat.reduceAdd] at hV7
          rw [← hV7]
          clear hV7
          refine hK.out _ _ hst (fun hHeld => ?_)
          clear hK K hst
          try simp only [Act.put, List.setIfInBounds_toArray, List.set_cons_zero, List.set_cons_succ, List.getElem_toArray, List.getElem_cons_zero, List.getElem_cons_succ]
          refine wpAnyH_done (by kernel_rfl) ?_ _
          try go_wp2_with fail
          go_meet
          case rel => exact ⟨ga, gb, A, c, A', c', rfl, rfl, Lib.hid ⟨hk6, hk7, hd1, hd2, HBW.out _ hHeld, by omega, by omega⟩⟩
      · skip
        go_simp
        try go_wp2_with fail
        have hba := (Below.refl w'.heap.size w').alloc (Nat.le_refl _) (.cells #[.string ⟨#[]⟩, .int .i64 0, .string ⟨#[]⟩, .int .i64 0, .int .i64 0, .int .i64 0, .string ⟨#[]⟩, .string ⟨#[]⟩, .int .i64 0, .int .i64 0, .slice none 0 0] 28)
        refine hK.out _ _ (HKS.out _ _ hHeld hba) (fun hHeld2 => ?_)
        clear hK K
        have hd1 := hd1.below hba
        obtain ⟨gb, hgb⟩ : ∃ gb, gb = w'.heap.size := ⟨_, rfl⟩
        have hB : HasBlk (w'.alloc (.cells #[.string ⟨#[]⟩, .int .i64 0, .string ⟨#[]⟩, .int .i64 0, .int .i64 0, .int .i64 0, .string ⟨#[]⟩, .string ⟨#[]⟩, .int .i64 0, .int .i64 0, .slice none 0 0] 28)) w'.heap.size 28 11 := HasBlk.newE w'
        have gb2 : w.heap.size + 2 ≤ gb := by have := HSz.out _ hHeld; omega
        obtain ⟨V5, hV5⟩ : ∃ V5, V5 = w'.alloc (.cells #[.string ⟨#[]⟩, .int .i64 0, .string ⟨#[]⟩, .int .i64 0, .int .i64 0, .int .i64 0, .string ⟨#[]⟩, .string ⟨#[]⟩, .int .i64 0, .int .i64 0, .slice none 0 0] 28) := ⟨_, rfl⟩
        rw [← hgb] at hB ⊢
        rw [← hV5] at hB hHeld2 hd1 ⊢
        have gb3 := hB.lt
        clear hV5 hgb hHeld hba
        have hHeld := hHeld2
        clear hHeld2
        try simp only [Act.put, List.setIfInBounds_toArray, List.set_cons_zero, List.set_cons_succ, List.getElem_toArray, List.getElem_cons_zero, List.getElem_cons_succ]
        refine wpAnyH_ready (rs := [3, 4]) (by kernel_rfl) (by simp) (AllReadyH.cons rfl (fun K hK => ?_) (AllReadyH.cons rfl (fun K hK => ?_) AllReadyH.nil))
        · skip
          go_simp
          go_at_call 6
          refine (HEy.out _ (HBW.out _ hHeld)).mono ?_
          rintro e w' ⟨A', c', rfl, hd, hb⟩
          have hst := HKS.out _ _ hHeld hb
          have hd2 := hd.mono (Nat.le_trans (Nat.le_add_right _ 2) (HSz.out _ hHeld))
          have hd1 := hd1.below hb
          have hB := hB.below hb
          clear hb hd
          go_wp2_with fail
          refine hK.out _ _ hst (fun hHeld => ?_)
          clear hK K hst
          try simp only [Act.put, List.setIfInBounds_toArray, List.set_cons_zero, List.set_cons_succ, List.getElem_toArray, List.getElem_cons_zero, List.getElem_cons_succ]
          refine wpAnyH_ready (rs := [4]) (by kernel_rfl) (by simp) (AllReadyH.cons rfl (fun K hK => ?_) AllReadyH.nil)
          go_simp
          try go_wp2_with fail
          have hba := (Below.refl w'.heap.size w').alloc (Nat.le_refl _) (.cells #[.string ⟨#[]⟩, .int .i64 0, .string ⟨#[]⟩, .int .i64 0, .int .i64 0, .int .i64 0, .string ⟨#[]⟩, .string ⟨#[]⟩, .int .i64 0, .int .i64 0, .slice none 0 0] 28)
          refine hK.out _ _ (HKS.out _ _ hHeld hba) (fun hHeld2 => ?_)
          clear hK K
          have hlt := hB.lt
          have hd1 := hd1.below hba
          have hB := hB.below hba
          have hd2 := hd2.below hba
          obtain ⟨ga, hga⟩ : ∃ ga, ga = w'.heap.size := ⟨_, rfl⟩
          have hA : HasBlk (w'.alloc (.cells #[.string ⟨#[]⟩, .int .i64 0, .string ⟨#[]⟩, .int .i64 0, .int .i64 0, .int .i64 0, .string ⟨#[]⟩, .string ⟨#[]⟩, .int .i64 0, .int .i64 0, .slice none 0 0] 28)) w'.heap.size 28 11 := HasBlk.newE w'
          have ga2 : w.heap.size + 2 ≤ ga := by have := HSz.out _ hHeld; omega
          have hne : ga ≠ gb := by omega
          obtain ⟨V4, hV4⟩ : ∃ V4, V4 = w'.alloc (.cells #[.string ⟨#[]⟩, .int .i64 0, .string ⟨#[]⟩, .int .i64 0, .int .i64 0, .int .i64 0, .string ⟨#[]⟩, .string ⟨#[]⟩, .int .i64 0, .int .i64 0, .slice none 0 0] 28) := ⟨_, rfl⟩
          rw [← hga] at hA ⊢
          rw [← hV4] at hA hHeld2 hd1 hB hd2 ⊢
          have ga3 := hA.lt
          clear hV4 hga hHeld hba
          have hHeld := hHeld2
          clear hHeld2
          try simp only [Act.put, List.setIfInBounds_toArray, List.set_cons_zero, List.set_cons_succ, List.getElem_toArray, List.getElem_cons_zero, List.getElem_cons_succ]
          refine wpAnyH_ready (rs := [6]) (by kernel_rfl) (by simp) (AllReadyH.cons rfl (fun K hK => ?_) AllReadyH.nil)
          have n20 := hA.peek_ (i := 0) (by omega); have f20 := hA.frozen 0; have n21 := hA.peek_ (i := 1) (by omega); have f21 := hA.frozen 1; have n22 := hA.peek_ (i := 2) (by omega); have f22 := hA.frozen 2; have n23 := hA.peek_ (i := 3) (by omega); have f23 := hA.frozen 3; have n24 := hA.peek_ (i := 4) (by omega); have f24 := hA.frozen 4; have n25 := hA.peek_ (i := 5) (by omega); have f25 := hA.frozen 5; have n26 := hA.peek_ (i := 6) (by omega); have f26 := hA.frozen 6; have n27 := hA.peek_ (i := 7) (by omega); have f27 := hA.frozen 7; have n28 := hA.peek_ (i := 8) (by omega); have f28 := hA.frozen 8; have n29 := hA.peek_ (i := 9) (by omega); have f29 := hA.frozen 9; have n30 := hA.peek_ (i := 10) (by omega); have f30 := hA.frozen 10
          go_simp
          clear n20 f20 n21 f21 n22 f22 n23 f23 n24 f24 n25 f25 n26 f26 n27 f27 n28 f28 n29 f29 n30 f30
          have hst := HKF.out _ ga [.string (bs xp), .int .i64 xk, .string (bs xt), .int .i64 m1, .int .i64 m2, .int .i64 m3, .string (bs m4), .string (bs m5), .int .i64 m6, .int .i64 m7, .slice A xd.length c] hHeld ga2
          have hk6 := hA.fill [.string (bs xp), .int .i64 xk, .string (bs xt), .int .i64 m1, .int .i64 m2, .int .i64 m3, .string (bs m4), .string (bs m5), .int .i64 m6, .int .i64 m7, .slice A xd.length c] rfl
          have hd1 := hd1.kept (U8Kept.setAll (by decide) [.string (bs xp), .int .i64 xk, .string (bs xt), .int .i64 m1, .int .i64 m2, .int .i64 m3, .string (bs m4), .string (bs m5), .int .i64 m6, .int .i64 m7, .slice A xd.length c] 0 hA)
          have hd2 := hd2.kept (U8Kept.setAll (by decide) [.string (bs xp), .int .i64 xk, .string (bs xt), .int .i64 m1, .int .i64 m2, .int .i64 m3, .string (bs m4), .string (bs m5), .int .i64 m6, .int .i64 m7, .slice A xd.length c] 0 hA)
          obtain ⟨cs, hcs, hBB⟩ := hB
          have hB : HasBlk _ gb 28 11 := ⟨cs, hcs, Blk.far_setAll (fun e => hne e.symm) [.string (bs xp), .int .i64 xk, .string (bs xt), .int .i64 m1, .int .i64 m2, .int .i64 m3, .string (bs m4), .string (bs m5), .int .i64 m6, .int .i64 m7, .slice A xd.length c] 0 hBB⟩
          obtain ⟨V6, hV6⟩ : ∃ V6, V6 = setAll V4 ga 0 [.string (bs xp), .int .i64 xk, .string (bs xt), .int .i64 m1, .int .i64 m2, .int .i64 m3, .string (bs m4), .string (bs m5), .int .i64 m6, .int .i64 m7, .slice A xd.length c] := ⟨_, rfl⟩
          rw [← hV6] at hst hk6 hd1 hd2 hB
          simp only [setAll, Nat.zero_add, Nat.reduceAdd] at hV6
          rw [← hV6]
          clear hV6 hBB hcs
          refine hK.out _ _ hst (fun hHeld => ?_)
          clear hK K hst
          try simp only [Act.put, List.setIfInBounds_toArray, List.set_cons_zero, List.set_cons_succ, List.getElem_toArray, List.getElem_cons_zero, List.getElem_cons_succ]
          refine wpAnyH_ready (rs := [7]) (by kernel_rfl) (by simp) (AllReadyH.cons rfl (fun K hK => ?_) AllReadyH.nil)
          have n20 := hB.peek_ (i := 0) (by omega); have f20 := hB.frozen 0; have n21 := hB.peek_ (i := 1) (by omega); have f21 := hB.frozen 1; have n22 := hB.peek_ (i := 2) (by omega); have f22 := hB.frozen 2; have n23 := hB.peek_ (i := 3) (by omega); have f23 := hB.frozen 3; have n24 := hB.peek_ (i := 4) (by omega); have f24 := hB.frozen 4; have n25 := hB.peek_ (i := 5) (by omega); have f25 := hB.frozen 5; have n26 := hB.peek_ (i := 6) (by omega); have f26 := hB.frozen 6; have n27 := hB.peek_ (i := 7) (by omega); have f27 := hB.frozen 7; have n28 := hB.peek_ (i := 8) (by omega); have f28 := hB.frozen 8; have n29 := hB.peek_ (i := 9) (by omega); have f29 := hB.frozen 9; have n30 := hB.peek_ (i := 10) (by omega); have f30 := hB.frozen 10
          go_simp
          clear n20 f20 n21 f21 n22 f22 n23 f23 n24 f24 n25 f25 n26 f26 n27 f27 n28 f28 n29 f29 n30 f30
          have hst := HKF.out _ gb [.string (bs yp), .int .i64 yk, .string (bs yt), .int .i64 n1, .int .i64 n2, .int .i64 n3, .string (bs n4), .string (bs n5), .int .i64 n6, .int .i64 n7, .slice A' yd.length c'] hHeld gb2
          have hk7 := hB.fill [.string (bs yp), .int .i64 yk, .string (bs yt), .int .i64 n1, .int .i64 n2, .int .i64 n3, .string (bs n4), .string (bs n5), .int .i64 n6, .int .i64 n7, .slice A' yd.length c'] rfl
          have hd1 := hd1.kept (U8Kept.setAll (by decide) [.string (bs yp), .int .i64 yk, .string (bs yt), .int .i64 n1, .int .i64 n2, .int .i64 n3, .string (bs n4), .string (bs n5), .int .i64 n6, .int .i64 n7, .slice A' yd.length c'] 0 hB)
          have hd2 := hd2.kept (U8Kept.setAll (by decide) [.string (bs yp), .int .i64 yk, .string (bs yt), .int .i64 n1, .int .i64 n2, .int .i64 n3, .string (bs n4), .string (bs n5), .int .i64 n6, .int .i64 n7, .slice A' yd.length c'] 0 hB)
          have hk6 := Blk.far_setAll hne [.string (bs yp), .int .i64 yk, .string (bs yt), .int .i64 n1, .int .i64 n2, .int .i64 n3, .string (bs n4), .string (bs n5), .int .i64 n6, .int .i64 n7, .slice A' yd.length c'] 0 hk6
          obtain ⟨V7, hV7⟩ : ∃ V7, V7 = setAll V6 gb 0 [.string (bs yp), .int .i64 yk, .string (bs yt), .int .i64 n1, .int .i64 n2, .int .i64 n3, .string (bs n4), .string (bs n5), .int .i64 n6, .int .i64 n7, .slice A' yd.length c'] := ⟨_, rfl⟩
          rw [← hV7] at hst hk6 hd1 hd2 hk7
          simp only [setAll, Nat.zero_add, Nat.reduceAdd] at hV7
          rw [← hV7]
          clear hV7
          refine hK.out _ _ hst (fun hHeld => ?_)
          clear hK K hst
          try simp only [Act.put, List.setIfInBounds_toArray, List.set_cons_zero, List.set_cons_succ, List.getElem_toArray, List.getElem_cons_zero, List.getElem_cons_succ]
          refine wpAnyH_done (by kernel_rfl) ?_ _
          try go_wp2_with fail
          go_meet
          case rel => exact ⟨ga, gb, A, c, A', c', rfl, rfl, Lib.hid ⟨hk6, hk7, hd1, hd2, HBW.out _ hHeld, by omega, by omega⟩⟩
        · skip
          go_simp
          try go_wp2_with fail
          have hba := (Below.refl V5.heap.size V5).alloc (Nat.le_refl _) (.cells #[.string ⟨#[]⟩, .int .i64 0, .string ⟨#[]⟩, .int .i64 0, .int .i64 0, .int .i64 0, .string ⟨#[]⟩, .string ⟨#[]⟩, .int .i64 0, .int .i64 0, .slice none 0 0] 28)
          refine hK.out _ _ (HKS.out _ _ hHeld hba) (fun hHeld2 => ?_)
          clear hK K
          have hlt := hB.lt
          have hd1 := hd1.below hba
          have hB := hB.below hba
          obtain ⟨ga, hga⟩ : ∃ ga, ga = V5.heap.size := ⟨_, rfl⟩
          have hA : HasBlk (V5.alloc (.cells #[.string ⟨#[]⟩, .int .i64 0, .string ⟨#[]⟩, .int .i64 0, .int .i64 0, .int .i64 0, .string ⟨#[]⟩, .string ⟨#[]⟩, .int .i64 0, .int .i64 0, .slice none 0 0] 28)) V5.heap.size 28 11 := HasBlk.newE V5
          have ga2 : w.heap.size + 2 ≤ ga := by have := HSz.out _ hHeld; omega
          have hne : ga ≠ gb := by omega
          obtain ⟨V4, hV4⟩ : ∃ V4, V4 = V5.alloc (.cells #[.string ⟨#[]⟩, .int .i64 0, .string ⟨#[]⟩, .int .i64 0, .int .i64 0, .int .i64 0, .string ⟨#[]⟩, .string ⟨#[]⟩, .int .i64 0, .int .i64 0, .slice none 0 0] 28) := ⟨_, rfl⟩
          rw [← hga] at hA ⊢
          rw [← hV4] at hA hHeld2 hd1 hB ⊢
          have ga3 := hA.lt
          clear hV4 hga hHeld hba
          have hHeld := hHeld2
          clear hHeld2
          try simp only [Act.put, List.setIfInBounds_toArray, List.set_cons_zero, List.set_cons_succ, List.getElem_toArray, List.getElem_cons_zero, List.getElem_cons_succ]
          refine wpAnyH_ready (rs := [3]) (by kernel_rfl) (by simp) (AllReadyH.cons rfl (fun K hK => ?_) AllReadyH.nil)
          go_simp
          go_at_call 6
          refine (HEy.out _ (HBW.out _ hHeld)).mono ?_
          rintro e w' ⟨A', c', rfl, hd, hb⟩
          have hst := HKS.out _ _ hHeld hb
          have hd2 := hd.mono (Nat.le_trans (Nat.le_add_right _ 2) (HSz.out _ hHeld))
          have hd1 := hd1.below hb
          have hB := hB.below hb
          have hA := hA.below hb
          clear hb hd
          go_wp2_with fail
          refine hK.out _ _ hst (fun hHeld => ?_)
          clear hK K hst
          try simp only [Act.put, List.setIfInBounds_toArray, List.set_cons_zero, List.set_cons_succ, List.getElem_toArray, List.getElem_cons_zero, List.getElem_cons_succ]
          refine wpAnyH_ready (rs := [6]) (by kernel_rfl) (by simp) (AllReadyH.cons rfl (fun K hK => ?_) AllReadyH.nil)
          have n20 := hA.peek_ (i := 0) (by omega); have f20 := hA.frozen 0; have n21 := hA.peek_ (i := 1) (by omega); have f21 := hA.frozen 1; have n22 := hA.peek_ (i := 2) (by omega); have f22 := hA.frozen 2; have n23 := hA.peek_ (i := 3) (by omega); have f23 := hA.frozen 3; have n24 := hA.peek_ (i := 4) (by omega); have f24 := hA.frozen 4; have n25 := hA.peek_ (i := 5) (by omega); have f25 := hA.frozen 5; have n26 := hA.peek_ (i := 6) (by omega); have f26 := hA.frozen 6; have n27 := hA.peek_ (i := 7) (by omega); have f27 := hA.frozen 7; have n28 := hA.peek_ (i := 8) (by omega); have f28 := hA.frozen 8; have n29 := hA.peek_ (i := 9) (by omega); have f29 := hA.frozen 9; have n30 := hA.peek_ (i := 10) (by omega); have f30 := hA.frozen 10
          go_simp
          clear n20 f20 n21 f21 n22 f22 n23 f23 n24 f24 n25 f25 n26 f26 n27 f27 n28 f28 n29 f29 n30 f30
          have hst := HKF.out _ ga [.string (bs xp), .int .i64 xk, .string (bs xt), .int .i64 m1, .int .i64 m2, .int .i64 m3, .string (bs m4), .string (bs m5), .int .i64 m6, .int .i64 m7, .slice A xd.length c] hHeld ga2
          have hk6 := hA.fill [.string (bs xp), .int .i64 xk, .string (bs xt), .int .i64 m1, .int .i64 m2, .int .i64 m3, .string (bs m4), .string (bs m5), .int .i64 m6, .int .i64 m7, .slice A xd.length c] rfl
          have hd1 := hd1.kept (U8Kept.setAll (by decide) [.string (bs xp), .int .i64 xk, .string (bs xt), .int .i64 m1, .int .i64 m2, .int .i64 m3, .string (bs m4), .string (bs m5), .int .i64 m6, .int .i64 m7, .slice A xd.length c] 0 hA)
          have hd2 := hd2.kept (U8Kept.setAll (by decide) [.string (bs xp), .int .i64 xk, .string (bs xt), .int .i64 m1, .int .i64 m2, .int .i64 m3, .string (bs m4), .string (bs m5), .int .i64 m6, .int .i64 m7, .slice A xd.length c] 0 hA)
          obtain ⟨cs, hcs, hBB⟩ := hB
          have hB : HasBlk _ gb 28 11 := ⟨cs, hcs, Blk.far_setAll (fun e => hne e.symm) [.string (bs xp), .int .i64 xk, .string (bs xt), .int .i64 m1, .int .i64 m2, .int .i64 m3, .string (bs m4), .string (bs m5), .int .i64 m6, .int .i64 m7, .slice A xd.length c] 0 hBB⟩
          obtain ⟨V6, hV6⟩ : ∃ V6, V6 = setAll w' ga 0 [.string (bs xp), .int .i64 xk, .string (bs xt), .int .i64 m1, .int .i64 m2, .int .i64 m3, .string (bs m4), .string (bs m5), .int .i64 m6, .int .i64 m7, .slice A xd.length c] := ⟨_, rfl⟩
          rw [← hV6] at hst hk6 hd1 hd2 hB
          simp only [setAll, Nat.zero_add, Nat.reduceAdd] at hV6
          rw [← hV6]
          clear hV6 hBB hcs
          refine hK.out _ _ hst (fun hHeld => ?_)
          clear hK K hst
          try simp only [Act.put, List.setIfInBounds_toArray, List.set_cons_zero, List.set_cons_succ, List.getElem_toArray, List.getElem_cons_zero, List.getElem_cons_succ]
          refine wpAnyH_ready (rs := [7]) (by kernel_rfl) (by simp) (AllReadyH.cons rfl (fun K hK => ?_) AllReadyH.nil)
          have n20 := hB.peek_ (i := 0) (by omega); have f20 := hB.frozen 0; have n21 := hB.peek_ (i := 1) (by omega); have f21 := hB.frozen 1; have n22 := hB.peek_ (i := 2) (by omega); have f22 := hB.frozen 2; have n23 := hB.peek_ (i := 3) (by omega); have f23 := hB.frozen 3; have n24 := hB.peek_ (i := 4) (by omega); have f24 := hB.frozen 4; have n25 := hB.peek_ (i := 5) (by omega); have f25 := hB.frozen 5; have n26 := hB.peek_ (i := 6) (by omega); have f26 := hB.frozen 6; have n27 := hB.peek_ (i := 7) (by omega); have f27 := hB.frozen 7; have n28 := hB.peek_ (i := 8) (by omega); have f28 := hB.frozen 8; have n29 := hB.peek_ (i := 9) (by omega); have f29 := hB.frozen 9; have n30 := hB.peek_ (i := 10) (by omega); have f30 := hB.frozen 10
          go_simp
          clear n20 f20 n21 f21 n22 f22 n23 f23 n24 f24 n25 f25 n26 f26 n27 f27 n28 f28 n29 f29 n30 f30
          have hst := HKF.out _ gb [.string (bs yp), .int .i64 yk, .string (bs yt), .int .i64 n1, .int .i64 n2, .int .i64 n3, .string (bs n4), .string (bs n5), .int .i64 n6, .int .i64 n7, .slice A' yd.length c'] hHeld gb2
          have hk7 := hB.fill [.string (bs yp), .int .i64 yk, .string (bs yt), .int .i64 n1, .int .i64 n2, .int .i64 n3, .string (bs n4), .string (bs n5), .int .i64 n6, .int .i64 n7, .slice A' yd.length c'] rfl
          have hd1 := hd1.kept (U8Kept.setAll (by decide) [.string (bs yp), .int .i64 yk, .string (bs yt), .int .i64 n1, .int .i64 n2, .int .i64 n3, .string (bs n4), .string (bs n5), .int .i64 n6, .int .i64 n7, .slice A' yd.length c'] 0 hB)
          have hd2 := hd2.kept (U8Kept.setAll (by decide) [.string (bs yp), .int .i64 yk, .string (bs yt), .int .i64 n1, .int .i64 n2, .int .i64 n3, .string (bs n4), .string (bs n5), .int .i64 n6, .int .i64 n7, .slice A' yd.length c'] 0 hB)
          have hk6 := Blk.far_setAll hne [.string (bs yp), .int .i64 yk, .string (bs yt), .int .i64 n1, .int .i64 n2, .int .i64 n3, .string (bs n4), .string (bs n5), .int .i64 n6, .int .i64 n7, .slice A' yd.length c'] 0 hk6
          obtain ⟨V7, hV7⟩ : ∃ V7, V7 = setAll V6 gb 0 [.string (bs yp), .int .i64 yk, .string (bs yt), .int .i64 n1, .int .i64 n2, .int .i64 n3, .string (bs n4), .string (bs n5), .int .i64 n6, .int .i64 n7, .slice A' yd.length c'] := ⟨_, rfl⟩
          rw [← hV7] at hst hk6 hd1 hd2 hk7
          simp only [setAll, Nat.zero_add, Nat.reduceAdd] at hV7
          rw [← hV7]
          clear hV7
          refine hK.out _ _ hst (fun hHeld => ?_)
          clear hK K hst
          try simp only [Act.put, List.setIfInBounds_toArray, List.set_cons_zero, List.set_cons_succ, List.getElem_toArray, List.getElem_cons_zero, List.getElem_cons_succ]
          refine wpAnyH_done (by kernel_rfl) ?_ _
          try go_wp2_with fail
          go_meet
          case rel => exact ⟨ga, gb, A, c, A', c', rfl, rfl, Lib.hid ⟨hk6, hk7, hd1, hd2, HBW.out _ hHeld, by omega, by omega⟩⟩
    · skip
      go_simp
      try go_wp2_with fail
      have hba := (Below.refl Wd.heap.size Wd).alloc (Nat.le_refl _) (.cells #[.string ⟨#[]⟩, .int .i64 0, .string ⟨#[]⟩, .int .i64 0, .int .i64 0, .int .i64 0, .string ⟨#[]⟩, .string ⟨#[]⟩, .int .i64 0, .int .i64 0, .slice none 0 0] 28)
      refine hK.out _ _ (HKS.out _ _ hHeld hba) (fun hHeld2 => ?_)
      clear hK K
      obtain ⟨ga, hga⟩ : ∃ ga, ga = Wd.heap.size := ⟨_, rfl⟩
      have hA : HasBlk (Wd.alloc (.cells #[.string ⟨#[]⟩, .int .i64 0, .string ⟨#[]⟩, .int .i64 0, .int .i64 0, .int .i64 0, .string ⟨#[]⟩, .string ⟨#[]⟩, .int .i64 0, .int .i64 0, .slice none 0 0] 28)) Wd.heap.size 28 11 := HasBlk.newE Wd
      have ga2 : w.heap.size + 2 ≤ ga := by have := HSz.out _ hHeld; omega
      obtain ⟨V4, hV4⟩ : ∃ V4, V4 = Wd.alloc (.cells #[.string ⟨#[]⟩, .int .i64 0, .string ⟨#[]⟩, .int .i64 0, .int .i64 0, .int .i64 0, .string ⟨#[]⟩, .string ⟨#[]⟩, .int .i64 0, .int .i64 0, .slice none 0 0] 28) := ⟨_, rfl⟩
      rw [← hga] at hA ⊢
      rw [← hV4] at hA hHeld2  ⊢
      have ga3 := hA.lt
      clear hV4 hga hHeld hba
      have hHeld := hHeld2
      clear hHeld2
      try simp only [Act.put, List.setIfInBounds_toArray, List.set_cons_zero, List.set_cons_succ, List.getElem_toArray, List.getElem_cons_zero, List.getElem_cons_succ]
      refine wpAnyH_ready (rs := [1, 5]) (by kernel_rfl) (by simp) (AllReadyH.cons rfl (fun K hK => ?_) (AllReadyH.cons rfl (fun K hK => ?_) AllReadyH.nil))
      · skip
        go_simp
        go_at_call 6
        refine (HEx.out _ (HBW.out _ hHeld)).mono ?_
        rintro e w' ⟨A, c, rfl, hd, hb⟩
        have hst := HKS.out _ _ hHeld hb
        have hd1 := hd.mono (Nat.le_trans (Nat.le_add_right _ 2) (HSz.out _ hHeld))
        have hA := hA.below hb
        clear hb hd
        go_wp2_with fail
        refine hK.out _ _ hst (fun hHeld => ?_)
        clear hK K hst
        try simp only [Act.put, List.setIfInBounds_toArray, List.set_cons_zero, List.set_cons_succ, List.getElem_toArray, List.getElem_cons_zero, List.getElem_cons_succ]
        refine wpAnyH_ready (rs := [3, 5]) (by kernel_rfl) (by simp) (AllReadyH.cons rfl (fun K hK => ?_) (AllReadyH.cons rfl (fun K hK => ?_) AllReadyH.nil))
        · skip
          go_simp
          go_at_call 6
          refine (HEy.out _ (HBW.out _ hHeld)).mono ?_
          rintro e w' ⟨A', c', rfl, hd, hb⟩
          have hst := HKS.out _ _ hHeld hb
          have hd2 := hd.mono (Nat.le_trans (Nat.le_add_right _ 2) (HSz.out _ hHeld))
          have hA := hA.below hb
          have hd1 := hd1.below hb
          clear hb hd
          go_wp2_with fail
          refine hK.out _ _ hst (fun hHeld => ?_)
          clear hK K hst
          try simp only [Act.put, List.setIfInBounds_toArray, List.set_cons_zero, List.set_cons_succ, List.getElem_toArray, List.getElem_cons_zero, List.getElem_cons_succ]
          refine wpAnyH_ready (rs := [5]) (by kernel_rfl) (by simp) (AllReadyH.cons rfl (fun K hK => ?_) AllReadyH.nil)
          go_simp
          try go_wp2_with fail
          have hba := (Below.refl w'.heap.size w').alloc (Nat.le_refl _) (.cells #[.string ⟨#[]⟩, .int .i64 0, .string ⟨#[]⟩, .int .i64 0, .int .i64 0, .int .i64 0, .string ⟨#[]⟩, .string ⟨#[]⟩, .int .i64 0, .int .i64 0, .slice none 0 0] 28)
          refine hK.out _ _ (HKS.out _ _ hHeld hba) (fun hHeld2 => ?_)
          clear hK K
          have hlt := hA.lt
          have hA := hA.below hba
          have hd1 := hd1.below hba
          have hd2 := hd2.below hba
          obtain ⟨gb, hgb⟩ : ∃ gb, gb = w'.heap.size := ⟨_, rfl⟩
          have hB : HasBlk (w'.alloc (.cells #[.string ⟨#[]⟩, .int .i64 0, .string ⟨#[]⟩, .int .i64 0, .int .i64 0, .int .i64 0, .string ⟨#[]⟩, .string ⟨#[]⟩, .int .i64 0, .int .i64 0, .slice none 0 0] 28)) w'.heap.size 28 11 := HasBlk.newE w'
          have gb2 : w.heap.size + 2 ≤ gb := by have := HSz.out _ hHeld; omega
          have hne : ga ≠ gb := by omega
          obtain ⟨V5, hV5⟩ : ∃ V5, V5 = w'.alloc (.cells #[.string ⟨#[]⟩, .int .i64 0, .string ⟨#[]⟩, .int .i64 0, .int .i64 0, .int .i64 0, .string ⟨#[]⟩, .string ⟨#[]⟩, .int .i64 0, .int .i64 0, .slice none 0 0] 28) := ⟨_, rfl⟩
          rw [← hgb] at hB ⊢
          rw [← hV5] at hB hHeld2 hA hd1 hd2 ⊢
          have gb3 := hB.lt
          clear hV5 hgb hHeld hba
          have hHeld := hHeld2
          clear hHeld2
          try simp only [Act.put, List.setIfInBounds_toArray, List.set_cons_zero, List.set_cons_succ, List.getElem_toArray, List.getElem_cons_zero, List.getElem_cons_succ]
          refine wpAnyH_ready (rs := [6]) (by kernel_rfl) (by simp) (AllReadyH.cons rfl (fun K hK => ?_) AllReadyH.nil)
          have n20 := hA.peek_ (i := 0) (by omega); have f20 := hA.frozen 0; have n21 := hA.peek_ (i := 1) (by omega); have f21 := hA.frozen 1; have n22 := hA.peek_ (i := 2) (by omega); have f22 := hA.frozen 2; have n23 := hA.peek_ (i := 3) (by omega); have f23 := hA.frozen 3; have n24 := hA.peek_ (i := 4) (by omega); have f24 := hA.frozen 4; have n25 := hA.peek_ (i := 5) (by omega); have f25 := hA.frozen 5; have n26 := hA.peek_ (i := 6) (by omega); have f26 := hA.frozen 6; have n27 := hA.peek_ (i := 7) (by omega); have f27 := hA.frozen 7; have n28 := hA.peek_ (i := 8) (by omega); have f28 := hA.frozen 8; have n29 := hA.peek_ (i := 9) (by omega); have f29 := hA.frozen 9; have n30 := hA.peek_ (i := 10) (by omega); have f30 := hA.frozen 10
          go_simp
          clear n20 f20 n21 f21 n22 f22 n23 f23 n24 f24 n25 f25 n26 f26 n27 f27 n28 f28 n29 f29 n30 f30
          have hst := HKF.out _ ga [.string (bs xp), .int .i64 xk, .string (bs xt), .int .i64 m1, .int .i64 m2, .int .i64 m3, .string (bs m4), .string (bs m5), .int .i64 m6, .int .i64 m7, .slice A xd.length c] hHeld ga2
          have hk6 := hA.fill [.string (bs xp), .int .i64 xk, .string (bs xt), .int .i64 m1, .int .i64 m2, .int .i64 m3, .string (bs m4), .string (bs m5), .int .i64 m6, .int .i64 m7, .slice A xd.length c] rfl
          have hd1 := hd1.kept (U8Kept.setAll (by decide) [.string (bs xp), .int .i64 xk, .string (bs xt), .int .i64 m1, .int .i64 m2, .int .i64 m3, .string (bs m4), .string (bs m5), .int .i64 m6, .int .i64 m7, .slice A xd.length c] 0 hA)
          have hd2 := hd2.kept (U8Kept.setAll (by decide) [.string (bs xp), .int .i64 xk, .string (bs xt), .int .i64 m1, .int .i64 m2, .int .i64 m3, .string (bs m4), .string (bs m5), .int .i64 m6, .int .i64 m7, .slice A xd.length c] 0 hA)
          obtain ⟨cs, hcs, hBB⟩ := hB
          have hB : HasBlk _ gb 28 11 := ⟨cs, hcs, Blk.far_setAll (fun e => hne e.symm) [.string (bs xp), .int .i64 xk, .string (bs xt), .int .i64 m1, .int .i64 m2, .int .i64 m3, .string (bs m4), .string (bs m5), .int .i64 m6, .int .i64 m7, .slice A xd.length c] 0 hBB⟩
          obtain ⟨V6, hV6⟩ : ∃ V6, V6 = setAll V5 ga 0 [.string (bs xp), .int .i64 xk, .string (bs xt), .int .i64 m1, .int .i64 m2, .int .i64 m3, .string (bs m4), .string (bs m5), .int .i64 m6, .int .i64 m7, .slice A xd.length c] := ⟨_, rfl⟩
          rw [← hV6] at hst hk6 hd1 hd2 hB
          simp only [setAll, Nat.zero_add, Nat.reduceAdd] at hV6
          rw [← hV6]
          clear hV6 hBB hcs
          refine hK.out _ _ hst (fun hHeld => ?_)
          clear hK K hst
          try simp only [Act.put, List.setIfInBounds_toArray, List.set_cons_zero, List.set_cons_succ, List.getElem_toArray, List.getElem_cons_zero, List.getElem_cons_succ]
          refine wpAnyH_ready (rs := [7]) (by kernel_rfl) (by simp) (AllReadyH.cons rfl (fun K hK => ?_) AllReadyH.nil)
          have n20 := hB.peek_ (i := 0) (by omega); have f20 := hB.frozen 0; have n21 := hB.peek_ (i := 1) (by omega); have f21 := hB.frozen 1; have n22 := hB.peek_ (i := 2) (by omega); have f22 := hB.frozen 2; have n23 := hB.peek_ (i := 3) (by omega); have f23 := hB.frozen 3; have n24 := hB.peek_ (i := 4) (by omega); have f24 := hB.frozen 4; have n25 := hB.peek_ (i := 5) (by omega); have f25 := hB.frozen 5; have n26 := hB.peek_ (i := 6) (by omega); have f26 := hB.frozen 6; have n27 := hB.peek_ (i := 7) (by omega); have f27 := hB.frozen 7; have n28 := hB.peek_ (i := 8) (by omega); have f28 := hB.frozen 8; have n29 := hB.peek_ (i := 9) (by omega); have f29 := hB.frozen 9; have n30 := hB.peek_ (i := 10) (by omega); have f30 := hB.frozen 10
          go_simp
          clear n20 f20 n21 f21 n22 f22 n23 f23 n24 f24 n25 f25 n26 f26 n27 f27 n28 f28 n29 f29 n30 f30
          have hst := HKF.out _ gb [.string (bs yp), .int .i64 yk, .string (bs yt), .int .i64 n1, .int .i64 n2, .int .i64 n3, .string (bs n4), .string (bs n5), .int .i64 n6, .int .i64 n7, .slice A' yd.length c'] hHeld gb2
          have hk7 := hB.fill [.string (bs yp), .int .i64 yk, .string (bs yt), .int .i64 n1, .int .i64 n2, .int .i64 n3, .string (bs n4), .string (bs n5), .int .i64 n6, .int .i64 n7, .slice A' yd.length c'] rfl
          have hd1 := hd1.kept (U8Kept.setAll (by decide) [.string (bs yp), .int .i64 yk, .string (bs yt), .int .i64 n1, .int .i64 n2, .int .i64 n3, .string (bs n4), .string (bs n5), .int .i64 n6, .int .i64 n7, .slice A' yd.length c'] 0 hB)
          have hd2 := hd2.kept (U8Kept.setAll (by decide) [.string (bs yp), .int .i64 yk, .string (bs yt), .int .i64 n1, .int .i64 n2, .int .i64 n3, .string (bs n4), .string (bs n5), .int .i64 n6, .int .i64 n7, .slice A' yd.length c'] 0 hB)
          have hk6 := Blk.far_setAll hne [.string (bs yp), .int .i64 yk, .string (bs yt), .int .i64 n1, .int .i64 n2, .int .i64 n3, .string (bs n4), .string (bs n5), .int .i64 n6, .int .i64 n7, .slice A' yd.length c'] 0 hk6
          obtain ⟨V7, hV7⟩ : ∃ V7, V7 = setAll V6 gb 0 [.string (bs yp), .int .i64 yk, .string (bs yt), .int .i64 n1, .int .i64 n2, .int .i64 n3, .string (bs n4), .string (bs n5), .int .i64 n6, .int .i64 n7, .slice A' yd.length c'] := ⟨_, rfl⟩
          rw [← hV7] at hst hk6 hd1 hd2 hk7
          simp only [setAll, Nat.zero_add, Nat.reduceAdd] at hV7
          rw [← hV7]
          clear hV7
          refine hK.out _ _ hst (fun hHeld => ?_)
          clear hK K hst
          try simp only [Act.put, List.setIfInBounds_toArray, List.set_cons_zero, List.set_cons_succ, List.getElem_toArray, List.getElem_cons_zero, List.getElem_cons_succ]
          refine wpAnyH_done (by kernel_rfl) ?_ _
          try go_wp2_with fail
          go_meet
          case rel => exact ⟨ga, gb, A, c, A', c', rfl, rfl, Lib.hid ⟨hk6, hk7, hd1, hd2, HBW.out _ hHeld, by omega, by omega⟩⟩
        · skip
          go_simp
          try go_wp2_with fail
          have hba := (Below.refl w'.heap.size w').alloc (Nat.le_refl _) (.cells #[.string ⟨#[]⟩, .int .i64 0, .string ⟨#[]⟩, .int .i64 0, .int .i64 0, .int .i64 0, .string ⟨#[]⟩, .string ⟨#[]⟩, .int .i64 0, .int .i64 0, .slice none 0 0] 28)
          refine hK.out _ _ (HKS.out _ _ hHeld hba) (fun hHeld2 => ?_)
          clear hK K
          have hlt := hA.lt
          have hA := hA.below hba
          have hd1 := hd1.below hba
          obtain ⟨gb, hgb⟩ : ∃ gb, gb = w'.heap.size := ⟨_, rfl⟩
          have hB : HasBlk (w'.alloc (.cells #[.string ⟨#[]⟩, .int .i64 0, .string ⟨#[]⟩, .int .i64 0, .int .i64 0, .int .i64 0, .string ⟨#[]⟩, .string ⟨#[]⟩, .int .i64 0, .int .i64 0, .slice none 0 0] 28)) w'.heap.size 28 11 := HasBlk.newE w'
          have gb2 : w.heap.size + 2 ≤ gb := by have := HSz.out _ hHeld; omega
          have hne : ga ≠ gb := by omega
          obtain ⟨V5, hV5⟩ : ∃ V5, V5 = w'.alloc (.cells #[.string ⟨#[]⟩, .int .i64 0, .string ⟨#[]⟩, .int .i64 0, .int .i64 0, .int .i64 0, .string ⟨#[]⟩, .string ⟨#[]⟩, .int .i64 0, .int .i64 0, .slice none 0 0] 28) := ⟨_, rfl⟩
          rw [← hgb] at hB ⊢
          rw [← hV5] at hB hHeld2 hA hd1 ⊢
          have gb3 := hB.lt
          clear hV5 hgb hHeld hba
          have hHeld := hHeld2
          clear hHeld2
          try simp only [Act.put, List.setIfInBounds_toArray, List.set_cons_zero, List.set_cons_succ, List.getElem_toArray, List.getElem_cons_zero, List.getElem_cons_succ]
          refine wpAnyH_ready (rs := [3]) (by kernel_rfl) (by simp) (AllReadyH.cons rfl (fun K hK => ?_) AllReadyH.nil)
          go_simp
          go_at_call 6
          refine (HEy.out _ (HBW.out _ hHeld)).mono ?_
          rintro e w' ⟨A', c', rfl, hd, hb⟩
          have hst := HKS.out _ _ hHeld hb
          have hd2 := hd.mono (Nat.le_trans (Nat.le_add_right _ 2) (HSz.out _ hHeld))
          have hA := hA.below hb
          have hd1 := hd1.below hb
          have hB := hB.below hb
          clear hb hd
          go_wp2_with fail
          refine hK.out _ _ hst (fun hHeld => ?_)
          clear hK K hst
          try simp only [Act.put, List.setIfInBounds_toArray, List.set_cons_zero, List.set_cons_succ, List.getElem_toArray, List.getElem_cons_zero, List.getElem_cons_succ]
          refine wpAnyH_ready (rs := [6]) (by kernel_rfl) (by simp) (AllReadyH.cons rfl (fun K hK => ?_) AllReadyH.nil)
          have n20 := hA.peek_ (i := 0) (by omega); have f20 := hA.frozen 0; have n21 := hA.peek_ (i := 1) (by omega); have f21 := hA.frozen 1; have n22 := hA.peek_ (i := 2) (by omega); have f22 := hA.frozen 2; have n23 := hA.peek_ (i := 3) (by omega); have f23 := hA.frozen 3; have n24 := hA.peek_ (i := 4) (by omega); have f24 := hA.frozen 4; have n25 := hA.peek_ (i := 5) (by omega); have f25 := hA.frozen 5; have n26 := hA.peek_ (i := 6) (by omega); have f26 := hA.frozen 6; have n27 := hA.peek_ (i := 7) (by omega); have f27 := hA.frozen 7; have n28 := hA.peek_ (i := 8) (by omega); have f28 := hA.frozen 8; have n29 := hA.peek_ (i := 9) (by omega); have f29 := hA.frozen 9; have n30 := hA.peek_ (i := 10) (by omega); have f30 := hA.frozen 10
          go_simp
          clear n20 f20 n21 f21 n22 f22 n23 f23 n24 f24 n25 f25 n26 f26 n27 f27 n28 f28 n29 f29 n30 f30
          have hst := HKF.out _ ga [.string (bs xp), .int .i64 xk, .string (bs xt), .int .i64 m1, .int .i64 m2, .int .i64 m3, .string (bs m4), .string (bs m5), .int .i64 m6, .int .i64 m7, .slice A xd.length c] hHeld ga2
          have hk6 := hA.fill [.string (bs xp), .int .i64 xk, .string (bs xt), .int .i64 m1, .int .i64 m2, .int .i64 m3, .string (bs m4), .string (bs m5), .int .i64 m6, .int .i64 m7, .slice A xd.length c] rfl
          have hd1 := hd1.kept (U8Kept.setAll (by decide) [.string (bs xp), .int .i64 xk, .string (bs xt), .int .i64 m1, .int .i64 m2, .int .i64 m3, .string (bs m4), .string (bs m5), .int .i64 m6, .int .i64 m7, .slice A xd.length c] 0 hA)
          have hd2 := hd2.kept (U8Kept.setAll (by decide) [.string (bs xp), .int .i64 xk, .string (bs xt), .int .i64 m1, .int .i64 m2, .int .i64 m3, .string (bs m4), .string (bs m5), .int .i64 m6, .int .i64 m7, .slice A xd.length c] 0 hA)
          obtain ⟨cs, hcs, hBB⟩ := hB
          have hB : HasBlk _ gb 28 11 := ⟨cs, hcs, Blk.far_setAll (fun e => hne e.symm) [.string (bs xp), .int .i64 xk, .string (bs xt), .int .i64 m1, .int .i64 m2, .int .i64 m3, .string (bs m4), .string (bs m5), .int .i64 m6, .int .i64 m7, .slice A xd.length c] 0 hBB⟩
          obtain ⟨V6, hV6⟩ : ∃ V6, V6 = setAll w' ga 0 [.string (bs xp), .int .i64 xk, .string (bs xt), .int .i64 m1, .int .i64 m2, .int .i64 m3, .string (bs m4), .string (bs m5), .int .i64 m6, .int .i64 m7, .slice A xd.length c] := ⟨_, rfl⟩
          rw [← hV6] at hst hk6 hd1 hd2 hB
          simp only [setAll, Nat.zero_add, Nat.reduceAdd] at hV6
          rw [← hV6]
          clear hV6 hBB hcs
          refine hK.out _ _ hst (fun hHeld => ?_)
          clear hK K hst
          try simp only [Act.put, List.setIfInBounds_toArray, List.set_cons_zero, List.set_cons_succ, List.getElem_toArray, List.getElem_cons_zero, List.getElem_cons_succ]
          refine wpAnyH_ready (rs := [7]) (by kernel_rfl) (by simp) (AllReadyH.cons rfl (fun K hK => ?_) AllReadyH.nil)
          have n20 := hB.peek_ (i := 0) (by omega); have f20 := hB.frozen 0; have n21 := hB.peek_ (i := 1) (by omega); have f21 := hB.frozen 1; have n22 := hB.peek_ (i := 2) (by omega); have f22 := hB.frozen 2; have n23 := hB.peek_ (i := 3) (by omega); have f23 := hB.frozen 3; have n24 := hB.peek_ (i := 4) (by omega); have f24 := hB.frozen 4; have n25 := hB.peek_ (i := 5) (by omega); have f25 := hB.frozen 5; have n26 := hB.peek_ (i := 6) (by omega); have f26 := hB.frozen 6; have n27 := hB.peek_ (i := 7) (by omega); have f27 := hB.frozen 7; have n28 := hB.peek_ (i := 8) (by omega); have f28 := hB.frozen 8; have n29 := hB.peek_ (i := 9) (by omega); have f29 := hB.frozen 9; have n30 := hB.peek_ (i := 10) (by omega); have f30 := hB.frozen 10
          go_simp
          clear n20 f20 n21 f21 n22 f22 n23 f23 n24 f24 n25 f25 n26 f26 n27 f27 n28 f28 n29 f29 n30 f30
          have hst := HKF.out _ gb [.string (bs yp), .int .i64 yk, .string (bs yt), .int .i64 n1, .int .i64 n2, .int .i64 n3, .string (bs n4), .string (bs n5), .int .i64 n6, .int .i64 n7, .slice A' yd.length c'] hHeld gb2
          have hk7 := hB.fill [.string (bs yp), .int .i64 yk, .string (bs yt), .int .i64 n1, .int .i64 n2, .int .i64 n3, .string (bs n4), .string (bs n5), .int .i64 n6, .int .i64 n7, .slice A' yd.length c'] rfl
          have hd1 := hd1.kept (U8Kept.setAll (by decide) [.string (bs yp), .int .i64 yk, .string (bs yt), .int .i64 n1, .int .i64 n2, .int .i64 n3, .string (bs n4), .string (bs n5), .int .i64 n6, .int .i64 n7, .slice A' yd.length c'] 0 hB)
          have hd2 := hd2.kept (U8Kept.setAll (by decide) [.string (bs yp), .int .i64 yk, .string (bs yt), .int .i64 n1, .int .i64 n2, .int .i64 n3, .string (bs n4), .string (bs n5), .int .i64 n6, .int .i64 n7, .slice A' yd.length c'] 0 hB)
          have hk6 := Blk.far_setAll hne [.string (bs yp), .int .i64 yk, .string (bs yt), .int .i64 n1, .int .i64 n2, .int .i64 n3, .string (bs n4), .string (bs n5), .int .i64 n6, .int .i64 n7, .slice A' yd.length c'] 0 hk6
          obtain ⟨V7, hV7⟩ : ∃ V7, V7 = setAll V6 gb 0 [.string (bs yp), .int .i64 yk, .string (bs yt), .int .i64 n1, .int .i64 n2, .int .i64 n3, .string (bs n4), .string (bs n5), .int .i64 n6, .int .i64 n7, .slice A' yd.length c'] := ⟨_, rfl⟩
          rw [← hV7] at hst hk6 hd1 hd2 hk7
          simp only [setAll, Nat.zero_add, Nat.reduceAdd] at hV7
          rw [← hV7]
          clear hV7
          refine hK.out _ _ hst (fun hHeld => ?_)
          clear hK K hst
          try simp only [Act.put, List.setIfInBounds_toArray, List.set_cons_zero, List.set_cons_succ, List.getElem_toArray, List.getElem_cons_zero, List.getElem_cons_succ]
          refine wpAnyH_done (by kernel_rfl) ?_ _
          try go_wp2_with fail
          go_meet
          case rel => exact ⟨ga, gb, A, c, A', c', rfl, rfl, Lib.hid ⟨hk6, hk7, hd1, hd2, HBW.out _ hHeld, by omega, by omega⟩⟩
      · skip
        go_simp
        try go_wp2_with fail
        have hba := (Below.refl V4.heap.size V4).alloc (Nat.le_refl _) (.cells #[.string ⟨#[]⟩, .int .i64 0, .string ⟨#[]⟩, .int .i64 0, .int .i64 0, .int .i64 0, .string ⟨#[]⟩, .string ⟨#[]⟩, .int .i64 0, .int .i64 0, .slice none 0 0] 28)
        refine hK.out _ _ (HKS.out _ _ hHeld hba) (fun hHeld2 => ?_)
        clear hK K
        have hlt := hA.lt
        have hA := hA.below hba
        obtain ⟨gb, hgb⟩ : ∃ gb, gb = V4.heap.size := ⟨_, rfl⟩
        have hB : HasBlk (V4.alloc (.cells #[.string ⟨#[]⟩, .int .i64 0, .string ⟨#[]⟩, .int .i64 0, .int .i64 0, .int .i64 0, .string ⟨#[]⟩, .string ⟨#[]⟩, .int .i64 0, .int .i64 0, .slice none 0 0] 28)) V4.heap.size 28 11 := HasBlk.newE V4
        have gb2 : w.heap.size + 2 ≤ gb := by have := HSz.out _ hHeld; omega
        have hne : ga ≠ gb := by omega
        obtain ⟨V5, hV5⟩ : ∃ V5, V5 = V4.alloc (.cells #[.string ⟨#[]⟩, .int .i64 0, .string ⟨#[]⟩, .int .i64 0, .int .i64 0, .int .i64 0, .string ⟨#[]⟩, .string ⟨#[]⟩, .int .i64 0, .int .i64 0, .slice none 0 0] 28) := ⟨_, rfl⟩
        rw [← hgb] at hB ⊢
        rw [← hV5] at hB hHeld2 hA ⊢
        have gb3 := hB.lt
        clear hV5 hgb hHeld hba
        have hHeld := hHeld2
        clear hHeld2
        try simp only [Act.put, List.setIfInBounds_toArray, List.set_cons_zero, List.set_cons_succ, List.getElem_toArray, List.getElem_cons_zero, List.getElem_cons_succ]
        refine wpAnyH_ready (rs := [1]) (by kernel_rfl) (by simp) (AllReadyH.cons rfl (fun K hK => ?_) AllReadyH.nil)
        go_simp
        go_at_call 6
        refine (HEx.out _ (HBW.out _ hHeld)).mono ?_
        rintro e w' ⟨A, c, rfl, hd, hb⟩
        have hst := HKS.out _ _ hHeld hb
        have hd1 := hd.mono (Nat.le_trans (Nat.le_add_right _ 2) (HSz.out _ hHeld))
        have hA := hA.below hb
        have hB := hB.below hb
        clear hb hd
        go_wp2_with fail
        refine hK.out _ _ hst (fun hHeld => ?_)
        clear hK K hst
        try simp only [Act.put, List.setIfInBounds_toArray, List.set_cons_zero, List.set_cons_succ, List.getElem_toArray, List.getElem_cons_zero, List.getElem_cons_succ]
        refine wpAnyH_ready (rs := [3]) (by kernel_rfl) (by simp) (AllReadyH.cons rfl (fun K hK => ?_) AllReadyH.nil)
        go_simp
        go_at_call 6
        refine (HEy.out _ (HBW.out _ hHeld)).mono ?_
        rintro e w' ⟨A', c', rfl, hd, hb⟩
        have hst := HKS.out _ _ hHeld hb
        have hd2 := hd.mono (Nat.le_trans (Nat.le_add_right _ 2) (HSz.out _ hHeld))
        have hA := hA.below hb
        have hB := hB.below hb
        have hd1 := hd1.below hb
        clear hb hd
        go_wp2_with fail
        refine hK.out _ _ hst (fun hHeld => ?_)
        clear hK K hst
        try simp only [Act.put, List.setIfInBounds_toArray, List.set_cons_zero, List.set_cons_succ, List.getElem_toArray, List.getElem_cons_zero, List.getElem_cons_succ]
        refine wpAnyH_ready (rs := [6]) (by kernel_rfl) (by simp) (AllReadyH.cons rfl (fun K hK => ?_) AllReadyH.nil)
        have n20 := hA.peek_ (i := 0) (by omega); have f20 := hA.frozen 0; have n21 := hA.peek_ (i := 1) (by omega); have f21 := hA.frozen 1; have n22 := hA.peek_ (i := 2) (by omega); have f22 := hA.frozen 2; have n23 := hA.peek_ (i := 3) (by omega); have f23 := hA.frozen 3; have n24 := hA.peek_ (i := 4) (by omega); have f24 := hA.frozen 4; have n25 := hA.peek_ (i := 5) (by omega); have f25 := hA.frozen 5; have n26 := hA.peek_ (i := 6) (by omega); have f26 := hA.frozen 6; have n27 := hA.peek_ (i := 7) (by omega); have f27 := hA.frozen 7; have n28 := hA.peek_ (i := 8) (by omega); have f28 := hA.frozen 8; have n29 := hA.peek_ (i := 9) (by omega); have f29 := hA.frozen 9; have n30 := hA.peek_ (i := 10) (by omega); have f30 := hA.frozen 10
        go_simp
        clear n20 f20 n21 f21 n22 f22 n23 f23 n24 f24 n25 f25 n26 f26 n27 f27 n28 f28 n29 f29 n30 f30
        have hst := HKF.out _ ga [.string (bs xp), .int .i64 xk, .string (bs xt), .int .i64 m1, .int .i64 m2, .int .i64 m3, .string (bs m4), .string (bs m5), .int .i64 m6, .int .i64 m7, .slice A xd.length c] hHeld ga2
        have hk6 := hA.fill [.string (bs xp), .int .i64 xk, .string (bs xt), .int .i64 m1, .int .i64 m2, .int .i64 m3, .string (bs m4), .string (bs m5), .int .i64 m6, .int .i64 m7, .slice A xd.length c] rfl
        have hd1 := hd1.kept (U8Kept.setAll (by decide) [.string (bs xp), .int .i64 xk, .string (bs xt), .int .i64 m1, .int .i64 m2, .int .i64 m3, .string (bs m4), .string (bs m5), .int .i64 m6, .int .i64 m7, .slice A xd.length c] 0 hA)
        have hd2 := hd2.kept (U8Kept.setAll (by decide) [.string (bs xp), .int .i64 xk, .string (bs xt), .int .i64 m1, .int .i64 m2, .int .i64 m3, .string (bs m4), .string (bs m5), .int .i64 m6, .int .i64 m7, .slice A xd.length c] 0 hA)
        obtain ⟨cs, hcs, hBB⟩ := hB
        have hB : HasBlk _ gb 28 11 := ⟨cs, hcs, Blk.far_setAll (fun e => hne e.symm) [.string (bs xp), .int .i64 xk, .string (bs xt), .int .i64 m1, .int .i64 m2, .int .i64 m3, .string (bs m4), .string (bs m5), .int .i64 m6, .int .i64 m7, .slice A xd.length c] 0 hBB⟩
        obtain ⟨V6, hV6⟩ : ∃ V6, V6 = setAll w' ga 0 [.string (bs xp), .int .i64 xk, .string (bs xt), .int .i64 m1, .int .i64 m2, .int .i64 m3, .string (bs m4), .string (bs m5), .int .i64 m6, .int .i64 m7, .slice A xd.length c] := ⟨_, rfl⟩
        rw [← hV6] at hst hk6 hd1 hd2 hB
        simp only [setAll, Nat.zero_add, Nat.reduceAdd] at hV6
        rw [← hV6]
        clear hV6 hBB hcs
        refine hK.out _ _ hst (fun hHeld => ?_)
        clear hK K hst
        try simp only [Act.put, List.setIfInBounds_toArray, List.set_cons_zero, List.set_cons_succ, List.getElem_toArray, List.getElem_cons_zero, List.getElem_cons_succ]
        refine wpAnyH_ready (rs := [7]) (by kernel_rfl) (by simp) (AllReadyH.cons rfl (fun K hK => ?_) AllReadyH.nil)
        have n20 := hB.peek_ (i := 0) (by omega); have f20 := hB.frozen 0; have n21 := hB.peek_ (i := 1) (by omega); have f21 := hB.frozen 1; have n22 := hB.peek_ (i := 2) (by omega); have f22 := hB.frozen 2; have n23 := hB.peek_ (i := 3) (by omega); have f23 := hB.frozen 3; have n24 := hB.peek_ (i := 4) (by omega); have f24 := hB.frozen 4; have n25 := hB.peek_ (i := 5) (by omega); have f25 := hB.frozen 5; have n26 := hB.peek_ (i := 6) (by omega); have f26 := hB.frozen 6; have n27 := hB.peek_ (i := 7) (by omega); have f27 := hB.frozen 7; have n28 := hB.peek_ (i := 8) (by omega); have f28 := hB.frozen 8; have n29 := hB.peek_ (i := 9) (by omega); have f29 := hB.frozen 9; have n30 := hB.peek_ (i := 10) (by omega); have f30 := hB.frozen 10
        go_simp
        clear n20 f20 n21 f21 n22 f22 n23 f23 n24 f24 n25 f25 n26 f26 n27 f27 n28 f28 n29 f29 n30 f30
        have hst := HKF.out _ gb [.string (bs yp), .int .i64 yk, .string (bs yt), .int .i64 n1, .int .i64 n2, .int .i64 n3, .string (bs n4), .string (bs n5), .int .i64 n6, .int .i64 n7, .slice A' yd.length c'] hHeld gb2
        have hk7 := hB.fill [.string (bs yp), .int .i64 yk, .string (bs yt), .int .i64 n1, .int .i64 n2, .int .i64 n3, .string (bs n4), .string (bs n5), .int .i64 n6, .int .i64 n7, .slice A' yd.length c'] rfl
        have hd1 := hd1.kept (U8Kept.setAll (by decide) [.string (bs yp), .int .i64 yk, .string (bs yt), .int .i64 n1, .int .i64 n2, .int .i64 n3, .string (bs n4), .string (bs n5), .int .i64 n6, .int .i64 n7, .slice A' yd.length c'] 0 hB)
        have hd2 := hd2.kept (U8Kept.setAll (by decide) [.string (bs yp), .int .i64 yk, .string (bs yt), .int .i64 n1, .int .i64 n2, .int .i64 n3, .string (bs n4), .string (bs n5), .int .i64 n6, .int .i64 n7, .slice A' yd.length c'] 0 hB)
        have hk6 := Blk.far_setAll hne [.string (bs yp), .int .i64 yk, .string (bs yt), .int .i64 n1, .int .i64 n2, .int .i64 n3, .string (bs n4), .string (bs n5), .int .i64 n6, .int .i64 n7, .slice A' yd.length c'] 0 hk6
        obtain ⟨V7, hV7⟩ : ∃ V7, V7 = setAll V6 gb 0 [.string (bs yp), .int .i64 yk, .string (bs yt), .int .i64 n1, .int .i64 n2, .int .i64 n3, .string (bs n4), .string (bs n5), .int .i64 n6, .int .i64 n7, .slice A' yd.length c'] := ⟨_, rfl⟩
        rw [← hV7] at hst hk6 hd1 hd2 hk7
        simp only [setAll, Nat.zero_add, Nat.reduceAdd] at hV7
        rw [← hV7]
        clear hV7
        refine hK.out _ _ hst (fun hHeld => ?_)
        clear hK K hst
        try simp only [Act.put, List.setIfInBounds_toArray, List.set_cons_zero, List.set_cons_succ, List.getElem_toArray, List.getElem_cons_zero, List.getElem_cons_succ]
        refine wpAnyH_done (by kernel_rfl) ?_ _
        try go_wp2_with fail
        go_meet
        case rel => exact ⟨ga, gb, A, c, A', c', rfl, rfl, Lib.hid ⟨hk6, hk7, hd1, hd2, HBW.out _ hHeld, by omega, by omega⟩⟩
    · skip
      go_simp
      try go_wp2_with fail
      have hba := (Below.refl Wd.heap.size Wd).alloc (Nat.le_refl _) (.cells #[.string ⟨#[]⟩, .int .i64 0, .string ⟨#[]⟩, .int .i64 0, .int .i64 0, .int .i64 0, .string ⟨#[]⟩, .string ⟨#[]⟩, .int .i64 0, .int .i64 0, .slice none 0 0] 28)
      refine hK.out _ _ (HKS.out _ _ hHeld hba) (fun hHeld2 => ?_)
      clear hK K
      obtain ⟨gb, hgb⟩ : ∃ gb, gb = Wd.heap.size := ⟨_, rfl⟩
      have hB : HasBlk (Wd.alloc (.cells #[.string ⟨#[]⟩, .int .i64 0, .string ⟨#[]⟩, .int .i64 0, .int .i64 0, .int .i64 0, .string ⟨#[]⟩, .string ⟨#[]⟩, .int .i64 0, .int .i64 0, .slice none 0 0] 28)) Wd.heap.size 28 11 := HasBlk.newE Wd
      have gb2 : w.heap.size + 2 ≤ gb := by have := HSz.out _ hHeld; omega
      obtain ⟨V5, hV5⟩ : ∃ V5, V5 = Wd.alloc (.cells #[.string ⟨#[]⟩, .int .i64 0, .string ⟨#[]⟩, .int .i64 0, .int .i64 0, .int .i64 0, .string ⟨#[]⟩, .string ⟨#[]⟩, .int .i64 0, .int .i64 0, .slice none 0 0] 28) := ⟨_, rfl⟩
      rw [← hgb] at hB ⊢
      rw [← hV5] at hB hHeld2  ⊢
      have gb3 := hB.lt
      clear hV5 hgb hHeld hba
      have hHeld := hHeld2
      clear hHeld2
      try simp only [Act.put, List.setIfInBounds_toArray, List.set_cons_zero, List.set_cons_succ, List.getElem_toArray, List.getElem_cons_zero, List.getElem_cons_succ]
      refine wpAnyH_ready (rs := [1, 4]) (by kernel_rfl) (by simp) (AllReadyH.cons rfl (fun K hK => ?_) (AllReadyH.cons rfl (fun K hK => ?_) AllReadyH.nil))
      · skip
        go_simp
        go_at_call 6
        refine (HEx.out _ (HBW.out _ hHeld)).mono ?_
        rintro e w' ⟨A, c, rfl, hd, hb⟩
        have hst := HKS.out _ _ hHeld hb
        have hd1 := hd.mono (Nat.le_trans (Nat.le_add_right _ 2) (HSz.out _ hHeld))
        have hB := hB.below hb
        clear hb hd
        go_wp2_with fail
        refine hK.out _ _ hst (fun hHeld => ?_)
        clear hK K hst
        try simp only [Act.put, List.setIfInBounds_toArray, List.set_cons_zero, List.set_cons_succ, List.getElem_toArray, List.getElem_cons_zero, List.getElem_cons_succ]
        refine wpAnyH_ready (rs := [3, 4]) (by kernel_rfl) (by simp) (AllReadyH.cons rfl (fun K hK => ?_) (AllReadyH.cons rfl (fun K hK => ?_) AllReadyH.nil))
        · skip
          go_simp
          go_at_call 6
          refine (HEy.out _ (HBW.out _ hHeld)).mono ?_
          rintro e w' ⟨A', c', rfl, hd, hb⟩
          have hst := HKS.out _ _ hHeld hb
          have hd2 := hd.mono (Nat.le_trans (Nat.le_add_right _ 2) (HSz.out _ hHeld))
          have hB := hB.below hb
          have hd1 := hd1.below hb
          clear hb hd
          go_wp2_with fail
          refine hK.out _ _ hst (fun hHeld => ?_)
          clear hK K hst
          try simp only [Act.put, List.setIfInBounds_toArray, List.set_cons_zero, List.set_cons_succ, List.getElem_toArray, List.getElem_cons_zero, List.getElem_cons_succ]
          refine wpAnyH_ready (rs := [4]) (by kernel_rfl) (by simp) (AllReadyH.cons rfl (fun K hK => ?_) AllReadyH.nil)
          go_simp
          try go_wp2_with fail
          have hba := (Below.refl w'.heap.size w').alloc (Nat.le_refl _) (.cells #[.string ⟨#[]⟩, .int .i64 0, .string ⟨#[]⟩, .int .i64 0, .int .i64 0, .int .i64 0, .string ⟨#[]⟩, .string ⟨#[]⟩, .int .i64 0, .int .i64 0, .slice none 0 0] 28)
          refine hK.out _ _ (HKS.out _ _ hHeld hba) (fun hHeld2 => ?_)
          clear hK K
          have hlt := hB.lt
          have hB := hB.below hba
          have hd1 := hd1.below hba
          have hd2 := hd2.below hba
          obtain ⟨ga, hga⟩ : ∃ ga, ga = w'.heap.size := ⟨_, rfl⟩
          have hA : HasBlk (w'.alloc (.cells #[.string ⟨#[]⟩, .int .i64 0, .string ⟨#[]⟩, .int .i64 0, .int .i64 0, .int .i64 0, .string ⟨#[]⟩, .string ⟨#[]⟩, .int .i64 0, .int .i64 0, .slice none 0 0] 28)) w'.heap.size 28 11 := HasBlk.newE w'
          have ga2 : w.heap.size + 2 ≤ ga := by have := HSz.out _ hHeld; omega
          have hne : ga ≠ gb := by omega
          obtain ⟨V4, hV4⟩ : ∃ V4, V4 = w'.alloc (.cells #[.string ⟨#[]⟩, .int .i64 0, .string ⟨#[]⟩, .int .i64 0, .int .i64 0, .int .i64 0, .string ⟨#[]⟩, .string ⟨#[]⟩, .int .i64 0, .int .i64 0, .slice none 0 0] 28) := ⟨_, rfl⟩
          rw [← hga] at hA ⊢
          rw [← hV4] at hA hHeld2 hB hd1 hd2 ⊢
          have ga3 := hA.lt
          clear hV4 hga hHeld hba
          have hHeld := hHeld2
          clear hHeld2
          try simp only [Act.put, List.setIfInBounds_toArray, List.set_cons_zero, List.set_cons_succ, List.getElem_toArray, List.getElem_cons_zero, List.getElem_cons_succ]
          refine wpAnyH_ready (rs := [6]) (by kernel_rfl) (by simp) (AllReadyH.cons rfl (fun K hK => ?_) AllReadyH.nil)
          have n20 := hA.peek_ (i := 0) (by omega); have f20 := hA.frozen 0; have n21 := hA.peek_ (i := 1) (by omega); have f21 := hA.frozen 1; have n22 := hA.peek_ (i := 2) (by omega); have f22 := hA.frozen 2; have n23 := hA.peek_ (i := 3) (by omega); have f23 := hA.frozen 3; have n24 := hA.peek_ (i := 4) (by omega); have f24 := hA.frozen 4; have n25 := hA.peek_ (i := 5) (by omega); have f25 := hA.frozen 5; have n26 := hA.peek_ (i := 6) (by omega); have f26 := hA.frozen 6; have n27 := hA.peek_ (i := 7) (by omega); have f27 := hA.frozen 7; have n28 := hA.peek_ (i := 8) (by omega); have f28 := hA.frozen 8; have n29 := hA.peek_ (i := 9) (by omega); have f29 := hA.frozen 9; have n30 := hA.peek_ (i := 10) (by omega); have f30 := hA.frozen 10
          go_simp
          clear n20 f20 n21 f21 n22 f22 n23 f23 n24 f24 n25 f25 n26 f26 n27 f27 n28 f28 n29 f29 n30 f30
          have hst := HKF.out _ ga [.string (bs xp), .int .i64 xk, .string (bs xt), .int .i64 m1, .int .i64 m2, .int .i64 m3, .string (bs m4), .string (bs m5), .int .i64 m6, .int .i64 m7, .slice A xd.length c] hHeld ga2
          have hk6 := hA.fill [.string (bs xp), .int .i64 xk, .string (bs xt), .int .i64 m1, .int .i64 m2, .int .i64 m3, .string (bs m4), .string (bs m5), .int .i64 m6, .int .i64 m7, .slice A xd.length c] rfl
          have hd1 := hd1.kept (U8Kept.setAll (by decide) [.string (bs xp), .int .i64 xk, .string (bs xt), .int .i64 m1, .int .i64 m2, .int .i64 m3, .string (bs m4), .string (bs m5), .int .i64 m6, .int .i64 m7, .slice A xd.length c] 0 hA)
          have hd2 := hd2.kept (U8Kept.setAll (by decide) [.string (bs xp), .int .i64 xk, .string (bs xt), .int .i64 m1, .int .i64 m2, .int .i64 m3, .string (bs m4), .string (bs m5), .int .i64 m6, .int .i64 m7, .slice A xd.length c] 0 hA)
          obtain ⟨cs, hcs, hBB⟩ := hB
          have hB : HasBlk _ gb 28 11 := ⟨cs, hcs, Blk.far_setAll (fun e => hne e.symm) [.string (bs xp), .int .i64 xk, .string (bs xt), .int .i64 m1, .int .i64 m2, .int .i64 m3, .string (bs m4), .string (bs m5), .int .i64 m6, .int .i64 m7, .slice A xd.length c] 0 hBB⟩
          obtain ⟨V6, hV6⟩ : ∃ V6, V6 = setAll V4 ga 0 [.string (bs xp), .int .i64 xk, .string (bs xt), .int .i64 m1, .int .i64 m2, .int .i64 m3, .string (bs m4), .string (bs m5), .int .i64 m6, .int .i64 m7, .slice A xd.length c] := ⟨_, rfl⟩
          rw [← hV6] at hst hk6 hd1 hd2 hB
          simp only [setAll, Nat.zero_add, Nat.reduceAdd] at hV6
          rw [← hV6]
          clear hV6 hBB hcs
          refine hK.out _ _ hst (fun hHeld => ?_)
          clear hK K hst
          try simp only [Act.put, List.setIfInBounds_toArray, List.set_cons_zero, List.set_cons_succ, List.getElem_toArray, List.getElem_cons_zero, List.getElem_cons_succ]
          refine wpAnyH_ready (rs := [7]) (by kernel_rfl) (by simp) (AllReadyH.cons rfl (fun K hK => ?_) AllReadyH.nil)
          have n20 := hB.peek_ (i := 0) (by omega); have f20 := hB.frozen 0; have n21 := hB.peek_ (i := 1) (by omega); have f21 := hB.frozen 1; have n22 := hB.peek_ (i := 2) (by omega); have f22 := hB.frozen 2; have n23 := hB.peek_ (i := 3) (by omega); have f23 := hB.frozen 3; have n24 := hB.peek_ (i := 4) (by omega); have f24 := hB.frozen 4; have n25 := hB.peek_ (i := 5) (by omega); have f25 := hB.frozen 5; have n26 := hB.peek_ (i := 6) (by omega); have f26 := hB.frozen 6; have n27 := hB.peek_ (i := 7) (by omega); have f27 := hB.frozen 7; have n28 := hB.peek_ (i := 8) (by omega); have f28 := hB.frozen 8; have n29 := hB.peek_ (i := 9) (by omega); have f29 := hB.frozen 9; have n30 := hB.peek_ (i := 10) (by omega); have f30 := hB.frozen 10
          go_simp
          clear n20 f20 n21 f21 n22 f22 n23 f23 n24 f24 n25 f25 n26 f26 n27 f27 n28 f28 n29 f29 n30 f30
          have hst := HKF.out _ gb [.string (bs yp), .int .i64 yk, .string (bs yt), .int .i64 n1, .int .i64 n2, .int .i64 n3, .string (bs n4), .string (bs n5), .int .i64 n6, .int .i64 n7, .slice A' yd.length c'] hHeld gb2
          have hk7 := hB.fill [.string (bs yp), .int .i64 yk, .string (bs yt), .int .i64 n1, .int .i64 n2, .int .i64 n3, .string (bs n4), .string (bs n5), .int .i64 n6, .int .i64 n7, .slice A' yd.length c'] rfl
          have hd1 := hd1.kept (U8Kept.setAll (by decide) [.string (bs yp), .int .i64 yk, .string (bs yt), .int .i64 n1, .int .i64 n2, .int .i64 n3, .string (bs n4), .string (bs n5), .int .i64 n6, .int .i64 n7, .slice A' yd.length c'] 0 hB)
          have hd2 := hd2.kept (U8Kept.setAll (by decide) [.string (bs yp), .int .i64 yk, .string (bs yt), .int .i64 n1, .int .i64 n2, .int .i64 n3, .string (bs n4), .string (bs n5), .int .i64 n6, .int .i64 n7, .slice A' yd.length c'] 0 hB)
          have hk6 := Blk.far_setAll hne [.string (bs yp), .int .i64 yk, .string (bs yt), .int .i64 n1, .int .i64 n2, .int .i64 n3, .string (bs n4), .string (bs n5), .int .i64 n6, .int .i64 n7, .slice A' yd.length c'] 0 hk6
          obtain ⟨V7, hV7⟩ : ∃ V7, V7 = setAll V6 gb 0 [.string (bs yp), .int .i64 yk, .string (bs yt), .int .i64 n1, .int .i64 n2, .int .i64 n3, .string (bs n4), .string (bs n5), .int .i64 n6, .int .i64 n7, .slice A' yd.length c'] := ⟨_, rfl⟩
          rw [← hV7] at hst hk6 hd1 hd2 hk7
          simp only [setAll, Nat.zero_add, Nat.reduceAdd] at hV7
          rw [← hV7]
          clear hV7
          refine hK.out _ _ hst (fun hHeld => ?_)
          clear hK K hst
          try simp only [Act.put, List.setIfInBounds_toArray, List.set_cons_zero, List.set_cons_succ, List.getElem_toArray, List.getElem_cons_zero, List.getElem_cons_succ]
          refine wpAnyH_done (by kernel_rfl) ?_ _
          try go_wp2_with fail
          go_meet
          case rel => exact ⟨ga, gb, A, c, A', c', rfl, rfl, Lib.hid ⟨hk6, hk7, hd1, hd2, HBW.out _ hHeld, by omega, by omega⟩⟩
        · skip
          go_simp
          try go_wp2_with fail
          have hba := (Below.refl w'.heap.size w').alloc (Nat.le_refl _) (.cells #[.string ⟨#[]⟩, .int .i64 0, .string ⟨#[]⟩, .int .i64 0, .int .i64 0, .int .i64 0, .string ⟨#[]⟩, .string ⟨#[]⟩, .int .i64 0, .int .i64 0, .slice none 0 0] 28)
          refine hK.out _ _ (HKS.out _ _ hHeld hba) (fun hHeld2 => ?_)
          clear hK K
          have hlt := hB.lt
          have hB := hB.below hba
          have hd1 := hd1.below hba
          obtain ⟨ga, hga⟩ : ∃ ga, ga = w'.heap.size := ⟨_, rfl⟩
          have hA : HasBlk (w'.alloc (.cells #[.string ⟨#[]⟩, .int .i64 0, .string ⟨#[]⟩, .int .i64 0, .int .i64 0, .int .i64 0, .string ⟨#[]⟩, .string ⟨#[]⟩, .int .i64 0, .int .i64 0, .slice none 0 0] 28)) w'.heap.size 28 11 := HasBlk.newE w'
          have ga2 : w.heap.size + 2 ≤ ga := by have := HSz.out _ hHeld; omega
          have hne : ga ≠ gb := by omega
          obtain ⟨V4, hV4⟩ : ∃ V4, V4 = w'.alloc (.cells #[.string ⟨#[]⟩, .int .i64 0, .string ⟨#[]⟩, .int .i64 0, .int .i64 0, .int .i64 0, .string ⟨#[]⟩, .string ⟨#[]⟩, .int .i64 0, .int .i64 0, .slice none 0 0] 28) := ⟨_, rfl⟩
          rw [← hga] at hA ⊢
          rw [← hV4] at hA hHeld2 hB hd1 ⊢
          have ga3 := hA.lt
          clear hV4 hga hHeld hba
          have hHeld := hHeld2
          clear hHeld2
          try simp only [Act.put, List.setIfInBounds_toArray, List.set_cons_zero, List.set_cons_succ, List.getElem_toArray, List.getElem_cons_zero, List.getElem_cons_succ]
          refine wpAnyH_ready (rs := [3]) (by kernel_rfl) (by simp) (AllReadyH.cons rfl (fun K hK => ?_) AllReadyH.nil)
          go_simp
          go_at_call 6
          refine (HEy.out _ (HBW.out _ hHeld)).mono ?_
          rintro e w' ⟨A', c', rfl, hd, hb⟩
          have hst := HKS.out _ _ hHeld hb
          have hd2 := hd.mono (Nat.le_trans (Nat.le_add_right _ 2) (HSz.out _ hHeld))
          have hB := hB.below hb
          have hd1 := hd1.below hb
          have hA := hA.below hb
          clear hb hd
          go_wp2_with fail
          refine hK.out _ _ hst (fun hHeld => ?_)
          clear hK K hst
          try simp only [Act.put, List.setIfInBounds_toArray, List.set_cons_zero, List.set_cons_succ, List.getElem_toArray, List.getElem_cons_zero, List.getElem_cons_succ]
          refine wpAnyH_ready (rs := [6]) (by kernel_rfl) (by simp) (AllReadyH.cons rfl (fun K hK => ?_) AllReadyH.nil)
          have n20 := hA.peek_ (i := 0) (by omega); have f20 := hA.frozen 0; have n21 := hA.peek_ (i := 1) (by omega); have f21 := hA.frozen 1; have n22 := hA.peek_ (i := 2) (by omega); have f22 := hA.frozen 2; have n23 := hA.peek_ (i := 3) (by omega); have f23 := hA.frozen 3; have n24 := hA.peek_ (i := 4) (by omega); have f24 := hA.frozen 4; have n25 := hA.peek_ (i := 5) (by omega); have f25 := hA.frozen 5; have n26 := hA.peek_ (i := 6) (by omega); have f26 := hA.frozen 6; have n27 := hA.peek_ (i := 7) (by omega); have f27 := hA.frozen 7; have n28 := hA.peek_ (i := 8) (by omega); have f28 := hA.frozen 8; have n29 := hA.peek_ (i := 9) (by omega); have f29 := hA.frozen 9; have n30 := hA.peek_ (i := 10) (by omega); have f30 := hA.frozen 10
          go_simp
          clear n20 f20 n21 f21 n22 f22 n23 f23 n24 f24 n25 f25 n26 f26 n27 f27 n28 f28 n29 f29 n30 f30
          have hst := HKF.out _ ga [.string (bs xp), .int .i64 xk, .string (bs xt), .int .i64 m1, .int .i64 m2, .int .i64 m3, .string (bs m4), .string (bs m5), .int .i64 m6, .int .i64 m7, .slice A xd.length c] hHeld ga2
          have hk6 := hA.fill [.string (bs xp), .int .i64 xk, .string (bs xt), .int .i64 m1, .int .i64 m2, .int .i64 m3, .string (bs m4), .string (bs m5), .int .i64 m6, .int .i64 m7, .slice A xd.length c] rfl
          have hd1 := hd1.kept (U8Kept.setAll (by decide) [.string (bs xp), .int .i64 xk, .string (bs xt), .int .i64 m1, .int .i64 m2, .int .i64 m3, .string (bs m4), .string (bs m5), .int .i64 m6, .int .i64 m7, .slice A xd.length c] 0 hA)
          have hd2 := hd2.kept (U8Kept.setAll (by decide) [.string (bs xp), .int .i64 xk, .string (bs xt), .int .i64 m1, .int .i64 m2, .int .i64 m3, .string (bs m4), .string (bs m5), .int .i64 m6, .int .i64 m7, .slice A xd.length c] 0 hA)
          obtain ⟨cs, hcs, hBB⟩ := hB
          have hB : HasBlk _ gb 28 11 := ⟨cs, hcs, Blk.far_setAll (fun e => hne e.symm) [.string (bs xp), .int .i64 xk, .string (bs xt), .int .i64 m1, .int .i64 m2, .int .i64 m3, .string (bs m4), .string (bs m5), .int .i64 m6, .int .i64 m7, .slice A xd.length c] 0 hBB⟩
          obtain ⟨V6, hV6⟩ : ∃ V6, V6 = setAll w' ga 0 [.string (bs xp), .int .i64 xk, .string (bs xt), .int .i64 m1, .int .i64 m2, .int .i64 m3, .string (bs m4), .string (bs m5), .int .i64 m6, .int .i64 m7, .slice A xd.length c] := ⟨_, rfl⟩
          rw [← hV6] at hst hk6 hd1 hd2 hB
          simp only [setAll, Nat.zero_add, Nat.reduceAdd] at hV6
          rw [← hV6]
          clear hV6 hBB hcs
          refine hK.out _ _ hst (fun hHeld => ?_)
          clear hK K hst
          try simp only [Act.put, List.setIfInBounds_toArray, List.set_cons_zero, List.set_cons_succ, List.getElem_toArray, List.getElem_cons_zero, List.getElem_cons_succ]
          refine wpAnyH_ready (rs := [7]) (by kernel_rfl) (by simp) (AllReadyH.cons rfl (fun K hK => ?_) AllReadyH.nil)
          have n20 := hB.peek_ (i := 0) (by omega); have f20 := hB.frozen 0; have n21 := hB.peek_ (i := 1) (by omega); have f21 := hB.frozen 1; have n22 := hB.peek_ (i := 2) (by omega); have f22 := hB.frozen 2; have n23 := hB.peek_ (i := 3) (by omega); have f23 := hB.frozen 3; have n24 := hB.peek_ (i := 4) (by omega); have f24 := hB.frozen 4; have n25 := hB.peek_ (i := 5) (by omega); have f25 := hB.frozen 5; have n26 := hB.peek_ (i := 6) (by omega); have f26 := hB.frozen 6; have n27 := hB.peek_ (i := 7) (by omega); have f27 := hB.frozen 7; have n28 := hB.peek_ (i := 8) (by omega); have f28 := hB.frozen 8; have n29 := hB.peek_ (i := 9) (by omega); have f29 := hB.frozen 9; have n30 := hB.peek_ (i := 10) (by omega); have f30 := hB.frozen 10
          go_simp
          clear n20 f20 n21 f21 n22 f22 n23 f23 n24 f24 n25 f25 n26 f26 n27 f27 n28 f28 n29 f29 n30 f30
          have hst := HKF.out _ gb [.string (bs yp), .int .i64 yk, .string (bs yt), .int .i64 n1, .int .i64 n2, .int .i64 n3, .string (bs n4), .string (bs n5), .int .i64 n6, .int .i64 n7, .slice A' yd.length c'] hHeld gb2
          have hk7 := hB.fill [.string (bs yp), .int .i64 yk, .string (bs yt), .int .i64 n1, .int .i64 n2, .int .i64 n3, .string (bs n4), .string (bs n5), .int .i64 n6, .int .i64 n7, .slice A' yd.length c'] rfl
          have hd1 := hd1.kept (U8Kept.setAll (by decide) [.string (bs yp), .int .i64 yk, .string (bs yt), .int .i64 n1, .int .i64 n2, .int .i64 n3, .string (bs n4), .string (bs n5), .int .i64 n6, .int .i64 n7, .slice A' yd.length c'] 0 hB)
          have hd2 := hd2.kept (U8Kept.setAll (by decide) [.string (bs yp), .int .i64 yk, .string (bs yt), .int .i64 n1, .int .i64 n2, .int .i64 n3, .string (bs n4), .string (bs n5), .int .i64 n6, .int .i64 n7, .slice A' yd.length c'] 0 hB)
          have hk6 := Blk.far_setAll hne [.string (bs yp), .int .i64 yk, .string (bs yt), .int .i64 n1, .int .i64 n2, .int .i64 n3, .string (bs n4), .string (bs n5), .int .i64 n6, .int .i64 n7, .slice A' yd.length c'] 0 hk6
          obtain ⟨V7, hV7⟩ : ∃ V7, V7 = setAll V6 gb 0 [.string (bs yp), .int .i64 yk, .string (bs yt), .int .i64 n1, .int .i64 n2, .int .i64 n3, .string (bs n4), .string (bs n5), .int .i64 n6, .int .i64 n7, .slice A' yd.length c'] := ⟨_, rfl⟩
          rw [← hV7] at hst hk6 hd1 hd2 hk7
          simp only [setAll, Nat.zero_add, Nat.reduceAdd] at hV7
          rw [← hV7]
          clear hV7
          refine hK.out _ _ hst (fun hHeld => ?_)
          clear hK K hst
          try simp only [Act.put, List.setIfInBounds_toArray, List.set_cons_zero, List.set_cons_succ, List.getElem_toArray, List.getElem_cons_zero, List.getElem_cons_succ]
          refine wpAnyH_done (by kernel_rfl) ?_ _
          try go_wp2_with fail
          go_meet
          case rel => exact ⟨ga, gb, A, c, A', c', rfl, rfl, Lib.hid ⟨hk6, hk7, hd1, hd2, HBW.out _ hHeld, by omega, by omega⟩⟩
      · skip
        go_simp
        try go_wp2_with fail
        have hba := (Below.refl V5.heap.size V5).alloc (Nat.le_refl _) (.cells #[.string ⟨#[]⟩, .int .i64 0, .string ⟨#[]⟩, .int .i64 0, .int .i64 0, .int .i64 0, .string ⟨#[]⟩, .string ⟨#[]⟩, .int .i64 0, .int .i64 0, .slice none 0 0] 28)
        refine hK.out _ _ (HKS.out _ _ hHeld hba) (fun hHeld2 => ?_)
        clear hK K
        have hlt := hB.lt
        have hB := hB.below hba
        obtain ⟨ga, hga⟩ : ∃ ga, ga = V5.heap.size := ⟨_, rfl⟩
        have hA : HasBlk (V5.alloc (.cells #[.string ⟨#[]⟩, .int .i64 0, .string ⟨#[]⟩, .int .i64 0, .int .i64 0, .int .i64 0, .string ⟨#[]⟩, .string ⟨#[]⟩, .int .i64 0, .int .i64 0, .slice none 0 0] 28)) V5.heap.size 28 11 := HasBlk.newE V5
        have ga2 : w.heap.size + 2 ≤ ga := by have := HSz.out _ hHeld; omega
        have hne : ga ≠ gb := by omega
        obtain ⟨V4, hV4⟩ : ∃ V4, V4 = V5.alloc (.cells #[.string ⟨#[]⟩, .int .i64 0, .string ⟨#[]⟩, .int .i64 0, .int .i64 0, .int .i64 0, .string ⟨#[]⟩, .string ⟨#[]⟩, .int .i64 0, .int .i64 0, .slice none 0 0] 28) := ⟨_, rfl⟩
        rw [← hga] at hA ⊢
        rw [← hV4] at hA hHeld2 hB ⊢
        have ga3 := hA.lt
        clear hV4 hga hHeld hba
        have hHeld := hHeld2
        clear hHeld2
        try simp only [Act.put, List.setIfInBounds_toArray, List.set_cons_zero, List.set_cons_succ, List.getElem_toArray, List.getElem_cons_zero, List.getElem_cons_succ]
        refine wpAnyH_ready (rs := [1]) (by kernel_rfl) (by simp) (AllReadyH.cons rfl (fun K hK => ?_) AllReadyH.nil)
        go_simp
        go_at_call 6
        refine (HEx.out _ (HBW.out _ hHeld)).mono ?_
        rintro e w' ⟨A, c, rfl, hd, hb⟩
        have hst := HKS.out _ _ hHeld hb
        have hd1 := hd.mono (Nat.le_trans (Nat.le_add_right _ 2) (HSz.out _ hHeld))
        have hB := hB.below hb
        have hA := hA.below hb
        clear hb hd
        go_wp2_with fail
        refine hK.out _ _ hst (fun hHeld => ?_)
        clear hK K hst
        try simp only [Act.put, List.setIfInBounds_toArray, List.set_cons_zero, List.set_cons_succ, List.getElem_toArray, List.getElem_cons_zero, List.getElem_cons_succ]
        refine wpAnyH_ready (rs := [3]) (by kernel_rfl) (by simp) (AllReadyH.cons rfl (fun K hK => ?_) AllReadyH.nil)
        go_simp
        go_at_call 6
        refine (HEy.out _ (HBW.out _ hHeld)).mono ?_
        rintro e w' ⟨A', c', rfl, hd, hb⟩
        have hst := HKS.out _ _ hHeld hb
        have hd2 := hd.mono (Nat.le_trans (Nat.le_add_right _ 2) (HSz.out _ hHeld))
        have hB := hB.below hb
        have hA := hA.below hb
        have hd1 := hd1.below hb
        clear hb hd
        go_wp2_with fail
        refine hK.out _ _ hst (fun hHeld => ?_)
        clear hK K hst
        try simp only [Act.put, List.setIfInBounds_toArray, List.set_cons_zero, List.set_cons_succ, List.getElem_toArray, List.getElem_cons_zero, List.getElem_cons_succ]
        refine wpAnyH_ready (rs := [6]) (by kernel_rfl) (by simp) (AllReadyH.cons rfl (fun K hK => ?_) AllReadyH.nil)
        have n20 := hA.peek_ (i := 0) (by omega); have f20 := hA.frozen 0; have n21 := hA.peek_ (i := 1) (by omega); have f21 := hA.frozen 1; have n22 := hA.peek_ (i := 2) (by omega); have f22 := hA.frozen 2; have n23 := hA.peek_ (i := 3) (by omega); have f23 := hA.frozen 3; have n24 := hA.peek_ (i := 4) (by omega); have f24 := hA.frozen 4; have n25 := hA.peek_ (i := 5) (by omega); have f25 := hA.frozen 5; have n26 := hA.peek_ (i := 6) (by omega); have f26 := hA.frozen 6; have n27 := hA.peek_ (i := 7) (by omega); have f27 := hA.frozen 7; have n28 := hA.peek_ (i := 8) (by omega); have f28 := hA.frozen 8; have n29 := hA.peek_ (i := 9) (by omega); have f29 := hA.frozen 9; have n30 := hA.peek_ (i := 10) (by omega); have f30 := hA.frozen 10
        go_simp
        clear n20 f20 n21 f21 n22 f22 n23 f23 n24 f24 n25 f25 n26 f26 n27 f27 n28 f28 n29 f29 n30 f30
        have hst := HKF.out _ ga [.string (bs xp), .int .i64 xk, .string (bs xt), .int .i64 m1, .int .i64 m2, .int .i64 m3, .string (bs m4), .string (bs m5), .int .i64 m6, .int .i64 m7, .slice A xd.length c] hHeld ga2
        have hk6 := hA.fill [.string (bs xp), .int .i64 xk, .string (bs xt), .int .i64 m1, .int .i64 m2, .int .i64 m3, .string (bs m4), .string (bs m5), .int .i64 m6, .int .i64 m7, .slice A xd.length c] rfl
        have hd1 := hd1.kept (U8Kept.setAll (by decide) [.string (bs xp), .int .i64 xk, .string (bs xt), .int .i64 m1, .int .i64 m2, .int .i64 m3, .string (bs m4), .string (bs m5), .int .i64 m6, .int .i64 m7, .slice A xd.length c] 0 hA)
        have hd2 := hd2.kept (U8Kept.setAll (by decide) [.string (bs xp), .int .i64 xk, .string (bs xt), .int .i64 m1, .int .i64 m2, .int .i64 m3, .string (bs m4), .string (bs m5), .int .i64 m6, .int .i64 m7, .slice A xd.length c] 0 hA)
        obtain ⟨cs, hcs, hBB⟩ := hB
        have hB : HasBlk _ gb 28 11 := ⟨cs, hcs, Blk.far_setAll (fun e => hne e.symm) [.string (bs xp), .int .i64 xk, .string (bs xt), .int .i64 m1, .int .i64 m2, .int .i64 m3, .string (bs m4), .string (bs m5), .int .i64 m6, .int .i64 m7, .slice A xd.length c] 0 hBB⟩
        obtain ⟨V6, hV6⟩ : ∃ V6, V6 = setAll w' ga 0 [.string (bs xp), .int .i64 xk, .string (bs xt), .int .i64 m1, .int .i64 m2, .int .i64 m3, .string (bs m4), .string (bs m5), .int .i64 m6, .int .i64 m7, .slice A xd.length c] := ⟨_, rfl⟩
        rw [← hV6] at hst hk6 hd1 hd2 hB
        simp only [setAll, Nat.zero_add, Nat.reduceAdd] at hV6
        rw [← hV6]
        clear hV6 hBB hcs
        refine hK.out _ _ hst (fun hHeld => ?_)
        clear hK K hst
        try simp only [Act.put, List.setIfInBounds_toArray, List.set_cons_zero, List.set_cons_succ, List.getElem_toArray, List.getElem_cons_zero, List.getElem_cons_succ]
        refine wpAnyH_ready (rs := [7]) (by kernel_rfl) (by simp) (AllReadyH.cons rfl (fun K hK => ?_) AllReadyH.nil)
        have n20 := hB.peek_ (i := 0) (by omega); have f20 := hB.frozen 0; have n21 := hB.peek_ (i := 1) (by omega); have f21 := hB.frozen 1; have n22 := hB.peek_ (i := 2) (by omega); have f22 := hB.frozen 2; have n23 := hB.peek_ (i := 3) (by omega); have f23 := hB.frozen 3; have n24 := hB.peek_ (i := 4) (by omega); have f24 := hB.frozen 4; have n25 := hB.peek_ (i := 5) (by omega); have f25 := hB.frozen 5; have n26 := hB.peek_ (i := 6) (by omega); have f26 := hB.frozen 6; have n27 := hB.peek_ (i := 7) (by omega); have f27 := hB.frozen 7; have n28 := hB.peek_ (i := 8) (by omega); have f28 := hB.frozen 8; have n29 := hB.peek_ (i := 9) (by omega); have f29 := hB.frozen 9; have n30 := hB.peek_ (i := 10) (by omega); have f30 := hB.frozen 10
        go_simp
        clear n20 f20 n21 f21 n22 f22 n23 f23 n24 f24 n25 f25 n26 f26 n27 f27 n28 f28 n29 f29 n30 f30
        have hst := HKF.out _ gb [.string (bs yp), .int .i64 yk, .string (bs yt), .int .i64 n1, .int .i64 n2, .int .i64 n3, .string (bs n4), .string (bs n5), .int .i64 n6, .int .i64 n7, .slice A' yd.length c'] hHeld gb2
        have hk7 := hB.fill [.string (bs yp), .int .i64 yk, .string (bs yt), .int .i64 n1, .int .i64 n2, .int .i64 n3, .string (bs n4), .string (bs n5), .int .i64 n6, .int .i64 n7, .slice A' yd.length c'] rfl
        have hd1 := hd1.kept (U8Kept.setAll (by decide) [.string (bs yp), .int .i64 yk, .string (bs yt), .int .i64 n1, .int .i64 n2, .int .i64 n3, .string (bs n4), .string (bs n5), .int .i64 n6, .int .i64 n7, .slice A' yd.length c'] 0 hB)
        have hd2 := hd2.kept (U8Kept.setAll (by decide) [.string (bs yp), .int .i64 yk, .string (bs yt), .int .i64 n1, .int .i64 n2, .int .i64 n3, .string (bs n4), .string (bs n5), .int .i64 n6, .int .i64 n7, .slice A' yd.length c'] 0 hB)
        have hk6 := Blk.far_setAll hne [.string (bs yp), .int .i64 yk, .string (bs yt), .int .i64 n1, .int .i64 n2, .int .i64 n3, .string (bs n4), .string (bs n5), .int .i64 n6, .int .i64 n7, .slice A' yd.length c'] 0 hk6
        obtain ⟨V7, hV7⟩ : ∃ V7, V7 = setAll V6 gb 0 [.string (bs yp), .int .i64 yk, .string (bs yt), .int .i64 n1, .int .i64 n2, .int .i64 n3, .string (bs n4), .string (bs n5), .int .i64 n6, .int .i64 n7, .slice A' yd.length c'] := ⟨_, rfl⟩
        rw [← hV7] at hst hk6 hd1 hd2 hk7
        simp only [setAll, Nat.zero_add, Nat.reduceAdd] at hV7
        rw [← hV7]
        clear hV7
        refine hK.out _ _ hst (fun hHeld => ?_)
        clear hK K hst
        try simp only [Act.put, List.setIfInBounds_toArray, List.set_cons_zero, List.set_cons_succ, List.getElem_toArray, List.getElem_cons_zero, List.getElem_cons_succ]
        refine wpAnyH_done (by kernel_rfl) ?_ _
        try go_wp2_with fail
        go_meet
        case rel => exact ⟨ga, gb, A, c, A', c', rfl, rfl, Lib.hid ⟨hk6, hk7, hd1, hd2, HBW.out _ hHeld, by omega, by omega⟩⟩
--]first
  case rest =>
    obtain ⟨ga, gb, A, c, A', c', rfl, rfl, HX⟩ := hcut
    have HKA := Lib.hid HX.out.1
    have HKB := Lib.hid HX.out.2.1
    have HDA := Lib.hid HX.out.2.2.1
    have HDB := Lib.hid HX.out.2.2.2.1
    have HBC := Lib.hid HX.out.2.2.2.2.1
    clear HX HB0 HZ0 HS0 HKS HKF HBW HSz HEx HEy HML HP10
    obtain ⟨hn, hp, hl, hm, hu, hg, hz, ht, hy, hs, hr⟩ := Hx
    obtain ⟨kn, kp, kl, km, ku, kg, kz, kt, ky, ks, kr⟩ := Hy
    unfold headV headCells at HHx HHy
    simp only at HHx HHy
    have p0 := HKA.out.cell 0
    have p1 := HKA.out.cell 1
    have p2 := HKA.out.cell 2
    have p3 := HKA.out.cell 3
    have p4 := HKA.out.cell 4
    have p5 := HKA.out.cell 5
    have p6 := HKA.out.cell 6
    have p7 := HKA.out.cell 7
    have p8 := HKA.out.cell 8
    have p9 := HKA.out.cell 9
    have p10 := HKA.out.cell 10
    go_wp2_with fail
    refine (HHx.out _ HBC.out _ _).mono ?_
    rintro e w2 ⟨rfl, b2⟩
    obtain ⟨W2, hW2⟩ : ∃ W2, W2 = w2.alloc (.cells #[.string (bs hn), .string (bs hp), .string (bs hl), .int .i64 hm, .int .i64 hu, .int .i64 hg, .int .i64 hz, .int .i64 ht, .int .u8 hy.toNat, .string (bs hs), .string (bs hr)] 31) := ⟨_, rfl⟩
    obtain ⟨g7, hg7⟩ : ∃ g7, g7 = w2.heap.size := ⟨_, rfl⟩
    have hk7 : Blk W2 g7 31 #[.string (bs hn), .string (bs hp), .string (bs hl), .int .i64 hm, .int .i64 hu, .int .i64 hg, .int .i64 hz, .int .i64 ht, .int .u8 hy.toNat, .string (bs hs), .string (bs hr)] := by rw [hW2, hg7]; exact Blk.new _ _ _
    have b2 : Below wc.heap.size wc W2 := by rw [hW2]; exact b2.alloc b2.size _
    have HK7 := Lib.hid hk7
    have HB2 := Lib.hid (HBC.out.trans (b2.mono HBC.out.size))
    have HA2 := Lib.hid (HKA.out.below b2 HKA.out.lt)
    have HY2 := Lib.hid (HKB.out.below b2 HKB.out.lt)
    clear b2 hk7 p0 p1 p2 p3 p4 p5 p6 p7 p8 p9 p10 HKA HKB HHx
    have q0 := HY2.out.cell 0
    have q1 := HY2.out.cell 1
    have q2 := HY2.out.cell 2
    have q3 := HY2.out.cell 3
    have q4 := HY2.out.cell 4
    have q5 := HY2.out.cell 5
    have q6 := HY2.out.cell 6
    have q7 := HY2.out.cell 7
    have q8 := HY2.out.cell 8
    have q9 := HY2.out.cell 9
    have q10 := HY2.out.cell 10
    go_upto_region 3 with fail
    rw [← hW2, ← hg7]
    clear hW2 hg7
    go_wp2_with fail
    refine (HHy.out _ HB2.out _ _).mono ?_
    rintro e w3 ⟨rfl, b3⟩
    obtain ⟨W3, hW3⟩ : ∃ W3, W3 = w3.alloc (.cells #[.string (bs kn), .string (bs kp), .string (bs kl), .int .i64 km, .int .i64 ku, .int .i64 kg, .int .i64 kz, .int .i64 kt, .int .u8 ky.toNat, .string (bs ks), .string (bs kr)] 31) := ⟨_, rfl⟩
    obtain ⟨g9, hg9⟩ : ∃ g9, g9 = w3.heap.size := ⟨_, rfl⟩
    have hk9 : Blk W3 g9 31 #[.string (bs kn), .string (bs kp), .string (bs kl), .int .i64 km, .int .i64 ku, .int .i64 kg, .int .i64 kz, .int .i64 kt, .int .u8 ky.toNat, .string (bs ks), .string (bs kr)] := by rw [hW3, hg9]; exact Blk.new _ _ _
    have b3 : Below W2.heap.size W2 W3 := by rw [hW3]; exact b3.alloc b3.size _
    have HK9 := Lib.hid hk9
    have HB3 := Lib.hid (HB2.out.trans (b3.mono HB2.out.size))
    have HA3 := Lib.hid (HA2.out.below b3 HA2.out.lt)
    have HY3 := Lib.hid (HY2.out.below b3 HY2.out.lt)
    have HS3 := Lib.hid (HK7.out.below b3 HK7.out.lt)
    clear b3 hk9 q0 q1 q2 q3 q4 q5 q6 q7 q8 q9 q10 HA2 HY2 HK7 HHy
    have p0 := HA3.out.cell 0
    have p1 := HA3.out.cell 1
    have p2 := HA3.out.cell 2
    have p3 := HA3.out.cell 3
    have p4 := HA3.out.cell 4
    have p5 := HA3.out.cell 5
    have p6 := HA3.out.cell 6
    have p7 := HA3.out.cell 7
    have p8 := HA3.out.cell 8
    have p9 := HA3.out.cell 9
    have p10 := HA3.out.cell 10
    go_upto_region 4 with fail
    rw [← hW3, ← hg9]
    clear hW3 hg9
    go_wp2_with fail
    refine (HRx.out _ HB3.out _ _).mono ?_
    rintro e w4 ⟨lv, rfl, hlv, b4⟩
    have HL4 := Lib.hid hlv
    obtain ⟨Al, cl, rfl, -⟩ := hlv.at_
    have HB4 := Lib.hid (HB3.out.trans (b4.mono HB3.out.size))
    have HA4 := Lib.hid (HA3.out.below b4 HA3.out.lt)
    have HY4 := Lib.hid (HY3.out.below b4 HY3.out.lt)
    have HS4 := Lib.hid (HS3.out.below b4 HS3.out.lt)
    have HT4 := Lib.hid (HK9.out.below b4 HK9.out.lt)
    clear hlv b4 p0 p1 p2 p3 p4 p5 p6 p7 p8 p9 p10 HA3 HY3 HS3 HK9 HRx
    have q0 := HY4.out.cell 0
    have q1 := HY4.out.cell 1
    have q2 := HY4.out.cell 2
    have q3 := HY4.out.cell 3
    have q4 := HY4.out.cell 4
    have q5 := HY4.out.cell 5
    have q6 := HY4.out.cell 6
    have q7 := HY4.out.cell 7
    have q8 := HY4.out.cell 8
    have q9 := HY4.out.cell 9
    have q10 := HY4.out.cell 10
    go_wp2_with fail
    refine (HRy.out _ HB4.out _ _).mono ?_
    rintro e w5 ⟨mv, rfl, hmv, b5⟩
    have HM5 := Lib.hid hmv
    obtain ⟨Am, cm, rfl, -⟩ := hmv.at_
    have HB5 := Lib.hid (HB4.out.trans (b5.mono HB4.out.size))
    have HL5 := Lib.hid (HL4.out.below b5)
    have HA5 := Lib.hid (HA4.out.below b5 HA4.out.lt)
    have HY5 := Lib.hid (HY4.out.below b5 HY4.out.lt)
    have HS5 := Lib.hid (HS4.out.below b5 HS4.out.lt)
    have HT5 := Lib.hid (HT4.out.below b5 HT4.out.lt)
    clear hmv b5 q0 q1 q2 q3 q4 q5 q6 q7 q8 q9 q10 HA4 HY4 HS4 HT4 HL4 HRy
    go_wp2_with fail
    refine (HWn.out _ HB5.out).mono ?_
    rintro e w6 ⟨rfl, b6⟩
    have HB6 := Lib.hid (HB5.out.trans (b6.mono HB5.out.size))
    have HL6 := Lib.hid (HL5.out.below b6)
    have HM6 := Lib.hid (HM5.out.below b6)
    have HA6 := Lib.hid (HA5.out.below b6 HA5.out.lt)
    have HY6 := Lib.hid (HY5.out.below b6 HY5.out.lt)
    have HS6 := Lib.hid (HS5.out.below b6 HS5.out.lt)
    have HT6 := Lib.hid (HT5.out.below b6 HT5.out.lt)
    clear b6 HA5 HY5 HS5 HT5 HL5 HM5 HB5 HWn HDA HDB
    have p0 := HA6.out.cell 0
    have p1 := HA6.out.cell 1
    have p2 := HA6.out.cell 2
    have p3 := HA6.out.cell 3
    have p4 := HA6.out.cell 4
    have p5 := HA6.out.cell 5
    have p6 := HA6.out.cell 6
    have p7 := HA6.out.cell 7
    have p8 := HA6.out.cell 8
    have p9 := HA6.out.cell 9
    have p10 := HA6.out.cell 10
    have q0 := HY6.out.cell 0
    have q1 := HY6.out.cell 1
    have q2 := HY6.out.cell 2
    have q3 := HY6.out.cell 3
    have q4 := HY6.out.cell 4
    have q5 := HY6.out.cell 5
    have q6 := HY6.out.cell 6
    have q7 := HY6.out.cell 7
    have q8 := HY6.out.cell 8
    have q9 := HY6.out.cell 9
    have q10 := HY6.out.cell 10
    go_upto_region 8 with fail
    go_cut [15, 16] from 60 to 62 (fun s15 s16 wx => ∃ gc gd : Nat, s15 = .pointer (some ⟨gc, 0, none⟩) ∧ s16 = .pointer (some ⟨gd, 0, none⟩) ∧ Hid (Two6 w6 gc gd #[.string (bs xp), .int .i64 xk, .string (bs xt), .int .i64 m1, .int .i64 m2, .int .i64 m3, .string (bs m4), .string (bs m5), .int .i64 m6, .int .i64 m7, .slice A xd.length c] #[.string (bs yp), .int .i64 yk, .string (bs yt), .int .i64 n1, .int .i64 n2, .int .i64 n3, .string (bs n4), .string (bs n5), .int .i64 n6, .int .i64 n7, .slice A' yd.length c'] wx))
    case first =>
      go_region_held3 (fun w' => w'.cell? ⟨ga, 0, none⟩ = some (.string (bs xp)) ∧ w'.cell? ⟨ga, 1, none⟩ = some (.int .i64 xk) ∧ w'.cell? ⟨ga, 2, none⟩ = some (.string (bs xt)) ∧ w'.cell? ⟨ga, 3, none⟩ = some (.int .i64 m1) ∧ w'.cell? ⟨ga, 4, none⟩ = some (.int .i64 m2) ∧ w'.cell? ⟨ga, 5, none⟩ = some (.int .i64 m3) ∧ w'.cell? ⟨ga, 6, none⟩ = some (.string (bs m4)) ∧ w'.cell? ⟨ga, 7, none⟩ = some (.string (bs m5)) ∧ w'.cell? ⟨ga, 8, none⟩ = some (.int .i64 m6) ∧ w'.cell? ⟨ga, 9, none⟩ = some (.int .i64 m7) ∧ w'.cell? ⟨ga, 10, none⟩ = some (.slice A xd.length c) ∧ w'.cell? ⟨gb, 0, none⟩ = some (.string (bs yp)) ∧ w'.cell? ⟨gb, 1, none⟩ = some (.int .i64 yk) ∧ w'.cell? ⟨gb, 2, none⟩ = some (.string (bs yt)) ∧ w'.cell? ⟨gb, 3, none⟩ = some (.int .i64 n1) ∧ w'.cell? ⟨gb, 4, none⟩ = some (.int .i64 n2) ∧ w'.cell? ⟨gb, 5, none⟩ = some (.int .i64 n3) ∧ w'.cell? ⟨gb, 6, none⟩ = some (.string (bs n4)) ∧ w'.cell? ⟨gb, 7, none⟩ = some (.string (bs n5)) ∧ w'.cell? ⟨gb, 8, none⟩ = some (.int .i64 n6) ∧ w'.cell? ⟨gb, 9, none⟩ = some (.int .i64 n7) ∧ w'.cell? ⟨gb, 10, none⟩ = some (.slice A' yd.length c')) (go_keep) (fail)
      · go_wp2_with fail
        go_meet
        case rel => exact ⟨_, _, rfl, rfl, Lib.hid (twoE_one w6 #[.string (bs xp), .int .i64 xk, .string (bs xt), .int .i64 m1, .int .i64 m2, .int .i64 m3, .string (bs m4), .string (bs m5), .int .i64 m6, .int .i64 m7, .slice A xd.length c] #[.string (bs yp), .int .i64 yk, .string (bs yt), .int .i64 n1, .int .i64 n2, .int .i64 n3, .string (bs n4), .string (bs n5), .int .i64 n6, .int .i64 n7, .slice A' yd.length c'])⟩
      · go_wp2_with fail
        go_meet
        case rel => exact ⟨_, _, rfl, rfl, Lib.hid (twoE_two w6 #[.string (bs xp), .int .i64 xk, .string (bs xt), .int .i64 m1, .int .i64 m2, .int .i64 m3, .string (bs m4), .string (bs m5), .int .i64 m6, .int .i64 m7, .slice A xd.length c] #[.string (bs yp), .int .i64 yk, .string (bs yt), .int .i64 n1, .int .i64 n2, .int .i64 n3, .string (bs n4), .string (bs n5), .int .i64 n6, .int .i64 n7, .slice A' yd.length c'])⟩
    case rest =>
      obtain ⟨gc, gd, rfl, rfl, HG⟩ := hcut
      have hne := HG.out.2.2.2.1
      have hne2 : gd ≠ gc := fun e => hne e.symm
      have c10 := HG.out.2.2.2.2.1.cell 10
      have d10 := HG.out.2.2.2.2.2.cell 10
      have cz := HG.out.2.2.2.2.1.frozen 10
      have dz := HG.out.2.2.2.2.2.frozen 10
      have HZ := Lib.hid (HG.out.bare rfl rfl)
      obtain ⟨W9, hW9⟩ : ∃ W9, W9 = (wc.setCell ⟨gc, 10, none⟩ (.slice none 0 0)).setCell ⟨gd, 10, none⟩ (.slice none 0 0) := ⟨_, rfl⟩
      rw [← hW9] at HZ
      have b9 := HZ.out.1
      have HB9 := Lib.hid (HB6.out.trans (b9.mono HB6.out.size))
      have HL9 := Lib.hid (HL6.out.below b9)
      have HM9 := Lib.hid (HM6.out.below b9)
      have HA9 := Lib.hid (HA6.out.below b9 HA6.out.lt)
      have HY9 := Lib.hid (HY6.out.below b9 HY6.out.lt)
      have HS9 := Lib.hid (HS6.out.below b9 HS6.out.lt)
      have HT9 := Lib.hid (HT6.out.below b9 HT6.out.lt)
      clear b9 HB6 HL6 HM6 HA6 HY6 HS6 HT6 p0 p1 p2 p3 p4 p5 p6 p7 p8 p9 p10 q0 q1 q2 q3 q4 q5 q6 q7 q8 q9 q10 HG
      go_upto_region 10 with fail
      rw [← hW9]
      clear hW9 c10 d10 cz dz hne hne2
      have j0 : W9.cell? ⟨gc, 0, none⟩ = some (.string (bs xp)) := HZ.out.2.2.2.2.1.cell 0
      have j1 : W9.cell? ⟨gc, 1, none⟩ = some (.int .i64 xk) := HZ.out.2.2.2.2.1.cell 1
      have j2 : W9.cell? ⟨gc, 2, none⟩ = some (.string (bs xt)) := HZ.out.2.2.2.2.1.cell 2
      have j3 : W9.cell? ⟨gc, 3, none⟩ = some (.int .i64 m1) := HZ.out.2.2.2.2.1.cell 3
      have j4 : W9.cell? ⟨gc, 4, none⟩ = some (.int .i64 m2) := HZ.out.2.2.2.2.1.cell 4
      have j5 : W9.cell? ⟨gc, 5, none⟩ = some (.int .i64 m3) := HZ.out.2.2.2.2.1.cell 5
      have j6 : W9.cell? ⟨gc, 6, none⟩ = some (.string (bs m4)) := HZ.out.2.2.2.2.1.cell 6
      have j7 : W9.cell? ⟨gc, 7, none⟩ = some (.string (bs m5)) := HZ.out.2.2.2.2.1.cell 7
      have j8 : W9.cell? ⟨gc, 8, none⟩ = some (.int .i64 m6) := HZ.out.2.2.2.2.1.cell 8
      have j9 : W9.cell? ⟨gc, 9, none⟩ = some (.int .i64 m7) := HZ.out.2.2.2.2.1.cell 9
      have j10 : W9.cell? ⟨gc, 10, none⟩ = some (.slice none 0 0) := HZ.out.2.2.2.2.1.cell 10
      have i0 : W9.cell? ⟨gd, 0, none⟩ = some (.string (bs yp)) := HZ.out.2.2.2.2.2.cell 0
      have i1 : W9.cell? ⟨gd, 1, none⟩ = some (.int .i64 yk) := HZ.out.2.2.2.2.2.cell 1
      have i2 : W9.cell? ⟨gd, 2, none⟩ = some (.string (bs yt)) := HZ.out.2.2.2.2.2.cell 2
      have i3 : W9.cell? ⟨gd, 3, none⟩ = some (.int .i64 n1) := HZ.out.2.2.2.2.2.cell 3
      have i4 : W9.cell? ⟨gd, 4, none⟩ = some (.int .i64 n2) := HZ.out.2.2.2.2.2.cell 4
      have i5 : W9.cell? ⟨gd, 5, none⟩ = some (.int .i64 n3) := HZ.out.2.2.2.2.2.cell 5
      have i6 : W9.cell? ⟨gd, 6, none⟩ = some (.string (bs n4)) := HZ.out.2.2.2.2.2.cell 6
      have i7 : W9.cell? ⟨gd, 7, none⟩ = some (.string (bs n5)) := HZ.out.2.2.2.2.2.cell 7
      have i8 : W9.cell? ⟨gd, 8, none⟩ = some (.int .i64 n6) := HZ.out.2.2.2.2.2.cell 8
      have i9 : W9.cell? ⟨gd, 9, none⟩ = some (.int .i64 n7) := HZ.out.2.2.2.2.2.cell 9
      have i10 : W9.cell? ⟨gd, 10, none⟩ = some (.slice none 0 0) := HZ.out.2.2.2.2.2.cell 10
      have HSE := Lib.hid (SameEntry_any ⟨xp, xk, xt, ⟨m1, m2, m3, m4, m5, m6, m7⟩, []⟩ ⟨yp, yk, yt, ⟨n1, n2, n3, n4, n5, n6, n7⟩, []⟩ (.slice none 0 0) (.slice none 0 0) W9 (DataAt.nil _ _) (DataAt.nil _ _))
      unfold entC at HSE
      simp only at HSE
      have HSI := Lib.hid (sameE_iff ⟨xp, xk, xt, ⟨m1, m2, m3, m4, m5, m6, m7⟩, []⟩ ⟨yp, yk, yt, ⟨n1, n2, n3, n4, n5, n6, n7⟩, []⟩)
      obtain ⟨se, hse⟩ : ∃ se, se = sameE ⟨xp, xk, xt, ⟨m1, m2, m3, m4, m5, m6, m7⟩, []⟩ ⟨yp, yk, yt, ⟨n1, n2, n3, n4, n5, n6, n7⟩, []⟩ := ⟨_, rfl⟩
      rw [← hse] at HSE HSI
      clear hse
      obtain ⟨ld, hld⟩ : ∃ ld, ld = ((xd.length : Int) == (yd.length : Int)) := ⟨_, rfl⟩
      have HLD : Hid (ld = true ↔ xd.length = yd.length) := Lib.hid (by rw [hld, beq_iff_eq]; omega)
      have HL1 := Lib.hid hld.symm
      have HL2 : Hid ((xd.length == yd.length) = ld) := Lib.hid (by rw [hld, Bool.eq_iff_iff, beq_iff_eq, beq_iff_eq]; omega)
      clear hld
      have HKEY : Hid (((⟨hn, hp, hl, hm, hu, hg, hz, ht, hy, hs, hr⟩ : PHead) = ⟨kn, kp, kl, km, ku, kg, kz, kt, ky, ks, kr⟩ ∧ Rx = Ry) ↔ (se && ld) = true) := Lib.hid (by
        have h1 := HPS.out
        unfold noData at h1
        simp only at h1
        rw [← HSI.out, ← HLD.out] at h1
        rw [Bool.and_eq_true]
        exact h1)
      clear HPS HSI HLD
      have HEV := Lib.hid (fun W (hb : Below W9.heap.size W9 W) => EqualR_any _ _ Rx Ry W (HL9.out.at_.below hb) (HM9.out.at_.below hb) (by omega) (by omega))
      obtain ⟨tot, htot⟩ : ∃ tot, tot = (se && ld) := ⟨_, rfl⟩
      rw [← htot] at HKEY
      have HTOT := Lib.hid htot
      clear htot
      go_cut [17] from 64 to 76 (fun s17 wx => s17 = .bool tot ∧ Hid (Below W9.heap.size W9 wx))
      case first =>
        go_wp2_with fail
        refine HSE.out.mono ?_
        rintro e w10 ⟨rfl, b10⟩
        have B10 := Lib.hid b10
        have A10 : w10.cell? ⟨ga, 10, none⟩ = some (.slice A xd.length c) := (HA9.out.below b10 HA9.out.lt).cell 10
        have E10 : w10.cell? ⟨gb, 10, none⟩ = some (.slice A' yd.length c') := (HY9.out.below b10 HY9.out.lt).cell 10
        clear b10 j0 j1 j2 j3 j4 j5 j6 j7 j8 j9 j10 i0 i1 i2 i3 i4 i5 i6 i7 i8 i9 i10 HSE HEV HKEY
        have hl1 := HL1.out
        have hl2 := HL2.out
        clear HL1 HL2
        cases se
        · go_wp2_with fail
          go_meet
          case rel => exact ⟨by rw [HTOT.out]; rfl, B10⟩
        · go_wp2_with fail
          go_meet
          case rel => exact ⟨by rw [HTOT.out]; rfl, B10⟩
      case rest =>
        obtain ⟨rfl, HBC9⟩ := hcut
        have HS10 := Lib.hid (HS9.out.below HBC9.out HS9.out.lt)
        have HT10 := Lib.hid (HT9.out.below HBC9.out HT9.out.lt)
        have HV10 := Lib.hid (HEV.out _ HBC9.out)
        have HB10 := Lib.hid (HB9.out.trans (HBC9.out.mono HB9.out.size))
        clear j0 j1 j2 j3 j4 j5 j6 j7 j8 j9 j10 i0 i1 i2 i3 i4 i5 i6 i7 i8 i9 i10 HSE HS9 HT9 HA9 HY9 HEV HBC9 HTOT HL1 HL2
        obtain ⟨WN, hWN⟩ : ∃ WN, WN = wc := ⟨_, rfl⟩
        rw [← hWN] at HS10 HT10 HV10 HB10 ⊢
        clear hWN
        have s0 : WN.cell? ⟨g7, 0, none⟩ = some (.string (bs hn)) := HS10.out.cell 0
        have s1 : WN.cell? ⟨g7, 1, none⟩ = some (.string (bs hp)) := HS10.out.cell 1
        have s2 : WN.cell? ⟨g7, 2, none⟩ = some (.string (bs hl)) := HS10.out.cell 2
        have s3 : WN.cell? ⟨g7, 3, none⟩ = some (.int .i64 hm) := HS10.out.cell 3
        have s4 : WN.cell? ⟨g7, 4, none⟩ = some (.int .i64 hu) := HS10.out.cell 4
        have s5 : WN.cell? ⟨g7, 5, none⟩ = some (.int .i64 hg) := HS10.out.cell 5
        have s6 : WN.cell? ⟨g7, 6, none⟩ = some (.int .i64 hz) := HS10.out.cell 6
        have s7 : WN.cell? ⟨g7, 7, none⟩ = some (.int .i64 ht) := HS10.out.cell 7
        have s8 : WN.cell? ⟨g7, 8, none⟩ = some (.int .u8 hy.toNat) := HS10.out.cell 8
        have s9 : WN.cell? ⟨g7, 9, none⟩ = some (.string (bs hs)) := HS10.out.cell 9
        have s10 : WN.cell? ⟨g7, 10, none⟩ = some (.string (bs hr)) := HS10.out.cell 10
        have t0 : WN.cell? ⟨g9, 0, none⟩ = some (.string (bs kn)) := HT10.out.cell 0
        have t1 : WN.cell? ⟨g9, 1, none⟩ = some (.string (bs kp)) := HT10.out.cell 1
        have t2 : WN.cell? ⟨g9, 2, none⟩ = some (.string (bs kl)) := HT10.out.cell 2
        have t3 : WN.cell? ⟨g9, 3, none⟩ = some (.int .i64 km) := HT10.out.cell 3
        have t4 : WN.cell? ⟨g9, 4, none⟩ = some (.int .i64 ku) := HT10.out.cell 4
        have t5 : WN.cell? ⟨g9, 5, none⟩ = some (.int .i64 kg) := HT10.out.cell 5
        have t6 : WN.cell? ⟨g9, 6, none⟩ = some (.int .i64 kz) := HT10.out.cell 6
        have t7 : WN.cell? ⟨g9, 7, none⟩ = some (.int .i64 kt) := HT10.out.cell 7
        have t8 : WN.cell? ⟨g9, 8, none⟩ = some (.int .u8 ky.toNat) := HT10.out.cell 8
        have t9 : WN.cell? ⟨g9, 9, none⟩ = some (.string (bs ks)) := HT10.out.cell 9
        have t10 : WN.cell? ⟨g9, 10, none⟩ = some (.string (bs kr)) := HT10.out.cell 10
        rcases head_first ⟨hn, hp, hl, hm, hu, hg, hz, ht, hy, hs, hr⟩ ⟨kn, kp, kl, km, ku, kg, kz, kt, ky, ks, kr⟩ with ⟨he, q1, q2, q3, q4, q5, q6, q7, q8, q9, q10, q11⟩ | ⟨he, hq⟩
        · have htr : eqR Rx Ry = tot := by
            have hk := HKEY.out
            by_cases hR : Rx = Ry
            · rw [eqR_true hR]; exact (hk.1 ⟨he, hR⟩).symm
            · rw [eqR_false hR]; cases tot with | false => rfl | true => exact absurd (hk.2 rfl).2 hR
          rw [htr] at HV10
          simp only at q1 q2 q3 q4 q5 q6 q7 q8 q9 q10 q11
          clear he htr HKEY
          go_wp2_with fail
          refine HV10.out.mono ?_
          rintro e w11 ⟨rfl, b11⟩
          have HB11 := Lib.hid (HB10.out.trans (b11.mono HB10.out.size))
          clear b11
          cases tot
          · go_wp2_with fail
            go_ret
            exact ⟨rfl, HB11.out⟩
          · go_wp2_with fail
            go_ret
            exact ⟨rfl, HB11.out⟩
        · have ht0 : tot = false := by
            cases tot with
            | false => rfl
            | true => exact absurd (HKEY.out.2 rfl).1 he
          subst ht0
          simp only at hq
          clear he HKEY HV10
          rcases hq with q | ⟨q1, q⟩ | ⟨q1, q2, q⟩ | ⟨q1, q2, q3, q⟩ | ⟨q1, q2, q3, q4, q⟩ | ⟨q1, q2, q3, q4, q5, q⟩ | ⟨q1, q2, q3, q4, q5, q6, q⟩ | ⟨q1, q2, q3, q4, q5, q6, q7, q⟩ | ⟨q1, q2, q3, q4, q5, q6, q7, q8, q⟩ | ⟨q1, q2, q3, q4, q5, q6, q7, q8, q9, q⟩ | ⟨q1, q2, q3, q4, q5, q6, q7, q8, q9, q10, q⟩
          all_goals
            go_wp2_with fail
            go_ret
            exact ⟨rfl, HB10.out⟩
end Go.Proofs.YtmioinfhggbfkaaDoor
