/-
  read.Find in an archive: the member of the path, or none. Condition: the library's table of powers of ten lies as Go laid it.
-/
import Derived.Test.YtmioinfhggbfkaaGreatDoorWriteB
namespace Go.Proofs.YtmioinfhggbfkaaGreatDoor
set_option linter.all false
open Go.RowKit
/-- in Find's loop -/
def FiSt (w0 : World) (v : Value) (x : List EntP) (W : World) : Prop := Blk W w0.heap.size 40 #[(.string ⟨#[]⟩), (.int .i64 0), (.string ⟨#[]⟩), (.int .i64 0), (.int .i64 0), (.int .i64 0), (.string ⟨#[]⟩), (.string ⟨#[]⟩), (.int .i64 0), (.int .i64 0), (.slice none 0 0)] ∧ Below w0.heap.size w0 W ∧ EntsOwn W w0.heap.size v x
theorem FiSt.below {w0 W W' : World} {v : Value} {x : List EntP} (h : FiSt w0 v x W) (hb : Below W.heap.size W W') : FiSt w0 v x W' := ⟨h.1.below hb h.1.lt, h.2.1.trans (hb.mono h.2.1.size), h.2.2.below hb⟩
theorem find_first {x : List EntP} {s : List UInt8} {k : Nat} (hk : k < x.length) (h : ∀ j (hj : j < x.length), j < k → x[j].path ≠ s) (e : x[k].path = s) : x.find? (fun y => y.path == s) = some x[k] := by
  rw [List.find?_eq_some_iff_getElem]
  refine ⟨by simpa using e, k, hk, rfl, fun j hj => ?_⟩
  have := h j (by omega) hj
  simpa using this
theorem find_none {x : List EntP} {s : List UInt8} (h : ∀ j (hj : j < x.length), j < x.length → x[j].path ≠ s) : x.find? (fun y => y.path == s) = none := by
  rw [List.find?_eq_none]
  intro y hy
  obtain ⟨j, hj, rfl⟩ := List.getElem_of_mem hy
  simpa using h j hj hj
/-- what Find answers -/
def FindPost (x : List EntP) (s : List UInt8) (w : World) (e : Ending) (w' : World) : Prop := Below w.heap.size w w' ∧ match x.find? (fun y => y.path == s) with
  | some y => ∃ A c, e = .returned (.tuple #[.agg (entC y (.slice A y.data.length c)).toArray, .int .i64 0]) ∧ DataAt w' w.heap.size (.slice A y.data.length c) y.data
  | none => e = .returned (.tuple #[.agg entZA, .int .i64 5])
set_option maxRecDepth 100000 in
set_option maxHeartbeats 4000000 in
theorem Find_arc (x : List EntP) (hok : EntsOk x) (s : List UInt8) (v : Value) (w : World) (hm : ∀ W, Below w.heap.size w W → ML W) (h10 : ∀ W, Below w.heap.size w W → P10 W) (hv : BytesAt w w.heap.size v (arcB x ++ endB)) :
    Calls Tryz.prog 31 #[v, .string (bs s)] w fun e w' => FindPost x s w e w' := by
  have HAR := Lib.hid (fun W (hb : Below w.heap.size w W) => Archive_back x hok v W (fun W' hb' => hm W' (hb.trans (hb'.mono hb.size))) (fun W' hb' => h10 W' (hb.trans (hb'.mono hb.size))) ((hv.below hb).more hb.size))
  obtain ⟨Ab, cb, ev, -⟩ := hv
  generalize (List.map ofB (arcB x ++ endB)).length = nb at ev
  subst ev
  have hxl := hok.len
  clear hm h10 hok
  obtain ⟨w0, hw0⟩ : ∃ w0, w0 = w.alloc (.cells #[(.string ⟨#[]⟩), (.int .i64 0), (.string ⟨#[]⟩), (.int .i64 0), (.int .i64 0), (.int .i64 0), (.string ⟨#[]⟩), (.string ⟨#[]⟩), (.int .i64 0), (.int .i64 0), (.slice none 0 0)] 40) := ⟨_, rfl⟩
  have hS := entZ_blk w
  rw [← hw0] at hS
  have HS := Lib.hid hS
  clear hS
  go_enter Tryz.func31, Tryz.ntmps31
  go_upto_region 1 with fail
  rw [← hw0]
  clear hw0
  go_wp2_with fail
  refine (HAR.out _ HS.out.2).mono ?_
  rintro e w1 ⟨lv, rfl, hlv, b1⟩
  have HF1 : Hid (FiSt w lv x w1) := Lib.hid ⟨HS.out.1.below b1 HS.out.1.lt, HS.out.2.trans (b1.mono HS.out.2.size), hlv.mono HS.out.2.size⟩
  obtain ⟨A1, c1, rfl, hc1, hc2⟩ := hlv.slice
  unfold maxLen at hc2
  clear hlv b1 HS HAR
  go_wp2_with fail
  go_loopg [9, 21] x.length (fun gg s9 s21 wr => ∃ k : Nat, k ≤ x.length ∧ x.length - k ≤ gg ∧ s21 = .int .i64 k ∧ Hid (FiSt w (.slice A1 x.length c1) x wr) ∧ Hid (∀ j (hj : j < x.length), j < k → x[j].path ≠ s))
  case atStart => exact ⟨0, Nat.zero_le _, by omega, rfl, HF1, Lib.hid (fun j hj h => absurd h (Nat.not_lt_zero _))⟩
  case round =>
    obtain ⟨k, hk, hg, rfl, HF, HN⟩ := hrel
    by_cases hlt : k < x.length
    · have hltz : (k : Int) < (x.length : Int) := by omega
      have i1 : (0 : Int) ≤ (k : Int) := by omega
      obtain ⟨xs, hxs⟩ := EntsRow.at_ HF.out.2.2
      obtain ⟨ad, -, Ax, cx, hA, hb, -, hd0, e0, e1, e2, e3, e4, e5, e6, e7, e8, e9, e10⟩ := hxs.read hlt
      subst hA
      have hd1 : DataAt wr w.heap.size (.slice Ax x[k].data.length cx) x[k].data := by
        obtain ⟨g, cg, hvv, -, -, -, -, -, hrow⟩ := HF.out.2.2.row (by omega)
        obtain ⟨A', c', hd, -, hcells⟩ := hrow k hlt
        have h10 := hcells 10 (by omega)
        injection hvv with hv1 _ _
        injection hv1 with hv1
        subst hv1
        rw [add_flat] at e10
        simp only [Nat.zero_add] at e10 h10
        rw [e10] at h10
        have h11 : (entC x[k] (.slice A' x[k].data.length c'))[10]? = some (.slice A' x[k].data.length c') := rfl
        rw [h11] at h10
        injection h10 with h10
        rw [h10]
        exact hd
      have HFND := Lib.hid (fun e => find_first hlt HN.out e)
      have HNX : Hid (x[k].path ≠ s → ∀ j (hj : j < x.length), j < k + 1 → x[j].path ≠ s) := Lib.hid (fun h j hj hjk => by
        by_cases e : j = k
        · subst e; exact h
        · exact HN.out j hj (by omega))
      have HD1 := Lib.hid hd1
      clear hd0 hd1 hxs HN
      generalize x[k] = y at *
      obtain ⟨xp, xk, xt, ⟨m1, m2, m3, m4, m5, m6, m7⟩, xd⟩ := y
      simp only at HD1 HFND HNX e0 e1 e2 e3 e4 e5 e6 e7 e8 e9 e10
      obtain ⟨W2, hW2⟩ : ∃ W2, W2 = wr.alloc (.cells #[(.string (bs xp)), (.int .i64 xk), (.string (bs xt)), (.int .i64 m1), (.int .i64 m2), (.int .i64 m3), (.string (bs m4)), (.string (bs m5)), (.int .i64 m6), (.int .i64 m7), (.slice Ax xd.length cx)] 40) := ⟨_, rfl⟩
      obtain ⟨g9, hg9⟩ : ∃ g9, g9 = wr.heap.size := ⟨_, rfl⟩
      have b2 : Below wr.heap.size wr W2 := by rw [hW2]; exact (Below.refl _ _).alloc (Nat.le_refl _) _
      have hk9 : Blk W2 g9 40 #[(.string (bs xp)), (.int .i64 xk), (.string (bs xt)), (.int .i64 m1), (.int .i64 m2), (.int .i64 m3), (.string (bs m4)), (.string (bs m5)), (.int .i64 m6), (.int .i64 m7), (.slice Ax xd.length cx)] := by rw [hW2, hg9]; exact Blk.new _ _ _
      have HF2 := Lib.hid (HF.out.below b2)
      have HD2 := Lib.hid (HD1.out.below b2)
      clear b2 HF HD1
      go_upto_region 7 with fail
      rw [← hW2, ← hg9]
      clear hW2 hg9 e0 e1 e2 e3 e4 e5 e6 e7 e8 e9 e10
      have p0 : W2.cell? ⟨g9, 0, none⟩ = some (.string (bs xp)) := hk9.cell 0
      have p1 : W2.cell? ⟨g9, 1, none⟩ = some (.int .i64 xk) := hk9.cell 1
      have p2 : W2.cell? ⟨g9, 2, none⟩ = some (.string (bs xt)) := hk9.cell 2
      have p3 : W2.cell? ⟨g9, 3, none⟩ = some (.int .i64 m1) := hk9.cell 3
      have p4 : W2.cell? ⟨g9, 4, none⟩ = some (.int .i64 m2) := hk9.cell 4
      have p5 : W2.cell? ⟨g9, 5, none⟩ = some (.int .i64 m3) := hk9.cell 5
      have p6 : W2.cell? ⟨g9, 6, none⟩ = some (.string (bs m4)) := hk9.cell 6
      have p7 : W2.cell? ⟨g9, 7, none⟩ = some (.string (bs m5)) := hk9.cell 7
      have p8 : W2.cell? ⟨g9, 8, none⟩ = some (.int .i64 m6) := hk9.cell 8
      have p9 : W2.cell? ⟨g9, 9, none⟩ = some (.int .i64 m7) := hk9.cell 9
      have p10 : W2.cell? ⟨g9, 10, none⟩ = some (.slice Ax xd.length cx) := hk9.cell 10
      by_cases hs : xp = s
      · have t1 : ((bs xp).toList == (bs s).toList) = true := by rw [bs_beq]; simpa using hs
        have HE := Lib.hid (HFND.out hs)
        clear hs HFND HNX
        have z0 : W2.cell? ⟨w.heap.size, 0, none⟩ = some (.string ⟨#[]⟩) := HF2.out.1.cell 0; have f0 := HF2.out.1.frozen 0
        have z1 : W2.cell? ⟨w.heap.size, 1, none⟩ = some (.int .i64 0) := HF2.out.1.cell 1; have f1 := HF2.out.1.frozen 1
        have z2 : W2.cell? ⟨w.heap.size, 2, none⟩ = some (.string ⟨#[]⟩) := HF2.out.1.cell 2; have f2 := HF2.out.1.frozen 2
        have z3 : W2.cell? ⟨w.heap.size, 3, none⟩ = some (.int .i64 0) := HF2.out.1.cell 3; have f3 := HF2.out.1.frozen 3
        have z4 : W2.cell? ⟨w.heap.size, 4, none⟩ = some (.int .i64 0) := HF2.out.1.cell 4; have f4 := HF2.out.1.frozen 4
        have z5 : W2.cell? ⟨w.heap.size, 5, none⟩ = some (.int .i64 0) := HF2.out.1.cell 5; have f5 := HF2.out.1.frozen 5
        have z6 : W2.cell? ⟨w.heap.size, 6, none⟩ = some (.string ⟨#[]⟩) := HF2.out.1.cell 6; have f6 := HF2.out.1.frozen 6
        have z7 : W2.cell? ⟨w.heap.size, 7, none⟩ = some (.string ⟨#[]⟩) := HF2.out.1.cell 7; have f7 := HF2.out.1.frozen 7
        have z8 : W2.cell? ⟨w.heap.size, 8, none⟩ = some (.int .i64 0) := HF2.out.1.cell 8; have f8 := HF2.out.1.frozen 8
        have z9 : W2.cell? ⟨w.heap.size, 9, none⟩ = some (.int .i64 0) := HF2.out.1.cell 9; have f9 := HF2.out.1.frozen 9
        have z10 : W2.cell? ⟨w.heap.size, 10, none⟩ = some (.slice none 0 0) := HF2.out.1.cell 10; have f10 := HF2.out.1.frozen 10
        go_wp2_with fail
        clear p0 z0 f0 p1 z1 f1 p2 z2 f2 p3 z3 f3 p4 z4 f4 p5 z5 f5 p6 z6 f6 p7 z7 f7 p8 z8 f8 p9 z9 f9 p10 z10 f10
        have hHB : HasBlk W2 w.heap.size 40 11 := ⟨_, rfl, HF2.out.1⟩
        obtain ⟨WE, hWE⟩ : ∃ WE, WE = setAll W2 w.heap.size 0 [(.string (bs xp)), (.int .i64 xk), (.string (bs xt)), (.int .i64 m1), (.int .i64 m2), (.int .i64 m3), (.string (bs m4)), (.string (bs m5)), (.int .i64 m6), (.int .i64 m7), (.slice Ax xd.length cx)] := ⟨_, rfl⟩
        have hk := hHB.fill [(.string (bs xp)), (.int .i64 xk), (.string (bs xt)), (.int .i64 m1), (.int .i64 m2), (.int .i64 m3), (.string (bs m4)), (.string (bs m5)), (.int .i64 m6), (.int .i64 m7), (.slice Ax xd.length cx)] rfl
        have hD := HD2.out.kept (U8Kept.setAll (by decide) [(.string (bs xp)), (.int .i64 xk), (.string (bs xt)), (.int .i64 m1), (.int .i64 m2), (.int .i64 m3), (.string (bs m4)), (.string (bs m5)), (.int .i64 m6), (.int .i64 m7), (.slice Ax xd.length cx)] 0 hHB)
        have hBE := Below.setAll (B := w.heap.size) (g := w.heap.size) (Nat.le_refl _) [(.string (bs xp)), (.int .i64 xk), (.string (bs xt)), (.int .i64 m1), (.int .i64 m2), (.int .i64 m3), (.string (bs m4)), (.string (bs m5)), (.int .i64 m6), (.int .i64 m7), (.slice Ax xd.length cx)] 0 HF2.out.2.1
        rw [← hWE] at hk hBE hD
        simp only [setAll, Nat.zero_add, Nat.reduceAdd] at hWE
        rw [← hWE]
        clear hWE hHB
        have x0 : WE.cell? ⟨w.heap.size, 0, none⟩ = some (.string (bs xp)) := hk.cell 0
        have x1 : WE.cell? ⟨w.heap.size, 1, none⟩ = some (.int .i64 xk) := hk.cell 1
        have x2 : WE.cell? ⟨w.heap.size, 2, none⟩ = some (.string (bs xt)) := hk.cell 2
        have x3 : WE.cell? ⟨w.heap.size, 3, none⟩ = some (.int .i64 m1) := hk.cell 3
        have x4 : WE.cell? ⟨w.heap.size, 4, none⟩ = some (.int .i64 m2) := hk.cell 4
        have x5 : WE.cell? ⟨w.heap.size, 5, none⟩ = some (.int .i64 m3) := hk.cell 5
        have x6 : WE.cell? ⟨w.heap.size, 6, none⟩ = some (.string (bs m4)) := hk.cell 6
        have x7 : WE.cell? ⟨w.heap.size, 7, none⟩ = some (.string (bs m5)) := hk.cell 7
        have x8 : WE.cell? ⟨w.heap.size, 8, none⟩ = some (.int .i64 m6) := hk.cell 8
        have x9 : WE.cell? ⟨w.heap.size, 9, none⟩ = some (.int .i64 m7) := hk.cell 9
        have x10 : WE.cell? ⟨w.heap.size, 10, none⟩ = some (.slice Ax xd.length cx) := hk.cell 10
        exact bodyPost_ret (v := .tuple #[.agg #[(.string (bs xp)), (.int .i64 xk), (.string (bs xt)), (.int .i64 m1), (.int .i64 m2), (.int .i64 m3), (.string (bs m4)), (.string (bs m5)), (.int .i64 m6), (.int .i64 m7), (.slice Ax xd.length cx)], .int .i64 0]) (by simp [results, Tryz.results31, go_sem, x0, x1, x2, x3, x4, x5, x6, x7, x8, x9, x10]) rfl ⟨hBE, by rw [HE.out]; exact ⟨_, _, rfl, hD⟩⟩
      · have t1 : ((bs xp).toList == (bs s).toList) = false := by rw [bs_beq]; simpa using hs
        have HN2 := Lib.hid (HNX.out hs)
        clear hs HFND HNX
        go_wp2_with fail
        go_roundg (x.length - (k + 1))
        case measure => omega
        case rel => exact ⟨k + 1, by omega, by omega, by go_num, HF2, HN2⟩
    · obtain rfl : k = x.length := by omega
      have HE := Lib.hid (find_none HN.out)
      clear HN
      have z0 : wr.cell? ⟨w.heap.size, 0, none⟩ = some (.string ⟨#[]⟩) := HF.out.1.cell 0; have f0 := HF.out.1.frozen 0
      have z1 : wr.cell? ⟨w.heap.size, 1, none⟩ = some (.int .i64 0) := HF.out.1.cell 1; have f1 := HF.out.1.frozen 1
      have z2 : wr.cell? ⟨w.heap.size, 2, none⟩ = some (.string ⟨#[]⟩) := HF.out.1.cell 2; have f2 := HF.out.1.frozen 2
      have z3 : wr.cell? ⟨w.heap.size, 3, none⟩ = some (.int .i64 0) := HF.out.1.cell 3; have f3 := HF.out.1.frozen 3
      have z4 : wr.cell? ⟨w.heap.size, 4, none⟩ = some (.int .i64 0) := HF.out.1.cell 4; have f4 := HF.out.1.frozen 4
      have z5 : wr.cell? ⟨w.heap.size, 5, none⟩ = some (.int .i64 0) := HF.out.1.cell 5; have f5 := HF.out.1.frozen 5
      have z6 : wr.cell? ⟨w.heap.size, 6, none⟩ = some (.string ⟨#[]⟩) := HF.out.1.cell 6; have f6 := HF.out.1.frozen 6
      have z7 : wr.cell? ⟨w.heap.size, 7, none⟩ = some (.string ⟨#[]⟩) := HF.out.1.cell 7; have f7 := HF.out.1.frozen 7
      have z8 : wr.cell? ⟨w.heap.size, 8, none⟩ = some (.int .i64 0) := HF.out.1.cell 8; have f8 := HF.out.1.frozen 8
      have z9 : wr.cell? ⟨w.heap.size, 9, none⟩ = some (.int .i64 0) := HF.out.1.cell 9; have f9 := HF.out.1.frozen 9
      have z10 : wr.cell? ⟨w.heap.size, 10, none⟩ = some (.slice none 0 0) := HF.out.1.cell 10; have f10 := HF.out.1.frozen 10
      go_wp2_with fail
      clear z0 f0 z1 f1 z2 f2 z3 f3 z4 f4 z5 f5 z6 f6 z7 f7 z8 f8 z9 f9 z10 f10
      have hHB : HasBlk wr w.heap.size 40 11 := ⟨_, rfl, HF.out.1⟩
      obtain ⟨WE, hWE⟩ : ∃ WE, WE = setAll wr w.heap.size 0 [(.string ⟨#[]⟩), (.int .i64 0), (.string ⟨#[]⟩), (.int .i64 0), (.int .i64 0), (.int .i64 0), (.string ⟨#[]⟩), (.string ⟨#[]⟩), (.int .i64 0), (.int .i64 0), (.slice none 0 0)] := ⟨_, rfl⟩
      have hk := hHB.fill [(.string ⟨#[]⟩), (.int .i64 0), (.string ⟨#[]⟩), (.int .i64 0), (.int .i64 0), (.int .i64 0), (.string ⟨#[]⟩), (.string ⟨#[]⟩), (.int .i64 0), (.int .i64 0), (.slice none 0 0)] rfl
      have hBE := Below.setAll (B := w.heap.size) (g := w.heap.size) (Nat.le_refl _) [(.string ⟨#[]⟩), (.int .i64 0), (.string ⟨#[]⟩), (.int .i64 0), (.int .i64 0), (.int .i64 0), (.string ⟨#[]⟩), (.string ⟨#[]⟩), (.int .i64 0), (.int .i64 0), (.slice none 0 0)] 0 HF.out.2.1
      rw [← hWE] at hk hBE
      simp only [setAll, Nat.zero_add, Nat.reduceAdd] at hWE
      rw [← hWE]
      clear hWE hHB
      have x0 : WE.cell? ⟨w.heap.size, 0, none⟩ = some (.string ⟨#[]⟩) := hk.cell 0
      have x1 : WE.cell? ⟨w.heap.size, 1, none⟩ = some (.int .i64 0) := hk.cell 1
      have x2 : WE.cell? ⟨w.heap.size, 2, none⟩ = some (.string ⟨#[]⟩) := hk.cell 2
      have x3 : WE.cell? ⟨w.heap.size, 3, none⟩ = some (.int .i64 0) := hk.cell 3
      have x4 : WE.cell? ⟨w.heap.size, 4, none⟩ = some (.int .i64 0) := hk.cell 4
      have x5 : WE.cell? ⟨w.heap.size, 5, none⟩ = some (.int .i64 0) := hk.cell 5
      have x6 : WE.cell? ⟨w.heap.size, 6, none⟩ = some (.string ⟨#[]⟩) := hk.cell 6
      have x7 : WE.cell? ⟨w.heap.size, 7, none⟩ = some (.string ⟨#[]⟩) := hk.cell 7
      have x8 : WE.cell? ⟨w.heap.size, 8, none⟩ = some (.int .i64 0) := hk.cell 8
      have x9 : WE.cell? ⟨w.heap.size, 9, none⟩ = some (.int .i64 0) := hk.cell 9
      have x10 : WE.cell? ⟨w.heap.size, 10, none⟩ = some (.slice none 0 0) := hk.cell 10
      exact bodyPost_ret (v := .tuple #[.agg #[(.string ⟨#[]⟩), (.int .i64 0), (.string ⟨#[]⟩), (.int .i64 0), (.int .i64 0), (.int .i64 0), (.string ⟨#[]⟩), (.string ⟨#[]⟩), (.int .i64 0), (.int .i64 0), (.slice none 0 0)], .int .i64 5]) (by simp [results, Tryz.results31, go_sem, x0, x1, x2, x3, x4, x5, x6, x7, x8, x9, x10]) rfl ⟨hBE, by rw [HE.out]; rfl⟩
end Go.Proofs.YtmioinfhggbfkaaGreatDoor

