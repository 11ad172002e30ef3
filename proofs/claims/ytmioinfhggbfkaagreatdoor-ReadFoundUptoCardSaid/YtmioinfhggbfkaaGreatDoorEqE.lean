/-
  slices.EqualFunc over members by creelkeep.SameEntry: a list is the same as itself, lying elsewhere. No condition.
-/
import Derived.Test.YtmioinfhggbfkaaGreatDoorSameE
import Derived.Test.YtmioinfhggbfkaaGreatDoorPChecksS
import Derived.Test.YtmioinfhggbfkaaGreatDoorSame
namespace Go.Proofs.YtmioinfhggbfkaaGreatDoor
set_option linter.all false
open Go.RowKit
set_option maxRecDepth 100000 in
set_option maxHeartbeats 4000000 in
theorem EqE_same (g : FuncId) (cb : Array Value) (eg : ∀ args w, (callFunc g args).run Tryz.prog w = .ok (.enter g args) w) (v1 v2 : Value) (l : List EntP) (xs ys : List EntV) (w : World) (hl : EntsAt w v1 l xs) (hm : EntsAt w v2 l ys)
    (hp : ∀ (W : World) (x : EntP) (dv dw : Value), Below w.heap.size w W → DataAt W 0 dv x.data → DataAt W 0 dw x.data → Calls Tryz.prog g (#[.agg (entC x dv).toArray, .agg (entC x dw).toArray] ++ cb) W fun e w' => e = .returned (.bool true) ∧ Below W.heap.size W w') :
    Calls Tryz.prog 30 #[v1, v2, .func (.func g) #[] cb] w fun e w' => e = .returned (.bool true) ∧ Below w.heap.size w w' := by
  have HX := Lib.hid (fun W (hb : Below w.heap.size w W) => hl.below hb)
  have HY := Lib.hid (fun W (hb : Below w.heap.size w W) => hm.below hb)
  have HP := Lib.hid hp
  obtain ⟨A, c, -, e1, hlc, hc, -⟩ := hl
  obtain ⟨B, d, -, e2, hmd, hd, -⟩ := hm
  subst e1 e2
  unfold maxLen at hc hd
  clear hp
  have t1 : ((l.length : Int) == (l.length : Int)) = true := beq_self_eq_true _
  go_enter Tryz.func30, Tryz.ntmps30
  go_wp2_with fail
  go_loopg [17] l.length (fun gg s17 wr => ∃ k : Nat, k ≤ l.length ∧ l.length - k ≤ gg ∧ s17 = .int .i64 k ∧ Hid (Below w.heap.size w wr))
  case atStart => exact ⟨0, Nat.zero_le _, by omega, rfl, Lib.hid (Below.refl _ w)⟩
  case round =>
    obtain ⟨k, hk, hg, rfl, HW⟩ := hrel
    by_cases hlt : k < l.length
    · have hltz : (k : Int) < (l.length : Int) := by omega
      have i1 : (0 : Int) ≤ (k : Int) := by omega
      obtain ⟨ad, -, Ax, cx, hA, hb, -, hd1, e0, e1, e2, e3, e4, e5, e6, e7, e8, e9, e10⟩ := (HX.out _ HW.out).read hlt
      obtain ⟨be, -, Ay, cy, hB, hbb, -, hd2, f0, f1, f2, f3, f4, f5, f6, f7, f8, f9, f10⟩ := (HY.out _ HW.out).read hlt
      subst hA hB
      generalize l[k] = x at *
      have HCL := Lib.hid (fun W (hW : Below wr.heap.size wr W) => HP.out W x _ _ (HW.out.trans (hW.mono HW.out.size)) (hd1.below hW) (hd2.below hW))
      obtain ⟨xp, xk, xt, ⟨m1, m2, m3, m4, m5, m6, m7⟩, xd⟩ := x
      unfold entC at HCL
      simp only at hd1 hd2 HCL e0 e1 e2 e3 e4 e5 e6 e7 e8 e9 e10 f0 f1 f2 f3 f4 f5 f6 f7 f8 f9 f10
      clear hd1 hd2
      obtain ⟨W2, hW2⟩ : ∃ W2, W2 = wr.alloc (.cells #[(.string (bs xp)), (.int .i64 xk), (.string (bs xt)), (.int .i64 m1), (.int .i64 m2), (.int .i64 m3), (.string (bs m4)), (.string (bs m5)), (.int .i64 m6), (.int .i64 m7), (.slice Ax xd.length cx)] 40) := ⟨_, rfl⟩
      have b2 : Below wr.heap.size wr W2 := by rw [hW2]; exact (Below.refl _ _).alloc (Nat.le_refl _) _
      have K2 : Blk W2 wr.heap.size 40 #[(.string (bs xp)), (.int .i64 xk), (.string (bs xt)), (.int .i64 m1), (.int .i64 m2), (.int .i64 m3), (.string (bs m4)), (.string (bs m5)), (.int .i64 m6), (.int .i64 m7), (.slice Ax xd.length cx)] := by rw [hW2]; exact Blk.new _ _ _
      obtain ⟨W3, hW3⟩ : ∃ W3, W3 = W2.alloc (.cells #[(.string (bs xp)), (.int .i64 xk), (.string (bs xt)), (.int .i64 m1), (.int .i64 m2), (.int .i64 m3), (.string (bs m4)), (.string (bs m5)), (.int .i64 m6), (.int .i64 m7), (.slice Ay xd.length cy)] 40) := ⟨_, rfl⟩
      have b3 : Below W2.heap.size W2 W3 := by rw [hW3]; exact (Below.refl _ _).alloc (Nat.le_refl _) _
      have K3 : Blk W3 W2.heap.size 40 #[(.string (bs xp)), (.int .i64 xk), (.string (bs xt)), (.int .i64 m1), (.int .i64 m2), (.int .i64 m3), (.string (bs m4)), (.string (bs m5)), (.int .i64 m6), (.int .i64 m7), (.slice Ay xd.length cy)] := by rw [hW3]; exact Blk.new _ _ _
      have HB2 := Lib.hid (b2.trans (b3.mono b2.size))
      have HK2 := Lib.hid (K2.below b3 K2.lt)
      have HK3 := Lib.hid K3
      have HFB := Lib.hid (fun (a : Addr) (u : Value) (h : a.block < wr.heap.size) (e : wr.cell? a = some u) => (b2.cell (p := a) h).trans e)
      have j0 : (be.add (k * 11)).block < wr.heap.size := by rw [block_of_add]; exact hbb
      replace f0 := HFB.out _ _ j0 f0
      replace f1 := HFB.out ⟨(be.add (k * 11)).block, (be.add (k * 11)).off + 1, none⟩ _ j0 f1
      replace f2 := HFB.out ⟨(be.add (k * 11)).block, (be.add (k * 11)).off + 2, none⟩ _ j0 f2
      replace f3 := HFB.out ⟨(be.add (k * 11)).block, (be.add (k * 11)).off + 3, none⟩ _ j0 f3
      replace f4 := HFB.out ⟨(be.add (k * 11)).block, (be.add (k * 11)).off + 4, none⟩ _ j0 f4
      replace f5 := HFB.out ⟨(be.add (k * 11)).block, (be.add (k * 11)).off + 5, none⟩ _ j0 f5
      replace f6 := HFB.out ⟨(be.add (k * 11)).block, (be.add (k * 11)).off + 6, none⟩ _ j0 f6
      replace f7 := HFB.out ⟨(be.add (k * 11)).block, (be.add (k * 11)).off + 7, none⟩ _ j0 f7
      replace f8 := HFB.out ⟨(be.add (k * 11)).block, (be.add (k * 11)).off + 8, none⟩ _ j0 f8
      replace f9 := HFB.out ⟨(be.add (k * 11)).block, (be.add (k * 11)).off + 9, none⟩ _ j0 f9
      replace f10 := HFB.out ⟨(be.add (k * 11)).block, (be.add (k * 11)).off + 10, none⟩ _ j0 f10
      clear b2 K2 b3 K3 j0 hbb hb
      go_upto_region 6 with fail
      rw [← hW2]
      clear hW2 e0 e1 e2 e3 e4 e5 e6 e7 e8 e9 e10
      go_upto_region 7 with fail
      rw [← hW3]
      clear hW3 f0 f1 f2 f3 f4 f5 f6 f7 f8 f9 f10
      have c0 : W3.cell? ⟨wr.heap.size, 0, none⟩ = some (.string (bs xp)) := HK2.out.cell 0
      have c1 : W3.cell? ⟨wr.heap.size, 1, none⟩ = some (.int .i64 xk) := HK2.out.cell 1
      have c2 : W3.cell? ⟨wr.heap.size, 2, none⟩ = some (.string (bs xt)) := HK2.out.cell 2
      have c3 : W3.cell? ⟨wr.heap.size, 3, none⟩ = some (.int .i64 m1) := HK2.out.cell 3
      have c4 : W3.cell? ⟨wr.heap.size, 4, none⟩ = some (.int .i64 m2) := HK2.out.cell 4
      have c5 : W3.cell? ⟨wr.heap.size, 5, none⟩ = some (.int .i64 m3) := HK2.out.cell 5
      have c6 : W3.cell? ⟨wr.heap.size, 6, none⟩ = some (.string (bs m4)) := HK2.out.cell 6
      have c7 : W3.cell? ⟨wr.heap.size, 7, none⟩ = some (.string (bs m5)) := HK2.out.cell 7
      have c8 : W3.cell? ⟨wr.heap.size, 8, none⟩ = some (.int .i64 m6) := HK2.out.cell 8
      have c9 : W3.cell? ⟨wr.heap.size, 9, none⟩ = some (.int .i64 m7) := HK2.out.cell 9
      have c10 : W3.cell? ⟨wr.heap.size, 10, none⟩ = some (.slice Ax xd.length cx) := HK2.out.cell 10
      have d0 : W3.cell? ⟨W2.heap.size, 0, none⟩ = some (.string (bs xp)) := HK3.out.cell 0
      have d1 : W3.cell? ⟨W2.heap.size, 1, none⟩ = some (.int .i64 xk) := HK3.out.cell 1
      have d2 : W3.cell? ⟨W2.heap.size, 2, none⟩ = some (.string (bs xt)) := HK3.out.cell 2
      have d3 : W3.cell? ⟨W2.heap.size, 3, none⟩ = some (.int .i64 m1) := HK3.out.cell 3
      have d4 : W3.cell? ⟨W2.heap.size, 4, none⟩ = some (.int .i64 m2) := HK3.out.cell 4
      have d5 : W3.cell? ⟨W2.heap.size, 5, none⟩ = some (.int .i64 m3) := HK3.out.cell 5
      have d6 : W3.cell? ⟨W2.heap.size, 6, none⟩ = some (.string (bs m4)) := HK3.out.cell 6
      have d7 : W3.cell? ⟨W2.heap.size, 7, none⟩ = some (.string (bs m5)) := HK3.out.cell 7
      have d8 : W3.cell? ⟨W2.heap.size, 8, none⟩ = some (.int .i64 m6) := HK3.out.cell 8
      have d9 : W3.cell? ⟨W2.heap.size, 9, none⟩ = some (.int .i64 m7) := HK3.out.cell 9
      have d10 : W3.cell? ⟨W2.heap.size, 10, none⟩ = some (.slice Ay xd.length cy) := HK3.out.cell 10
      go_wp2_with (go_at_fn g; refine (HCL.out _ HB2.out).mono ?_; rintro e w' ⟨rfl, hb'⟩)
      go_roundg (l.length - (k + 1))
      case measure => omega
      case rel => exact ⟨k + 1, by omega, by omega, by go_num, Lib.hid (HW.out.trans ((HB2.out.trans (hb'.mono HB2.out.size)).mono HW.out.size))⟩
    · obtain rfl : k = l.length := by omega
      go_wp2_with fail
      go_ret
      exact ⟨rfl, HW.out⟩
theorem eg_sameE : ∀ args w, (callFunc 25 args).run Tryz.prog w = .ok (.enter 25 args) w := enters_of Tryz.func25 (by kernel_rfl) rfl
theorem EqE_any (v1 v2 : Value) (l : List EntP) (xs ys : List EntV) (w : World) (hl : EntsAt w v1 l xs) (hm : EntsAt w v2 l ys) :
    Calls Tryz.prog 30 #[v1, v2, .func (.func 25) #[] #[]] w fun e w' => e = .returned (.bool true) ∧ Below w.heap.size w w' :=
  EqE_same 25 #[] eg_sameE v1 v2 l xs ys w hl hm (fun W x dv dw _ h1 h2 => by
    have h := SameEntry_any x x dv dw W h1 h2
    rw [(sameE_iff x x).2 rfl] at h
    exact h)
end Go.Proofs.YtmioinfhggbfkaaGreatDoor

