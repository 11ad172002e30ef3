/-
  The laws HeadBack and HeadTurned: what they compute is true. Condition: a text of at most 1048576 bytes.
-/
import Derived.Test.YtnbggojmbdgkmaaDoorHeadLaws
import Derived.Test.YtnbggojmbdgkmaaDoorHeadRead
import Derived.Test.YtnbggojmbdgkmaaDoorHeadTurn
import Derived.Test.YtnbggojmbdgkmaaDoorSum
namespace Go.Proofs.YtnbggojmbdgkmaaDoor
open Go.RowKit

def headNone : Array Value := #[.string ⟨#[]⟩, .string ⟨#[]⟩, .string ⟨#[]⟩, .int .i64 0, .int .i64 0, .int .i64 0, .int .i64 0, .int .i64 0, .int .u8 0, .string ⟨#[]⟩, .string ⟨#[]⟩]
set_option maxRecDepth 100000 in
set_option maxHeartbeats 2000000 in
/-- a block whose own sum is another one -/
theorem HRead_bad (l : List UInt8) (hl : l.length = 512) (hbad : ¬ sumOk l) (w : World) :
    Calls Tryd.prog 19 #[.string (bs l)] w fun e w' => e = .returned (.tuple #[.agg headNone, .int .i64 8]) ∧ Below w.heap.size w w' := by
  have hS := Lib.hid (fun w => HSum_any l hl w)
  have hF := Lib.hid (fun w => ORead_any (bs (sumF l)) (by rw [bs_size, sumF_length hl]; omega) w)
  rw [bs_data] at hF
  have x1 : (bs l).extract 148 155 = bs (sumF l) := by rw [bs_extract]; rfl
  have zW := bs_size l
  rw [hl] at zW
  have hbd := hsum_bd l 512
  have x2 : ∀ hh : 155 < (bs l).size, (((bs l)[155]'hh).toNat : Int) = ((l.getD 155 0).toNat : Int) := by
    intro hh
    rw [bs_get l 155 hh]
  have hb : (octRead (sumF l)).2 ≠ 0 ∨ ((octRead (sumF l)).2 = 0 ∧ (octRead (sumF l)).1 ≠ (hsum l 512 : Int)) ∨ ((octRead (sumF l)).2 = 0 ∧ (octRead (sumF l)).1 = (hsum l 512 : Int) ∧ ((l.getD 155 0).toNat : Int) ≠ 32) := by
    by_cases h1 : (octRead (sumF l)).2 = 0
    · by_cases h2 : (octRead (sumF l)).1 = (hsum l 512 : Int)
      · refine .inr (.inr ⟨h1, h2, fun h3 => hbad ⟨Prod.ext h2 h1, ?_⟩⟩)
        rw [List.getElem?_eq_getElem (by omega)]
        have h4 : l.getD 155 0 = l[155]'(by omega) := by rw [List.getD_eq_getElem?_getD, List.getElem?_eq_getElem (by omega)]; rfl
        rw [h4] at h3
        congr 1
        exact UInt8.toNat.inj (by have : (32 : UInt8).toNat = 32 := rfl; omega)
      · exact .inr (.inl ⟨h1, h2⟩)
    · exact .inl h1
  generalize octRead (sumF l) = on at *
  obtain ⟨n, e⟩ := on
  simp only at hb hF
  generalize hsum l 512 = S at *
  generalize ((l.getD 155 0).toNat : Int) = q at *
  clear hbad hl
  generalize bs (sumF l) = bF at *
  generalize bs l = BW at *
  replace x2 := x2 (by omega)
  have BA := Lib.hid ((Below.refl w.heap.size w).alloc (Nat.le_refl _) (.cells headNone 28))
  have fin : ∀ W : World, W = w.alloc (.cells headNone 28) → ∀ i, i < 11 → W.cell? ⟨w.heap.size, i, none⟩ = headNone[i]? := fun W h i _ => by rw [h]; exact (Blk.new w 28 headNone).cell i
  have FIN := Lib.hid fin
  clear fin
  have hb' : ((e != 0) = true) ∨ (((e != 0) = false) ∧ ((n != (S : Int)) = true)) ∨ (((e != 0) = false) ∧ ((n != (S : Int)) = false) ∧ ((q != 32) = true)) := by
    rcases hb with h | ⟨h1, h⟩ | ⟨h1, h2, h⟩
    · exact .inl (by simpa using h)
    · exact .inr (.inl ⟨by simp [h1], by simpa using h⟩)
    · exact .inr (.inr ⟨by simp [h1], by simp [h2], by simpa using h⟩)
  clear hb hbd
  rcases hb' with t1 | ⟨t1, t2⟩ | ⟨t1, t2, t3⟩
  all_goals
    go_enter Tryd.func19, Tryd.ntmps19
    go_wp2_with fail
    refine (hS.out _).mono ?_
    rintro e' w' ⟨rfl, rfl⟩
    go_wp2_with fail
    refine (hF.out _).mono ?_
    rintro e' w' ⟨rfl, rfl⟩
    go_wp2_with fail
    exact bodyPost_ret (v := .tuple #[.agg headNone, .int .i64 8]) (by simp [results, Tryd.results19, go_sem, headNone]) rfl ⟨rfl, BA.out⟩

set_option maxRecDepth 100000 in
set_option maxHeartbeats 2000000 in
theorem HeadBack_walk (w : World) (hsh : w.ShapedOpen Tryd.prog) (r : RawS) (h : RawOk r) :
    Calls Tryd.prog 4 #[rawV r] w fun e w' => e = .returned (.bool true) ∧ Below w.heap.size w w' := by
  have hm := ML.of_shaped hsh
  clear hsh
  have hok := headP_ok r
  have HO := Lib.hid (fun w hm => headOf_any r h w hm)
  have HW := Lib.hid (fun w => HWrite_ok (headP r) hok w)
  have HR := Lib.hid (fun w => HRead_good (headP r) hok w)
  have hl := headW_length hok
  have hz := bs_size (headW (headP r))
  rw [hl] at hz
  have b0 : Below w.heap.size w (w.alloc (.cells #[.int .i64 r.kind, .int .i64 r.a, .int .i64 r.b, .string (bs r.text)] 23)) := (Below.refl _ w).alloc (Nat.le_refl _) _
  have B0 := Lib.hid b0
  have HM := Lib.hid (hm.below b0)
  clear b0 hm hok hl
  unfold rawV at HO ⊢
  generalize headW (headP r) = L at *
  generalize headP r = P at *
  obtain ⟨kd, ra, rb, text⟩ := r
  obtain ⟨name, pre, link, mode, uid, gid, size, time, type, user, group⟩ := P
  unfold headV headCells at HO HW HR
  simp only at HO B0 HM HW HR
  generalize bs text = bt at *
  generalize bs L = bL at *
  generalize bs name = b1 at *
  generalize bs pre = b2 at *
  generalize bs link = b3 at *
  generalize bs user = b4 at *
  generalize bs group = b5 at *
  generalize (type.toNat : Int) = ty at *
  go_enter Tryd.func4, Tryd.ntmps4
  go_wp2_with fail
  refine (HO.out _ HM.out).mono ?_
  rintro e w1 ⟨rfl, c1⟩
  have B1 := Lib.hid (B0.out.trans (c1.mono B0.out.size))
  clear c1
  obtain ⟨W1, hW1⟩ : ∃ W1, W1 = w1.alloc (.cells #[.string b1, .string b2, .string b3, .int .i64 mode, .int .i64 uid, .int .i64 gid, .int .i64 size, .int .i64 time, .int .u8 ty, .string b4, .string b5] 28) := ⟨_, rfl⟩
  have K1 := Lib.hid (show Blk W1 w1.heap.size 28 #[.string b1, .string b2, .string b3, .int .i64 mode, .int .i64 uid, .int .i64 gid, .int .i64 size, .int .i64 time, .int .u8 ty, .string b4, .string b5] from by rw [hW1]; exact Blk.new _ _ _)
  have B2 := Lib.hid (show Below w.heap.size w W1 from by rw [hW1]; exact B1.out.alloc B1.out.size _)
  go_wp2_with fail
  rw [← hW1]
  clear hW1
  refine (HW.out _).mono ?_
  rintro e w2 ⟨rfl, c2⟩
  have K2 := Lib.hid (K1.out.below c2 K1.out.lt)
  have B3 := Lib.hid (B2.out.trans (c2.mono B2.out.size))
  clear c2
  go_wp2_with fail
  refine (HR.out _).mono ?_
  rintro e w3 ⟨rfl, c3⟩
  have K3 := Lib.hid (K2.out.below c3 K2.out.lt)
  have B4 := Lib.hid (B3.out.trans (c3.mono B3.out.size))
  clear c3
  obtain ⟨W3, hW3⟩ : ∃ W3, W3 = w3.alloc (.cells #[.string b1, .string b2, .string b3, .int .i64 mode, .int .i64 uid, .int .i64 gid, .int .i64 size, .int .i64 time, .int .u8 ty, .string b4, .string b5] 28) := ⟨_, rfl⟩
  have K4 := Lib.hid (show Blk W3 w1.heap.size 28 #[.string b1, .string b2, .string b3, .int .i64 mode, .int .i64 uid, .int .i64 gid, .int .i64 size, .int .i64 time, .int .u8 ty, .string b4, .string b5] from by rw [hW3]; exact K3.out.alloc _)
  have K5 := Lib.hid (show Blk W3 w3.heap.size 28 #[.string b1, .string b2, .string b3, .int .i64 mode, .int .i64 uid, .int .i64 gid, .int .i64 size, .int .i64 time, .int .u8 ty, .string b4, .string b5] from by rw [hW3]; exact Blk.new _ _ _)
  have B5 := Lib.hid (show Below w.heap.size w W3 from by rw [hW3]; exact B4.out.alloc B4.out.size _)
  have hp := hW3
  clear hW3
  have e0 := K4.out.cell 0
  have e1 := K4.out.cell 1
  have e2 := K4.out.cell 2
  have e3 := K4.out.cell 3
  have e4 := K4.out.cell 4
  have e5 := K4.out.cell 5
  have e6 := K4.out.cell 6
  have e7 := K4.out.cell 7
  have e8 := K4.out.cell 8
  have e9 := K4.out.cell 9
  have e10 := K4.out.cell 10
  have f0 := K5.out.cell 0
  have f1 := K5.out.cell 1
  have f2 := K5.out.cell 2
  have f3 := K5.out.cell 3
  have f4 := K5.out.cell 4
  have f5 := K5.out.cell 5
  have f6 := K5.out.cell 6
  have f7 := K5.out.cell 7
  have f8 := K5.out.cell 8
  have f9 := K5.out.cell 9
  have f10 := K5.out.cell 10
  rw [hp] at e0 e1 e2 e3 e4 e5 e6 e7 e8 e9 e10
  have HP := Lib.hid hp
  clear hp f0 f1 f2 f3 f4 f5 f6 f7 f8 f9 f10
  go_wp2_with fail
  go_ret
  exact ⟨rfl, B4.out.alloc B4.out.size _⟩

/-- the one byte that is another one -/
theorem turnL_set (l : List UInt8) (hne : l ≠ []) (at_ by_ : Int) (hb : U8 by_) : ∃ (p : Nat) (d : UInt8), p < l.length ∧ l[p]? ≠ some d ∧ turnL (l.map ofB) at_ by_ = (l.set p d).map ofB := by
  obtain ⟨a, b, x, y, h1, h2, h3, _, hy, _⟩ := turnL_at (l.map ofB) at_ by_ (ofB_u8 l) hb (by simpa using hne)
  obtain ⟨d, hd⟩ := byteOf y hy
  have hd : ofB d = y := hd.symm
  have hp : a.length < l.length := by
    have := congrArg List.length h1
    simp at this
    omega
  refine ⟨a.length, d, hp, fun e => ?_, ?_⟩
  · have e2 : (l.map ofB)[a.length]? = some y := by rw [List.getElem?_map, e, ← hd]; rfl
    rw [h1, List.getElem?_append_right (Nat.le_refl _), Nat.sub_self] at e2
    exact h3 (by simpa using e2)
  · rw [h2, List.map_set, h1, hd, List.set_append_right _ _ (Nat.le_refl _), Nat.sub_self]
    rfl
set_option maxRecDepth 100000 in
set_option maxHeartbeats 2000000 in
theorem HeadTurned_walk (w : World) (hsh : w.ShapedOpen Tryd.prog) (r : RawS) (h : RawOk r) (a : Int) (ha : I64 a) (c : Int) (hc : U8 c) :
    Calls Tryd.prog 5 #[rawV r, .int .i64 a, .int .u8 c] w fun e w' => e = .returned (.bool true) ∧ Below w.heap.size w w' := by
  have hm := ML.of_shaped hsh
  clear hsh
  have hok := headP_ok r
  have HO := Lib.hid (fun w hm => headOf_any r h w hm)
  have HW := Lib.hid (fun w => HWrite_ok (headP r) hok w)
  have hl := headW_length hok
  have hz := bs_size (headW (headP r))
  rw [hl] at hz
  obtain ⟨p, d, hp, hd, ht⟩ := turnL_set (headW (headP r)) (by intro e; rw [e] at hl; simp at hl) a c hc
  have hbad := turned_bad hok p (by omega) d hd
  have hl2 : ((headW (headP r)).set p d).length = 512 := by rw [List.length_set]; exact hl
  have HR := Lib.hid (fun w => HRead_bad ((headW (headP r)).set p d) hl2 hbad w)
  have HT := Lib.hid ht
  have HL := Lib.hid hl
  have b0 : Below w.heap.size w (w.alloc (.cells #[.int .i64 r.kind, .int .i64 r.a, .int .i64 r.b, .string (bs r.text)] 23)) := (Below.refl _ w).alloc (Nat.le_refl _) _
  have B0 := Lib.hid b0
  have HM := Lib.hid (hm.below b0)
  clear b0 hm hok hl ht hbad hd hp hl2
  unfold rawV at HO ⊢
  generalize headV (headP r) = hv at *
  generalize headW (headP r) = L at *
  obtain ⟨kd, ra, rb, text⟩ := r
  simp only at HO B0 HM
  generalize bs text = bt at *
  have HCV := Lib.hid (fun w => conv_sb_at L w (by rw [HL.out]; omega))
  generalize bs L = bL at *
  have HBK := Lib.hid (fun (w : World) (B : Nat) (v : Value) (h : BytesAt w B v (L.set p d)) => conv_str h)
  generalize bs (L.set p d) = bL2 at *
  go_enter Tryd.func5, Tryd.ntmps5
  go_wp2_with fail
  refine (HO.out _ HM.out).mono ?_
  rintro e w1 ⟨rfl, c1⟩
  have B1 := Lib.hid (B0.out.trans (c1.mono B0.out.size))
  clear c1
  go_wp2_with fail
  refine (HW.out _).mono ?_
  rintro e w2 ⟨rfl, c2⟩
  have B2 := Lib.hid (B1.out.trans (c2.mono B1.out.size))
  clear c2
  obtain ⟨v, w3, hcv, hv3, c3⟩ := HCV.out w2
  have B3 := Lib.hid (B2.out.trans (c3.mono B2.out.size))
  have HV3 := Lib.hid hv3
  clear c3 hv3
  go_wp2_with fail
  refine (Turned_any v (L.map ofB) a c _ HV3.out (ofB_u8 L) (by rw [List.length_map, HL.out]; decide) ha hc).mono ?_
  rintro e w4 ⟨v4, rfl, hv4, c4⟩
  have B4 := Lib.hid (B3.out.trans (c4.mono B3.out.size))
  rw [HT.out] at hv4
  have hcb := HBK.out _ _ _ hv4
  clear c4 hv4 hcv
  go_wp2_with fail
  refine (HR.out _).mono ?_
  rintro e w5 ⟨rfl, c5⟩
  have B5 := Lib.hid (B4.out.trans (c5.mono B4.out.size))
  clear c5
  unfold headNone
  go_wp2_with fail
  go_ret
  exact ⟨rfl, B5.out.alloc B5.out.size _⟩
end Go.Proofs.YtnbggojmbdgkmaaDoor
