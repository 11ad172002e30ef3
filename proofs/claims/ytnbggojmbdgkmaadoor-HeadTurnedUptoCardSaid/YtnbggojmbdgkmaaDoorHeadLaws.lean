/-
  The law HeadSummed: what it computes is true. Condition: a text of at most 1048576 bytes.
-/
import Derived.Test.YtnbggojmbdgkmaaDoorHeadOf
import Derived.Test.YtnbggojmbdgkmaaDoorBytes
namespace Go.Proofs.YtnbggojmbdgkmaaDoor
open Go.RowKit

theorem byteOf (x : Int) (h : U8 x) : ∃ b : UInt8, x = b.toNat := by
  obtain ⟨h1, h2⟩ := h
  refine ⟨UInt8.ofNat x.toNat, ?_⟩
  rw [UInt8.toNat_ofNat']; omega
theorem hsum_own {h : PHead} (hok : HeadOk h) (k : Nat) (hk : k < 8) (c : UInt8) : hsum ((headW h).set (148 + k) c) 512 = headSum h := by
  rw [← hsum_headW hok]
  refine hsum_congr 512 fun i _ h => ?_
  simp only [List.getD_eq_getElem?_getD]
  rw [List.getElem?_set_ne (by omega)]
set_option maxRecDepth 100000 in
set_option maxHeartbeats 1000000 in
theorem HeadSummed_walk (w : World) (hsh : w.ShapedOpen Tryd.prog) (r : RawS) (h : RawOk r) (a : Int) (ha : I64 a) (c : Int) (hc : U8 c) :
    Calls Tryd.prog 3 #[rawV r, .int .i64 a, .int .u8 c] w fun e w' => e = .returned (.bool true) ∧ Below w.heap.size w w' := by
  have hm := ML.of_shaped hsh
  clear hsh
  obtain ⟨by_, rfl⟩ := byteOf c hc
  obtain ⟨k, hk, hk2⟩ := pick_nat a 8 (by omega)
  have HPk := Lib.hid (fun w => picked_any a 8 ha (by omega) (by omega) w)
  rw [show pick a 8 = (k : Int) from hk] at HPk
  have hok := headP_ok r
  have HO := Lib.hid (fun w hm => headOf_any r h w hm)
  have HW := Lib.hid (fun w => HWrite_ok (headP r) hok w)
  have hl := headW_length hok
  have HS1 := Lib.hid (fun w => HSum_any (headW (headP r)) hl w)
  have HS2 := Lib.hid (fun w => HSum_any ((headW (headP r)).set (148 + k) by_) (by rw [List.length_set]; exact hl) w)
  rw [hsum_headW hok] at HS1
  rw [hsum_own hok k hk2 by_] at HS2
  have hge := headSum_ge (headP r)
  have hz := bs_size (headW (headP r))
  rw [hl] at hz
  have b0 : Below w.heap.size w (w.alloc (.cells #[.int .i64 r.kind, .int .i64 r.a, .int .i64 r.b, .string (bs r.text)] 23)) := (Below.refl _ w).alloc (Nat.le_refl _) _
  have B0 := Lib.hid b0
  have HM := Lib.hid (hm.below b0)
  have CV := fun w => conv_sb (headW (headP r)) w (by omega)
  rw [hl] at CV
  have HCV := Lib.hid CV
  have HBK := Lib.hid (fun w g c C t fr => conv_bs ((headW (headP r)).set (148 + k) by_) w g c C t fr)
  rw [List.length_set, hl] at HBK
  have HL := Lib.hid hl
  clear b0 CV hm hok hk ha hc hl
  unfold rawV at HO ⊢
  generalize headSum (headP r) = S at *
  generalize headV (headP r) = hv at *
  obtain ⟨kd, ra, rb, text⟩ := r
  simp only at HO B0 HM
  generalize bs text = bt at *
  generalize headW (headP ⟨kd, ra, rb, text⟩) = L at *
  generalize hbL : bs (L.set (148 + k) by_) = bL2 at *
  generalize bs L = bL at *
  have d1 : decide ((256 : Int) ≤ S) = true := decide_eq_true (by omega)
  go_enter Tryd.func3, Tryd.ntmps3
  go_wp2_with fail
  refine (HO.out _ HM.out).mono ?_
  rintro e w1 ⟨rfl, b1⟩
  have B1 := Lib.hid (B0.out.trans (b1.mono B0.out.size))
  clear b1
  go_wp2_with fail
  refine (HW.out _).mono ?_
  rintro e w2 ⟨rfl, b2⟩
  have B2 := Lib.hid (B1.out.trans (b2.mono B1.out.size))
  clear b2
  obtain ⟨cp, n, C, e1, e2, e3, e4, e5, hcv⟩ := HCV.out w2
  go_wp2_with fail
  refine (HPk.out _).mono ?_
  rintro e w' ⟨rfl, rfl⟩
  have hcell : (w2.alloc (.cells C 5 (n, n + 1))).cell? ⟨w2.heap.size, 148 + k, none⟩ = some C[148 + k] := by
    rw [cell_of_row _ _ _ C 5 (n, n + 1) (heap_alloc_new _ _), Array.getElem?_eq_getElem]
  have hfz : (w2.alloc (.cells C 5 (n, n + 1))).frozen? ⟨w2.heap.size, 148 + k, none⟩ = false := by
    simp only [World.frozen?, heap_alloc_new]
    simp; omega
  have HE5 := Lib.hid e5
  clear e5
  generalize hwc : w2.alloc (.cells C 5 (n, n + 1)) = wc at *
  go_wp2_with fail
  have hblk : wc.heap[w2.heap.size]? = some (.cells C 5 (n, n + 1)) := by rw [← hwc]; exact heap_alloc_new _ _
  have hblk2 : ((wc.setCell ⟨w2.heap.size, 148 + k, none⟩ (.int .u8 by_.toNat)).drew).heap[w2.heap.size]? = some (.cells (C.setIfInBounds (148 + k) (.int .u8 by_.toNat)) 5 (n, n + 1)) := by
    show (wc.setCell ⟨w2.heap.size, 148 + k, none⟩ (.int .u8 by_.toNat)).heap[w2.heap.size]? = _
    simp [World.setCell, Array.getElem?_modify, hblk]
  have hbk := HBK.out _ _ cp _ _ _ hblk2 (HE5.out.set_ (148 + k) by_)
  have bwc : Below w2.heap.size w2 wc := by rw [← hwc]; exact (Below.refl _ _).alloc (Nat.le_refl _) _
  have B3 := Lib.hid (B2.out.trans (((bwc.setCell (p := ⟨w2.heap.size, 148 + k, none⟩) (Nat.le_refl _) (.int .u8 by_.toNat)).drew).mono B2.out.size))
  clear hblk hblk2 bwc hcell hfz hwc
  refine (HS1.out _).mono ?_
  rintro e w' ⟨rfl, rfl⟩
  go_wp2_with fail
  refine (HS2.out _).mono ?_
  rintro e w' ⟨rfl, rfl⟩
  go_wp2_with fail
  go_ret
  exact ⟨rfl, B3.out⟩
end Go.Proofs.YtnbggojmbdgkmaaDoor
