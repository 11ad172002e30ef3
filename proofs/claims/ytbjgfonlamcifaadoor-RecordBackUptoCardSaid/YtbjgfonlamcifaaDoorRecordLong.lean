/-
  The law RecordLong: what it computes is true. Condition: the library's table of powers of ten lies as Go laid it; a text of at most 1048576 bytes.
-/
import Derived.Test.YtbjgfonlamcifaaDoorRecorded
namespace Go.Proofs.YtbjgfonlamcifaaDoor
open Go.RowKit

theorem recT_cut (r : RecS) : Lib.cut (recT r) [32] = (Lib.decDigits (recN (restR r).length), r.key ++ 61 :: (r.value ++ [10]), true) := cut_at (dec_not (by decide))
theorem restR_len {r : RecS} (h : RecOk r) : (restR r).length ≤ 700 := by
  have := h.k2
  have := h.v1
  simp [restR]; omega
theorem recT_len {r : RecS} (h : RecOk r) : (recT r).length = recN (restR r).length ∧ (recT r).length ≤ 703 := by
  obtain ⟨h1, h2, h3⟩ := recN_eq _ (restR_len h)
  have h4 := restR_len h
  have h5 : (recT r).length = (Lib.decDigits (recN (restR r).length)).length + (restR r).length := List.length_append
  omega
theorem recT_suffix (r : RecS) : Lib.hasSuffix (recT r) [10] = true := by
  have : recT r = (Lib.decDigits (recN (restR r).length) ++ 32 :: (r.key ++ 61 :: r.value)) ++ [10] := by simp [recT, restR]
  rw [this]
  unfold Lib.hasSuffix
  rw [List.isSuffixOf_iff_suffix]
  exact List.suffix_append _ _
theorem HasSuffix_at (l : List UInt8) (c : UInt8) (b : Bool) (h : Lib.hasSuffix l [c] = b) (hl : l.length ≤ 100000) (w : World) :
    Calls Tryd.prog 19 #[.string (bs l), .string ⟨#[c]⟩] w fun e w' => e = .returned (.bool b) ∧ w = w' :=
  (Tryd.strings_HasSuffix (bs l) ⟨#[c]⟩ w (by rw [bs_size]; omega)).mono fun e w' ⟨h1, h2⟩ => ⟨by rw [h1, bs_data]; exact ret_bool h, h2.symm⟩
set_option maxRecDepth 100000 in
set_option maxHeartbeats 1000000 in
theorem RecordLong_walk (w : World) (hsh : w.ShapedOpen Tryd.prog) (h10 : P10 w) (r : RawS) (h : RawOk r) :
    Calls Tryd.prog 3 #[rawV r] w fun e w' => e = .returned (.bool true) ∧ Below w.heap.size w w' := by
  have hm := ML.of_shaped hsh
  clear hsh
  have HR := Lib.hid (fun w hm => recorded_any r h w hm)
  have hok := recOf_ok r
  obtain ⟨l1, l2⟩ := recT_len hok
  have HW := Lib.hid (fun w h10 => RWrite_ok (recOf r) hok w h10)
  have HC := Lib.hid (fun w hm => Cut_at (recT (recOf r)) _ _ _ 32 (recT_cut _) w (by omega) hm)
  have HI := Lib.hid (fun w h10 => Itoa_as ((recT (recOf r)).length : Int) (recN (restR (recOf r)).length) (by omega) (by omega) w h10)
  have HS := Lib.hid (fun w => HasSuffix_at (recT (recOf r)) 10 true (recT_suffix _) (by omega) w)
  have hz := bs_size (recT (recOf r))
  have hb0 : Below w.heap.size w (w.alloc (.cells #[.int .i64 r.kind, .int .i64 r.a, .int .i64 r.b, .string (bs r.text)] 23)) := (Below.refl _ w).alloc (Nat.le_refl _) _
  have HB := Lib.hid (fun w1 (h : Below (w.alloc (.cells #[.int .i64 r.kind, .int .i64 r.a, .int .i64 r.b, .string (bs r.text)] 23)).heap.size (w.alloc (.cells #[.int .i64 r.kind, .int .i64 r.a, .int .i64 r.b, .string (bs r.text)] 23)) w1) => hb0.trans (h.mono (show w.heap.size ≤ _ by simp)))
  have HM := Lib.hid (fun w1 (h : Below w.heap.size w w1) => hm.below h)
  have HP := Lib.hid (fun w1 (h : Below w.heap.size w w1) => h10.below h)
  have HB0 := Lib.hid hb0
  have HL := Lib.hid l1
  clear hm h10 hok hb0 l1 h
  unfold rawV at HR ⊢
  generalize recT (recOf r) = T at *
  generalize recOf r = R at *
  unfold recV at HR HW
  generalize bs (Lib.decDigits (recN (restR R).length)) = bd at *
  generalize bs (R.key ++ 61 :: (R.value ++ [10])) = bq at *
  generalize bs R.key = bk at *
  generalize bs R.value = bv at *
  obtain ⟨kind, a, b, text⟩ := r
  simp only at HR HB HB0
  generalize bs text = bt at *
  go_enter Tryd.func3, Tryd.ntmps3
  go_wp2_with fail
  refine (HR.out _ (HM.out _ HB0.out)).mono ?_
  rintro e w1 ⟨rfl, b1⟩
  have c1 := HB.out _ b1
  clear b1
  go_wp2_with fail
  refine (HW.out _ (HP.out _ c1)).mono ?_
  rintro e w2 ⟨rfl, b2⟩
  have c2 := c1.trans (b2.mono c1.size)
  clear b2
  go_wp2_with fail
  refine (HC.out _ (HM.out _ c2)).mono ?_
  rintro e w3 ⟨rfl, b3⟩
  have c3 := c2.trans (b3.mono c2.size)
  clear b3
  go_wp2_with fail
  refine (HI.out _ (HP.out _ c3)).mono ?_
  rintro e w4 ⟨rfl, b4⟩
  have c4 := c3.trans (b4.mono c3.size)
  clear b4
  go_wp2_with fail
  refine (HS.out _).mono ?_
  rintro e w5 ⟨rfl, rfl⟩
  go_wp2_with fail
  go_ret
  exact ⟨rfl, c4⟩
end Go.Proofs.YtbjgfonlamcifaaDoor
