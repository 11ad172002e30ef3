/-
  The law RecordTorn: what it computes is true. Condition: the library's table of powers of ten lies as Go laid it; a text of at most 1048576 bytes.
-/
import Derived.Test.YtbjgfonlamcifaaDoorRecordRead
namespace Go.Proofs.YtbjgfonlamcifaaDoor
open Go.RowKit

theorem Read_torn (r : RecS) (h : RecOk r) (m : Nat) (hm : m < (recT r).length) :
    ∃ c : Int, (c == 0) = false ∧ (c != 0) = true ∧ ¬ c = 0 ∧ ∀ w, ML w → Calls Tryd.prog 39 #[.string (bs ((recT r).take m))] w fun e w' => e = .returned (.tuple #[recV ⟨[], []⟩, .string ⟨#[]⟩, .int .i64 c]) ∧ Below w.heap.size w w' := by
  obtain ⟨l1, l2⟩ := recT_len h
  obtain ⟨n1, n2, n3⟩ := recN_eq _ (restR_len h)
  have hlen : (recT r).length = (Lib.decDigits (recN (restR r).length)).length + (restR r).length := List.length_append
  by_cases hd : m ≤ (Lib.decDigits (recN (restR r).length)).length
  · have e : (recT r).take m = (Lib.decDigits (recN (restR r).length)).take m := List.take_append_of_le_length hd
    refine ⟨3, rfl, rfl, by decide, fun w hw => ?_⟩
    rw [e]
    exact Read_short _ (by rw [List.length_take]; omega) (fun hb => dec_not (b := 32) (by decide) (List.mem_of_mem_take hb)) w hw
  · have e : (recT r).take m = Lib.decDigits (recN (restR r).length) ++ 32 :: (r.key ++ 61 :: (r.value ++ [10])).take (m - (Lib.decDigits (recN (restR r).length)).length - 1) := by
      obtain ⟨k, hk⟩ : ∃ k, m = (Lib.decDigits (recN (restR r).length)).length + (k + 1) := ⟨m - (Lib.decDigits (recN (restR r).length)).length - 1, by omega⟩
      rw [show m - (Lib.decDigits (recN (restR r).length)).length - 1 = k by omega, hk]
      unfold recT
      rw [List.take_length_add_append]
      rfl
    refine ⟨7, rfl, rfl, by decide, fun w hw => ?_⟩
    rw [e]
    exact Read_less _ (by omega) (by omega) _ (by rw [List.length_take]; omega) w hw
set_option maxRecDepth 100000 in
set_option maxHeartbeats 1000000 in
theorem RecordTorn_walk (w : World) (hsh : w.ShapedOpen Tryd.prog) (h10 : P10 w) (r : RawS) (h : RawOk r) (n : Int) (hn : I64 n) :
    Calls Tryd.prog 14 #[rawV r, .int .i64 n] w fun e w' => e = .returned (.bool true) ∧ Below w.heap.size w w' := by
  have hm := ML.of_shaped hsh
  clear hsh
  have HR := Lib.hid (fun w hm => recorded_any r h w hm)
  have hok := recOf_ok r
  obtain ⟨l1, l2⟩ := recT_len hok
  obtain ⟨n1, n2, n3⟩ := recN_eq _ (restR_len hok)
  have HW := Lib.hid (fun w h10 => RWrite_ok (recOf r) hok w h10)
  have hpos : 1 ≤ (recT (recOf r)).length := by omega
  obtain ⟨m, hm1, hm2⟩ := pick_nat n (recT (recOf r)).length (by omega)
  have HP1 := Lib.hid (fun w => picked_any n (recT (recOf r)).length hn (by omega) (by omega) w)
  rw [show pick n ((recT (recOf r)).length : Int) = (m : Int) from hm1] at HP1
  obtain ⟨c, e1, e2, e3, hrd⟩ := Read_torn (recOf r) hok m (by omega)
  have HRd := Lib.hid hrd
  have hz := bs_size (recT (recOf r))
  have hne : (bs (recT (recOf r))).toList.isEmpty = false := by
    rw [bs_toList]
    cases hcs : recT (recOf r) with
    | nil => rw [hcs] at hpos; simp at hpos
    | cons a b => rfl
  have hne2 : ¬ (bs (recT (recOf r))).toList = [] := by
    intro e
    rw [e] at hne
    simp at hne
  have hex : Hid ((bs (recT (recOf r))).extract 0 m = bs ((recT (recOf r)).take m)) := Lib.hid (by rw [bs_extract]; simp)
  have hmz : (m : Int) ≤ ((bs (recT (recOf r))).size : Int) := by omega
  have hb0 : Below w.heap.size w (w.alloc (.cells #[.int .i64 r.kind, .int .i64 r.a, .int .i64 r.b, .string (bs r.text)] 23)) := (Below.refl _ w).alloc (Nat.le_refl _) _
  have HB := Lib.hid (fun w1 (h : Below (w.alloc (.cells #[.int .i64 r.kind, .int .i64 r.a, .int .i64 r.b, .string (bs r.text)] 23)).heap.size (w.alloc (.cells #[.int .i64 r.kind, .int .i64 r.a, .int .i64 r.b, .string (bs r.text)] 23)) w1) => hb0.trans (h.mono (show w.heap.size ≤ _ by simp)))
  have HM := Lib.hid (fun w1 (h : Below w.heap.size w w1) => hm.below h)
  have HP := Lib.hid (fun w1 (h : Below w.heap.size w w1) => h10.below h)
  have HB0 := Lib.hid hb0
  clear hm h10 hok hb0 l1 h hrd hm1 n1 n2 n3
  unfold rawV at HR ⊢
  generalize bs ((recT (recOf r)).take m) = bm at *
  generalize recT (recOf r) = T at *
  generalize recOf r = R at *
  unfold recV at HR HW HRd
  generalize bs R.key = bk at *
  generalize bs R.value = bv at *
  generalize bs T = bT at *
  obtain ⟨kind, a, b, text⟩ := r
  simp only at HR HB HB0
  generalize bs text = bt at *
  go_enter Tryd.func14, Tryd.ntmps14
  go_wp2_with fail
  refine (HR.out _ (HM.out _ HB0.out)).mono ?_
  rintro e w1 ⟨rfl, b1⟩
  have c1 := HB.out _ b1
  clear b1
  go_wp2_with fail
  refine (HW.out _ (HP.out _ c1)).mono ?_
  rintro e w2 ⟨rfl, b2⟩
  have c2 := c1.trans (b2.mono c1.size)
  clear b2
  go_wp2_with fail
  refine (HP1.out _).mono ?_
  rintro e w3 ⟨rfl, rfl⟩
  go_wp2_with fail
  rw [hex.out]
  refine (HRd.out _ (HM.out _ c2)).mono ?_
  rintro e w4 ⟨rfl, b4⟩
  have c4 := Lib.hid (c2.trans (b4.mono c2.size))
  clear b4 c2 c1
  go_wp2_with fail
  go_ret
  exact ⟨rfl, c4.out.alloc c4.out.size _⟩
end Go.Proofs.YtbjgfonlamcifaaDoor
