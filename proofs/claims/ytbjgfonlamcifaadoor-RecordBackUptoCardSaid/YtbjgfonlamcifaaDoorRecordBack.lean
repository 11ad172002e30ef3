/-
  The law RecordBack: what it computes is true. Condition: the library's table of powers of ten lies as Go laid it; a text of at most 1048576 bytes.
-/
import Derived.Test.YtbjgfonlamcifaaDoorRecordGood
namespace Go.Proofs.YtbjgfonlamcifaaDoor
open Go.RowKit

set_option maxRecDepth 100000 in
set_option maxHeartbeats 1000000 in
theorem RecordBack_at (w : World) (hm : ML w) (h10 : P10 w) (r : RawS) (h : RawOk r) (rest : List UInt8) (hrest : rest.length ≤ 2097152) :
    Calls Tryd.prog 13 #[rawV r, .string (bs rest)] w fun e w' => e = .returned (.bool true) ∧ Below w.heap.size w w' := by
  have HR := Lib.hid (fun w hm => recorded_any r h w hm)
  have hok := recOf_ok r
  obtain ⟨l1, l2⟩ := recT_len hok
  obtain ⟨n1, n2, n3⟩ := recN_eq _ (restR_len hok)
  have HW := Lib.hid (fun w h10 => RWrite_ok (recOf r) hok w h10)
  have HRd := Lib.hid (fun w hm h10 => Read_good (recOf r) hok rest hrest w hm h10)
  have hpos : 1 ≤ (recT (recOf r)).length := by omega
  have hz := bs_size (recT (recOf r))
  have hz2 := bs_size rest
  have hne : (bs (recT (recOf r))).toList.isEmpty = false := by
    rw [bs_toList]
    cases hcs : recT (recOf r) with
    | nil => rw [hcs] at hpos; simp at hpos
    | cons a b => rfl
  have hne2 : ¬ (bs (recT (recOf r))).toList = [] := by
    intro e
    rw [e] at hne
    simp at hne
  have hap : Hid (bs (recT (recOf r)) ++ bs rest = bs (recT (recOf r) ++ rest)) := Lib.hid (bs_append _ _)
  have hb0 : Below w.heap.size w (w.alloc (.cells #[.int .i64 r.kind, .int .i64 r.a, .int .i64 r.b, .string (bs r.text)] 23)) := (Below.refl _ w).alloc (Nat.le_refl _) _
  have HB := Lib.hid (fun w1 (h : Below (w.alloc (.cells #[.int .i64 r.kind, .int .i64 r.a, .int .i64 r.b, .string (bs r.text)] 23)).heap.size (w.alloc (.cells #[.int .i64 r.kind, .int .i64 r.a, .int .i64 r.b, .string (bs r.text)] 23)) w1) => hb0.trans (h.mono (show w.heap.size ≤ _ by simp)))
  have HM := Lib.hid (fun w1 (h : Below w.heap.size w w1) => hm.below h)
  have HP := Lib.hid (fun w1 (h : Below w.heap.size w w1) => h10.below h)
  have HB0 := Lib.hid hb0
  have nk : ¬ 9223372036854775807 < (recT (recOf r)).length + rest.length := by omega
  clear hm h10 hok hb0 l1 h n1 n2 n3
  unfold rawV at HR ⊢
  generalize bs (recT (recOf r) ++ rest) = bA at *
  generalize recT (recOf r) = T at *
  generalize recOf r = R at *
  unfold recV at HR HW HRd
  generalize bs R.key = bK at *
  generalize bs R.value = bV at *
  generalize bs T = bT at *
  generalize bs rest = bR at *
  obtain ⟨kind, a, b, text⟩ := r
  simp only at HR HB HB0
  generalize bs text = bt at *
  go_enter Tryd.func13, Tryd.ntmps13
  go_wp2_with fail
  refine (HR.out _ (HM.out _ HB0.out)).mono ?_
  rintro e w1 ⟨rfl, b1⟩
  have c1 := HB.out _ b1
  clear b1
  have hN := Blk.new w1 28 #[.string bK, .string bV]
  have hA := (Below.refl w1.heap.size w1).alloc (Nat.le_refl _) (.cells #[.string bK, .string bV] 28)
  have cA := Lib.hid (c1.trans (hA.mono c1.size))
  have HN := Lib.hid hN
  clear hN hA
  go_wp2_with fail
  obtain ⟨wa, hwa⟩ : ∃ wa, wa = w1.alloc (.cells #[.string bK, .string bV] 28) := ⟨_, rfl⟩
  rw [← hwa] at HN cA ⊢
  clear hwa
  refine (HW.out _ (HP.out _ cA.out)).mono ?_
  rintro e w2 ⟨rfl, b2⟩
  have c2 := Lib.hid (cA.out.trans (b2.mono cA.out.size))
  have HN2 := Lib.hid (HN.out.below b2 HN.out.lt)
  clear b2
  go_wp2_with fail
  rw [hap.out]
  refine (HRd.out _ (HM.out _ c2.out) (HP.out _ c2.out)).mono ?_
  rintro e w3 ⟨rfl, b3⟩
  have c3 := Lib.hid (c2.out.trans (b3.mono c2.out.size))
  have hn3 := (HN2.out.below b3 HN2.out.lt).alloc (.cells #[.string bK, .string bV] 28)
  have hN3 := Blk.new w3 28 #[.string bK, .string bV]
  have q0 := hn3.cell 0
  have q1 := hn3.cell 1
  have q2 := hN3.cell 0
  have q3 := hN3.cell 1
  clear b3 hn3 hN3
  go_wp2_with fail
  go_ret
  exact ⟨rfl, c3.out.alloc c3.out.size _⟩
theorem RecordBack_walk (w : World) (hsh : w.ShapedOpen Tryd.prog) (h10 : P10 w) (r : RawS) (h : RawOk r) (s : ByteArray) (hs : s.size ≤ 1048576) :
    Calls Tryd.prog 13 #[rawV r, .string s] w fun e w' => e = .returned (.bool true) ∧ Below w.heap.size w w' := by
  have e := RecordBack_at w (ML.of_shaped hsh) h10 r h s.data.toList (by rw [← Lib.size_eq]; omega)
  rw [← bs_of (s := s) rfl] at e
  exact e
end Go.Proofs.YtbjgfonlamcifaaDoor
