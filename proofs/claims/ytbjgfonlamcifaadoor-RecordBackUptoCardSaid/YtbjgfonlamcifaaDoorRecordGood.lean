/-
  record.Read at a record's own text with anything behind it: the record, what is behind it. The law RecordBack. Condition: the library's table of powers of ten lies as Go laid it; a text of at most 1048576 bytes.
-/
import Derived.Test.YtbjgfonlamcifaaDoorRecordRead
namespace Go.Proofs.YtbjgfonlamcifaaDoor
open Go.RowKit

theorem getD_at (a b : List UInt8) (c : UInt8) (k : Nat) (h : k = a.length) : (a ++ c :: b).getD k 0 = c := by subst h; simp
set_option maxRecDepth 100000 in
set_option maxHeartbeats 2000000 in
theorem Read_good (r : RecS) (h : RecOk r) (rest : List UInt8) (hrest : rest.length ≤ 2097152) (w : World) (hm : ML w) (h10 : P10 w) :
    Calls Tryd.prog 39 #[.string (bs (recT r ++ rest))] w fun e w' => e = .returned (.tuple #[recV r, .string (bs rest), .int .i64 0]) ∧ Below w.heap.size w w' := by
  obtain ⟨l1, l2⟩ := recT_len h
  have hR1 := restR_len h
  obtain ⟨n1, n2, n3⟩ := recN_eq _ hR1
  have hRl : (restR r).length = r.key.length + r.value.length + 3 := by simp only [restR, List.length_cons, List.length_append, List.length_nil]; omega
  obtain ⟨D, hD⟩ : ∃ D, D = Lib.decDigits (recN (restR r).length) := ⟨_, rfl⟩
  obtain ⟨n, hn⟩ : ∃ n, n = recN (restR r).length := ⟨_, rfl⟩
  rw [← hn] at hD l1 n1 n2 n3
  rw [← hD] at n1
  have hT : recT r = D ++ 32 :: (r.key ++ 61 :: (r.value ++ [10])) := by rw [hD, hn]; rfl
  have hL : recT r ++ rest = D ++ 32 :: (r.key ++ 61 :: (r.value ++ 10 :: rest)) := by rw [hT]; simp
  have hL2 : recT r ++ rest = (D ++ 32 :: (r.key ++ 61 :: r.value)) ++ 10 :: rest := by rw [hT]; simp
  have hLl : (recT r ++ rest).length = n + rest.length := by rw [List.length_append, l1]
  have hdl : D.length ≤ 3 := by rw [hD]; exact dec_len 2 n (by omega)
  have hdp : 1 ≤ D.length := by
    rw [hD]
    cases h : Lib.decDigits n with
    | nil => exact absurd h (dec_ne n)
    | cons a b => simp
  have hcut : Lib.cut (recT r ++ rest) [32] = (D, r.key ++ 61 :: (r.value ++ 10 :: rest), true) := by
    rw [hL]
    exact cut_at (by rw [hD]; exact dec_not (by decide))
  have HC := Lib.hid (fun w hm => Cut_at (recT r ++ rest) _ _ _ 32 hcut w (by omega) hm)
  have HT := Lib.hid (fun w => Trim_digs D (fun b hb => dec_mem (hD ▸ hb)) (by omega) w)
  have HA := Lib.hid (fun w => Atoi_dec n (by omega) w)
  rw [← hD] at HA
  have HK := Lib.hid (fun w => RCheck_ok r h w)
  have HW := Lib.hid (fun w h10 => RWrite_ok r h w h10)
  have HE := Lib.hid (fun w hm => Cut_at (r.key ++ 61 :: r.value) _ _ _ 61 (cut_at h.eq) w (by simp; omega) hm)
  have x1 : (bs (recT r ++ rest)).extract (D.length + 1) (n - 1) = bs (r.key ++ 61 :: r.value) := by
    rw [bs_extract, hL]
    congr 1
    have e1 : (D ++ 32 :: (r.key ++ 61 :: (r.value ++ 10 :: rest))).drop (D.length + 1) = (r.key ++ 61 :: r.value) ++ 10 :: rest := by
      rw [List.drop_length_add_append]; simp
    rw [e1]
    exact List.take_left' (by simp only [List.length_cons, List.length_append]; omega)
  have x2 : (bs (recT r ++ rest)).extract 0 n = bs (recT r) := by
    rw [bs_extract]
    congr 1
    rw [List.drop_zero]
    exact List.take_left' (by omega)
  have x3 : (bs (recT r ++ rest)).extract n (n + rest.length) = bs rest := by
    rw [bs_extract]
    congr 1
    rw [List.drop_left' l1]
    exact List.take_of_length_le (by omega)
  have x4 : (recT r ++ rest).getD (n - 1) 0 = 10 := by
    rw [hL2]
    exact getD_at _ _ _ _ (by simp only [List.length_cons, List.length_append]; omega)
  obtain ⟨c, hc, hcb, hcb2⟩ : ∃ c : Int, (∀ h : 0 < (bs D).size, ((bs D)[0].toNat : Int) = c) ∧ (c == 48) = false ∧ ¬ c = 48 := by
    obtain ⟨b, t, e, hb⟩ := dec_head n (by omega)
    have hb2 : b.toNat ≠ 48 := fun h => hb (UInt8.toNat_inj.1 h)
    have hz : ¬ (b.toNat : Int) = 48 := by omega
    refine ⟨b.toNat, fun h => ?_, beq_eq_false_iff_ne.2 hz, hz⟩
    rw [bs_get, hD, e]; rfl
  have hq : ∀ h : n - 1 < (bs (recT r ++ rest)).size, ((bs (recT r ++ rest))[n - 1].toNat : Int) = 10 := fun h => by
    rw [bs_get, x4]; rfl
  have zl := bs_size (recT r ++ rest)
  have zd := bs_size D
  have hbelow := Lib.hid (fun w1 (h : Below w.heap.size w w1) => h10.below h)
  have hmb := Lib.hid (fun w1 (h : Below w.heap.size w w1) => hm.below h)
  have hB0 := Blk.new w 28 #[.string ⟨#[]⟩, .string ⟨#[]⟩]
  have hb0 : Below w.heap.size w (w.alloc (.cells #[.string ⟨#[]⟩, .string ⟨#[]⟩] 28)) := (Below.refl _ w).alloc (Nat.le_refl _) _
  have hs0 : (w.alloc (.cells #[.string ⟨#[]⟩, .string ⟨#[]⟩] 28)).heap.size = w.heap.size + 1 := by simp
  have hm0 := hm.below hb0
  obtain ⟨W0, hW0⟩ : ∃ W0, W0 = w.alloc (.cells #[.string ⟨#[]⟩, .string ⟨#[]⟩] 28) := ⟨_, rfl⟩
  rw [← hW0] at hB0 hb0 hs0 hm0
  have HB0 := Lib.hid hB0
  have HBW := Lib.hid hb0
  have HS0 := Lib.hid hs0
  have HM0 := Lib.hid hm0
  have HC1 := Lib.hid (fun w1 (b1 : Below W0.heap.size W0 w1) => (show Blk w1 w.heap.size 28 #[.string ⟨#[]⟩, .string ⟨#[]⟩] ∧ Below w.heap.size w w1 from ⟨hB0.below b1 (by rw [hs0]; omega), hb0.trans (b1.mono (by rw [hs0]; omega))⟩))
  have HC2 := Lib.hid (fun w1 w2 (h : Blk w1 w.heap.size 28 #[.string ⟨#[]⟩, .string ⟨#[]⟩] ∧ Below w.heap.size w w1) (b2 : Below w1.heap.size w1 w2) => (show Blk w2 w.heap.size 28 #[.string ⟨#[]⟩, .string ⟨#[]⟩] ∧ Below w.heap.size w w2 from ⟨h.1.below b2 h.1.lt, h.2.trans (b2.mono h.2.size)⟩))
  have e0 : (bs []) = ⟨#[]⟩ := rfl
  clear hB0 hb0 hs0 hm0 hm h10
  obtain ⟨k, hk⟩ : ∃ k, n = k + 1 := ⟨n - 1, by omega⟩
  have hk1 : n - 1 = k := by omega
  rw [hk1] at x1 x4 hq
  have klim : k ≤ 702 := by omega
  have i3 : D.length < k := by omega
  have i4 : D.length + 1 ≤ k := by omega
  have i5 : (D.length : Int) < (k : Int) := by omega
  have i6 : (D.length : Int) + 1 ≤ (k : Int) := by omega
  have hkl : k < (bs (recT r ++ rest)).size := by omega
  have t1 : ¬ (bs D).size < 1 := by omega
  have t2 : ¬ 4 < (bs D).size := by omega
  have t3 : 0 < (bs D).size := by omega
  have t4 : ¬ (bs (recT r ++ rest)).size < n := by omega
  have t5 : n ≤ (bs (recT r ++ rest)).size := by omega
  have t7 : k ≤ (bs (recT r ++ rest)).size := by omega
  have hc0 := hc t3
  have hq0 := hq hkl
  rw [hLl] at zl
  clear hq hc x4 hLl hL hL2 hT hcut l1 l2 hR1 n1 n2 n3 hRl hn hD hrest hk1
  subst hk
  generalize recT r ++ rest = L at *
  generalize recT r = T at *
  generalize r.key ++ 61 :: (r.value ++ 10 :: rest) = M at *
  generalize r.key ++ 61 :: r.value = E at *
  unfold recV at *
  have HX1 := Lib.hid x1
  have HX2 := Lib.hid x2
  have HX3 := Lib.hid x3
  clear x1 x2 x3 h
  generalize bs L = bL at *
  generalize bs D = bD at *
  generalize bs T = bT at *
  generalize bs M = bM at *
  generalize bs E = bE at *
  generalize bs r.key = bK at *
  generalize bs r.value = bV at *
  generalize bs rest = bR at *
  go_enter Tryd.func39, Tryd.ntmps39
  go_wp2_with fail
  rw [← hW0]
  refine (HC.out _ HM0.out).mono ?_
  rintro e w1 ⟨rfl, b1⟩
  have h1 := Lib.hid (HC1.out _ b1)
  clear b1
  go_wp2_with fail
  refine (HT.out _).mono ?_
  rintro e w2 ⟨rfl, b2⟩
  have h2 := Lib.hid (HC2.out _ _ h1.out b2)
  clear b2
  go_wp2_with fail
  refine (HA.out _).mono ?_
  rintro e w3 ⟨rfl, b3⟩
  have h3 := Lib.hid (HC2.out _ _ h2.out b3)
  clear b3
  go_wp2_with fail
  rw [HX1.out]
  refine (HE.out _ (hmb.out _ h3.out.2)).mono ?_
  rintro e w4 ⟨rfl, b4⟩
  have h4 := Lib.hid (HC2.out _ _ h3.out b4)
  clear b4
  have hN := Blk.new w4 28 #[.string bK, .string bV]
  have hA := (Below.refl w4.heap.size w4).alloc (Nat.le_refl _) (.cells #[.string bK, .string bV] 28)
  have hsA : (w4.alloc (.cells #[.string bK, .string bV] 28)).heap.size = w4.heap.size + 1 := by simp
  go_wp2_with fail
  obtain ⟨wa, hwa⟩ : ∃ wa, wa = w4.alloc (.cells #[.string bK, .string bV] 28) := ⟨_, rfl⟩
  rw [← hwa] at hN hA hsA ⊢
  have h4a := Lib.hid (HC2.out _ _ h4.out hA)
  have HNw := Lib.hid hN
  have HSA := Lib.hid hsA
  clear hwa hN hA hsA
  refine (HK.out _).mono ?_
  rintro e w5 ⟨rfl, b5⟩
  have h5 := Lib.hid (HC2.out _ _ h4a.out b5)
  have hn5 := HNw.out.below b5 HNw.out.lt
  have HN5 := Lib.hid hn5
  have k50 := hn5.cell 0
  have k51 := hn5.cell 1
  clear b5 hn5
  go_wp2_with fail
  refine (HW.out _ (hbelow.out _ h5.out.2)).mono ?_
  rintro e w6 ⟨rfl, b6⟩
  have h6 := Lib.hid (HC2.out _ _ h5.out b6)
  have hn6 := HN5.out.below b6 HN5.out.lt
  clear k50 k51 b6
  have k60 := hn6.cell 0
  have k61 := hn6.cell 1
  have g60 := h6.out.1.cell 0
  have g61 := h6.out.1.cell 1
  have z60 := h6.out.1.frozen 0
  have z61 := h6.out.1.frozen 1
  have x2 := HX2.out
  have x3 := HX3.out
  have x4 : (bT.toList == bT.toList) = true := beq_self_eq_true _
  have c6 := Lib.hid h6.out.2
  clear hn6
  go_wp2_with fail
  go_region
  go_wp2
  have hBz := (h6.out.1.set_ 0 (.string bK)).set_ 1 (.string bV)
  have d0 := hBz.cell 0
  have d1 := hBz.cell 1
  have cz := ((c6.out.setCell (p := ⟨w.heap.size, 0, none⟩) (Nat.le_refl _) (.string bK)).setCell (p := ⟨w.heap.size, 1, none⟩) (Nat.le_refl _) (.string bV)).drew
  have d0 := (show ((w6.setCell ⟨w.heap.size, 0, none⟩ (.string bK)).setCell ⟨w.heap.size, 1, none⟩ (.string bV)).drew.cell? ⟨w.heap.size, 0, none⟩ = _ from hBz.drew.cell 0)
  have d1 := (show ((w6.setCell ⟨w.heap.size, 0, none⟩ (.string bK)).setCell ⟨w.heap.size, 1, none⟩ (.string bV)).drew.cell? ⟨w.heap.size, 1, none⟩ = _ from hBz.drew.cell 1)
  clear hBz k60 k61 g60 g61 z60 z61
  generalize ((w6.setCell ⟨w.heap.size, 0, none⟩ (.string bK)).setCell ⟨w.heap.size, 1, none⟩ (.string bV)).drew = wz at *
  exact bodyPost_ret (v := .tuple #[.agg #[.string bK, .string bV], .string bR, .int .i64 0]) (by simp [results, Tryd.results39, go_sem, d0, d1]) rfl ⟨rfl, cz⟩
end Go.Proofs.YtbjgfonlamcifaaDoor
