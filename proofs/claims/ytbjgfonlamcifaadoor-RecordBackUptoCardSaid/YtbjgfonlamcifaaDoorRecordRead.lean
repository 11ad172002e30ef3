/-
  record.Read at a record's own text with anything behind it. Condition: the library's table of powers of ten lies as Go laid it; a text of at most 1048576 bytes.
-/
import Derived.Test.YtbjgfonlamcifaaDoorRecordLong
import Derived.Shelf.Strings.SlTrimAscii
namespace Go.Proofs.YtbjgfonlamcifaaDoor
open Go.RowKit

def digSet : List UInt8 := [48, 49, 50, 51, 52, 53, 54, 55, 56, 57]
theorem digSet_has {b : UInt8} (h : 48 ≤ b.toNat ∧ b.toNat ≤ 57) : digSet.contains b = true := by
  have hb : b = UInt8.ofNat b.toNat := (UInt8.ofNat_toNat).symm
  have : b.toNat = 48 ∨ b.toNat = 49 ∨ b.toNat = 50 ∨ b.toNat = 51 ∨ b.toNat = 52 ∨ b.toNat = 53 ∨ b.toNat = 54 ∨ b.toNat = 55 ∨ b.toNat = 56 ∨ b.toNat = 57 := by omega
  rcases this with e | e | e | e | e | e | e | e | e | e <;> (rw [hb, e]; decide)
theorem dropWhile_all {p : UInt8 → Bool} : ∀ (l : List UInt8), (∀ b ∈ l, p b = true) → l.dropWhile p = []
  | [], _ => rfl
  | b :: l, h => by rw [List.dropWhile_cons_of_pos (h b (by simp))]; exact dropWhile_all l (fun c hc => h c (by simp [hc]))
theorem trimS_digs {l : List UInt8} (h : ∀ b ∈ l, 48 ≤ b.toNat ∧ b.toNat ≤ 57) : Lib.trimS l digSet = [] := by
  have : Lib.trimRightS l digSet = [] := by
    unfold Lib.trimRightS
    rw [dropWhile_all _ (fun b hb => digSet_has (h b (List.mem_reverse.1 hb)))]
    rfl
  unfold Lib.trimS
  rw [this]
  rfl
theorem Trim_digs (l : List UInt8) (h : ∀ b ∈ l, 48 ≤ b.toNat ∧ b.toNat ≤ 57) (hl : l.length ≤ 100000) (w : World) :
    Calls Tryd.prog 80 #[.string (bs l), .string ⟨#[48, 49, 50, 51, 52, 53, 54, 55, 56, 57]⟩] w fun e w' => e = .returned (.string (bs [])) ∧ Below w.heap.size w w' := by
  have h116 : (Tryd.prog.info? (Tryd.lays160_ren.t 116)).map (fun i => (i.zero, i.size)) = some (some (.agg (Array.replicate 256 (.bool false))), 256) := by kernel_rfl
  refine (Any.strings_Trim_ascii Tryd.lays160 (zero_of_info h116).1 (zero_of_info h116).2 (bs l) ⟨#[48, 49, 50, 51, 52, 53, 54, 55, 56, 57]⟩ w (by rw [bs_size]; omega) (by decide) (fun j b hb => ?_)).mono fun e w' ⟨h1, h2⟩ => ⟨?_, h2⟩
  · have hm : b ∈ digSet := List.mem_of_getElem? hb
    simp only [digSet, List.mem_cons, List.mem_nil_iff, or_false] at hm
    rcases hm with rfl | rfl | rfl | rfl | rfl | rfl | rfl | rfl | rfl | rfl <;> decide
  · have := trimS_digs h
    rw [h1, bs_data, show (⟨#[48, 49, 50, 51, 52, 53, 54, 55, 56, 57]⟩ : ByteArray).data.toList = digSet from rfl, this]
    rfl
theorem decFrom_snoc {l : List UInt8} {acc n d : Nat} {b : UInt8} (h : Lib.decFrom acc l = some n) (hd : Lib.digitVal b = some d) : Lib.decFrom acc (l ++ [b]) = some (n * 10 + d) := by
  induction l generalizing acc with
  | nil =>
    simp only [Lib.decFrom, Option.some.injEq] at h
    subst h
    simp [Lib.decFrom, hd]
  | cons a t ih =>
    simp only [List.cons_append, Lib.decFrom] at h ⊢
    cases ha : Lib.digitVal a with
    | none => simp [ha] at h
    | some e =>
      simp only [ha] at h ⊢
      exact ih h
theorem digitVal_of {k : Nat} (h : k < 10) : Lib.digitVal (UInt8.ofNat (48 + k)) = some k := by
  unfold Lib.digitVal
  rw [digB k h, if_pos (by omega)]
  congr 1; omega
theorem decFrom_dec (n : Nat) : Lib.decFrom 0 (Lib.decDigits n) = some n := by
  refine dec_ind (P := fun n l => Lib.decFrom 0 l = some n) (fun n h => ?_) (fun n h ih => ?_) n
  · have := decFrom_snoc (l := []) (acc := 0) (n := 0) (by rfl) (digitVal_of h)
    simpa using this
  · rw [decFrom_snoc ih (digitVal_of (Nat.mod_lt _ (by omega)))]
    congr 1; omega
theorem atoi_dec (n : Nat) : Lib.atoi (Lib.decDigits n) = some (n : Int) := by
  have h := decFrom_dec n
  have hm := fun b (hb : b ∈ Lib.decDigits n) => dec_mem hb
  cases hc : Lib.decDigits n with
  | nil => exact absurd hc (dec_ne n)
  | cons b r =>
    rw [hc] at h hm
    have := hm b (by simp)
    have e1 : (b == 45) = false := beq_eq_false_iff_ne.2 (fun e => by subst e; revert this; decide)
    have e2 : (b == 43) = false := beq_eq_false_iff_ne.2 (fun e => by subst e; revert this; decide)
    unfold Lib.atoi
    simp only [e1, e2]
    simp [Lib.decNat, h]
theorem Atoi_dec (n : Nat) (h : n < 10000) (w : World) :
    Calls Tryd.prog 81 #[.string (bs (Lib.decDigits n))] w fun e w' => e = .returned (.tuple #[.int .i64 n, .nilIface]) ∧ Below w.heap.size w w' := by
  have hl : (Lib.decDigits n).length ≤ 4 := dec_len 3 n (by omega)
  refine (Tryd.strconv_Atoi (bs (Lib.decDigits n)) n (by rw [bs_size]; omega) (by rw [bs_data]; exact atoi_dec n) w).mono fun e w' ⟨h1, t, h2⟩ => ⟨h1, by rw [h2]; exact Lib.bytesWorld_below _ _ _⟩
set_option maxRecDepth 100000 in
theorem ReadNo_any (c : Int) (w : World) :
    Calls Tryd.prog 79 #[.int .i64 c] w fun e w' => e = .returned (.tuple #[recV ⟨[], []⟩, .string ⟨#[]⟩, .int .i64 c]) ∧ Below w.heap.size w w' := by
  go_enter Tryd.func79, Tryd.ntmps79
  go_wp2_with fail
  have hB := Blk.new w 28 #[.string ⟨#[]⟩, .string ⟨#[]⟩]
  have c0 := hB.cell 0
  have c1 := hB.cell 1
  have hb : Below w.heap.size w (w.alloc (.cells #[.string ⟨#[]⟩, .string ⟨#[]⟩] 28)) := (Below.refl _ w).alloc (Nat.le_refl _) _
  generalize w.alloc (.cells #[.string ⟨#[]⟩, .string ⟨#[]⟩] 28) = w2 at *
  exact bodyPost_ret (v := .tuple #[recV ⟨[], []⟩, .string ⟨#[]⟩, .int .i64 c]) (by simp [results, Tryd.results79, go_sem, c0, c1]; rfl) rfl ⟨rfl, hb⟩

set_option maxRecDepth 100000 in
set_option maxHeartbeats 1000000 in
theorem Read_short (l : List UInt8) (hl : l.length ≤ 100000) (hc : (32 : UInt8) ∉ l) (w : World) (hm : ML w) :
    Calls Tryd.prog 39 #[.string (bs l)] w fun e w' => e = .returned (.tuple #[recV ⟨[], []⟩, .string ⟨#[]⟩, .int .i64 3]) ∧ Below w.heap.size w w' := by
  have HC := Lib.hid (fun w hm => Cut_at l _ _ _ 32 (cut_not hc) w (by omega) hm)
  have HN := Lib.hid (fun w => ReadNo_any 3 w)
  unfold recV at HN ⊢
  have hB0 := Blk.new w 28 #[.string ⟨#[]⟩, .string ⟨#[]⟩]
  have hb0 : Below w.heap.size w (w.alloc (.cells #[.string ⟨#[]⟩, .string ⟨#[]⟩] 28)) := (Below.refl _ w).alloc (Nat.le_refl _) _
  have hs0 : (w.alloc (.cells #[.string ⟨#[]⟩, .string ⟨#[]⟩] 28)).heap.size = w.heap.size + 1 := by simp
  have hm0 := hm.below hb0
  obtain ⟨W0, hW0⟩ : ∃ W0, W0 = w.alloc (.cells #[.string ⟨#[]⟩, .string ⟨#[]⟩] 28) := ⟨_, rfl⟩
  rw [← hW0] at hB0 hb0 hs0 hm0
  have HB0 := Lib.hid hB0
  have HBW := Lib.hid hb0
  have HS0 := Lib.hid hs0
  have HM0 := Lib.hid hm0
  have HC1 := Lib.hid (fun w1 (b1 : Below W0.heap.size W0 w1) => (show Blk w1 w.heap.size 28 #[.string ⟨#[]⟩, .string ⟨#[]⟩] ∧ Below w.heap.size w w1 from ⟨hB0.below b1 (by rw [hs0]; omega), hb0.trans (b1.mono (by rw [hs0]; omega))⟩))
  have HC2 := Lib.hid (fun w1 w2 (h : Blk w1 w.heap.size 28 #[.string ⟨#[]⟩, .string ⟨#[]⟩] ∧ Below w.heap.size w w1) (b2 : Below w1.heap.size w1 w2) => (show Blk w2 w.heap.size 28 #[.string ⟨#[]⟩, .string ⟨#[]⟩] ∧ Below w.heap.size w w2 from ⟨h.1.below b2 h.1.lt, h.2.trans (b2.mono h.2.size)⟩))
  have e0 : (bs []) = ⟨#[]⟩ := rfl
  clear hB0 hb0 hs0 hm0 hm
  clear hc
  go_enter Tryd.func39, Tryd.ntmps39
  go_wp2_with fail
  rw [← hW0]
  refine (HC.out _ HM0.out).mono ?_
  rintro e w1 ⟨rfl, b1⟩
  have h1 := Lib.hid (HC1.out _ b1)
  clear b1
  go_wp2_with fail
  refine (HN.out _).mono ?_
  rintro e w2 ⟨rfl, b2⟩
  have h2 := HC2.out _ _ h1.out b2
  have HB2 := Lib.hid h2.1
  have c2 := Lib.hid h2.2
  have k0 := h2.1.cell 0
  have k1 := h2.1.cell 1
  have z0 := h2.1.frozen 0
  have z1 := h2.1.frozen 1
  clear h2 b2
  go_wp2_with fail
  have hBz := (HB2.out.set_ 0 (.string ⟨#[]⟩)).set_ 1 (.string ⟨#[]⟩)
  have d0 := hBz.cell 0
  have d1 := hBz.cell 1
  have cz := (c2.out.setCell (p := ⟨w.heap.size, 0, none⟩) (Nat.le_refl _) (.string ⟨#[]⟩)).setCell (p := ⟨w.heap.size, 1, none⟩) (Nat.le_refl _) (.string ⟨#[]⟩)
  clear hBz HB2 k0 k1 z0 z1
  generalize (w2.setCell ⟨w.heap.size, 0, none⟩ (.string ⟨#[]⟩)).setCell ⟨w.heap.size, 1, none⟩ (.string ⟨#[]⟩) = wz at *
  exact bodyPost_ret (v := .tuple #[.agg #[.string ⟨#[]⟩, .string ⟨#[]⟩], .string ⟨#[]⟩, .int .i64 3]) (by simp [results, Tryd.results39, go_sem, d0, d1]) rfl ⟨rfl, cz⟩
/-- a count that is more than there is -/
theorem Read_less (n : Nat) (hn0 : n ≠ 0) (hn : n ≤ 999) (r : List UInt8) (hlt : (Lib.decDigits n).length + 1 + r.length < n) (w : World) (hm : ML w) :
    Calls Tryd.prog 39 #[.string (bs (Lib.decDigits n ++ 32 :: r))] w fun e w' => e = .returned (.tuple #[recV ⟨[], []⟩, .string ⟨#[]⟩, .int .i64 7]) ∧ Below w.heap.size w w' := by
  have hl : (Lib.decDigits n ++ 32 :: r).length < n := by simp; omega
  have hdl := dec_len 2 n (by omega)
  have HC := Lib.hid (fun w hm => Cut_at (Lib.decDigits n ++ 32 :: r) _ _ _ 32 (cut_at (dec_not (by decide))) w (by omega) hm)
  have HN := Lib.hid (fun w => ReadNo_any 7 w)
  have HT := Lib.hid (fun w => Trim_digs (Lib.decDigits n) (fun b hb => dec_mem hb) (by omega) w)
  have HA := Lib.hid (fun w => Atoi_dec n (by omega) w)
  have zl := bs_size (Lib.decDigits n ++ 32 :: r)
  have zd := bs_size (Lib.decDigits n)
  have hdp : 1 ≤ (Lib.decDigits n).length := by
    cases h : Lib.decDigits n with
    | nil => exact absurd h (dec_ne n)
    | cons a b => simp
  obtain ⟨c, hc, hcb, hcb2⟩ : ∃ c : Int, (∀ h : 0 < (bs (Lib.decDigits n)).size, ((bs (Lib.decDigits n))[0].toNat : Int) = c) ∧ (c == 48) = false ∧ ¬ c = 48 := by
    obtain ⟨b, t, e, hb⟩ := dec_head n hn0
    have hb2 : b.toNat ≠ 48 := fun h => hb (UInt8.toNat_inj.1 h)
    have hz : ¬ (b.toNat : Int) = 48 := by omega
    refine ⟨b.toNat, fun h => ?_, beq_eq_false_iff_ne.2 hz, hz⟩
    rw [bs_get, e]; rfl
  unfold recV at HN ⊢
  have hB0 := Blk.new w 28 #[.string ⟨#[]⟩, .string ⟨#[]⟩]
  have hb0 : Below w.heap.size w (w.alloc (.cells #[.string ⟨#[]⟩, .string ⟨#[]⟩] 28)) := (Below.refl _ w).alloc (Nat.le_refl _) _
  have hs0 : (w.alloc (.cells #[.string ⟨#[]⟩, .string ⟨#[]⟩] 28)).heap.size = w.heap.size + 1 := by simp
  have hm0 := hm.below hb0
  obtain ⟨W0, hW0⟩ : ∃ W0, W0 = w.alloc (.cells #[.string ⟨#[]⟩, .string ⟨#[]⟩] 28) := ⟨_, rfl⟩
  rw [← hW0] at hB0 hb0 hs0 hm0
  have HB0 := Lib.hid hB0
  have HBW := Lib.hid hb0
  have HS0 := Lib.hid hs0
  have HM0 := Lib.hid hm0
  have HC1 := Lib.hid (fun w1 (b1 : Below W0.heap.size W0 w1) => (show Blk w1 w.heap.size 28 #[.string ⟨#[]⟩, .string ⟨#[]⟩] ∧ Below w.heap.size w w1 from ⟨hB0.below b1 (by rw [hs0]; omega), hb0.trans (b1.mono (by rw [hs0]; omega))⟩))
  have HC2 := Lib.hid (fun w1 w2 (h : Blk w1 w.heap.size 28 #[.string ⟨#[]⟩, .string ⟨#[]⟩] ∧ Below w.heap.size w w1) (b2 : Below w1.heap.size w1 w2) => (show Blk w2 w.heap.size 28 #[.string ⟨#[]⟩, .string ⟨#[]⟩] ∧ Below w.heap.size w w2 from ⟨h.1.below b2 h.1.lt, h.2.trans (b2.mono h.2.size)⟩))
  have e0 : (bs []) = ⟨#[]⟩ := rfl
  clear hB0 hb0 hs0 hm0 hm
  generalize (Lib.decDigits n ++ 32 :: r) = L at *
  generalize Lib.decDigits n = D at *
  generalize hL : bs L = bL at *
  generalize hD : bs D = bD at *
  have t1 : ¬ bD.size < 1 := by omega
  have t2 : ¬ 4 < bD.size := by omega
  have t3 : 0 < bD.size := by omega
  have t4 : bL.size < n := by omega
  have hc0 := hc t3
  clear hL hD hlt hc
  go_enter Tryd.func39, Tryd.ntmps39
  go_wp2_with fail
  rw [← hW0]
  refine (HC.out _ HM0.out).mono ?_
  rintro e w1 ⟨rfl, b1⟩
  have h1 := Lib.hid (HC1.out _ b1)
  clear b1
  go_wp2_with fail
  refine (HT.out _).mono ?_
  rintro e w2 ⟨rfl, b2⟩
  have h2 := Lib.hid (HC2.out _ _ h1.out b2)
  clear b2
  go_wp2_with fail
  refine (HA.out _).mono ?_
  rintro e w3 ⟨rfl, b3⟩
  have h3 := Lib.hid (HC2.out _ _ h2.out b3)
  clear b3
  go_wp2_with fail
  refine (HN.out _).mono ?_
  rintro e w4 ⟨rfl, b4⟩
  have h4 := HC2.out _ _ h3.out b4
  have HB2 := Lib.hid h4.1
  have c4 := Lib.hid h4.2
  have k0 := h4.1.cell 0
  have k1 := h4.1.cell 1
  have z0 := h4.1.frozen 0
  have z1 := h4.1.frozen 1
  clear h4 b4
  go_wp2_with fail
  have hBz := (HB2.out.set_ 0 (.string ⟨#[]⟩)).set_ 1 (.string ⟨#[]⟩)
  have d0 := hBz.cell 0
  have d1 := hBz.cell 1
  have cz := (c4.out.setCell (p := ⟨w.heap.size, 0, none⟩) (Nat.le_refl _) (.string ⟨#[]⟩)).setCell (p := ⟨w.heap.size, 1, none⟩) (Nat.le_refl _) (.string ⟨#[]⟩)
  clear hBz HB2 k0 k1 z0 z1
  generalize (w4.setCell ⟨w.heap.size, 0, none⟩ (.string ⟨#[]⟩)).setCell ⟨w.heap.size, 1, none⟩ (.string ⟨#[]⟩) = wz at *
  exact bodyPost_ret (v := .tuple #[.agg #[.string ⟨#[]⟩, .string ⟨#[]⟩], .string ⟨#[]⟩, .int .i64 7]) (by simp [results, Tryd.results39, go_sem, d0, d1]) rfl ⟨rfl, cz⟩
end Go.Proofs.YtbjgfonlamcifaaDoor
