/-
  meta.Text, meta.Parse, each once. No condition beyond the ranges named. (Printed by gen_meta.py.)
-/
import Derived.Test.YtmioinfhggbfkaaDoorWords
namespace Go.Proofs.YtmioinfhggbfkaaDoor
set_option linter.all false
open Go.RowKit

def vb (c : UInt8) : Value := .int .u8 (c.toNat : Int)
def bit (M k : Nat) : Bool := M / 2 ^ k % 2 == 1
def letters : List UInt8 := [114, 119, 120, 114, 119, 120, 114, 119, 120]
def chr (M k i : Nat) : UInt8 := if i < k then (if bit M (8 - i) then letters.getD i 0 else 45) else letters.getD i 0
/-- the text behind k rounds of the first loop -/
def txt1 (M k : Nat) : List UInt8 := (List.range 9).map (chr M k)
theorem txt1_length (M k : Nat) : (txt1 M k).length = 9 := by simp [txt1]
theorem txt1_true (M k : Nat) (h : bit M (8 - k) = true) : txt1 M (k + 1) = txt1 M k := by
  unfold txt1
  apply List.map_congr_left
  intro i _
  unfold chr
  by_cases h1 : i < k
  · rw [if_pos h1, if_pos (by omega)]
  · rw [if_neg h1]
    by_cases h2 : i = k
    · subst h2; rw [if_pos (by omega), if_pos h]
    · rw [if_neg (by omega)]
theorem txt1_false (M k : Nat) (h : bit M (8 - k) = false) : txt1 M (k + 1) = (txt1 M k).set k 45 := by
  apply List.ext_getElem
  · simp [txt1]
  · intro i h1 h2
    rw [List.getElem_set]
    simp only [txt1, List.getElem_map, List.getElem_range]
    unfold chr
    by_cases h3 : k = i
    · subst h3; rw [if_pos rfl, if_pos (by omega), h]; rfl
    · rw [if_neg h3]
      by_cases h4 : i < k
      · rw [if_pos h4, if_pos (by omega)]
      · rw [if_neg h4, if_neg (by omega)]
def lows : List UInt8 := [116, 115, 115]
def ups : List UInt8 := [84, 83, 83]
def sp (M t : Nat) (l : List UInt8) : List UInt8 :=
  if bit M (9 + t) then l.set (8 - 3 * t) (if l.getD (8 - 3 * t) 0 = 45 then ups.getD t 0 else lows.getD t 0) else l
def txt2 (M : Nat) : Nat → List UInt8
  | 0 => txt1 M 9
  | t + 1 => sp M t (txt2 M t)
/-- meta.Text, plainly -/
def textS (M : Nat) : List UInt8 := txt2 M 3
theorem sp_false {M t : Nat} {l : List UInt8} (h : bit M (9 + t) = false) : sp M t l = l := by unfold sp; rw [if_neg (by rw [h]; decide)]
theorem sp_up {M t : Nat} {l : List UInt8} (h : bit M (9 + t) = true) (h2 : l.getD (8 - 3 * t) 0 = 45) : sp M t l = l.set (8 - 3 * t) (ups.getD t 0) := by unfold sp; rw [if_pos h, if_pos h2]
theorem sp_low {M t : Nat} {l : List UInt8} (h : bit M (9 + t) = true) (h2 : ¬ l.getD (8 - 3 * t) 0 = 45) : sp M t l = l.set (8 - 3 * t) (lows.getD t 0) := by unfold sp; rw [if_pos h, if_neg h2]
theorem sp_length (M t : Nat) (l : List UInt8) : (sp M t l).length = l.length := by
  unfold sp; split <;> simp
theorem txt2_length (M t : Nat) : (txt2 M t).length = 9 := by
  induction t with
  | zero => exact txt1_length M 9
  | succ t ih => rw [txt2, sp_length, ih]

theorem ofInt_i64 (a : Nat) (ha : a < 9223372036854775808) : (BitVec.ofInt 64 (a : Int)).toNat = a := by
  rw [BitVec.ofInt_natCast, BitVec.toNat_ofNat]; exact Nat.mod_eq_of_lt (by omega)
theorem i64_and_nat (a b : Nat) (ha : a < 9223372036854775808) (hb : b < 9223372036854775808) : bits .and .i64 (a : Int) (b : Int) = ((a &&& b : Nat) : Int) := by
  have hx : a &&& b < 2 ^ 63 := Nat.and_lt_two_pow _ (by omega)
  show IntKind.i64.wrap ((BitVec.ofInt 64 (a : Int) &&& BitVec.ofInt 64 (b : Int)).toNat : Int) = _
  rw [BitVec.toNat_and, ofInt_i64 a ha, ofInt_i64 b hb, IntKind.wrap_i64]
  omega
theorem i64_or_nat (a b : Nat) (ha : a < 9223372036854775808) (hb : b < 9223372036854775808) : bits .or .i64 (a : Int) (b : Int) = ((a ||| b : Nat) : Int) := by
  have hx : a ||| b < 2 ^ 63 := Nat.or_lt_two_pow (by omega) (by omega)
  show IntKind.i64.wrap ((BitVec.ofInt 64 (a : Int) ||| BitVec.ofInt 64 (b : Int)).toNat : Int) = _
  rw [BitVec.toNat_or, ofInt_i64 a ha, ofInt_i64 b hb, IntKind.wrap_i64]
  omega
theorem bit_test (M : Nat) (h : M < 4096) (j : Nat) : (bits .and .i64 ((M / 2 ^ j : Nat) : Int) 1 == 0) = !(bit M j) := by
  have h1 : M / 2 ^ j ≤ M := Nat.div_le_self _ _
  have h2 := i64_and_nat (M / 2 ^ j) 1 (by omega) (by omega)
  rw [Nat.and_one_is_mod] at h2
  have h3 : bits .and .i64 ((M / 2 ^ j : Nat) : Int) 1 = ((M / 2 ^ j % 2 : Nat) : Int) := h2
  rw [h3]
  unfold bit
  have : M / 2 ^ j % 2 = 0 ∨ M / 2 ^ j % 2 = 1 := by omega
  rcases this with e | e <;> rw [e] <;> rfl

theorem map_vb_set (l : List UInt8) (i : Nat) (c : UInt8) : (l.map vb).set i (vb c) = (l.set i c).map vb := by rw [List.map_set]
theorem cell_vb {wr : World} {G : Nat} {t : TypeId} {l : List UInt8} {fr : Nat × Nat} (hm : MBlk wr G t (l.map vb) fr) (i : Nat) (hi : i < l.length) : wr.cell? ⟨G, i, none⟩ = some (.int .u8 ((l.getD i 0).toNat : Int)) := by
  rw [hm.cell i, List.getElem?_map, List.getElem?_eq_getElem hi, List.getD_eq_getElem?_getD, List.getElem?_eq_getElem hi]
  rfl
theorem toNat_beq45 (c : UInt8) : ((c.toNat : Int) == 45) = decide (c = 45) := by
  rw [Bool.eq_iff_iff]
  simp only [beq_iff_eq, decide_eq_true_eq]
  constructor
  · intro h; apply UInt8.toNat.inj; show c.toNat = 45; omega
  · rintro rfl; rfl

set_option maxHeartbeats 4000000 in
theorem MText_ok (M : Nat) (h : M < 4096) (w : World) :
    Calls Tryd.prog 13 #[.int .i64 M] w fun e w' => e = .returned (.tuple #[.string ⟨(textS M).toArray⟩, .int .i64 0]) ∧ Below w.heap.size w w' := by
  have kc := fun (w : World) (C : Array Value) (n c : Nat) => Lib.run_convert_bytes_const (P := Tryd.prog) w 26 5 C n c Tryd.underlying26 Tryd.underlying5
  go_enter Tryd.func13, Tryd.ntmps13
  go_wp2
  generalize hw1 : w.alloc _ = w1
  have hm1 : MBlk w1 w.heap.size 5 ((txt1 M 0).map vb) (9, 10) := by rw [← hw1]; exact MBlk.new w 5 ((txt1 M 0).map vb) (9, 10)
  have hb1 : Below w.heap.size w w1 := by rw [← hw1]; exact (Below.refl _ _).alloc (Nat.le_refl _) _
  clear hw1 kc
  generalize hG : w.heap.size = G at *
  have HG := Lib.hid hG
  clear hG
  go_loopw [19] (fun i wr => ∃ k : Nat, k ≤ 9 ∧ i = .int .i64 k ∧ MBlk wr G 5 ((txt1 M k).map vb) (9, 10) ∧ Below G w wr) (fun i _ => 9 - (intOf i).toNat)
  case atStart => exact ⟨0, by omega, rfl, hm1, hb1⟩
  case round =>
    obtain ⟨k, hk, rfl, hm, hb⟩ := hrel
    have h9 : k = 0 ∨ k = 1 ∨ k = 2 ∨ k = 3 ∨ k = 4 ∨ k = 5 ∨ k = 6 ∨ k = 7 ∨ k = 8 ∨ k = 9 := by omega
    rcases h9 with rfl | rfl | rfl | rfl | rfl | rfl | rfl | rfl | rfl | rfl
    · have hbt := bit_test M h 8
      have hbt2 : (bits .and .i64 ((M : Int) / 256) 1 == 0) = !(bit M 8) := by simpa using hbt
      clear hbt
      have hcell := cell_vb hm 0 (by rw [txt1_length]; omega)
      have hfz := hm.frozen (i := 0) (by decide)
      have hst := hm.set_ 0 (vb 45)
      have HST := Lib.hid hst
      clear hst
      generalize (txt1 M 0).getD 0 0 = c at *
      cases hbv : bit M 8 with
      | true =>
        have HT := Lib.hid (txt1_true M 0 hbv)
        rw [hbv] at hbt2
        have hb3 : (bits .and .i64 ((M : Int) / 256) 1 == 0) = false := hbt2
        clear hbt2 hbv
        go_wp2
        go_roundw
        case rel => exact ⟨1, by omega, by go_num, by rw [HT.out]; exact hm, hb⟩
        case measure => simp [intOf]
      | false =>
        have HT := Lib.hid (txt1_false M 0 hbv)
        rw [hbv] at hbt2
        have hb3 : (bits .and .i64 ((M : Int) / 256) 1 == 0) = true := hbt2
        clear hbt2 hbv
        go_wp2
        go_roundw
        case rel => exact ⟨1, by omega, by go_num, by rw [HT.out, ← map_vb_set]; exact HST.out, hb.setCell (Nat.le_refl _) _⟩
        case measure => simp [intOf]
    · have hbt := bit_test M h 7
      have hbt2 : (bits .and .i64 ((M : Int) / 128) 1 == 0) = !(bit M 7) := by simpa using hbt
      clear hbt
      have hcell := cell_vb hm 1 (by rw [txt1_length]; omega)
      have hfz := hm.frozen (i := 1) (by decide)
      have hst := hm.set_ 1 (vb 45)
      have HST := Lib.hid hst
      clear hst
      generalize (txt1 M 1).getD 1 0 = c at *
      cases hbv : bit M 7 with
      | true =>
        have HT := Lib.hid (txt1_true M 1 hbv)
        rw [hbv] at hbt2
        have hb3 : (bits .and .i64 ((M : Int) / 128) 1 == 0) = false := hbt2
        clear hbt2 hbv
        go_wp2
        go_roundw
        case rel => exact ⟨2, by omega, by go_num, by rw [HT.out]; exact hm, hb⟩
        case measure => simp [intOf]
      | false =>
        have HT := Lib.hid (txt1_false M 1 hbv)
        rw [hbv] at hbt2
        have hb3 : (bits .and .i64 ((M : Int) / 128) 1 == 0) = true := hbt2
        clear hbt2 hbv
        go_wp2
        go_roundw
        case rel => exact ⟨2, by omega, by go_num, by rw [HT.out, ← map_vb_set]; exact HST.out, hb.setCell (Nat.le_refl _) _⟩
        case measure => simp [intOf]
    · have hbt := bit_test M h 6
      have hbt2 : (bits .and .i64 ((M : Int) / 64) 1 == 0) = !(bit M 6) := by simpa using hbt
      clear hbt
      have hcell := cell_vb hm 2 (by rw [txt1_length]; omega)
      have hfz := hm.frozen (i := 2) (by decide)
      have hst := hm.set_ 2 (vb 45)
      have HST := Lib.hid hst
      clear hst
      generalize (txt1 M 2).getD 2 0 = c at *
      cases hbv : bit M 6 with
      | true =>
        have HT := Lib.hid (txt1_true M 2 hbv)
        rw [hbv] at hbt2
        have hb3 : (bits .and .i64 ((M : Int) / 64) 1 == 0) = false := hbt2
        clear hbt2 hbv
        go_wp2
        go_roundw
        case rel => exact ⟨3, by omega, by go_num, by rw [HT.out]; exact hm, hb⟩
        case measure => simp [intOf]
      | false =>
        have HT := Lib.hid (txt1_false M 2 hbv)
        rw [hbv] at hbt2
        have hb3 : (bits .and .i64 ((M : Int) / 64) 1 == 0) = true := hbt2
        clear hbt2 hbv
        go_wp2
        go_roundw
        case rel => exact ⟨3, by omega, by go_num, by rw [HT.out, ← map_vb_set]; exact HST.out, hb.setCell (Nat.le_refl _) _⟩
        case measure => simp [intOf]
    · have hbt := bit_test M h 5
      have hbt2 : (bits .and .i64 ((M : Int) / 32) 1 == 0) = !(bit M 5) := by simpa using hbt
      clear hbt
      have hcell := cell_vb hm 3 (by rw [txt1_length]; omega)
      have hfz := hm.frozen (i := 3) (by decide)
      have hst := hm.set_ 3 (vb 45)
      have HST := Lib.hid hst
      clear hst
      generalize (txt1 M 3).getD 3 0 = c at *
      cases hbv : bit M 5 with
      | true =>
        have HT := Lib.hid (txt1_true M 3 hbv)
        rw [hbv] at hbt2
        have hb3 : (bits .and .i64 ((M : Int) / 32) 1 == 0) = false := hbt2
        clear hbt2 hbv
        go_wp2
        go_roundw
        case rel => exact ⟨4, by omega, by go_num, by rw [HT.out]; exact hm, hb⟩
        case measure => simp [intOf]
      | false =>
        have HT := Lib.hid (txt1_false M 3 hbv)
        rw [hbv] at hbt2
        have hb3 : (bits .and .i64 ((M : Int) / 32) 1 == 0) = true := hbt2
        clear hbt2 hbv
        go_wp2
        go_roundw
        case rel => exact ⟨4, by omega, by go_num, by rw [HT.out, ← map_vb_set]; exact HST.out, hb.setCell (Nat.le_refl _) _⟩
        case measure => simp [intOf]
    · have hbt := bit_test M h 4
      have hbt2 : (bits .and .i64 ((M : Int) / 16) 1 == 0) = !(bit M 4) := by simpa using hbt
      clear hbt
      have hcell := cell_vb hm 4 (by rw [txt1_length]; omega)
      have hfz := hm.frozen (i := 4) (by decide)
      have hst := hm.set_ 4 (vb 45)
      have HST := Lib.hid hst
      clear hst
      generalize (txt1 M 4).getD 4 0 = c at *
      cases hbv : bit M 4 with
      | true =>
        have HT := Lib.hid (txt1_true M 4 hbv)
        rw [hbv] at hbt2
        have hb3 : (bits .and .i64 ((M : Int) / 16) 1 == 0) = false := hbt2
        clear hbt2 hbv
        go_wp2
        go_roundw
        case rel => exact ⟨5, by omega, by go_num, by rw [HT.out]; exact hm, hb⟩
        case measure => simp [intOf]
      | false =>
        have HT := Lib.hid (txt1_false M 4 hbv)
        rw [hbv] at hbt2
        have hb3 : (bits .and .i64 ((M : Int) / 16) 1 == 0) = true := hbt2
        clear hbt2 hbv
        go_wp2
        go_roundw
        case rel => exact ⟨5, by omega, by go_num, by rw [HT.out, ← map_vb_set]; exact HST.out, hb.setCell (Nat.le_refl _) _⟩
        case measure => simp [intOf]
    · have hbt := bit_test M h 3
      have hbt2 : (bits .and .i64 ((M : Int) / 8) 1 == 0) = !(bit M 3) := by simpa using hbt
      clear hbt
      have hcell := cell_vb hm 5 (by rw [txt1_length]; omega)
      have hfz := hm.frozen (i := 5) (by decide)
      have hst := hm.set_ 5 (vb 45)
      have HST := Lib.hid hst
      clear hst
      generalize (txt1 M 5).getD 5 0 = c at *
      cases hbv : bit M 3 with
      | true =>
        have HT := Lib.hid (txt1_true M 5 hbv)
        rw [hbv] at hbt2
        have hb3 : (bits .and .i64 ((M : Int) / 8) 1 == 0) = false := hbt2
        clear hbt2 hbv
        go_wp2
        go_roundw
        case rel => exact ⟨6, by omega, by go_num, by rw [HT.out]; exact hm, hb⟩
        case measure => simp [intOf]
      | false =>
        have HT := Lib.hid (txt1_false M 5 hbv)
        rw [hbv] at hbt2
        have hb3 : (bits .and .i64 ((M : Int) / 8) 1 == 0) = true := hbt2
        clear hbt2 hbv
        go_wp2
        go_roundw
        case rel => exact ⟨6, by omega, by go_num, by rw [HT.out, ← map_vb_set]; exact HST.out, hb.setCell (Nat.le_refl _) _⟩
        case measure => simp [intOf]
    · have hbt := bit_test M h 2
      have hbt2 : (bits .and .i64 ((M : Int) / 4) 1 == 0) = !(bit M 2) := by simpa using hbt
      clear hbt
      have hcell := cell_vb hm 6 (by rw [txt1_length]; omega)
      have hfz := hm.frozen (i := 6) (by decide)
      have hst := hm.set_ 6 (vb 45)
      have HST := Lib.hid hst
      clear hst
      generalize (txt1 M 6).getD 6 0 = c at *
      cases hbv : bit M 2 with
      | true =>
        have HT := Lib.hid (txt1_true M 6 hbv)
        rw [hbv] at hbt2
        have hb3 : (bits .and .i64 ((M : Int) / 4) 1 == 0) = false := hbt2
        clear hbt2 hbv
        go_wp2
        go_roundw
        case rel => exact ⟨7, by omega, by go_num, by rw [HT.out]; exact hm, hb⟩
        case measure => simp [intOf]
      | false =>
        have HT := Lib.hid (txt1_false M 6 hbv)
        rw [hbv] at hbt2
        have hb3 : (bits .and .i64 ((M : Int) / 4) 1 == 0) = true := hbt2
        clear hbt2 hbv
        go_wp2
        go_roundw
        case rel => exact ⟨7, by omega, by go_num, by rw [HT.out, ← map_vb_set]; exact HST.out, hb.setCell (Nat.le_refl _) _⟩
        case measure => simp [intOf]
    · have hbt := bit_test M h 1
      have hbt2 : (bits .and .i64 ((M : Int) / 2) 1 == 0) = !(bit M 1) := by simpa using hbt
      clear hbt
      have hcell := cell_vb hm 7 (by rw [txt1_length]; omega)
      have hfz := hm.frozen (i := 7) (by decide)
      have hst := hm.set_ 7 (vb 45)
      have HST := Lib.hid hst
      clear hst
      generalize (txt1 M 7).getD 7 0 = c at *
      cases hbv : bit M 1 with
      | true =>
        have HT := Lib.hid (txt1_true M 7 hbv)
        rw [hbv] at hbt2
        have hb3 : (bits .and .i64 ((M : Int) / 2) 1 == 0) = false := hbt2
        clear hbt2 hbv
        go_wp2
        go_roundw
        case rel => exact ⟨8, by omega, by go_num, by rw [HT.out]; exact hm, hb⟩
        case measure => simp [intOf]
      | false =>
        have HT := Lib.hid (txt1_false M 7 hbv)
        rw [hbv] at hbt2
        have hb3 : (bits .and .i64 ((M : Int) / 2) 1 == 0) = true := hbt2
        clear hbt2 hbv
        go_wp2
        go_roundw
        case rel => exact ⟨8, by omega, by go_num, by rw [HT.out, ← map_vb_set]; exact HST.out, hb.setCell (Nat.le_refl _) _⟩
        case measure => simp [intOf]
    · have hbt := bit_test M h 0
      have hbt2 : (bits .and .i64 (M : Int) 1 == 0) = !(bit M 0) := by simpa using hbt
      clear hbt
      have hcell := cell_vb hm 8 (by rw [txt1_length]; omega)
      have hfz := hm.frozen (i := 8) (by decide)
      have hst := hm.set_ 8 (vb 45)
      have HST := Lib.hid hst
      clear hst
      generalize (txt1 M 8).getD 8 0 = c at *
      cases hbv : bit M 0 with
      | true =>
        have HT := Lib.hid (txt1_true M 8 hbv)
        rw [hbv] at hbt2
        have hb3 : (bits .and .i64 (M : Int) 1 == 0) = false := hbt2
        clear hbt2 hbv
        go_wp2
        go_roundw
        case rel => exact ⟨9, by omega, by go_num, by rw [HT.out]; exact hm, hb⟩
        case measure => simp [intOf]
      | false =>
        have HT := Lib.hid (txt1_false M 8 hbv)
        rw [hbv] at hbt2
        have hb3 : (bits .and .i64 (M : Int) 1 == 0) = true := hbt2
        clear hbt2 hbv
        go_wp2
        go_roundw
        case rel => exact ⟨9, by omega, by go_num, by rw [HT.out, ← map_vb_set]; exact HST.out, hb.setCell (Nat.le_refl _) _⟩
        case measure => simp [intOf]
    · go_wp2
      clear hm1 hb1
      generalize hH : wr = w2 at *
      clear hH
      go_loopw [33] (fun i wr => ∃ t : Nat, t ≤ 3 ∧ i = .int .i64 t ∧ MBlk wr G 5 ((txt2 M t).map vb) (9, 10) ∧ Below G w wr) (fun i _ => 3 - (intOf i).toNat)
      case atStart => exact ⟨0, by omega, rfl, hm, hb⟩
      case round =>
        obtain ⟨t, ht, rfl, hm, hb⟩ := hrel
        have h3 : t = 0 ∨ t = 1 ∨ t = 2 ∨ t = 3 := by omega
        rcases h3 with rfl | rfl | rfl | rfl
        · have hix : ∀ w, (Instr.index 71 (.agg #[.int .u8 116, .int .u8 115, .int .u8 115]) (.int .i64 0)).run Tryd.prog w = .ok (.int .u8 116) w := fun _ => by kernel_rfl
          have hbt := bit_test M h 9
          have hbt2 : (bits .and .i64 ((M : Int) / 512) 1 == 0) = !(bit M 9) := by simpa using hbt
          clear hbt
          have hcell := cell_vb hm 8 (by rw [txt2_length]; omega)
          have hfz := hm.frozen (i := 8) (by decide)
          have hst1 := Lib.hid (hm.set_ 8 (vb 84))
          have hst2 := Lib.hid (hm.set_ 8 (vb 116))
          generalize hc : (txt2 M 0).getD 8 0 = c at *
          have HC := Lib.hid hc
          clear hc
          cases hbv : bit M 9 with
          | false =>
            have HT := Lib.hid (show txt2 M 1 = txt2 M 0 from sp_false hbv)
            rw [hbv] at hbt2
            have hb3 : (bits .and .i64 ((M : Int) / 512) 1 == 0) = true := hbt2
            clear hbt2 hbv
            go_wp2
            go_roundw
            case rel => exact ⟨1, by omega, by go_num, by rw [HT.out]; exact hm, hb⟩
            case measure => simp [intOf]
          | true =>
            rw [hbv] at hbt2
            have hb3 : (bits .and .i64 ((M : Int) / 512) 1 == 0) = false := hbt2
            have hcc := toNat_beq45 c
            by_cases h45 : c = 45
            · have HT := Lib.hid (show txt2 M 1 = (txt2 M 0).set 8 84 from sp_up hbv (HC.out.trans h45))
              clear hbt2 hbv
              have hcc2 : ((c.toNat : Int) == 45) = true := by rw [hcc]; exact decide_eq_true h45
              clear hcc h45 HC
              go_wp2
              go_roundw
              case rel => exact ⟨1, by omega, by go_num, by rw [HT.out, ← map_vb_set]; exact hst1.out, hb.setCell (Nat.le_refl _) _⟩
              case measure => simp [intOf]
            · have HT := Lib.hid (show txt2 M 1 = (txt2 M 0).set 8 116 from sp_low hbv (fun e => h45 (HC.out.symm.trans e)))
              clear hbt2 hbv
              have hcc2 : ((c.toNat : Int) == 45) = false := by rw [hcc]; exact decide_eq_false h45
              clear hcc h45 HC
              go_wp2
              go_roundw
              case rel => exact ⟨1, by omega, by go_num, by rw [HT.out, ← map_vb_set]; exact hst2.out, hb.setCell (Nat.le_refl _) _⟩
              case measure => simp [intOf]
        · have hix : ∀ w, (Instr.index 71 (.agg #[.int .u8 116, .int .u8 115, .int .u8 115]) (.int .i64 1)).run Tryd.prog w = .ok (.int .u8 115) w := fun _ => by kernel_rfl
          have hbt := bit_test M h 10
          have hbt2 : (bits .and .i64 ((M : Int) / 1024) 1 == 0) = !(bit M 10) := by simpa using hbt
          clear hbt
          have hcell := cell_vb hm 5 (by rw [txt2_length]; omega)
          have hfz := hm.frozen (i := 5) (by decide)
          have hst1 := Lib.hid (hm.set_ 5 (vb 83))
          have hst2 := Lib.hid (hm.set_ 5 (vb 115))
          generalize hc : (txt2 M 1).getD 5 0 = c at *
          have HC := Lib.hid hc
          clear hc
          cases hbv : bit M 10 with
          | false =>
            have HT := Lib.hid (show txt2 M 2 = txt2 M 1 from sp_false hbv)
            rw [hbv] at hbt2
            have hb3 : (bits .and .i64 ((M : Int) / 1024) 1 == 0) = true := hbt2
            clear hbt2 hbv
            go_wp2
            go_roundw
            case rel => exact ⟨2, by omega, by go_num, by rw [HT.out]; exact hm, hb⟩
            case measure => simp [intOf]
          | true =>
            rw [hbv] at hbt2
            have hb3 : (bits .and .i64 ((M : Int) / 1024) 1 == 0) = false := hbt2
            have hcc := toNat_beq45 c
            by_cases h45 : c = 45
            · have HT := Lib.hid (show txt2 M 2 = (txt2 M 1).set 5 83 from sp_up hbv (HC.out.trans h45))
              clear hbt2 hbv
              have hcc2 : ((c.toNat : Int) == 45) = true := by rw [hcc]; exact decide_eq_true h45
              clear hcc h45 HC
              go_wp2
              go_roundw
              case rel => exact ⟨2, by omega, by go_num, by rw [HT.out, ← map_vb_set]; exact hst1.out, hb.setCell (Nat.le_refl _) _⟩
              case measure => simp [intOf]
            · have HT := Lib.hid (show txt2 M 2 = (txt2 M 1).set 5 115 from sp_low hbv (fun e => h45 (HC.out.symm.trans e)))
              clear hbt2 hbv
              have hcc2 : ((c.toNat : Int) == 45) = false := by rw [hcc]; exact decide_eq_false h45
              clear hcc h45 HC
              go_wp2
              go_roundw
              case rel => exact ⟨2, by omega, by go_num, by rw [HT.out, ← map_vb_set]; exact hst2.out, hb.setCell (Nat.le_refl _) _⟩
              case measure => simp [intOf]
        · have hix : ∀ w, (Instr.index 71 (.agg #[.int .u8 116, .int .u8 115, .int .u8 115]) (.int .i64 2)).run Tryd.prog w = .ok (.int .u8 115) w := fun _ => by kernel_rfl
          have hbt := bit_test M h 11
          have hbt2 : (bits .and .i64 ((M : Int) / 2048) 1 == 0) = !(bit M 11) := by simpa using hbt
          clear hbt
          have hcell := cell_vb hm 2 (by rw [txt2_length]; omega)
          have hfz := hm.frozen (i := 2) (by decide)
          have hst1 := Lib.hid (hm.set_ 2 (vb 83))
          have hst2 := Lib.hid (hm.set_ 2 (vb 115))
          generalize hc : (txt2 M 2).getD 2 0 = c at *
          have HC := Lib.hid hc
          clear hc
          cases hbv : bit M 11 with
          | false =>
            have HT := Lib.hid (show txt2 M 3 = txt2 M 2 from sp_false hbv)
            rw [hbv] at hbt2
            have hb3 : (bits .and .i64 ((M : Int) / 2048) 1 == 0) = true := hbt2
            clear hbt2 hbv
            go_wp2
            go_roundw
            case rel => exact ⟨3, by omega, by go_num, by rw [HT.out]; exact hm, hb⟩
            case measure => simp [intOf]
          | true =>
            rw [hbv] at hbt2
            have hb3 : (bits .and .i64 ((M : Int) / 2048) 1 == 0) = false := hbt2
            have hcc := toNat_beq45 c
            by_cases h45 : c = 45
            · have HT := Lib.hid (show txt2 M 3 = (txt2 M 2).set 2 83 from sp_up hbv (HC.out.trans h45))
              clear hbt2 hbv
              have hcc2 : ((c.toNat : Int) == 45) = true := by rw [hcc]; exact decide_eq_true h45
              clear hcc h45 HC
              go_wp2
              go_roundw
              case rel => exact ⟨3, by omega, by go_num, by rw [HT.out, ← map_vb_set]; exact hst1.out, hb.setCell (Nat.le_refl _) _⟩
              case measure => simp [intOf]
            · have HT := Lib.hid (show txt2 M 3 = (txt2 M 2).set 2 115 from sp_low hbv (fun e => h45 (HC.out.symm.trans e)))
              clear hbt2 hbv
              have hcc2 : ((c.toNat : Int) == 45) = false := by rw [hcc]; exact decide_eq_false h45
              clear hcc h45 HC
              go_wp2
              go_roundw
              case rel => exact ⟨3, by omega, by go_num, by rw [HT.out, ← map_vb_set]; exact hst2.out, hb.setCell (Nat.le_refl _) _⟩
              case measure => simp [intOf]
        · have hcv := run_convert_bytes_back (P := Tryd.prog) wr 26 9 5 ⟨G, 0, none⟩ 9 (textS M) Tryd.underlying26 Tryd.underlying5 Tryd.underlying9 (fun j hj => by
            have h1 : j < (txt2 M 3).length := hj
            have h2 := cell_vb hm j h1
            have e : (⟨G, 0, none⟩ : Addr).add j = ⟨G, j, none⟩ := by unfold Addr.add; split <;> simp_all
            rw [e, h2, List.getD_eq_getElem?_getD, List.getElem?_eq_getElem h1]
            rfl)
          rw [show (textS M).length = 9 from txt2_length M 3] at hcv
          go_wp2
          go_ret2
          exact ⟨rfl, by rw [HG.out]; exact hb⟩

end Go.Proofs.YtmioinfhggbfkaaDoor
