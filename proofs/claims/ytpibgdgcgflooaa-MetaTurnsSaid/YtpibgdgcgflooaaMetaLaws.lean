/-
  The walks of the laws MetaPlain, MetaBack, MetaTurns. No condition. (Printed by gen_metalaws.py.)
-/
import Derived.Test.YtpibgdgcgflooaaMetaFacts
namespace Go.Proofs.Ytpibgdgcgflooaa
open Go.RowKit

theorem mk_data (l : List UInt8) : (ByteArray.mk l.toArray).data.toList = l := by simp
theorem mk_size (l : List UInt8) : (ByteArray.mk l.toArray).size = l.length := by show l.toArray.size = _; simp

set_option maxHeartbeats 800000 in
theorem MetaBack_walk (w : World) (_hsh : w.ShapedOpen Try.prog) (mode : Int) (hm : I64 mode) :
    Calls Try.prog 13 #[.int .i64 mode] w fun e w' => e = .returned (.bool true) ∧ Below w.heap.size w w' := by
  have ⟨p1, p2⟩ := pick_bd mode 4096 (by omega)
  obtain ⟨M, hM⟩ := Int.eq_ofNat_of_zero_le p1
  have hlt : M < 4096 := by omega
  have hpt := parse_text M hlt
  have hsz := mk_size (textS M)
  rw [show (textS M).length = 9 from txt2_length M 3] at hsz
  have hmk := mk_data (textS M)
  have hT := fun w => Text_ok M hlt w
  rw [← hmk] at hpt
  generalize ByteArray.mk (textS M).toArray = s at *
  have HM := Lib.hid hM; have HP := Lib.hid hpt; have HT := Lib.hid hT
  clear hM hpt hT hmk
  go_enter Try.func13, Try.ntmps13
  go_wp2_with fail
  refine (picked_any mode 4096 hm (by omega) (by omega) _).mono ?_
  rintro e w' ⟨rfl, rfl⟩
  rw [HM.out]
  go_wp2_with fail
  refine (HT.out _).mono ?_
  rintro e w1 ⟨rfl, hb⟩
  go_wp2_with fail
  refine (Parse_any s _).mono ?_
  rintro e w' ⟨rfl, rfl⟩
  rw [HP.out]
  go_wp2_with fail
  go_ret
  exact ⟨rfl, hb⟩

set_option maxHeartbeats 800000 in
theorem MetaTurns_walk (w : World) (_hsh : w.ShapedOpen Try.prog) (s : ByteArray) (_hs : s.size ≤ reachBytes) :
    Calls Try.prog 14 #[.string s] w fun e w' => e = .returned (.bool true) ∧ Below w.heap.size w w' := by
  have hc : parseS (ByteArray.mk #[114, 119, 115, 114, 45, 120, 45, 45, 84]).data.toList = (3048, 0) := by decide
  by_cases hok : (parseS s.data.toList).2 = 0
  · obtain ⟨M, hM1, hM2, hM3⟩ := text_parse s.data.toList (parseS s.data.toList).1 (by rw [← hok])
    have hp : parseS s.data.toList = ((M : Int), 0) := by rw [← hM1, ← hok]
    have hT := fun w => Text_ok M hM2 w
    rw [hM3] at hT
    have hself : (ByteArray.mk s.data.toList.toArray) = s := rfl
    rw [hself] at hT
    have HP := Lib.hid hp; have HT := Lib.hid hT; have HC := Lib.hid hc
    clear hp hT hM1 hM3 hok hc hself
    go_enter Try.func14, Try.ntmps14
    go_wp2_with fail
    refine (Parse_any s _).mono ?_
    rintro e w' ⟨rfl, rfl⟩
    rw [HP.out]
    go_wp2_with fail
    refine (Parse_any _ _).mono ?_
    rintro e w' ⟨rfl, rfl⟩
    rw [HC.out]
    go_wp2_with fail
    refine (HT.out _).mono ?_
    rintro e w1 ⟨rfl, hb⟩
    go_wp2_with fail
    go_ret
    exact ⟨rfl, hb⟩
  · have hp := parse_no s.data.toList hok
    generalize hq : parseS s.data.toList = q at *
    obtain ⟨n, c⟩ := q
    simp only at hp hok
    subst hp
    have hc1 : (c == 0) = false := by simpa using hok
    have hc2 : (c != 0) = true := by simpa using hok
    have HP := Lib.hid hq; have HC := Lib.hid hc
    clear hq hc hok
    go_enter Try.func14, Try.ntmps14
    go_wp2_with fail
    refine (Parse_any s _).mono ?_
    rintro e w' ⟨rfl, rfl⟩
    rw [HP.out]
    go_wp2_with fail
    refine (Parse_any _ _).mono ?_
    rintro e w' ⟨rfl, rfl⟩
    rw [HC.out]
    go_wp2_with fail
    go_ret
    exact ⟨rfl, Below.refl _ _⟩

theorem plain_at (M : Nat) (s : ByteArray) (hd : s.data.toList = txt1 M 9) (k : Nat) (h : k < s.size) (h9 : k < 9) : s[k] = if bit M (8 - k) then letters.getD k 0 else 45 := by
  have h1 : s.data.toList[k]? = some s[k] := by
    rw [List.getElem?_eq_getElem (by rw [← Lib.size_eq]; exact h)]; rfl
  rw [hd, txt1, List.getElem?_map, List.getElem?_range h9] at h1
  simp only [Option.map_some, Option.some.injEq] at h1
  rw [← h1, chr, if_pos h9]
theorem bit_test2 (M : Nat) (j : Nat) : (((M / 2 ^ j : Nat) : Int) % 2 == 0) = !(bit M j) := by
  unfold bit
  have : M / 2 ^ j % 2 = 0 ∨ M / 2 ^ j % 2 = 1 := by omega
  have h3 : ((M / 2 ^ j : Nat) : Int) % 2 = ((M / 2 ^ j % 2 : Nat) : Int) := by omega
  rw [h3]
  rcases this with e | e <;> rw [e] <;> rfl

set_option maxHeartbeats 4000000 in
theorem MetaPlain_walk (w : World) (_hsh : w.ShapedOpen Try.prog) (mode : Int) (hm : I64 mode) :
    Calls Try.prog 7 #[.int .i64 mode] w fun e w' => e = .returned (.bool true) ∧ Below w.heap.size w w' := by
  have ⟨p1, p2⟩ := pick_bd mode 512 (by omega)
  obtain ⟨M, hM⟩ := Int.eq_ofNat_of_zero_le p1
  have hlt : M < 512 := by omega
  have hsz := mk_size (textS M)
  rw [show (textS M).length = 9 from txt2_length M 3] at hsz
  have hmk := mk_data (textS M)
  rw [text_plain M hlt] at hmk
  have hT := fun w => Text_ok M (by omega) w
  have hat := fun k h h9 => plain_at M (ByteArray.mk (textS M).toArray) (by rw [mk_data, text_plain M hlt]) k h h9
  generalize ByteArray.mk (textS M).toArray = s at *
  have HM := Lib.hid hM; have HT := Lib.hid hT; have HA := Lib.hid hat
  clear hM hT hmk hat
  go_enter Try.func7, Try.ntmps7
  go_wp2_with fail
  refine (picked_any mode 512 hm (by omega) (by omega) _).mono ?_
  rintro e w' ⟨rfl, rfl⟩
  rw [HM.out]
  go_wp2_with fail
  refine (HT.out _).mono ?_
  rintro e w1 ⟨rfl, hb⟩
  go_wp2_with fail
  go_loop [21] (fun i => ∃ k : Nat, k ≤ 9 ∧ i = .int .i64 k) (fun i => 9 - (intOf i).toNat)
  case atStart => exact ⟨0, by omega, rfl⟩
  case round =>
    obtain ⟨k, hk, rfl⟩ := hrel
    have h9 : k = 0 ∨ k = 1 ∨ k = 2 ∨ k = 3 ∨ k = 4 ∨ k = 5 ∨ k = 6 ∨ k = 7 ∨ k = 8 ∨ k = 9 := by omega
    rcases h9 with rfl | rfl | rfl | rfl | rfl | rfl | rfl | rfl | rfl | rfl
    · have hbk : (({ data := #[114, 119, 120, 114, 119, 120, 114, 119, 120] } : ByteArray)[0]'(by decide)).toNat = 114 := rfl
      have hbt := bit_test2 M 8
      have hbt2 : (((M : Int) / 256) % 2 == 0) = !(bit M 8) := by simpa using hbt
      clear hbt
      have hk2 : 0 < s.size := by omega
      have hat := HA.out 0 hk2 (by omega)
      cases hbv : bit M 8 with
      | true =>
        rw [hbv] at hbt2
        have hb3 : (((M : Int) / 256) % 2 == 0) = false := hbt2
        have hc : s[0].toNat = 114 := by rw [hat, hbv]; rfl
        clear hbt2 hbv hat
        go_wp2
        go_round
        case rel => exact ⟨1, by omega, by go_num⟩
        case measure => simp [intOf]
      | false =>
        rw [hbv] at hbt2
        have hb3 : (((M : Int) / 256) % 2 == 0) = true := hbt2
        have hc : s[0].toNat = 45 := by rw [hat, hbv]; rfl
        clear hbt2 hbv hat
        go_wp2
        go_round
        case rel => exact ⟨1, by omega, by go_num⟩
        case measure => simp [intOf]
    · have hbk : (({ data := #[114, 119, 120, 114, 119, 120, 114, 119, 120] } : ByteArray)[1]'(by decide)).toNat = 119 := rfl
      have hbt := bit_test2 M 7
      have hbt2 : (((M : Int) / 128) % 2 == 0) = !(bit M 7) := by simpa using hbt
      clear hbt
      have hk2 : 1 < s.size := by omega
      have hat := HA.out 1 hk2 (by omega)
      cases hbv : bit M 7 with
      | true =>
        rw [hbv] at hbt2
        have hb3 : (((M : Int) / 128) % 2 == 0) = false := hbt2
        have hc : s[1].toNat = 119 := by rw [hat, hbv]; rfl
        clear hbt2 hbv hat
        go_wp2
        go_round
        case rel => exact ⟨2, by omega, by go_num⟩
        case measure => simp [intOf]
      | false =>
        rw [hbv] at hbt2
        have hb3 : (((M : Int) / 128) % 2 == 0) = true := hbt2
        have hc : s[1].toNat = 45 := by rw [hat, hbv]; rfl
        clear hbt2 hbv hat
        go_wp2
        go_round
        case rel => exact ⟨2, by omega, by go_num⟩
        case measure => simp [intOf]
    · have hbk : (({ data := #[114, 119, 120, 114, 119, 120, 114, 119, 120] } : ByteArray)[2]'(by decide)).toNat = 120 := rfl
      have hbt := bit_test2 M 6
      have hbt2 : (((M : Int) / 64) % 2 == 0) = !(bit M 6) := by simpa using hbt
      clear hbt
      have hk2 : 2 < s.size := by omega
      have hat := HA.out 2 hk2 (by omega)
      cases hbv : bit M 6 with
      | true =>
        rw [hbv] at hbt2
        have hb3 : (((M : Int) / 64) % 2 == 0) = false := hbt2
        have hc : s[2].toNat = 120 := by rw [hat, hbv]; rfl
        clear hbt2 hbv hat
        go_wp2
        go_round
        case rel => exact ⟨3, by omega, by go_num⟩
        case measure => simp [intOf]
      | false =>
        rw [hbv] at hbt2
        have hb3 : (((M : Int) / 64) % 2 == 0) = true := hbt2
        have hc : s[2].toNat = 45 := by rw [hat, hbv]; rfl
        clear hbt2 hbv hat
        go_wp2
        go_round
        case rel => exact ⟨3, by omega, by go_num⟩
        case measure => simp [intOf]
    · have hbk : (({ data := #[114, 119, 120, 114, 119, 120, 114, 119, 120] } : ByteArray)[3]'(by decide)).toNat = 114 := rfl
      have hbt := bit_test2 M 5
      have hbt2 : (((M : Int) / 32) % 2 == 0) = !(bit M 5) := by simpa using hbt
      clear hbt
      have hk2 : 3 < s.size := by omega
      have hat := HA.out 3 hk2 (by omega)
      cases hbv : bit M 5 with
      | true =>
        rw [hbv] at hbt2
        have hb3 : (((M : Int) / 32) % 2 == 0) = false := hbt2
        have hc : s[3].toNat = 114 := by rw [hat, hbv]; rfl
        clear hbt2 hbv hat
        go_wp2
        go_round
        case rel => exact ⟨4, by omega, by go_num⟩
        case measure => simp [intOf]
      | false =>
        rw [hbv] at hbt2
        have hb3 : (((M : Int) / 32) % 2 == 0) = true := hbt2
        have hc : s[3].toNat = 45 := by rw [hat, hbv]; rfl
        clear hbt2 hbv hat
        go_wp2
        go_round
        case rel => exact ⟨4, by omega, by go_num⟩
        case measure => simp [intOf]
    · have hbk : (({ data := #[114, 119, 120, 114, 119, 120, 114, 119, 120] } : ByteArray)[4]'(by decide)).toNat = 119 := rfl
      have hbt := bit_test2 M 4
      have hbt2 : (((M : Int) / 16) % 2 == 0) = !(bit M 4) := by simpa using hbt
      clear hbt
      have hk2 : 4 < s.size := by omega
      have hat := HA.out 4 hk2 (by omega)
      cases hbv : bit M 4 with
      | true =>
        rw [hbv] at hbt2
        have hb3 : (((M : Int) / 16) % 2 == 0) = false := hbt2
        have hc : s[4].toNat = 119 := by rw [hat, hbv]; rfl
        clear hbt2 hbv hat
        go_wp2
        go_round
        case rel => exact ⟨5, by omega, by go_num⟩
        case measure => simp [intOf]
      | false =>
        rw [hbv] at hbt2
        have hb3 : (((M : Int) / 16) % 2 == 0) = true := hbt2
        have hc : s[4].toNat = 45 := by rw [hat, hbv]; rfl
        clear hbt2 hbv hat
        go_wp2
        go_round
        case rel => exact ⟨5, by omega, by go_num⟩
        case measure => simp [intOf]
    · have hbk : (({ data := #[114, 119, 120, 114, 119, 120, 114, 119, 120] } : ByteArray)[5]'(by decide)).toNat = 120 := rfl
      have hbt := bit_test2 M 3
      have hbt2 : (((M : Int) / 8) % 2 == 0) = !(bit M 3) := by simpa using hbt
      clear hbt
      have hk2 : 5 < s.size := by omega
      have hat := HA.out 5 hk2 (by omega)
      cases hbv : bit M 3 with
      | true =>
        rw [hbv] at hbt2
        have hb3 : (((M : Int) / 8) % 2 == 0) = false := hbt2
        have hc : s[5].toNat = 120 := by rw [hat, hbv]; rfl
        clear hbt2 hbv hat
        go_wp2
        go_round
        case rel => exact ⟨6, by omega, by go_num⟩
        case measure => simp [intOf]
      | false =>
        rw [hbv] at hbt2
        have hb3 : (((M : Int) / 8) % 2 == 0) = true := hbt2
        have hc : s[5].toNat = 45 := by rw [hat, hbv]; rfl
        clear hbt2 hbv hat
        go_wp2
        go_round
        case rel => exact ⟨6, by omega, by go_num⟩
        case measure => simp [intOf]
    · have hbk : (({ data := #[114, 119, 120, 114, 119, 120, 114, 119, 120] } : ByteArray)[6]'(by decide)).toNat = 114 := rfl
      have hbt := bit_test2 M 2
      have hbt2 : (((M : Int) / 4) % 2 == 0) = !(bit M 2) := by simpa using hbt
      clear hbt
      have hk2 : 6 < s.size := by omega
      have hat := HA.out 6 hk2 (by omega)
      cases hbv : bit M 2 with
      | true =>
        rw [hbv] at hbt2
        have hb3 : (((M : Int) / 4) % 2 == 0) = false := hbt2
        have hc : s[6].toNat = 114 := by rw [hat, hbv]; rfl
        clear hbt2 hbv hat
        go_wp2
        go_round
        case rel => exact ⟨7, by omega, by go_num⟩
        case measure => simp [intOf]
      | false =>
        rw [hbv] at hbt2
        have hb3 : (((M : Int) / 4) % 2 == 0) = true := hbt2
        have hc : s[6].toNat = 45 := by rw [hat, hbv]; rfl
        clear hbt2 hbv hat
        go_wp2
        go_round
        case rel => exact ⟨7, by omega, by go_num⟩
        case measure => simp [intOf]
    · have hbk : (({ data := #[114, 119, 120, 114, 119, 120, 114, 119, 120] } : ByteArray)[7]'(by decide)).toNat = 119 := rfl
      have hbt := bit_test2 M 1
      have hbt2 : (((M : Int) / 2) % 2 == 0) = !(bit M 1) := by simpa using hbt
      clear hbt
      have hk2 : 7 < s.size := by omega
      have hat := HA.out 7 hk2 (by omega)
      cases hbv : bit M 1 with
      | true =>
        rw [hbv] at hbt2
        have hb3 : (((M : Int) / 2) % 2 == 0) = false := hbt2
        have hc : s[7].toNat = 119 := by rw [hat, hbv]; rfl
        clear hbt2 hbv hat
        go_wp2
        go_round
        case rel => exact ⟨8, by omega, by go_num⟩
        case measure => simp [intOf]
      | false =>
        rw [hbv] at hbt2
        have hb3 : (((M : Int) / 2) % 2 == 0) = true := hbt2
        have hc : s[7].toNat = 45 := by rw [hat, hbv]; rfl
        clear hbt2 hbv hat
        go_wp2
        go_round
        case rel => exact ⟨8, by omega, by go_num⟩
        case measure => simp [intOf]
    · have hbk : (({ data := #[114, 119, 120, 114, 119, 120, 114, 119, 120] } : ByteArray)[8]'(by decide)).toNat = 120 := rfl
      have hbt := bit_test2 M 0
      have hbt2 : ((M : Int) % 2 == 0) = !(bit M 0) := by simpa using hbt
      clear hbt
      have hk2 : 8 < s.size := by omega
      have hat := HA.out 8 hk2 (by omega)
      cases hbv : bit M 0 with
      | true =>
        rw [hbv] at hbt2
        have hb3 : ((M : Int) % 2 == 0) = false := hbt2
        have hc : s[8].toNat = 120 := by rw [hat, hbv]; rfl
        clear hbt2 hbv hat
        go_wp2
        go_round
        case rel => exact ⟨9, by omega, by go_num⟩
        case measure => simp [intOf]
      | false =>
        rw [hbv] at hbt2
        have hb3 : ((M : Int) % 2 == 0) = true := hbt2
        have hc : s[8].toNat = 45 := by rw [hat, hbv]; rfl
        clear hbt2 hbv hat
        go_wp2
        go_round
        case rel => exact ⟨9, by omega, by go_num⟩
        case measure => simp [intOf]
    · go_wp2
      go_ret
      exact ⟨rfl, hb⟩

end Go.Proofs.Ytpibgdgcgflooaa
