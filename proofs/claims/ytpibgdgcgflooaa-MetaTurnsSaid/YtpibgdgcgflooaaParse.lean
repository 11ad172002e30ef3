/-
  meta.Parse. No condition. (Printed by gen_parse.py.)
-/
import Derived.Test.YtpibgdgcgflooaaMeta
import Derived.Test.YtpibgdgcgflooaaOctal
namespace Go.Proofs.Ytpibgdgcgflooaa
open Go.RowKit

def small (i : Nat) : UInt8 := if i = 8 then 116 else 115
def great (i : Nat) : UInt8 := if i = 8 then 84 else 83
def opt (i : Nat) (c : UInt8) : Option Nat :=
  if c = letters.getD i 0 then some (2 ^ (8 - i))
  else if i % 3 = 2 ∧ c = small i then some (2 ^ (8 - i) ||| 2 ^ (11 - i / 3))
  else if i % 3 = 2 ∧ c = great i then some (2 ^ (11 - i / 3))
  else if c = 45 then some 0 else none
def prs : Nat → Nat → List UInt8 → Option Nat
  | _, m, [] => some m
  | i, m, c :: l => match opt i c with
    | none => none
    | some b => prs (i + 1) (m ||| b) l
/-- meta.Parse, plainly -/
def parseS (l : List UInt8) : Int × Int :=
  if l.length ≠ 9 then (0, 1) else match prs 0 0 l with
    | none => (0, 3)
    | some m => ((m : Int), 0)
theorem prs_none {i m : Nat} {c : UInt8} {l : List UInt8} (h : opt i c = none) : prs i m (c :: l) = none := by simp [prs, h]
theorem prs_some {i m b : Nat} {c : UInt8} {l : List UInt8} (h : opt i c = some b) : prs i m (c :: l) = prs (i + 1) (m ||| b) l := by simp [prs, h]
theorem drop_cons (s : ByteArray) (k : Nat) (h : k < s.size) : s.data.toList.drop k = s[k] :: s.data.toList.drop (k + 1) := by
  rw [List.drop_eq_getElem_cons (by rw [← Lib.size_eq]; exact h)]; rfl
theorem beqN (c d : UInt8) : ((c.toNat : Int) == (d.toNat : Int)) = decide (c = d) := by
  rw [Bool.eq_iff_iff]
  simp only [beq_iff_eq, decide_eq_true_eq]
  constructor
  · intro h; apply UInt8.toNat.inj; show c.toNat = d.toNat; omega
  · rintro rfl; rfl
theorem bneN (c d : UInt8) : ((c.toNat : Int) != (d.toNat : Int)) = !decide (c = d) := by
  show (!((c.toNat : Int) == (d.toNat : Int))) = _
  rw [beqN]
theorem ne_beq {c d : UInt8} (h : c ≠ d) : ((c.toNat : Int) == (d.toNat : Int)) = false := by rw [beqN]; exact decide_eq_false h
theorem eq_beq {c d : UInt8} (h : c = d) : ((c.toNat : Int) == (d.toNat : Int)) = true := by rw [beqN]; exact decide_eq_true h
theorem ne_bne {c d : UInt8} (h : c ≠ d) : ((c.toNat : Int) != (d.toNat : Int)) = true := by rw [bneN, decide_eq_false h]; rfl
theorem eq_bne {c d : UInt8} (h : c = d) : ((c.toNat : Int) != (d.toNat : Int)) = false := by rw [bneN, decide_eq_true h]; rfl
theorem or_bd (m b : Nat) (h : m < 4096) (hb : b < 4096) : m ||| b < 4096 := Nat.or_lt_two_pow (n := 12) (by omega) (by omega)

set_option maxHeartbeats 4000000 in
theorem Parse_any (s : ByteArray) (w : World) :
    Calls Try.prog 28 #[.string s] w fun e w' => e = .returned (.tuple #[.int .i64 (parseS s.data.toList).1, .int .i64 (parseS s.data.toList).2]) ∧ w = w' := by
  have hsz0 := Lib.size_eq s
  by_cases hlen : s.size = 9
  · have fin := Lib.hid (show parseS s.data.toList = match prs 0 0 s.data.toList with | none => (0, 3) | some m => ((m : Int), 0) by rw [parseS, if_neg (by omega)])
    clear hsz0
    go_enter Try.func28, Try.ntmps28
    go_wp2
    go_loop [4, 16] (fun t i => ∃ k m : Nat, k ≤ 9 ∧ i = .int .i64 k ∧ t = .int .i64 m ∧ m < 4096 ∧ prs 0 0 s.data.toList = prs k m (s.data.toList.drop k)) (fun _ i => 9 - (intOf i).toNat)
    case atStart => exact ⟨0, 0, by omega, rfl, rfl, by omega, rfl⟩
    case round =>
      obtain ⟨k, m, hk, rfl, rfl, hm, hp⟩ := hrel
      have HP := Lib.hid hp
      clear hp
      have h9 : k = 0 ∨ k = 1 ∨ k = 2 ∨ k = 3 ∨ k = 4 ∨ k = 5 ∨ k = 6 ∨ k = 7 ∨ k = 8 ∨ k = 9 := by omega
      rcases h9 with rfl | rfl | rfl | rfl | rfl | rfl | rfl | rfl | rfl | rfl
      · have hd := drop_cons s 0 (by omega)
        rw [hd] at HP
        clear hd
        have hbk : (({ data := #[114, 119, 120, 114, 119, 120, 114, 119, 120] } : ByteArray)[0]'(by decide)).toNat = 114 := rfl
        by_cases e0 : s[0] = 114
        · have f0 : ((s[0].toNat : Int) == 114) = true := eq_beq e0
          have g0 : ((s[0].toNat : Int) != 114) = false := eq_bne e0
          have ho : opt 0 s[0] = some 256 := by simp [opt, letters, small, great, e0]
          have H1 := Lib.hid (HP.out.trans (prs_some ho))
          have hv := or_bd m 256 hm (by omega)
          have hor := i64_or_nat m 256 (by omega) (by omega)
          have hor2 : bits .or .i64 (m : Int) 256 = ((m ||| 256 : Nat) : Int) := hor
          clear hor
          generalize m ||| 256 = v at *
          clear ho e0
          go_wp2
          go_round
          case rel => exact ⟨1, v, by omega, by go_num, rfl, hv, H1.out⟩
          case measure => simp [intOf]
        · have f0 : ((s[0].toNat : Int) == 114) = false := ne_beq e0
          have g0 : ((s[0].toNat : Int) != 114) = true := ne_bne e0
          by_cases e1 : s[0] = 45
          · have f1 : ((s[0].toNat : Int) == 45) = true := eq_beq e1
            have g1 : ((s[0].toNat : Int) != 45) = false := eq_bne e1
            have ho : opt 0 s[0] = some 0 := by simp [opt, letters, small, great, e1]
            have H1 := Lib.hid (HP.out.trans (prs_some ho))
            have hv := or_bd m 0 hm (by omega)
            rw [Nat.or_zero] at H1 hv
            clear ho e0 e1
            go_wp2
            go_round
            case rel => exact ⟨1, m, by omega, by go_num, rfl, hv, H1.out⟩
            case measure => simp [intOf]
          · have f1 : ((s[0].toNat : Int) == 45) = false := ne_beq e1
            have g1 : ((s[0].toNat : Int) != 45) = true := ne_bne e1
            have ho : opt 0 s[0] = none := by simp [opt, letters, small, great, e0, e1]
            have H1 := Lib.hid (fin.out.trans (by rw [HP.out, prs_none ho]))
            have H2 : Hid (parseS s.data.toList = (0, 3)) := H1
            clear ho H1 e0 e1
            go_wp2
            go_ret2
            exact ⟨ret2_int (by rw [H2.out]) (by rw [H2.out]), rfl⟩
      · have hd := drop_cons s 1 (by omega)
        rw [hd] at HP
        clear hd
        have hbk : (({ data := #[114, 119, 120, 114, 119, 120, 114, 119, 120] } : ByteArray)[1]'(by decide)).toNat = 119 := rfl
        by_cases e0 : s[1] = 119
        · have f0 : ((s[1].toNat : Int) == 119) = true := eq_beq e0
          have g0 : ((s[1].toNat : Int) != 119) = false := eq_bne e0
          have ho : opt 1 s[1] = some 128 := by simp [opt, letters, small, great, e0]
          have H1 := Lib.hid (HP.out.trans (prs_some ho))
          have hv := or_bd m 128 hm (by omega)
          have hor := i64_or_nat m 128 (by omega) (by omega)
          have hor2 : bits .or .i64 (m : Int) 128 = ((m ||| 128 : Nat) : Int) := hor
          clear hor
          generalize m ||| 128 = v at *
          clear ho e0
          go_wp2
          go_round
          case rel => exact ⟨2, v, by omega, by go_num, rfl, hv, H1.out⟩
          case measure => simp [intOf]
        · have f0 : ((s[1].toNat : Int) == 119) = false := ne_beq e0
          have g0 : ((s[1].toNat : Int) != 119) = true := ne_bne e0
          by_cases e1 : s[1] = 45
          · have f1 : ((s[1].toNat : Int) == 45) = true := eq_beq e1
            have g1 : ((s[1].toNat : Int) != 45) = false := eq_bne e1
            have ho : opt 1 s[1] = some 0 := by simp [opt, letters, small, great, e1]
            have H1 := Lib.hid (HP.out.trans (prs_some ho))
            have hv := or_bd m 0 hm (by omega)
            rw [Nat.or_zero] at H1 hv
            clear ho e0 e1
            go_wp2
            go_round
            case rel => exact ⟨2, m, by omega, by go_num, rfl, hv, H1.out⟩
            case measure => simp [intOf]
          · have f1 : ((s[1].toNat : Int) == 45) = false := ne_beq e1
            have g1 : ((s[1].toNat : Int) != 45) = true := ne_bne e1
            have ho : opt 1 s[1] = none := by simp [opt, letters, small, great, e0, e1]
            have H1 := Lib.hid (fin.out.trans (by rw [HP.out, prs_none ho]))
            have H2 : Hid (parseS s.data.toList = (0, 3)) := H1
            clear ho H1 e0 e1
            go_wp2
            go_ret2
            exact ⟨ret2_int (by rw [H2.out]) (by rw [H2.out]), rfl⟩
      · have hd := drop_cons s 2 (by omega)
        rw [hd] at HP
        clear hd
        have hbk : (({ data := #[114, 119, 120, 114, 119, 120, 114, 119, 120] } : ByteArray)[2]'(by decide)).toNat = 120 := rfl
        by_cases e0 : s[2] = 120
        · have f0 : ((s[2].toNat : Int) == 120) = true := eq_beq e0
          have g0 : ((s[2].toNat : Int) != 120) = false := eq_bne e0
          have ho : opt 2 s[2] = some 64 := by simp [opt, letters, small, great, e0]
          have H1 := Lib.hid (HP.out.trans (prs_some ho))
          have hv := or_bd m 64 hm (by omega)
          have hor := i64_or_nat m 64 (by omega) (by omega)
          have hor2 : bits .or .i64 (m : Int) 64 = ((m ||| 64 : Nat) : Int) := hor
          clear hor
          generalize m ||| 64 = v at *
          clear ho e0
          go_wp2
          go_round
          case rel => exact ⟨3, v, by omega, by go_num, rfl, hv, H1.out⟩
          case measure => simp [intOf]
        · have f0 : ((s[2].toNat : Int) == 120) = false := ne_beq e0
          have g0 : ((s[2].toNat : Int) != 120) = true := ne_bne e0
          by_cases e1 : s[2] = 115
          · have f1 : ((s[2].toNat : Int) == 115) = true := eq_beq e1
            have g1 : ((s[2].toNat : Int) != 115) = false := eq_bne e1
            have ho : opt 2 s[2] = some 2112 := by simp [opt, letters, small, great, e1]
            have H1 := Lib.hid (HP.out.trans (prs_some ho))
            have hv := or_bd m 2112 hm (by omega)
            have hor := i64_or_nat m 2112 (by omega) (by omega)
            have hor2 : bits .or .i64 (m : Int) 2112 = ((m ||| 2112 : Nat) : Int) := hor
            clear hor
            have hor3 : bits .or .i64 64 2048 = 2112 := by decide
            generalize m ||| 2112 = v at *
            clear ho e0 e1
            go_wp2
            go_round
            case rel => exact ⟨3, v, by omega, by go_num, rfl, hv, H1.out⟩
            case measure => simp [intOf]
          · have f1 : ((s[2].toNat : Int) == 115) = false := ne_beq e1
            have g1 : ((s[2].toNat : Int) != 115) = true := ne_bne e1
            by_cases e2 : s[2] = 83
            · have f2 : ((s[2].toNat : Int) == 83) = true := eq_beq e2
              have g2 : ((s[2].toNat : Int) != 83) = false := eq_bne e2
              have ho : opt 2 s[2] = some 2048 := by simp [opt, letters, small, great, e2]
              have H1 := Lib.hid (HP.out.trans (prs_some ho))
              have hv := or_bd m 2048 hm (by omega)
              have hor := i64_or_nat m 2048 (by omega) (by omega)
              have hor2 : bits .or .i64 (m : Int) 2048 = ((m ||| 2048 : Nat) : Int) := hor
              clear hor
              generalize m ||| 2048 = v at *
              clear ho e0 e1 e2
              go_wp2
              go_round
              case rel => exact ⟨3, v, by omega, by go_num, rfl, hv, H1.out⟩
              case measure => simp [intOf]
            · have f2 : ((s[2].toNat : Int) == 83) = false := ne_beq e2
              have g2 : ((s[2].toNat : Int) != 83) = true := ne_bne e2
              by_cases e3 : s[2] = 45
              · have f3 : ((s[2].toNat : Int) == 45) = true := eq_beq e3
                have g3 : ((s[2].toNat : Int) != 45) = false := eq_bne e3
                have ho : opt 2 s[2] = some 0 := by simp [opt, letters, small, great, e3]
                have H1 := Lib.hid (HP.out.trans (prs_some ho))
                have hv := or_bd m 0 hm (by omega)
                rw [Nat.or_zero] at H1 hv
                clear ho e0 e1 e2 e3
                go_wp2
                go_round
                case rel => exact ⟨3, m, by omega, by go_num, rfl, hv, H1.out⟩
                case measure => simp [intOf]
              · have f3 : ((s[2].toNat : Int) == 45) = false := ne_beq e3
                have g3 : ((s[2].toNat : Int) != 45) = true := ne_bne e3
                have ho : opt 2 s[2] = none := by simp [opt, letters, small, great, e0, e1, e2, e3]
                have H1 := Lib.hid (fin.out.trans (by rw [HP.out, prs_none ho]))
                have H2 : Hid (parseS s.data.toList = (0, 3)) := H1
                clear ho H1 e0 e1 e2 e3
                go_wp2
                go_ret2
                exact ⟨ret2_int (by rw [H2.out]) (by rw [H2.out]), rfl⟩
      · have hd := drop_cons s 3 (by omega)
        rw [hd] at HP
        clear hd
        have hbk : (({ data := #[114, 119, 120, 114, 119, 120, 114, 119, 120] } : ByteArray)[3]'(by decide)).toNat = 114 := rfl
        by_cases e0 : s[3] = 114
        · have f0 : ((s[3].toNat : Int) == 114) = true := eq_beq e0
          have g0 : ((s[3].toNat : Int) != 114) = false := eq_bne e0
          have ho : opt 3 s[3] = some 32 := by simp [opt, letters, small, great, e0]
          have H1 := Lib.hid (HP.out.trans (prs_some ho))
          have hv := or_bd m 32 hm (by omega)
          have hor := i64_or_nat m 32 (by omega) (by omega)
          have hor2 : bits .or .i64 (m : Int) 32 = ((m ||| 32 : Nat) : Int) := hor
          clear hor
          generalize m ||| 32 = v at *
          clear ho e0
          go_wp2
          go_round
          case rel => exact ⟨4, v, by omega, by go_num, rfl, hv, H1.out⟩
          case measure => simp [intOf]
        · have f0 : ((s[3].toNat : Int) == 114) = false := ne_beq e0
          have g0 : ((s[3].toNat : Int) != 114) = true := ne_bne e0
          by_cases e1 : s[3] = 45
          · have f1 : ((s[3].toNat : Int) == 45) = true := eq_beq e1
            have g1 : ((s[3].toNat : Int) != 45) = false := eq_bne e1
            have ho : opt 3 s[3] = some 0 := by simp [opt, letters, small, great, e1]
            have H1 := Lib.hid (HP.out.trans (prs_some ho))
            have hv := or_bd m 0 hm (by omega)
            rw [Nat.or_zero] at H1 hv
            clear ho e0 e1
            go_wp2
            go_round
            case rel => exact ⟨4, m, by omega, by go_num, rfl, hv, H1.out⟩
            case measure => simp [intOf]
          · have f1 : ((s[3].toNat : Int) == 45) = false := ne_beq e1
            have g1 : ((s[3].toNat : Int) != 45) = true := ne_bne e1
            have ho : opt 3 s[3] = none := by simp [opt, letters, small, great, e0, e1]
            have H1 := Lib.hid (fin.out.trans (by rw [HP.out, prs_none ho]))
            have H2 : Hid (parseS s.data.toList = (0, 3)) := H1
            clear ho H1 e0 e1
            go_wp2
            go_ret2
            exact ⟨ret2_int (by rw [H2.out]) (by rw [H2.out]), rfl⟩
      · have hd := drop_cons s 4 (by omega)
        rw [hd] at HP
        clear hd
        have hbk : (({ data := #[114, 119, 120, 114, 119, 120, 114, 119, 120] } : ByteArray)[4]'(by decide)).toNat = 119 := rfl
        by_cases e0 : s[4] = 119
        · have f0 : ((s[4].toNat : Int) == 119) = true := eq_beq e0
          have g0 : ((s[4].toNat : Int) != 119) = false := eq_bne e0
          have ho : opt 4 s[4] = some 16 := by simp [opt, letters, small, great, e0]
          have H1 := Lib.hid (HP.out.trans (prs_some ho))
          have hv := or_bd m 16 hm (by omega)
          have hor := i64_or_nat m 16 (by omega) (by omega)
          have hor2 : bits .or .i64 (m : Int) 16 = ((m ||| 16 : Nat) : Int) := hor
          clear hor
          generalize m ||| 16 = v at *
          clear ho e0
          go_wp2
          go_round
          case rel => exact ⟨5, v, by omega, by go_num, rfl, hv, H1.out⟩
          case measure => simp [intOf]
        · have f0 : ((s[4].toNat : Int) == 119) = false := ne_beq e0
          have g0 : ((s[4].toNat : Int) != 119) = true := ne_bne e0
          by_cases e1 : s[4] = 45
          · have f1 : ((s[4].toNat : Int) == 45) = true := eq_beq e1
            have g1 : ((s[4].toNat : Int) != 45) = false := eq_bne e1
            have ho : opt 4 s[4] = some 0 := by simp [opt, letters, small, great, e1]
            have H1 := Lib.hid (HP.out.trans (prs_some ho))
            have hv := or_bd m 0 hm (by omega)
            rw [Nat.or_zero] at H1 hv
            clear ho e0 e1
            go_wp2
            go_round
            case rel => exact ⟨5, m, by omega, by go_num, rfl, hv, H1.out⟩
            case measure => simp [intOf]
          · have f1 : ((s[4].toNat : Int) == 45) = false := ne_beq e1
            have g1 : ((s[4].toNat : Int) != 45) = true := ne_bne e1
            have ho : opt 4 s[4] = none := by simp [opt, letters, small, great, e0, e1]
            have H1 := Lib.hid (fin.out.trans (by rw [HP.out, prs_none ho]))
            have H2 : Hid (parseS s.data.toList = (0, 3)) := H1
            clear ho H1 e0 e1
            go_wp2
            go_ret2
            exact ⟨ret2_int (by rw [H2.out]) (by rw [H2.out]), rfl⟩
      · have hd := drop_cons s 5 (by omega)
        rw [hd] at HP
        clear hd
        have hbk : (({ data := #[114, 119, 120, 114, 119, 120, 114, 119, 120] } : ByteArray)[5]'(by decide)).toNat = 120 := rfl
        by_cases e0 : s[5] = 120
        · have f0 : ((s[5].toNat : Int) == 120) = true := eq_beq e0
          have g0 : ((s[5].toNat : Int) != 120) = false := eq_bne e0
          have ho : opt 5 s[5] = some 8 := by simp [opt, letters, small, great, e0]
          have H1 := Lib.hid (HP.out.trans (prs_some ho))
          have hv := or_bd m 8 hm (by omega)
          have hor := i64_or_nat m 8 (by omega) (by omega)
          have hor2 : bits .or .i64 (m : Int) 8 = ((m ||| 8 : Nat) : Int) := hor
          clear hor
          generalize m ||| 8 = v at *
          clear ho e0
          go_wp2
          go_round
          case rel => exact ⟨6, v, by omega, by go_num, rfl, hv, H1.out⟩
          case measure => simp [intOf]
        · have f0 : ((s[5].toNat : Int) == 120) = false := ne_beq e0
          have g0 : ((s[5].toNat : Int) != 120) = true := ne_bne e0
          by_cases e1 : s[5] = 115
          · have f1 : ((s[5].toNat : Int) == 115) = true := eq_beq e1
            have g1 : ((s[5].toNat : Int) != 115) = false := eq_bne e1
            have ho : opt 5 s[5] = some 1032 := by simp [opt, letters, small, great, e1]
            have H1 := Lib.hid (HP.out.trans (prs_some ho))
            have hv := or_bd m 1032 hm (by omega)
            have hor := i64_or_nat m 1032 (by omega) (by omega)
            have hor2 : bits .or .i64 (m : Int) 1032 = ((m ||| 1032 : Nat) : Int) := hor
            clear hor
            have hor3 : bits .or .i64 8 1024 = 1032 := by decide
            generalize m ||| 1032 = v at *
            clear ho e0 e1
            go_wp2
            go_round
            case rel => exact ⟨6, v, by omega, by go_num, rfl, hv, H1.out⟩
            case measure => simp [intOf]
          · have f1 : ((s[5].toNat : Int) == 115) = false := ne_beq e1
            have g1 : ((s[5].toNat : Int) != 115) = true := ne_bne e1
            by_cases e2 : s[5] = 83
            · have f2 : ((s[5].toNat : Int) == 83) = true := eq_beq e2
              have g2 : ((s[5].toNat : Int) != 83) = false := eq_bne e2
              have ho : opt 5 s[5] = some 1024 := by simp [opt, letters, small, great, e2]
              have H1 := Lib.hid (HP.out.trans (prs_some ho))
              have hv := or_bd m 1024 hm (by omega)
              have hor := i64_or_nat m 1024 (by omega) (by omega)
              have hor2 : bits .or .i64 (m : Int) 1024 = ((m ||| 1024 : Nat) : Int) := hor
              clear hor
              generalize m ||| 1024 = v at *
              clear ho e0 e1 e2
              go_wp2
              go_round
              case rel => exact ⟨6, v, by omega, by go_num, rfl, hv, H1.out⟩
              case measure => simp [intOf]
            · have f2 : ((s[5].toNat : Int) == 83) = false := ne_beq e2
              have g2 : ((s[5].toNat : Int) != 83) = true := ne_bne e2
              by_cases e3 : s[5] = 45
              · have f3 : ((s[5].toNat : Int) == 45) = true := eq_beq e3
                have g3 : ((s[5].toNat : Int) != 45) = false := eq_bne e3
                have ho : opt 5 s[5] = some 0 := by simp [opt, letters, small, great, e3]
                have H1 := Lib.hid (HP.out.trans (prs_some ho))
                have hv := or_bd m 0 hm (by omega)
                rw [Nat.or_zero] at H1 hv
                clear ho e0 e1 e2 e3
                go_wp2
                go_round
                case rel => exact ⟨6, m, by omega, by go_num, rfl, hv, H1.out⟩
                case measure => simp [intOf]
              · have f3 : ((s[5].toNat : Int) == 45) = false := ne_beq e3
                have g3 : ((s[5].toNat : Int) != 45) = true := ne_bne e3
                have ho : opt 5 s[5] = none := by simp [opt, letters, small, great, e0, e1, e2, e3]
                have H1 := Lib.hid (fin.out.trans (by rw [HP.out, prs_none ho]))
                have H2 : Hid (parseS s.data.toList = (0, 3)) := H1
                clear ho H1 e0 e1 e2 e3
                go_wp2
                go_ret2
                exact ⟨ret2_int (by rw [H2.out]) (by rw [H2.out]), rfl⟩
      · have hd := drop_cons s 6 (by omega)
        rw [hd] at HP
        clear hd
        have hbk : (({ data := #[114, 119, 120, 114, 119, 120, 114, 119, 120] } : ByteArray)[6]'(by decide)).toNat = 114 := rfl
        by_cases e0 : s[6] = 114
        · have f0 : ((s[6].toNat : Int) == 114) = true := eq_beq e0
          have g0 : ((s[6].toNat : Int) != 114) = false := eq_bne e0
          have ho : opt 6 s[6] = some 4 := by simp [opt, letters, small, great, e0]
          have H1 := Lib.hid (HP.out.trans (prs_some ho))
          have hv := or_bd m 4 hm (by omega)
          have hor := i64_or_nat m 4 (by omega) (by omega)
          have hor2 : bits .or .i64 (m : Int) 4 = ((m ||| 4 : Nat) : Int) := hor
          clear hor
          generalize m ||| 4 = v at *
          clear ho e0
          go_wp2
          go_round
          case rel => exact ⟨7, v, by omega, by go_num, rfl, hv, H1.out⟩
          case measure => simp [intOf]
        · have f0 : ((s[6].toNat : Int) == 114) = false := ne_beq e0
          have g0 : ((s[6].toNat : Int) != 114) = true := ne_bne e0
          by_cases e1 : s[6] = 45
          · have f1 : ((s[6].toNat : Int) == 45) = true := eq_beq e1
            have g1 : ((s[6].toNat : Int) != 45) = false := eq_bne e1
            have ho : opt 6 s[6] = some 0 := by simp [opt, letters, small, great, e1]
            have H1 := Lib.hid (HP.out.trans (prs_some ho))
            have hv := or_bd m 0 hm (by omega)
            rw [Nat.or_zero] at H1 hv
            clear ho e0 e1
            go_wp2
            go_round
            case rel => exact ⟨7, m, by omega, by go_num, rfl, hv, H1.out⟩
            case measure => simp [intOf]
          · have f1 : ((s[6].toNat : Int) == 45) = false := ne_beq e1
            have g1 : ((s[6].toNat : Int) != 45) = true := ne_bne e1
            have ho : opt 6 s[6] = none := by simp [opt, letters, small, great, e0, e1]
            have H1 := Lib.hid (fin.out.trans (by rw [HP.out, prs_none ho]))
            have H2 : Hid (parseS s.data.toList = (0, 3)) := H1
            clear ho H1 e0 e1
            go_wp2
            go_ret2
            exact ⟨ret2_int (by rw [H2.out]) (by rw [H2.out]), rfl⟩
      · have hd := drop_cons s 7 (by omega)
        rw [hd] at HP
        clear hd
        have hbk : (({ data := #[114, 119, 120, 114, 119, 120, 114, 119, 120] } : ByteArray)[7]'(by decide)).toNat = 119 := rfl
        by_cases e0 : s[7] = 119
        · have f0 : ((s[7].toNat : Int) == 119) = true := eq_beq e0
          have g0 : ((s[7].toNat : Int) != 119) = false := eq_bne e0
          have ho : opt 7 s[7] = some 2 := by simp [opt, letters, small, great, e0]
          have H1 := Lib.hid (HP.out.trans (prs_some ho))
          have hv := or_bd m 2 hm (by omega)
          have hor := i64_or_nat m 2 (by omega) (by omega)
          have hor2 : bits .or .i64 (m : Int) 2 = ((m ||| 2 : Nat) : Int) := hor
          clear hor
          generalize m ||| 2 = v at *
          clear ho e0
          go_wp2
          go_round
          case rel => exact ⟨8, v, by omega, by go_num, rfl, hv, H1.out⟩
          case measure => simp [intOf]
        · have f0 : ((s[7].toNat : Int) == 119) = false := ne_beq e0
          have g0 : ((s[7].toNat : Int) != 119) = true := ne_bne e0
          by_cases e1 : s[7] = 45
          · have f1 : ((s[7].toNat : Int) == 45) = true := eq_beq e1
            have g1 : ((s[7].toNat : Int) != 45) = false := eq_bne e1
            have ho : opt 7 s[7] = some 0 := by simp [opt, letters, small, great, e1]
            have H1 := Lib.hid (HP.out.trans (prs_some ho))
            have hv := or_bd m 0 hm (by omega)
            rw [Nat.or_zero] at H1 hv
            clear ho e0 e1
            go_wp2
            go_round
            case rel => exact ⟨8, m, by omega, by go_num, rfl, hv, H1.out⟩
            case measure => simp [intOf]
          · have f1 : ((s[7].toNat : Int) == 45) = false := ne_beq e1
            have g1 : ((s[7].toNat : Int) != 45) = true := ne_bne e1
            have ho : opt 7 s[7] = none := by simp [opt, letters, small, great, e0, e1]
            have H1 := Lib.hid (fin.out.trans (by rw [HP.out, prs_none ho]))
            have H2 : Hid (parseS s.data.toList = (0, 3)) := H1
            clear ho H1 e0 e1
            go_wp2
            go_ret2
            exact ⟨ret2_int (by rw [H2.out]) (by rw [H2.out]), rfl⟩
      · have hd := drop_cons s 8 (by omega)
        rw [hd] at HP
        clear hd
        have hbk : (({ data := #[114, 119, 120, 114, 119, 120, 114, 119, 120] } : ByteArray)[8]'(by decide)).toNat = 120 := rfl
        by_cases e0 : s[8] = 120
        · have f0 : ((s[8].toNat : Int) == 120) = true := eq_beq e0
          have g0 : ((s[8].toNat : Int) != 120) = false := eq_bne e0
          have ho : opt 8 s[8] = some 1 := by simp [opt, letters, small, great, e0]
          have H1 := Lib.hid (HP.out.trans (prs_some ho))
          have hv := or_bd m 1 hm (by omega)
          have hor := i64_or_nat m 1 (by omega) (by omega)
          have hor2 : bits .or .i64 (m : Int) 1 = ((m ||| 1 : Nat) : Int) := hor
          clear hor
          generalize m ||| 1 = v at *
          clear ho e0
          go_wp2
          go_round
          case rel => exact ⟨9, v, by omega, by go_num, rfl, hv, H1.out⟩
          case measure => simp [intOf]
        · have f0 : ((s[8].toNat : Int) == 120) = false := ne_beq e0
          have g0 : ((s[8].toNat : Int) != 120) = true := ne_bne e0
          by_cases e1 : s[8] = 116
          · have f1 : ((s[8].toNat : Int) == 116) = true := eq_beq e1
            have g1 : ((s[8].toNat : Int) != 116) = false := eq_bne e1
            have ho : opt 8 s[8] = some 513 := by simp [opt, letters, small, great, e1]
            have H1 := Lib.hid (HP.out.trans (prs_some ho))
            have hv := or_bd m 513 hm (by omega)
            have hor := i64_or_nat m 513 (by omega) (by omega)
            have hor2 : bits .or .i64 (m : Int) 513 = ((m ||| 513 : Nat) : Int) := hor
            clear hor
            have hor3 : bits .or .i64 1 512 = 513 := by decide
            generalize m ||| 513 = v at *
            clear ho e0 e1
            go_wp2
            go_round
            case rel => exact ⟨9, v, by omega, by go_num, rfl, hv, H1.out⟩
            case measure => simp [intOf]
          · have f1 : ((s[8].toNat : Int) == 116) = false := ne_beq e1
            have g1 : ((s[8].toNat : Int) != 116) = true := ne_bne e1
            by_cases e2 : s[8] = 84
            · have f2 : ((s[8].toNat : Int) == 84) = true := eq_beq e2
              have g2 : ((s[8].toNat : Int) != 84) = false := eq_bne e2
              have ho : opt 8 s[8] = some 512 := by simp [opt, letters, small, great, e2]
              have H1 := Lib.hid (HP.out.trans (prs_some ho))
              have hv := or_bd m 512 hm (by omega)
              have hor := i64_or_nat m 512 (by omega) (by omega)
              have hor2 : bits .or .i64 (m : Int) 512 = ((m ||| 512 : Nat) : Int) := hor
              clear hor
              generalize m ||| 512 = v at *
              clear ho e0 e1 e2
              go_wp2
              go_round
              case rel => exact ⟨9, v, by omega, by go_num, rfl, hv, H1.out⟩
              case measure => simp [intOf]
            · have f2 : ((s[8].toNat : Int) == 84) = false := ne_beq e2
              have g2 : ((s[8].toNat : Int) != 84) = true := ne_bne e2
              by_cases e3 : s[8] = 45
              · have f3 : ((s[8].toNat : Int) == 45) = true := eq_beq e3
                have g3 : ((s[8].toNat : Int) != 45) = false := eq_bne e3
                have ho : opt 8 s[8] = some 0 := by simp [opt, letters, small, great, e3]
                have H1 := Lib.hid (HP.out.trans (prs_some ho))
                have hv := or_bd m 0 hm (by omega)
                rw [Nat.or_zero] at H1 hv
                clear ho e0 e1 e2 e3
                go_wp2
                go_round
                case rel => exact ⟨9, m, by omega, by go_num, rfl, hv, H1.out⟩
                case measure => simp [intOf]
              · have f3 : ((s[8].toNat : Int) == 45) = false := ne_beq e3
                have g3 : ((s[8].toNat : Int) != 45) = true := ne_bne e3
                have ho : opt 8 s[8] = none := by simp [opt, letters, small, great, e0, e1, e2, e3]
                have H1 := Lib.hid (fin.out.trans (by rw [HP.out, prs_none ho]))
                have H2 : Hid (parseS s.data.toList = (0, 3)) := H1
                clear ho H1 e0 e1 e2 e3
                go_wp2
                go_ret2
                exact ⟨ret2_int (by rw [H2.out]) (by rw [H2.out]), rfl⟩
      · have H1 := Lib.hid (show parseS s.data.toList = ((m : Int), 0) by
          rw [fin.out, HP.out, List.drop_of_length_le (by rw [← Lib.size_eq]; omega)]; rfl)
        go_wp2
        go_ret2
        exact ⟨ret2_int (by rw [H1.out]) (by rw [H1.out]), rfl⟩
  · have fin := Lib.hid (show parseS s.data.toList = (0, 1) by rw [parseS, if_pos (by omega)])
    have hl1 : ((s.size : Int) == 9) = false := by simp; omega
    have hl2 : ((s.size : Int) != 9) = true := by simp; omega
    clear hsz0
    go_enter Try.func28, Try.ntmps28
    go_wp2
    go_ret2
    exact ⟨ret2_int (by rw [fin.out]) (by rw [fin.out]), rfl⟩
end Go.Proofs.Ytpibgdgcgflooaa
