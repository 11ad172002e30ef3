/-
  glob.end, glob.sign, glob.split, each once. Condition: texts of at most 1000 bytes.
-/
import Derived.Test.YtngkfelhlabloaaDoorGlobSet
namespace Go.Proofs.YtngkfelhlabloaaDoor
open Go.RowKit

/-! ### the end of a set -/
def endK (p : List UInt8) : Nat := if Lib.hasPrefix (p.drop 1) [33] then 2 else 1
def endI (p : List UInt8) : Int := if endK p < p.length then Lib.indexByte (p.drop (endK p + 1)) 93 else -1
def endV (p : List UInt8) : Int := if endI p < 0 then -1 else endK p + 1 + endI p + 1
theorem IndexByte_93 (l : List UInt8) (w : World) :
    Calls Tryd.prog 42 #[.string (bs l), .int .u8 93] w fun e w' => e = .returned (.int .i64 (Lib.indexByte l 93)) ∧ w = w' :=
  (Tryd.strings_IndexByte (bs l) 93 w).mono fun e w' ⟨h1, h2⟩ => ⟨by rw [h1, bs_data]; rfl, h2.symm⟩
theorem ex_drop (l : List UInt8) (k : Nat) : (bs l).extract k l.length = bs (l.drop k) := by
  rw [bs_extract]; congr 1; rw [List.take_of_length_le (by rw [List.length_drop]; exact Nat.le_refl _)]
set_option maxRecDepth 100000 in
set_option maxHeartbeats 1000000 in
theorem end_any (p : List UInt8) (h1 : 1 ≤ p.length) (h2 : p.length ≤ 1000) (w : World) :
    Calls Tryd.prog 79 #[.string (bs p)] w fun e w' => e = .returned (.int .i64 (endV p)) ∧ w = w' := by
  have z := bs_size p
  have x1 := ex_drop p 1
  have hP := Lib.hid (fun w d h => HasPrefix_at (p.drop 1) [33] d h w)
  cases hd : Lib.hasPrefix (p.drop 1) [33]
  · have hk : endK p = 1 := by unfold endK; rw [hd]; rfl
    by_cases hlt : 1 < p.length
    · have hi : endI p = Lib.indexByte (p.drop 2) 93 := by unfold endI; rw [hk, if_pos hlt]
      have x2 := ex_drop p 2
      have fin := Lib.hid (show endV p = if Lib.indexByte (p.drop 2) 93 < 0 then -1 else 1 + 1 + Lib.indexByte (p.drop 2) 93 + 1 by unfold endV; rw [hi, hk]; rfl)
      have hI := Lib.hid (fun w => IndexByte_93 (p.drop 2) w)
      have hge := indexByte_ge (p.drop 2) 93
      obtain ⟨g1, g2⟩ := hge
      rw [List.length_drop] at g2
      have HP := Lib.hid (fun w => hP.out w false hd)
      clear hP hd hk hi
      generalize Lib.indexByte (p.drop 2) 93 = ix at *
      generalize bs (p.drop 2) = s2 at *
      generalize bs (p.drop 1) = s1 at *
      generalize bs p = s0 at *
      generalize hn : p.length = n at *
      have HN := Lib.hid hn
      clear hn
      have t1 : decide ((1 : Int) < n) = true := decide_eq_true (by omega)
      have t1n : decide (1 < n) = true := decide_eq_true (by omega)
      by_cases hneg : ix < 0
      · have fin2 := Lib.hid (fin.out.trans (if_pos hneg))
        have t2 : decide (ix < 0) = true := decide_eq_true hneg
        go_enter Tryd.func79, Tryd.ntmps79
        go_wp2_with fail
        refine (HP.out _).mono ?_
        rintro e w' ⟨rfl, rfl⟩
        go_wp2_with fail
        refine (hI.out _).mono ?_
        rintro e w' ⟨rfl, rfl⟩
        go_wp2_with fail
        go_ret
        exact ⟨ret_int (by rw [fin2.out]), rfl⟩
      · have fin2 := Lib.hid (fin.out.trans (if_neg hneg))
        have t2 : decide (ix < 0) = false := decide_eq_false hneg
        go_enter Tryd.func79, Tryd.ntmps79
        go_wp2_with fail
        refine (HP.out _).mono ?_
        rintro e w' ⟨rfl, rfl⟩
        go_wp2_with fail
        refine (hI.out _).mono ?_
        rintro e w' ⟨rfl, rfl⟩
        go_wp2_with fail
        go_ret
        exact ⟨ret_int (by rw [fin2.out]; first | rfl | omega), rfl⟩
    · have fin := Lib.hid (show endV p = -1 by unfold endV endI; rw [hk, if_neg hlt]; rfl)
      have HP := Lib.hid (fun w => hP.out w false hd)
      clear hP hd hk
      generalize bs (p.drop 1) = s1 at *
      generalize bs p = s0 at *
      generalize hn : p.length = n at *
      have HN := Lib.hid hn
      clear hn
      have t1 : decide ((1 : Int) < n) = false := decide_eq_false (by omega)
      have t1n : decide (1 < n) = false := decide_eq_false (by omega)
      go_enter Tryd.func79, Tryd.ntmps79
      go_wp2_with fail
      refine (HP.out _).mono ?_
      rintro e w' ⟨rfl, rfl⟩
      go_wp2_with fail
      go_ret
      exact ⟨ret_int (by rw [fin.out]), rfl⟩
  · have hk : endK p = 2 := by unfold endK; rw [hd]; rfl
    by_cases hlt : 2 < p.length
    · have hi : endI p = Lib.indexByte (p.drop 3) 93 := by unfold endI; rw [hk, if_pos hlt]
      have x2 := ex_drop p 3
      have fin := Lib.hid (show endV p = if Lib.indexByte (p.drop 3) 93 < 0 then -1 else 2 + 1 + Lib.indexByte (p.drop 3) 93 + 1 by unfold endV; rw [hi, hk]; rfl)
      have hI := Lib.hid (fun w => IndexByte_93 (p.drop 3) w)
      have hge := indexByte_ge (p.drop 3) 93
      obtain ⟨g1, g2⟩ := hge
      rw [List.length_drop] at g2
      have HP := Lib.hid (fun w => hP.out w true hd)
      clear hP hd hk hi
      generalize Lib.indexByte (p.drop 3) 93 = ix at *
      generalize bs (p.drop 3) = s2 at *
      generalize bs (p.drop 1) = s1 at *
      generalize bs p = s0 at *
      generalize hn : p.length = n at *
      have HN := Lib.hid hn
      clear hn
      have t1 : decide ((2 : Int) < n) = true := decide_eq_true (by omega)
      have t1n : decide (2 < n) = true := decide_eq_true (by omega)
      by_cases hneg : ix < 0
      · have fin2 := Lib.hid (fin.out.trans (if_pos hneg))
        have t2 : decide (ix < 0) = true := decide_eq_true hneg
        go_enter Tryd.func79, Tryd.ntmps79
        go_wp2_with fail
        refine (HP.out _).mono ?_
        rintro e w' ⟨rfl, rfl⟩
        go_wp2_with fail
        refine (hI.out _).mono ?_
        rintro e w' ⟨rfl, rfl⟩
        go_wp2_with fail
        go_ret
        exact ⟨ret_int (by rw [fin2.out]), rfl⟩
      · have fin2 := Lib.hid (fin.out.trans (if_neg hneg))
        have t2 : decide (ix < 0) = false := decide_eq_false hneg
        go_enter Tryd.func79, Tryd.ntmps79
        go_wp2_with fail
        refine (HP.out _).mono ?_
        rintro e w' ⟨rfl, rfl⟩
        go_wp2_with fail
        refine (hI.out _).mono ?_
        rintro e w' ⟨rfl, rfl⟩
        go_wp2_with fail
        go_ret
        exact ⟨ret_int (by rw [fin2.out]; first | rfl | omega), rfl⟩
    · have fin := Lib.hid (show endV p = -1 by unfold endV endI; rw [hk, if_neg hlt]; rfl)
      have hge2 : 2 ≤ p.length := by
        rcases Nat.lt_or_ge p.length 2 with h | h
        · exfalso
          have : p.drop 1 = [] := List.eq_nil_of_length_eq_zero (by rw [List.length_drop]; omega)
          rw [this] at hd
          exact absurd hd (by decide)
        · exact h
      have HP := Lib.hid (fun w => hP.out w true hd)
      clear hP hd hk
      generalize bs (p.drop 1) = s1 at *
      generalize bs p = s0 at *
      generalize hn : p.length = n at *
      have HN := Lib.hid hn
      clear hn
      have t1 : decide ((2 : Int) < n) = false := decide_eq_false (by omega)
      have t1n : decide (2 < n) = false := decide_eq_false (by omega)
      go_enter Tryd.func79, Tryd.ntmps79
      go_wp2_with fail
      refine (HP.out _).mono ?_
      rintro e w' ⟨rfl, rfl⟩
      go_wp2_with fail
      go_ret
      exact ⟨ret_int (by rw [fin.out]), rfl⟩

/-! ### the pieces of a pattern -/
abbrev Piece : Type := UInt8 ⊕ (Bool × UInt8 × List UInt8)
def textP : Piece → List UInt8
  | .inl b => [b]
  | .inr (neg, x, body) => setT neg x body
def okP : Piece → Prop
  | .inl b => b ≠ 91
  | .inr (neg, x, body) => (neg = false → x ≠ 33) ∧ (93 : UInt8) ∉ body ∧ body.length ≤ 1000
def starP : Piece → Bool
  | .inl b => b == 42
  | .inr _ => false
def fitsP : Piece → UInt8 → Bool
  | .inl b, c => b == 63 || b == c
  | .inr (neg, x, body), c => items c false (x :: body) != neg
/-- a set at the beginning of a pattern -/
theorem end_set (q : List UInt8) (n : Nat) (h : endV (91 :: q) = n) (hl : q.length ≤ 1000) : ∃ neg x body rest, 91 :: q = setT neg x body ++ rest ∧ n = (setT neg x body).length ∧ okP (.inr (neg, x, body)) := by
  unfold endV at h
  split at h
  · omega
  rename_i hi
  have hi2 : endI (91 :: q) = Lib.indexByte ((91 :: q).drop (endK (91 :: q) + 1)) 93 := by
    unfold endI at hi ⊢
    split
    · rfl
    · rename_i hk; rw [if_neg hk] at hi; omega
  obtain ⟨i, hix⟩ := Int.eq_ofNat_of_zero_le (show 0 ≤ endI (91 :: q) by omega)
  rw [hix] at h
  rw [hi2] at hix
  obtain ⟨body, rest, hd, hbl, hnb⟩ := index_split hix
  unfold endK at h hd
  cases hp : Lib.hasPrefix ((91 :: q).drop 1) [33]
  · rw [hp] at h hd
    simp only [Bool.false_eq_true, if_false] at h hd
    rcases q with _ | ⟨x, q⟩
    · simp at hd
    · have hq : q = body ++ 93 :: rest := hd
      refine ⟨false, x, body, rest, ?_, ?_, ?_, hnb, ?_⟩
      · rw [hq]; simp [setT]
      · simp [setT]; omega
      · rintro - rfl
        simp [Lib.hasPrefix, List.isPrefixOf] at hp
      · rw [hq] at hl; simp at hl; omega
  · rw [hp] at h hd
    simp only [if_true] at h hd
    rcases q with _ | ⟨y, _ | ⟨x, q⟩⟩
    · simp at hd
    · simp at hd
    · have hy : y = 33 := by
        simp [Lib.hasPrefix, List.isPrefixOf] at hp
        exact hp.symm
      have hq : q = body ++ 93 :: rest := hd
      refine ⟨true, x, body, rest, ?_, ?_, ?_, hnb, ?_⟩
      · rw [hq, hy]; simp [setT]
      · simp [setT]; omega
      · intro e; cases e
      · rw [hq] at hl; simp at hl; omega
theorem ret_bool2 {a b : Bool} (h : a = b) : Ending.returned (.bool a) = .returned (.bool b) := by rw [h]
set_option maxRecDepth 100000 in
set_option maxHeartbeats 1000000 in
theorem sign_any (q : Piece) (hq : okP q) (c : UInt8) (w : World) :
    Calls Tryd.prog 104 #[.string (bs (textP q)), .int .u8 c.toNat] w fun e w' => e = .returned (.bool (fitsP q c)) ∧ ∃ n, w' = w.drewN n := by
  rcases q with b | ⟨neg, x, body⟩
  · have ts : 0 < (bs [b]).size := by rw [bs_size]; simp
    have t3 := bs_at0 b [] ts
    have z := bs_size [b]
    have hb91 : ¬ (b.toNat : Int) = 91 := nat_byte (d := 91) hq
    have e91 : ((b.toNat : Int) == 91) = false := beq_eq_false_iff_ne.2 hb91
    show Calls _ _ #[.string (bs [b]), _] _ _
    by_cases h63 : b = 63
    · have e63 : ((b.toNat : Int) == 63) = true := byte_eq (d := 63) h63
      have fin := Lib.hid (show fitsP (.inl b) c = true by unfold fitsP; rw [h63]; rfl)
      clear h63
      rw [show [b].length = 1 from rfl] at z
      generalize bs [b] = s at *
      generalize (b.toNat : Int) = B at *
      go_enter Tryd.func104, Tryd.ntmps104
      go_wp2_with fail
      go_ret
      exact ⟨ret_bool2 (by rw [fin.out]), 0, rfl⟩
    · have e63 : ((b.toNat : Int) == 63) = false := byte_ne (d := 63) h63
      have fin := Lib.hid (show fitsP (.inl b) c = ((b.toNat : Int) == (c.toNat : Int)) by
        show (b == 63 || b == c) = _
        rw [show (b == 63) = false from beq_eq_false_iff_ne.2 h63, Bool.false_or]
        by_cases hbc : b = c
        · rw [byte_eq hbc, hbc]; exact beq_self_eq_true _
        · rw [byte_ne hbc]; exact beq_eq_false_iff_ne.2 hbc)
      clear h63
      rw [show [b].length = 1 from rfl] at z
      generalize bs [b] = s at *
      generalize (b.toNat : Int) = B at *
      generalize (c.toNat : Int) = C at *
      go_enter Tryd.func104, Tryd.ntmps104
      go_wp2_with fail
      go_ret
      exact ⟨ret_bool2 (by rw [fin.out]), 0, rfl⟩
  · obtain ⟨h1, h2, h3⟩ := hq
    have hS := Lib.hid (fun w => set_any neg x body c h1 h2 h3 w)
    obtain ⟨r, hr⟩ : ∃ r, setT neg x body = 91 :: r := ⟨_, rfl⟩
    show Calls _ _ #[.string (bs (setT neg x body)), _] _ _
    rw [hr] at hS ⊢
    have ts : 0 < (bs (91 :: r)).size := by rw [bs_size]; simp
    have t3 := bs_at0 91 r ts
    rw [show ((91 : UInt8).toNat : Int) = 91 from rfl] at t3
    have fin := Lib.hid (show fitsP (.inr (neg, x, body)) c = (items c false (x :: body) != neg) from rfl)
    clear hr h1 h2
    generalize (items c false (x :: body) != neg) = v at *
    generalize bs (91 :: r) = s at *
    generalize (c.toNat : Int) = C at *
    go_enter Tryd.func104, Tryd.ntmps104
    go_wp2_with fail
    refine (hS.out _).mono ?_
    rintro e w1 ⟨t, rfl, n, rfl⟩
    go_wp2_with fail
    go_ret
    exact ⟨ret_bool2 (by rw [fin.out]), n, rfl⟩
end Go.Proofs.YtngkfelhlabloaaDoor
