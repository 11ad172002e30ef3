/-
  glob.set, glob.end, glob.sign, each once. Condition: texts of at most 1000 bytes; a set has its end.
  glob.end, glob.sign, glob.split, each once. Condition: texts of at most 1000 bytes.
  glob.split: the pieces of a part of a pattern. Condition: texts of at most 1000 bytes.
  glob.Check: at patterns that may be; at a pattern of one part whose set has no end. Condition: texts of at most 400 bytes.
-/
import Derived.Test.YtphmhmdcaafmdaaGreatDoorPathW
import Derived.Test.YtphmhmdcaafmdaaGreatDoorFields
import Derived.BigQuiet
import Derived.Deep.QuietTactic
namespace Go.Proofs.YtphmhmdcaafmdaaGreatDoor
set_option linter.all false
section
open Go.RowKit
/-- has a set a sign? (its body without the end) -/
def items (c : UInt8) (inn : Bool) : List UInt8 → Bool
  | [] => inn
  | low :: b => if 2 ≤ b.length ∧ b.headD 0 = 45 then items c (inn || (decide (low ≤ c) && decide (c ≤ b.tail.headD 0))) (b.drop 2) else items c (inn || (decide (low ≤ c) && decide (c ≤ low))) b
termination_by l => l.length
decreasing_by all_goals (simp only [List.length_drop, List.length_cons]; omega)
/-- a set's text: whether it is turned, its first sign, those behind it -/
def setT (neg : Bool) (x : UInt8) (body : List UInt8) : List UInt8 := 91 :: ((if neg then [33] else []) ++ (x :: (body ++ [93])))
theorem bs_at0 (a : UInt8) (l : List UInt8) (h : 0 < (bs (a :: l)).size) : (((bs (a :: l))[0]'h).toNat : Int) = a.toNat := by rw [bs_get]; rfl
theorem nat_byte {c d : UInt8} (h : c ≠ d) : ¬ (c.toNat : Int) = d.toNat := fun e => h (UInt8.toNat.inj (by omega))
/-! ### glob.set -/
end
section
open Go.RowKit
/-! ### the end of a set -/
def endK (p : List UInt8) : Nat := if Lib.hasPrefix (p.drop 1) [33] then 2 else 1
def endI (p : List UInt8) : Int := if endK p < p.length then Lib.indexByte (p.drop (endK p + 1)) 93 else -1
def endV (p : List UInt8) : Int := if endI p < 0 then -1 else endK p + 1 + endI p + 1
theorem IndexByte_93 (l : List UInt8) (w : World) :
    Calls Tryz.prog 89 #[.string (bs l), .int .u8 93] w fun e w' => e = .returned (.int .i64 (Lib.indexByte l 93)) ∧ w = w' :=
  (Tryz.strings_IndexByte (bs l) 93 w).mono fun e w' ⟨h1, h2⟩ => ⟨by rw [h1, bs_data]; rfl, h2.symm⟩
theorem ex_drop (l : List UInt8) (k : Nat) : (bs l).extract k l.length = bs (l.drop k) := by
  rw [bs_extract]; congr 1; rw [List.take_of_length_le (by rw [List.length_drop]; exact Nat.le_refl _)]
set_option maxRecDepth 100000 in
set_option maxHeartbeats 1000000 in
theorem end_any (p : List UInt8) (h1 : 1 ≤ p.length) (h2 : p.length ≤ 1000) (w : World) :
    Calls Tryz.prog 218 #[.string (bs p)] w fun e w' => e = .returned (.int .i64 (endV p)) ∧ w = w' := by
  have z := bs_size p
  have x1 := ex_drop p 1
  have hP := Lib.hid (fun w d h => HasPrefix_at (p.drop 1) [33] d h w)
  cases hd : Lib.hasPrefix (p.drop 1) [33]
  · have hk : endK p = 1 := by unfold endK; rw [hd]; rfl
    by_cases hlt : 1 < p.length
    · have hi : endI p = Lib.indexByte (p.drop 2) 93 := by unfold endI; rw [hk, if_pos hlt]
      have x2 := ex_drop p 2
      have fin := Lib.hid (show endV p = if Lib.indexByte (p.drop 2) 93 < 0 then -1 else 1 + 1 + Lib.indexByte (p.drop 2) 93 + 1 by unfold endV; rw [hi, hk]; rfl)
      have hI := Lib.hid (fun w => IndexByte_93 (p.drop 2) w)
      have hge := indexByte_ge (p.drop 2) 93
      obtain ⟨g1, g2⟩ := hge
      rw [List.length_drop] at g2
      have HP := Lib.hid (fun w => hP.out w false hd)
      clear hP hd hk hi
      generalize Lib.indexByte (p.drop 2) 93 = ix at *
      generalize bs (p.drop 2) = s2 at *
      generalize bs (p.drop 1) = s1 at *
      generalize bs p = s0 at *
      generalize hn : p.length = n at *
      have HN := Lib.hid hn
      clear hn
      have t1 : decide ((1 : Int) < n) = true := decide_eq_true (by omega)
      have t1n : decide (1 < n) = true := decide_eq_true (by omega)
      by_cases hneg : ix < 0
      · have fin2 := Lib.hid (fin.out.trans (if_pos hneg))
        have t2 : decide (ix < 0) = true := decide_eq_true hneg
        go_enter Tryz.func218, Tryz.ntmps218
        go_wp2_with fail
        refine (HP.out _).mono ?_
        rintro e w' ⟨rfl, rfl⟩
        go_wp2_with fail
        refine (hI.out _).mono ?_
        rintro e w' ⟨rfl, rfl⟩
        go_wp2_with fail
        go_ret
        exact ⟨ret_int (by rw [fin2.out]), rfl⟩
      · have fin2 := Lib.hid (fin.out.trans (if_neg hneg))
        have t2 : decide (ix < 0) = false := decide_eq_false hneg
        go_enter Tryz.func218, Tryz.ntmps218
        go_wp2_with fail
        refine (HP.out _).mono ?_
        rintro e w' ⟨rfl, rfl⟩
        go_wp2_with fail
        refine (hI.out _).mono ?_
        rintro e w' ⟨rfl, rfl⟩
        go_wp2_with fail
        go_ret
        exact ⟨ret_int (by rw [fin2.out]; first | rfl | omega), rfl⟩
    · have fin := Lib.hid (show endV p = -1 by unfold endV endI; rw [hk, if_neg hlt]; rfl)
      have HP := Lib.hid (fun w => hP.out w false hd)
      clear hP hd hk
      generalize bs (p.drop 1) = s1 at *
      generalize bs p = s0 at *
      generalize hn : p.length = n at *
      have HN := Lib.hid hn
      clear hn
      have t1 : decide ((1 : Int) < n) = false := decide_eq_false (by omega)
      have t1n : decide (1 < n) = false := decide_eq_false (by omega)
      go_enter Tryz.func218, Tryz.ntmps218
      go_wp2_with fail
      refine (HP.out _).mono ?_
      rintro e w' ⟨rfl, rfl⟩
      go_wp2_with fail
      go_ret
      exact ⟨ret_int (by rw [fin.out]), rfl⟩
  · have hk : endK p = 2 := by unfold endK; rw [hd]; rfl
    by_cases hlt : 2 < p.length
    · have hi : endI p = Lib.indexByte (p.drop 3) 93 := by unfold endI; rw [hk, if_pos hlt]
      have x2 := ex_drop p 3
      have fin := Lib.hid (show endV p = if Lib.indexByte (p.drop 3) 93 < 0 then -1 else 2 + 1 + Lib.indexByte (p.drop 3) 93 + 1 by unfold endV; rw [hi, hk]; rfl)
      have hI := Lib.hid (fun w => IndexByte_93 (p.drop 3) w)
      have hge := indexByte_ge (p.drop 3) 93
      obtain ⟨g1, g2⟩ := hge
      rw [List.length_drop] at g2
      have HP := Lib.hid (fun w => hP.out w true hd)
      clear hP hd hk hi
      generalize Lib.indexByte (p.drop 3) 93 = ix at *
      generalize bs (p.drop 3) = s2 at *
      generalize bs (p.drop 1) = s1 at *
      generalize bs p = s0 at *
      generalize hn : p.length = n at *
      have HN := Lib.hid hn
      clear hn
      have t1 : decide ((2 : Int) < n) = true := decide_eq_true (by omega)
      have t1n : decide (2 < n) = true := decide_eq_true (by omega)
      by_cases hneg : ix < 0
      · have fin2 := Lib.hid (fin.out.trans (if_pos hneg))
        have t2 : decide (ix < 0) = true := decide_eq_true hneg
        go_enter Tryz.func218, Tryz.ntmps218
        go_wp2_with fail
        refine (HP.out _).mono ?_
        rintro e w' ⟨rfl, rfl⟩
        go_wp2_with fail
        refine (hI.out _).mono ?_
        rintro e w' ⟨rfl, rfl⟩
        go_wp2_with fail
        go_ret
        exact ⟨ret_int (by rw [fin2.out]), rfl⟩
      · have fin2 := Lib.hid (fin.out.trans (if_neg hneg))
        have t2 : decide (ix < 0) = false := decide_eq_false hneg
        go_enter Tryz.func218, Tryz.ntmps218
        go_wp2_with fail
        refine (HP.out _).mono ?_
        rintro e w' ⟨rfl, rfl⟩
        go_wp2_with fail
        refine (hI.out _).mono ?_
        rintro e w' ⟨rfl, rfl⟩
        go_wp2_with fail
        go_ret
        exact ⟨ret_int (by rw [fin2.out]; first | rfl | omega), rfl⟩
    · have fin := Lib.hid (show endV p = -1 by unfold endV endI; rw [hk, if_neg hlt]; rfl)
      have hge2 : 2 ≤ p.length := by
        rcases Nat.lt_or_ge p.length 2 with h | h
        · exfalso
          have : p.drop 1 = [] := List.eq_nil_of_length_eq_zero (by rw [List.length_drop]; omega)
          rw [this] at hd
          exact absurd hd (by decide)
        · exact h
      have HP := Lib.hid (fun w => hP.out w true hd)
      clear hP hd hk
      generalize bs (p.drop 1) = s1 at *
      generalize bs p = s0 at *
      generalize hn : p.length = n at *
      have HN := Lib.hid hn
      clear hn
      have t1 : decide ((2 : Int) < n) = false := decide_eq_false (by omega)
      have t1n : decide (2 < n) = false := decide_eq_false (by omega)
      go_enter Tryz.func218, Tryz.ntmps218
      go_wp2_with fail
      refine (HP.out _).mono ?_
      rintro e w' ⟨rfl, rfl⟩
      go_wp2_with fail
      go_ret
      exact ⟨ret_int (by rw [fin.out]), rfl⟩
/-! ### the pieces of a pattern -/
abbrev Piece : Type := UInt8 ⊕ (Bool × UInt8 × List UInt8)
def textP : Piece → List UInt8
  | .inl b => [b]
  | .inr (neg, x, body) => setT neg x body
def okP : Piece → Prop
  | .inl b => b ≠ 91
  | .inr (neg, x, body) => (neg = false → x ≠ 33) ∧ (93 : UInt8) ∉ body ∧ body.length ≤ 1000
def starP : Piece → Bool
  | .inl b => b == 42
  | .inr _ => false
def fitsP : Piece → UInt8 → Bool
  | .inl b, c => b == 63 || b == c
  | .inr (neg, x, body), c => items c false (x :: body) != neg
end
section
open Go.RowKit
def textPs (ps : List Piece) : List UInt8 := (ps.map textP).flatten
theorem textPs_cons (q : Piece) (ps : List Piece) : textPs (q :: ps) = textP q ++ textPs ps := rfl
theorem textP_ne (q : Piece) : textP q ≠ [] := by
  rcases q with b | ⟨neg, x, body⟩
  · simp [textP]
  · simp [textP, setT]
theorem endV_set (neg : Bool) (x : UInt8) (body rest : List UInt8) (h1 : neg = false → x ≠ 33) (h2 : (93 : UInt8) ∉ body) : endV (setT neg x body ++ rest) = (setT neg x body).length := by
  have hk : endK (setT neg x body ++ rest) = if neg then 2 else 1 := by
    unfold endK
    cases neg
    · have : x ≠ 33 := h1 rfl
      have e : (33 == x) = false := beq_eq_false_iff_ne.2 (fun e => this e.symm)
      simp [setT, Lib.hasPrefix, List.isPrefixOf, e]
    · simp [setT, Lib.hasPrefix, List.isPrefixOf]
  have hi : endI (setT neg x body ++ rest) = body.length := by
    unfold endI
    cases neg
    · have hk1 : endK (setT false x body ++ rest) = 1 := hk
      have e : (setT false x body ++ rest).drop (1 + 1) = body ++ 93 :: rest := by simp [setT]
      rw [hk1, e, indexByte_at h2, if_pos (by simp [setT])]
    · have hk1 : endK (setT true x body ++ rest) = 2 := hk
      have e : (setT true x body ++ rest).drop (2 + 1) = body ++ 93 :: rest := by simp [setT]
      rw [hk1, e, indexByte_at h2, if_pos (by simp [setT])]
  unfold endV
  rw [hi, hk, if_neg (by omega)]
  cases neg <;> simp [setT] <;> omega
theorem StrsAt.of_own {w : World} {base : Nat} {v : Value} {l : List (List UInt8)} (h : w.ownsRow base 9 1 v l.length (l.map fun s => .string (bs s))) : StrsAt w w.heap.size v l := by
  rcases h.2 with ⟨rfl, h0⟩ | ⟨g, cap, cur, rfl, _, _, hn, hm, _⟩
  · obtain rfl : l = [] := List.eq_nil_of_length_eq_zero h0
    exact ⟨none, 0, rfl, by simp, by simp, fun _ => rfl, Reads.none_⟩
  · exact ⟨_, cap, rfl, hn, hm, (fun h => by cases h), Reads.of_own h⟩
def strLen2 (v : Value) : Nat := match v with | .string s => s.size | _ => 0
theorem textPs_take (ps : List Piece) (k : Nat) (h : k < ps.length) : textPs (ps.drop k) = textP ps[k] ++ textPs (ps.drop (k + 1)) := by
  rw [List.drop_eq_getElem_cons h, textPs_cons]
end
section
open Go.RowKit
/-- a part of a pattern that may be -/
def partOk (s : List UInt8) : Prop := s ≠ [] ∧ ∃ ps : List Piece, s = textPs ps ∧ ∀ q ∈ ps, okP q
set_option maxRecDepth 100000 in
set_option maxHeartbeats 2000000 in
theorem GCheck_ok (p : List UInt8) (h1 : 1 ≤ p.length) (h2 : p.length ≤ 400) (hp : ∀ s ∈ splitC 47 p, partOk s) (hpl : ∀ s ∈ splitC 47 p, s.length ≤ 400) (w : World) (hm : ML w) :
    Calls Tryz.prog 180 #[.string (bs p)] w fun e w' => e = .returned (.int .i64 0) ∧ Below w.heap.size w w' := by
  have hz := bs_size p
  have hspl := splitC_length 47 p
  have hS := Lib.hid (fun hs => Split_slash p w hs hm)
  have HP := Lib.hid hp
  have HL := Lib.hid hpl
  have d1 : decide ((p.length : Int) < 1) = false := decide_eq_false (by omega)
  have d2 : decide (400 < (p.length : Int)) = false := decide_eq_false (by omega)
  clear hp hpl hm
  generalize splitC 47 p = P at *
  go_enter Tryz.func180, Tryz.ntmps180
  go_wp2_with fail
  refine (hS.out (by omega)).mono ?_
  rintro e w1 ⟨v, rfl, hv, hb⟩
  obtain ⟨A, c, rfl, h11, h12, h13, hr⟩ := hv
  unfold maxLen at h12
  go_wp2_with fail
  go_loop [17] (fun i => ∃ k : Nat, k ≤ P.length ∧ i = .int .i64 k) (fun i => P.length - (intOf i).toNat)
  case atStart => exact ⟨0, Nat.zero_le _, rfl⟩
  case round =>
    obtain ⟨k, hk, rfl⟩ := hrel
    by_cases hx : k < P.length
    · obtain ⟨ad1, u1, rfl, _, hu1, hc1⟩ := hr.at_ hx
      rw [List.getElem?_map, List.getElem?_eq_getElem hx] at hu1
      obtain rfl : Value.string (bs P[k]) = u1 := by simpa using hu1
      have hpo := HP.out P[k] (List.getElem_mem hx)
      have hlo := HL.out P[k] (List.getElem_mem hx)
      clear hu1
      generalize P[k] = s at *
      obtain ⟨hne, ps, rfl, hok⟩ := hpo
      have t0 : ¬ (bs (textPs ps)).toList = [] := by rw [bs_toList]; exact hne
      have t1 : (bs (textPs ps)).toList.isEmpty = false := by simpa using t0
      have HK := Lib.hid hok
      have hdl : Hid (∀ k, (textPs (ps.drop k)).length ≤ 400) := Lib.hid (fun k => by
        have : textPs ps = textPs (ps.take k) ++ textPs (ps.drop k) := by unfold textPs; rw [← List.flatten_append, ← List.map_append, List.take_append_drop]
        rw [this, List.length_append] at hlo
        omega)
      clear hne hok hlo
      go_wp2_with fail
      go_loop [4] (fun t => ∃ j : Nat, j ≤ ps.length ∧ t = .string (bs (textPs (ps.drop j)))) (fun t => strLen2 t)
      case atStart => exact ⟨0, Nat.zero_le _, rfl⟩
      case round =>
        obtain ⟨j, hj, rfl⟩ := hrel
        by_cases hlt : j < ps.length
        · have hq := HK.out ps[j] (List.getElem_mem hlt)
          have ht := textPs_take ps j hlt
          have hlen := hdl.out j
          rw [ht] at hlen ⊢
          have hne := textP_ne ps[j]
          have u0 : ¬ (bs (textP ps[j] ++ textPs (ps.drop (j + 1)))).toList = [] := by rw [bs_toList]; simp [hne]
          have u1 : (bs (textP ps[j] ++ textPs (ps.drop (j + 1)))).toList.isEmpty = false := by simpa using u0
          have z := bs_size (textP ps[j] ++ textPs (ps.drop (j + 1)))
          rw [List.length_append] at z hlen
          have xb : (bs (textP ps[j] ++ textPs (ps.drop (j + 1)))).extract (textP ps[j]).length ((textP ps[j]).length + (textPs (ps.drop (j + 1))).length) = bs (textPs (ps.drop (j + 1))) := by
            rw [bs_extract]; congr 1; simp
          have hpos := List.length_pos_iff.2 hne
          have HB := Lib.hid (bs_size (textPs (ps.drop (j + 1))))
          clear ht hne
          generalize hrs : textPs (ps.drop (j + 1)) = rest at *
          have HRS := Lib.hid hrs
          clear hrs
          generalize ps[j] = q at *
          by_cases hss : textP q ++ rest = [42, 42]
          · have e1 : ((bs (textP q ++ rest)).toList == [42, 42]) = true := by rw [bs_toList, hss]; rfl
            have e2 : ((bs (textP q ++ rest)).toList != [42, 42]) = false := by rw [bs_toList, hss]; rfl
            have e3 : (bs (textP q ++ rest)).toList = [42, 42] := by rw [bs_toList, hss]
            clear hss u0 u1
            generalize bs (textP q ++ rest) = s at *
            go_wp2_with fail
            go_round
            case rel => exact ⟨k + 1, by omega, by go_num⟩
            case measure => simp [intOf]; omega
          · have e1 : ((bs (textP q ++ rest)).toList == [42, 42]) = false := by rw [bs_toList]; exact beq_eq_false_iff_ne.2 hss
            have e2 : ((bs (textP q ++ rest)).toList != [42, 42]) = true := by rw [bs_toList]; exact bne_iff_ne.2 hss
            have e3 : ¬ (bs (textP q ++ rest)).toList = [42, 42] := by rw [bs_toList]; exact hss
            clear hss
            rcases q with b | ⟨neg, x, body⟩
            · have ts : 0 < (bs (textP (.inl b) ++ rest)).size := by rw [z]; omega
              have t3 : (((bs (textP (.inl b) ++ rest))[0]'ts).toNat : Int) = b.toNat := bs_at0 b rest ts
              have hb91 : ¬ (b.toNat : Int) = 91 := nat_byte (d := 91) hq
              have e91 : ((b.toNat : Int) == 91) = false := beq_eq_false_iff_ne.2 hb91
              have hl1 : (textP (.inl b)).length = 1 := rfl
              rw [hl1] at z xb hlen
              clear hl1 hb91 hq hpos
              generalize bs (textP (.inl b) ++ rest) = s at *
              generalize hrl : rest.length = rl at *
              have HRL := Lib.hid hrl
              clear hrl
              generalize (b.toNat : Int) = Bb at *
              go_wp2_with fail
              go_round
              case rel => exact ⟨j + 1, by omega, by rw [HRS.out]⟩
              case measure => have hB := HB.out; simp [strLen2]; omega
            · obtain ⟨h1, h2, h3⟩ := hq
              have hE := Lib.hid (fun w => end_any (setT neg x body ++ rest) (by simp [setT]) (by rw [List.length_append]; exact Nat.le_trans hlen (by omega)) w)
              rw [endV_set neg x body rest h1 h2] at hE
              have ts : 0 < (bs (textP (.inr (neg, x, body)) ++ rest)).size := by rw [z]; omega
              have t3 : (((bs (textP (.inr (neg, x, body)) ++ rest))[0]'ts).toNat : Int) = 91 := by
                rw [bs_get]; rfl
              clear h1 h2
              have hE2 : Hid (∀ w : World, Calls Tryz.prog 218 #[.string (bs (textP (.inr (neg, x, body)) ++ rest))] w fun e w' => e = .returned (.int .i64 (textP (.inr (neg, x, body))).length) ∧ w = w') := hE
              clear hE
              generalize bs (textP (.inr (neg, x, body)) ++ rest) = s at *
              generalize (textP (.inr (neg, x, body))).length = n at *
              generalize hrl : rest.length = rl at *
              have HRL := Lib.hid hrl
              clear hrl
              go_wp2_with fail
              refine (hE2.out _).mono ?_
              rintro e w' ⟨rfl, rfl⟩
              go_wp2_with fail
              go_round
              case rel => exact ⟨j + 1, by omega, by rw [HRS.out]⟩
              case measure => have hB := HB.out; simp [strLen2]; omega
        · obtain rfl : j = ps.length := by omega
          have hnil : textPs (ps.drop ps.length) = [] := by rw [List.drop_length]; rfl
          rw [hnil]
          have u0 : (bs []).toList = [] := bs_toList []
          clear hnil
          go_wp2_with fail
          go_round
          case rel => exact ⟨k + 1, by omega, by go_num⟩
          case measure => simp [intOf]; omega
    · go_wp2_with fail
      go_ret
      exact ⟨rfl, hb⟩
end
end Go.Proofs.YtphmhmdcaafmdaaGreatDoor
