/-
  glob.Check: at patterns that may be; at a pattern of one part whose set has no end. Condition: texts of at most 400 bytes.
-/
import Derived.Test.YtngkfelhlabloaaDoorGlobSplit
namespace Go.Proofs.YtngkfelhlabloaaDoor
open Go.RowKit

/-- a part of a pattern that may be -/
def partOk (s : List UInt8) : Prop := s ≠ [] ∧ ∃ ps : List Piece, s = textPs ps ∧ ∀ q ∈ ps, okP q
/-- how many bytes are walked, at least -/
theorem piece_head (q : Piece) (hq : okP q) : (∃ b, q = .inl b ∧ b ≠ 91) ∨ ∃ neg x body, q = .inr (neg, x, body) := by
  rcases q with b | ⟨neg, x, body⟩
  · exact .inl ⟨b, rfl, hq⟩
  · exact .inr ⟨neg, x, body, rfl⟩

set_option maxRecDepth 100000 in
set_option maxHeartbeats 2000000 in
theorem GCheck_ok (p : List UInt8) (h1 : 1 ≤ p.length) (h2 : p.length ≤ 400) (hp : ∀ s ∈ splitC 47 p, partOk s) (hpl : ∀ s ∈ splitC 47 p, s.length ≤ 400) (w : World) (hm : ML w) :
    Calls Tryd.prog 44 #[.string (bs p)] w fun e w' => e = .returned (.int .i64 0) ∧ Below w.heap.size w w' := by
  have hz := bs_size p
  have hspl := splitC_length 47 p
  have hS := Lib.hid (fun hs => Split_slash p w hs hm)
  have HP := Lib.hid hp
  have HL := Lib.hid hpl
  have d1 : decide ((p.length : Int) < 1) = false := decide_eq_false (by omega)
  have d2 : decide (400 < (p.length : Int)) = false := decide_eq_false (by omega)
  clear hp hpl hm
  generalize splitC 47 p = P at *
  go_enter Tryd.func44, Tryd.ntmps44
  go_wp2_with fail
  refine (hS.out (by omega)).mono ?_
  rintro e w1 ⟨v, rfl, hv, hb⟩
  obtain ⟨A, c, rfl, h11, h12, h13, hr⟩ := hv
  unfold maxLen at h12
  go_wp2_with fail
  go_loop [17] (fun i => ∃ k : Nat, k ≤ P.length ∧ i = .int .i64 k) (fun i => P.length - (intOf i).toNat)
  case atStart => exact ⟨0, Nat.zero_le _, rfl⟩
  case round =>
    obtain ⟨k, hk, rfl⟩ := hrel
    by_cases hx : k < P.length
    · obtain ⟨ad1, u1, rfl, _, hu1, hc1⟩ := hr.at_ hx
      rw [List.getElem?_map, List.getElem?_eq_getElem hx] at hu1
      obtain rfl : Value.string (bs P[k]) = u1 := by simpa using hu1
      have hpo := HP.out P[k] (List.getElem_mem hx)
      have hlo := HL.out P[k] (List.getElem_mem hx)
      clear hu1
      generalize P[k] = s at *
      obtain ⟨hne, ps, rfl, hok⟩ := hpo
      have t0 : ¬ (bs (textPs ps)).toList = [] := by rw [bs_toList]; exact hne
      have t1 : (bs (textPs ps)).toList.isEmpty = false := by simpa using t0
      have HK := Lib.hid hok
      have hdl : Hid (∀ k, (textPs (ps.drop k)).length ≤ 400) := Lib.hid (fun k => by
        have : textPs ps = textPs (ps.take k) ++ textPs (ps.drop k) := by unfold textPs; rw [← List.flatten_append, ← List.map_append, List.take_append_drop]
        rw [this, List.length_append] at hlo
        omega)
      clear hne hok hlo
      go_wp2_with fail
      go_loop [4] (fun t => ∃ j : Nat, j ≤ ps.length ∧ t = .string (bs (textPs (ps.drop j)))) (fun t => strLen2 t)
      case atStart => exact ⟨0, Nat.zero_le _, rfl⟩
      case round =>
        obtain ⟨j, hj, rfl⟩ := hrel
        by_cases hlt : j < ps.length
        · have hq := HK.out ps[j] (List.getElem_mem hlt)
          have ht := textPs_take ps j hlt
          have hlen := hdl.out j
          rw [ht] at hlen ⊢
          have hne := textP_ne ps[j]
          have u0 : ¬ (bs (textP ps[j] ++ textPs (ps.drop (j + 1)))).toList = [] := by rw [bs_toList]; simp [hne]
          have u1 : (bs (textP ps[j] ++ textPs (ps.drop (j + 1)))).toList.isEmpty = false := by simpa using u0
          have z := bs_size (textP ps[j] ++ textPs (ps.drop (j + 1)))
          rw [List.length_append] at z hlen
          have xb : (bs (textP ps[j] ++ textPs (ps.drop (j + 1)))).extract (textP ps[j]).length ((textP ps[j]).length + (textPs (ps.drop (j + 1))).length) = bs (textPs (ps.drop (j + 1))) := by
            rw [bs_extract]; congr 1; simp
          have hpos := List.length_pos_iff.2 hne
          have HB := Lib.hid (bs_size (textPs (ps.drop (j + 1))))
          clear ht hne
          generalize hrs : textPs (ps.drop (j + 1)) = rest at *
          have HRS := Lib.hid hrs
          clear hrs
          generalize ps[j] = q at *
          by_cases hss : textP q ++ rest = [42, 42]
          · have e1 : ((bs (textP q ++ rest)).toList == [42, 42]) = true := by rw [bs_toList, hss]; rfl
            have e2 : ((bs (textP q ++ rest)).toList != [42, 42]) = false := by rw [bs_toList, hss]; rfl
            have e3 : (bs (textP q ++ rest)).toList = [42, 42] := by rw [bs_toList, hss]
            clear hss u0 u1
            generalize bs (textP q ++ rest) = s at *
            go_wp2_with fail
            go_round
            case rel => exact ⟨k + 1, by omega, by go_num⟩
            case measure => simp [intOf]; omega
          · have e1 : ((bs (textP q ++ rest)).toList == [42, 42]) = false := by rw [bs_toList]; exact beq_eq_false_iff_ne.2 hss
            have e2 : ((bs (textP q ++ rest)).toList != [42, 42]) = true := by rw [bs_toList]; exact bne_iff_ne.2 hss
            have e3 : ¬ (bs (textP q ++ rest)).toList = [42, 42] := by rw [bs_toList]; exact hss
            clear hss
            rcases q with b | ⟨neg, x, body⟩
            · have ts : 0 < (bs (textP (.inl b) ++ rest)).size := by rw [z]; omega
              have t3 : (((bs (textP (.inl b) ++ rest))[0]'ts).toNat : Int) = b.toNat := bs_at0 b rest ts
              have hb91 : ¬ (b.toNat : Int) = 91 := nat_byte (d := 91) hq
              have e91 : ((b.toNat : Int) == 91) = false := beq_eq_false_iff_ne.2 hb91
              have hl1 : (textP (.inl b)).length = 1 := rfl
              rw [hl1] at z xb hlen
              clear hl1 hb91 hq hpos
              generalize bs (textP (.inl b) ++ rest) = s at *
              generalize hrl : rest.length = rl at *
              have HRL := Lib.hid hrl
              clear hrl
              generalize (b.toNat : Int) = Bb at *
              go_wp2_with fail
              go_round
              case rel => exact ⟨j + 1, by omega, by rw [HRS.out]⟩
              case measure => have hB := HB.out; simp [strLen2]; omega
            · obtain ⟨h1, h2, h3⟩ := hq
              have hE := Lib.hid (fun w => end_any (setT neg x body ++ rest) (by simp [setT]) (by rw [List.length_append]; exact Nat.le_trans hlen (by omega)) w)
              rw [endV_set neg x body rest h1 h2] at hE
              have ts : 0 < (bs (textP (.inr (neg, x, body)) ++ rest)).size := by rw [z]; omega
              have t3 : (((bs (textP (.inr (neg, x, body)) ++ rest))[0]'ts).toNat : Int) = 91 := by
                rw [bs_get]; rfl
              clear h1 h2
              have hE2 : Hid (∀ w : World, Calls Tryd.prog 79 #[.string (bs (textP (.inr (neg, x, body)) ++ rest))] w fun e w' => e = .returned (.int .i64 (textP (.inr (neg, x, body))).length) ∧ w = w') := hE
              clear hE
              generalize bs (textP (.inr (neg, x, body)) ++ rest) = s at *
              generalize (textP (.inr (neg, x, body))).length = n at *
              generalize hrl : rest.length = rl at *
              have HRL := Lib.hid hrl
              clear hrl
              go_wp2_with fail
              refine (hE2.out _).mono ?_
              rintro e w' ⟨rfl, rfl⟩
              go_wp2_with fail
              go_round
              case rel => exact ⟨j + 1, by omega, by rw [HRS.out]⟩
              case measure => have hB := HB.out; simp [strLen2]; omega
        · obtain rfl : j = ps.length := by omega
          have hnil : textPs (ps.drop ps.length) = [] := by rw [List.drop_length]; rfl
          rw [hnil]
          have u0 : (bs []).toList = [] := bs_toList []
          clear hnil
          go_wp2_with fail
          go_round
          case rel => exact ⟨k + 1, by omega, by go_num⟩
          case measure => simp [intOf]; omega
    · go_wp2_with fail
      go_ret
      exact ⟨rfl, hb⟩
theorem endV_end (q : List UInt8) : Hid (endV q = endV q) := Lib.hid rfl
set_option maxRecDepth 100000 in
set_option maxHeartbeats 2000000 in
theorem GCheck_form (ps : List Piece) (bad : List UInt8) (hok : ∀ q ∈ ps, okP q) (he : endV (91 :: bad) = -1) (hns : (47 : UInt8) ∉ textPs ps ++ 91 :: bad) (h2 : (textPs ps ++ 91 :: bad).length ≤ 400) (w : World) (hm : ML w) :
    Calls Tryd.prog 44 #[.string (bs (textPs ps ++ 91 :: bad))] w fun e w' => e = .returned (.int .i64 3) ∧ Below w.heap.size w w' := by
  have hz := bs_size (textPs ps ++ 91 :: bad)
  have hS := Lib.hid (fun hs => Split_slash (textPs ps ++ 91 :: bad) w hs hm)
  rw [splitC_miss hns] at hS
  have hpos : 1 ≤ (textPs ps ++ 91 :: bad).length := by simp; omega
  have d1 : decide (((textPs ps ++ 91 :: bad).length : Int) < 1) = false := decide_eq_false (by omega)
  have d2 : decide (400 < ((textPs ps ++ 91 :: bad).length : Int)) = false := decide_eq_false (by omega)
  have t0 : ¬ (bs (textPs ps ++ 91 :: bad)).toList = [] := by rw [bs_toList]; simp
  have t1 : (bs (textPs ps ++ 91 :: bad)).toList.isEmpty = false := by simpa using t0
  have HK := Lib.hid hok
  have hdl : Hid (∀ k, (textPs (ps.drop k) ++ 91 :: bad).length ≤ 400) := Lib.hid (fun k => by
    have : textPs ps = textPs (ps.take k) ++ textPs (ps.drop k) := by unfold textPs; rw [← List.flatten_append, ← List.map_append, List.take_append_drop]
    rw [List.length_append] at h2 ⊢
    rw [this, List.length_append] at h2
    omega)
  have HS0 : Hid (textPs ps ++ 91 :: bad = textPs (ps.drop 0) ++ 91 :: bad) := Lib.hid rfl
  clear hok hns hm
  generalize hp : textPs ps ++ 91 :: bad = p at *
  have HPP := Lib.hid hp
  clear hp
  go_enter Tryd.func44, Tryd.ntmps44
  go_wp2_with fail
  refine (hS.out (by omega)).mono ?_
  rintro e w1 ⟨v, rfl, hv, hb⟩
  obtain ⟨A, c, rfl, h11, h12, h13, hr⟩ := hv
  unfold maxLen at h12
  obtain ⟨ad1, u1, rfl, _, hu1, hc1⟩ := hr.at_ (show 0 < [p].length by simp)
  obtain rfl : Value.string (bs p) = u1 := by simpa using hu1
  rw [show [p].length = 1 from rfl]
  have hc2 : w1.cell? ad1 = some (.string (bs p)) := hc1
  clear hu1 hr
  go_wp2_with fail
  go_loop [17] (fun i => i = .int .i64 0) (fun i => 1 - (intOf i).toNat)
  case atStart => rfl
  case round =>
    obtain rfl := hrel
    go_wp2_with fail
    go_loop [4] (fun t => ∃ j : Nat, j ≤ ps.length ∧ t = .string (bs (textPs (ps.drop j) ++ 91 :: bad))) (fun t => strLen2 t)
    case atStart => exact ⟨0, Nat.zero_le _, by rw [List.drop_zero, HPP.out]⟩
    case round =>
      obtain ⟨j, hj, rfl⟩ := hrel
      have v0 : ¬ (bs (textPs (ps.drop j) ++ 91 :: bad)).toList = [] := by rw [bs_toList]; simp
      have v1 : (bs (textPs (ps.drop j) ++ 91 :: bad)).toList.isEmpty = false := by simpa using v0
      have hss : textPs (ps.drop j) ++ 91 :: bad ≠ [42, 42] := by
        intro e
        have : (91 : UInt8) ∈ [(42 : UInt8), 42] := by rw [← e]; simp
        simp at this
      have e1 : ((bs (textPs (ps.drop j) ++ 91 :: bad)).toList == [42, 42]) = false := by rw [bs_toList]; exact beq_eq_false_iff_ne.2 hss
      have e2 : ((bs (textPs (ps.drop j) ++ 91 :: bad)).toList != [42, 42]) = true := by rw [bs_toList]; exact bne_iff_ne.2 hss
      have e3 : ¬ (bs (textPs (ps.drop j) ++ 91 :: bad)).toList = [42, 42] := by rw [bs_toList]; exact hss
      clear hss
      have hlen := hdl.out j
      have z := bs_size (textPs (ps.drop j) ++ 91 :: bad)
      by_cases hlt : j < ps.length
      · have hq := HK.out ps[j] (List.getElem_mem hlt)
        have ht : textPs (ps.drop j) ++ 91 :: bad = textP ps[j] ++ (textPs (ps.drop (j + 1)) ++ 91 :: bad) := by rw [textPs_take ps j hlt, List.append_assoc]
        rw [ht] at v0 v1 e1 e2 e3 z hlen ⊢
        have hne := textP_ne ps[j]
        rw [List.length_append] at z hlen
        have xb : (bs (textP ps[j] ++ (textPs (ps.drop (j + 1)) ++ 91 :: bad))).extract (textP ps[j]).length ((textP ps[j]).length + (textPs (ps.drop (j + 1)) ++ 91 :: bad).length) = bs (textPs (ps.drop (j + 1)) ++ 91 :: bad) := ex_rest _ _
        have hpos2 := List.length_pos_iff.2 hne
        have HB := Lib.hid (bs_size (textPs (ps.drop (j + 1)) ++ 91 :: bad))
        clear ht hne
        generalize hrs : textPs (ps.drop (j + 1)) ++ 91 :: bad = rest at *
        have HRS := Lib.hid hrs
        clear hrs
        generalize ps[j] = q at *
        rcases q with b | ⟨neg, x, body⟩
        · have ts : 0 < (bs (textP (.inl b) ++ rest)).size := by rw [z]; omega
          have t3 : (((bs (textP (.inl b) ++ rest))[0]'ts).toNat : Int) = b.toNat := bs_at0 b rest ts
          have hb91 : ¬ (b.toNat : Int) = 91 := nat_byte (d := 91) hq
          have e91 : ((b.toNat : Int) == 91) = false := beq_eq_false_iff_ne.2 hb91
          have hl1 : (textP (.inl b)).length = 1 := rfl
          rw [hl1] at z xb hlen
          clear hl1 hb91 hq hpos2
          generalize bs (textP (.inl b) ++ rest) = s at *
          generalize hrl : rest.length = rl at *
          have HRL := Lib.hid hrl
          clear hrl
          generalize (b.toNat : Int) = Bb at *
          go_wp2_with fail
          go_round
          case rel => exact ⟨j + 1, by omega, by rw [HRS.out]⟩
          case measure => have hB := HB.out; simp [strLen2]; omega
        · obtain ⟨h1, h2, h3⟩ := hq
          have hE := Lib.hid (fun w => end_any (setT neg x body ++ rest) (by simp [setT]) (by rw [List.length_append]; exact Nat.le_trans hlen (by omega)) w)
          rw [endV_set neg x body rest h1 h2] at hE
          have ts : 0 < (bs (textP (.inr (neg, x, body)) ++ rest)).size := by rw [z]; omega
          have t3 : (((bs (textP (.inr (neg, x, body)) ++ rest))[0]'ts).toNat : Int) = 91 := by
            rw [bs_get]; rfl
          clear h1 h2
          have hE2 : Hid (∀ w : World, Calls Tryd.prog 79 #[.string (bs (textP (.inr (neg, x, body)) ++ rest))] w fun e w' => e = .returned (.int .i64 (textP (.inr (neg, x, body))).length) ∧ w = w') := hE
          clear hE
          generalize bs (textP (.inr (neg, x, body)) ++ rest) = s at *
          generalize (textP (.inr (neg, x, body))).length = n at *
          generalize hrl : rest.length = rl at *
          have HRL := Lib.hid hrl
          clear hrl
          go_wp2_with fail
          refine (hE2.out _).mono ?_
          rintro e w' ⟨rfl, rfl⟩
          go_wp2_with fail
          go_round
          case rel => exact ⟨j + 1, by omega, by rw [HRS.out]⟩
          case measure => have hB := HB.out; simp [strLen2]; omega
      · obtain rfl : j = ps.length := by omega
        have hnil : textPs (ps.drop ps.length) ++ 91 :: bad = 91 :: bad := by rw [List.drop_length]; rfl
        rw [hnil] at v0 v1 e1 e2 e3 z hlen ⊢
        have hE := Lib.hid (fun w => end_any (91 :: bad) (by simp) (by omega) w)
        rw [he] at hE
        have ts : 0 < (bs (91 :: bad)).size := by rw [z]; simp
        have t3 : (((bs (91 :: bad))[0]'ts).toNat : Int) = 91 := bs_at0 91 bad ts
        clear hnil
        generalize bs (91 :: bad) = s at *
        go_wp2_with fail
        refine (hE.out _).mono ?_
        rintro e w' ⟨rfl, rfl⟩
        go_wp2_with fail
        go_ret
        exact ⟨rfl, hb⟩
end Go.Proofs.YtngkfelhlabloaaDoor
