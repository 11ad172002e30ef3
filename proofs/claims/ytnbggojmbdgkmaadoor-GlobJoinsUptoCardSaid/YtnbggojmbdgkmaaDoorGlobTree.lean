/-
  The laws GlobSelf and GlobStars: what they compute is true. Condition: raw things of the second form's bound.
-/
import Derived.Test.YtnbggojmbdgkmaaDoorPathNear
import Derived.Test.YtnbggojmbdgkmaaDoorGlobPlain
namespace Go.Proofs.YtnbggojmbdgkmaaDoor
open Go.RowKit

theorem joinC_ge : ∀ {ps : List (List UInt8)}, ps ≠ [] → (∀ q ∈ ps, q ≠ []) → 2 * ps.length ≤ (joinC 47 ps).length + 1
  | [], h, _ => absurd rfl h
  | [q], _, h => by
    have : 0 < q.length := List.length_pos_iff.2 (h q (by simp))
    simp only [joinC, List.length_cons, List.length_nil]; omega
  | q :: r :: ps, _, h => by
    have h1 : 0 < q.length := List.length_pos_iff.2 (h q (by simp))
    have h2 := joinC_ge (ps := r :: ps) (by simp) (fun z hz => h z (by simp [hz]))
    rw [joinC, List.length_append, List.length_cons]
    simp only [List.length_cons] at h2 ⊢
    omega
theorem parts_few {p : List UInt8} (h : PartsOk p) : 2 * (splitC 47 p).length ≤ p.length + 1 := by
  have h2 := joinC_ge (splitC_ne 47 p) (fun q hq => (namesL_ok q (h.2 q hq)).1)
  rwa [join_split] at h2
theorem bs_eqb (a b : List UInt8) : ((bs a).toList == (bs b).toList) = (a == b) := by rw [bs_toList, bs_toList]
set_option maxRecDepth 100000 in
set_option maxHeartbeats 4000000 in
theorem GlobSelf_walk (w : World) (hsh : w.ShapedOpen Tryd.prog) (v : Value) (l : List RawS) (hl : RawsAt w w.heap.size v l) (hok : ∀ x ∈ l, RawOk x) (hn : l.length ≤ 1048576) (a : Int) (ha : I64 a) (b : Int) (hb : I64 b) :
    Calls Tryd.prog 8 #[v, .int .i64 a, .int .i64 b] w fun e w' => e = .returned (.bool true) ∧ Below w.heap.size w w' := by
  have hm := ML.of_shaped hsh
  clear hsh
  have HP := Lib.hid (fun (_ : Unit) => paths_any l v 20 w hm hl hok hn (by omega))
  have hpl := pathsL_length l 20
  have hpo := pathsL_ok l 20
  have HML : Hid (∀ W, Below w.heap.size w W → ML W) := Lib.hid (fun W hb => hm.below hb)
  clear hm hl hok hn
  generalize pathsL l 20 = P at *
  obtain ⟨hp1, hp2⟩ := hpl
  obtain ⟨i, hi, Pi⟩ := pick_path hp1 (by omega) a ha
  obtain ⟨j, hj, Pj⟩ := pick_path hp1 (by omega) b hb
  have HPi := Lib.hid Pi
  have HPj := Lib.hid Pj
  clear Pi Pj
  obtain ⟨os, ls⟩ := hpo _ (List.getElem_mem hi)
  obtain ⟨ot, lt⟩ := hpo _ (List.getElem_mem hj)
  clear hpo
  obtain ⟨s, hs⟩ : ∃ s, s = P[i] := ⟨_, rfl⟩
  obtain ⟨t, ht⟩ : ∃ t, t = P[j] := ⟨_, rfl⟩
  rw [← hs] at os ls
  rw [← ht] at ot lt
  have HDX := Lib.hid (And.intro hs ht)
  clear hs ht
  have HF1 : Hid (∀ W, Below w.heap.size w W → Calls Tryd.prog 28 #[.string (bs s), .string (bs t)] W fun e w' => e = .returned (.tuple #[.bool (s == t), .int .i64 0]) ∧ Below W.heap.size W w') := Lib.hid (fun W hW => by
    have h := Fits_ok s _ (pattern_lit os ls) t (parts_check ot lt) W (HML.out W hW)
    rw [glob_self os] at h
    exact h)
  have HF2 : Hid (∀ W, Below w.heap.size w W → Calls Tryd.prog 28 #[.string (bs s), .string (bs s)] W fun e w' => e = .returned (.tuple #[.bool true, .int .i64 0]) ∧ Below W.heap.size W w') := Lib.hid (fun W hW => by
    have h := Fits_ok s _ (pattern_lit os ls) s (parts_check os ls) W (HML.out W hW)
    rw [glob_self os, beq_self_eq_true] at h
    exact h)
  have hq := bs_eqb s t
  generalize (s == t) = b1 at *
  clear os ot
  go_enter Tryd.func8, Tryd.ntmps8
  go_wp2_with fail
  refine (HP.out ()).mono ?_
  rintro e' w1 ⟨pv, rfl, hpv, b1'⟩
  obtain ⟨gd, cd, rfl, hcd1, hcd2, -, hdc⟩ := hpv.at_ hp1
  unfold maxLen at hcd2
  have e1 := hdc i hi
  have e2 := hdc j hj
  obtain ⟨hs, ht⟩ := HDX.out
  rw [← hs] at e1
  rw [← ht] at e2
  have B1 := Lib.hid b1'
  clear hpv hdc hs ht b1'
  generalize bs s = bS at *
  generalize bs t = bT at *
  go_upto_region 2 with fail
  go_quiet ((go_at_call 17; first | (with_reducible exact Calls.quiet_of (HPi.out _)) | (with_reducible exact Calls.quiet_of (HPj.out _))))
  go_wp2_with fail
  refine (HF1.out _ (below_drewN B1.out _)).mono ?_
  rintro e' w3 ⟨rfl, d3⟩
  have B3 := Lib.hid ((below_drewN B1.out _).trans (d3.mono (below_drewN B1.out _).size))
  clear d3
  go_wp2_with fail
  refine (HF2.out _ B3.out).mono ?_
  rintro e' w4 ⟨rfl, d4⟩
  have B4 := Lib.hid (B3.out.trans (d4.mono B3.out.size))
  clear d4
  cases b1
  all_goals
    go_wp2_with fail
    go_ret
    exact ⟨rfl, B4.out⟩
set_option maxRecDepth 100000 in
set_option maxHeartbeats 4000000 in
theorem GlobStars_walk (w : World) (hsh : w.ShapedOpen Tryd.prog) (v : Value) (l : List RawS) (hl : RawsAt w w.heap.size v l) (hok : ∀ x ∈ l, RawOk x) (hn : l.length ≤ 1048576) (a : Int) (ha : I64 a) :
    Calls Tryd.prog 10 #[v, .int .i64 a] w fun e w' => e = .returned (.bool true) ∧ Below w.heap.size w w' := by
  have hm := ML.of_shaped hsh
  clear hsh
  have HP := Lib.hid (fun (_ : Unit) => paths_any l v 20 w hm hl hok hn (by omega))
  have hpl := pathsL_length l 20
  have hpo := pathsL_ok l 20
  have HML : Hid (∀ W, Below w.heap.size w W → ML W) := Lib.hid (fun W hb => hm.below hb)
  clear hm hl hok hn
  generalize pathsL l 20 = P at *
  obtain ⟨hp1, hp2⟩ := hpl
  obtain ⟨i, hi, Pi⟩ := pick_path hp1 (by omega) a ha
  have HPi := Lib.hid Pi
  clear Pi
  obtain ⟨os, ls⟩ := hpo _ (List.getElem_mem hi)
  clear hpo
  obtain ⟨s, hs⟩ : ∃ s, s = P[i] := ⟨_, rfl⟩
  rw [← hs] at os ls
  have HDX := Lib.hid hs
  clear hs
  obtain ⟨n, hns⟩ : ∃ n, (splitC 47 s).length = n + 1 := ⟨(splitC 47 s).length - 1, by have := List.length_pos_iff.2 (splitC_ne 47 s); omega⟩
  have hn2 : n ≤ 400 := by have := splitC_length 47 s; omega
  have hnl : 2 * n + 1 ≤ 400 := by have := parts_few os; omega
  have hck := parts_check os ls
  have HPa : Hid (∀ W, Below w.heap.size w W → Calls Tryd.prog 31 #[.string (bs s)] W fun e w' => ∃ v, e = .returned v ∧ StrsAt w' w'.heap.size v (splitC 47 s) ∧ Below W.heap.size W w') := Lib.hid (fun W hW => by
    have h := Parts_any s W (by omega) (HML.out W hW)
    rw [show partsS s = splitC 47 s from if_neg os.1] at h
    exact h)
  have F (p : List UInt8) (ps : List (List Piece)) (hp : Pattern p ps) (W : World) (hW : Below w.heap.size w W) := Fits_ok p ps hp s hck W (HML.out W hW)
  have HF1 : Hid (∀ W, Below w.heap.size w W → Calls Tryd.prog 28 #[.string ⟨#[42, 42]⟩, .string (bs s)] W fun e w' => e = .returned (.tuple #[.bool true, .int .i64 0]) ∧ Below W.heap.size W w') := Lib.hid (fun W hW => by
    have h := F _ _ pattern_two W hW
    rw [glob_two] at h
    exact h)
  have HF2 : Hid (∀ W, Below w.heap.size w W → Calls Tryd.prog 28 #[.string ⟨#[42]⟩, .string (bs s)] W fun e w' => e = .returned (.tuple #[.bool (decide (n + 1 = 1)), .int .i64 0]) ∧ Below W.heap.size W w') := Lib.hid (fun W hW => by
    have h := F _ _ pattern_one1 W hW
    have g := glob_ones 1 (splitC 47 s)
    rw [show List.replicate 1 oneStar = [oneStar] from rfl, hns] at g
    rw [g] at h
    exact h)
  have HF3 : Hid (∀ W, Below w.heap.size w W → Calls Tryd.prog 28 #[.string ⟨#[42, 42, 47, 42]⟩, .string (bs s)] W fun e w' => e = .returned (.tuple #[.bool true, .int .i64 0]) ∧ Below W.heap.size W w') := Lib.hid (fun W hW => by
    have h := F _ _ pattern_last W hW
    rw [glob_last (splitC_ne 47 s)] at h
    exact h)
  have HF4 : Hid (∀ W, Below w.heap.size w W → Calls Tryd.prog 28 #[.string (bs (stars n)), .string (bs s)] W fun e w' => e = .returned (.tuple #[.bool true, .int .i64 0]) ∧ Below W.heap.size W w') := Lib.hid (fun W hW => by
    have h := F _ _ (pattern_stars hnl) W hW
    rw [glob_ones, hns] at h
    simpa using h)
  have HR : Hid (∀ W, Calls Tryd.prog 33 #[.string ⟨#[42, 47]⟩, .int .i64 (n + 1 : Nat)] W fun e w' => e = .returned (.string (bs (stars n ++ [47]))) ∧ Below W.heap.size W w') := Lib.hid (fun W => by
    have h := Repeat_of [42, 47] (n + 1) W (by simp; omega) (by omega)
    rw [stars_repeat] at h
    exact h)
  have HTS : Hid (∀ W, Calls Tryd.prog 32 #[.string (bs (stars n ++ [47])), .string ⟨#[47]⟩] W fun e w' => e = .returned (.string (bs (stars n))) ∧ W = w') := Lib.hid (fun W => by
    have h := Tryd.strings_TrimSuffix (bs (stars n ++ [47])) ⟨#[47]⟩ W (by rw [bs_size, List.length_append, stars_length]; simp; omega)
    refine h.mono ?_
    rintro e w' ⟨h1, h2⟩
    refine ⟨?_, h2.symm⟩
    rw [h1, bs_data]
    have e : Lib.trimSuffix (stars n ++ [47]) [47] = stars n := by
      unfold Lib.trimSuffix
      rw [if_pos (by unfold Lib.hasSuffix; rw [List.isSuffixOf_iff_suffix]; exact ⟨stars n, rfl⟩), List.length_append]
      simp
    show Ending.returned (.string (bs (Lib.trimSuffix (stars n ++ [47]) [47]))) = _
    rw [e])
  obtain ⟨d, hdd⟩ : ∃ d, d = decide (n + 1 = 1) := ⟨_, rfl⟩
  rw [← hdd] at HF2
  have HDD := Lib.hid hdd
  clear F hck os hdd
  go_enter Tryd.func10, Tryd.ntmps10
  go_wp2_with fail
  refine (HP.out ()).mono ?_
  rintro e' w1 ⟨pv, rfl, hpv, b1'⟩
  obtain ⟨gd, cd, rfl, hcd1, hcd2, -, hdc⟩ := hpv.at_ hp1
  unfold maxLen at hcd2
  have e1 := hdc i hi
  rw [← HDX.out] at e1
  have B1 := Lib.hid b1'
  clear hpv hdc b1'
  generalize bs s = bS at *
  generalize bs (stars n) = bN at *
  generalize bs (stars n ++ [47]) = bM at *
  go_wp2_with fail
  refine (HPi.out _).mono ?_
  rintro e' w2 ⟨rfl, q, rfl⟩
  go_wp2_with fail
  refine (HPa.out _ (below_drewN B1.out _)).mono ?_
  rintro e' w3 ⟨v3, rfl, hv3, d3⟩
  have B3 := Lib.hid ((below_drewN B1.out _).trans (d3.mono (below_drewN B1.out _).size))
  obtain ⟨A3, c3, rfl, -, -, -, -⟩ := hv3
  rw [hns]
  clear d3
  go_wp2_with fail
  refine (HF1.out _ B3.out).mono ?_
  rintro e' w4 ⟨rfl, d4⟩
  have B4 := Lib.hid (B3.out.trans (d4.mono B3.out.size))
  clear d4
  go_wp2_with fail
  refine (HF2.out _ B4.out).mono ?_
  rintro e' w5 ⟨rfl, d5⟩
  have B5 := Lib.hid (B4.out.trans (d5.mono B4.out.size))
  clear d5
  go_wp2_with fail
  refine (HF3.out _ B5.out).mono ?_
  rintro e' w6 ⟨rfl, d6⟩
  have B6 := Lib.hid (B5.out.trans (d6.mono B5.out.size))
  clear d6
  go_wp2_with fail
  refine (HR.out _).mono ?_
  rintro e' w7 ⟨rfl, d7⟩
  have B7 := Lib.hid (B6.out.trans (d7.mono B6.out.size))
  clear d7
  go_wp2_with fail
  refine (HTS.out _).mono ?_
  rintro e' w' ⟨rfl, rfl⟩
  go_wp2_with fail
  refine (HF4.out _ B7.out).mono ?_
  rintro e' w8 ⟨rfl, d8⟩
  have B8 := Lib.hid (B7.out.trans (d8.mono B7.out.size))
  clear d8
  by_cases h0 : n = 0
  · have hd : d = true := by rw [HDD.out]; exact decide_eq_true (by omega)
    subst hd
    go_wp2_with fail
    go_ret
    exact ⟨rfl, B8.out⟩
  · have hd : d = false := by rw [HDD.out]; exact decide_eq_false (by omega)
    subst hd
    have HQ := Lib.hid (show ((n : Int) + 1 == 1) = false by rw [beq_eq_false_iff_ne]; omega)
    go_wp2_with fail
    go_ret
    exact ⟨ret_bool (by rw [HQ.out]; rfl), B8.out⟩
end Go.Proofs.YtnbggojmbdgkmaaDoor
