/-
  field.Write, field.Read, each once. Condition: texts shorter than 2^62 bytes.
-/
import Derived.Test.YtnbggojmbdgkmaaDoorStrs
import Derived.BigQuiet
import Derived.Deep.QuietTactic
namespace Go.Proofs.YtnbggojmbdgkmaaDoor
open Go.RowKit

theorem ret_si {a b : ByteArray} {i j : Int} (h : a = b) (h2 : i = j) : Ending.returned (.tuple #[.string a, .int .i64 i]) = .returned (.tuple #[.string b, .int .i64 j]) := by rw [h, h2]
theorem bs_nil_eq : (⟨#[]⟩ : ByteArray) = bs [] := rfl

/-- how long a text may be -/
def fmost (W : Nat) (whole : Bool) : Nat := if whole then W else W - 1

set_option maxHeartbeats 400000 in
theorem FWrite_ok (l : List UInt8) (W : Nat) (whole : Bool) (h1 : 1 ≤ W) (h2 : W ≤ 512) (h3 : l.length ≤ fmost W whole) (h4 : (0 : UInt8) ∉ l) (w : World) :
    Calls Tryd.prog 48 #[.string (bs l), .int .i64 W, .bool whole] w fun e w' => e = .returned (.tuple #[.string (bs (l ++ List.replicate (W - l.length) 0)), .int .i64 0]) ∧ Below w.heap.size w w' := by
  have hz := bs_size l
  have hix := Lib.hid (indexByte_not h4)
  have hle : l.length ≤ W := by unfold fmost at h3; split at h3 <;> omega
  obtain ⟨n, hn⟩ : ∃ n, n = W - l.length := ⟨_, rfl⟩
  have hR := Lib.hid (fun w h => Repeat_byte 0 n w h)
  have hap := Lib.hid (bs_append l (List.replicate n 0))
  have hz2 := bs_rep_size 0 n
  have e1 : ((n : Nat) : Int) = (W : Int) - l.length := by omega
  rw [e1] at hR
  rw [← hn]
  have hn2 : n ≤ 512 := by omega
  have hn3 : n + l.length ≤ 512 := by omega
  clear e1 h4 hn
  cases whole
  all_goals
    have d1 : decide ((W : Int) < 1) = false := decide_eq_false (by omega)
    have d2 : decide (512 < (W : Int)) = false := decide_eq_false (by omega)
    have h3' : l.length ≤ W := hle
    unfold fmost at h3
    simp only [Bool.false_eq_true, if_false, if_true] at h3
    go_enter Tryd.func48, Tryd.ntmps48
    go_wp2_with fail
    refine (IndexByte_nul l _).mono ?_
    rintro e w' ⟨rfl, rfl⟩
    rw [hix.out]
    go_wp2_with fail
    refine (hR.out _ (by omega)).mono ?_
    rintro e w1 ⟨rfl, hb⟩
    go_wp2_with fail
    go_ret2
    exact ⟨ret_si hap.out rfl, hb⟩
set_option maxHeartbeats 400000 in
theorem FWrite_long (l : List UInt8) (W : Nat) (whole : Bool) (h1 : 1 ≤ W) (h2 : W ≤ 512) (h3 : fmost W whole < l.length) (w : World) :
    Calls Tryd.prog 48 #[.string (bs l), .int .i64 W, .bool whole] w fun e w' => e = .returned (.tuple #[.string (bs []), .int .i64 1]) ∧ w = w' := by
  have hz := bs_size l
  cases whole
  all_goals
    have d1 : decide ((W : Int) < 1) = false := decide_eq_false (by omega)
    have d2 : decide (512 < (W : Int)) = false := decide_eq_false (by omega)
    unfold fmost at h3
    simp only [Bool.false_eq_true, if_false, if_true] at h3
    have d3 : (W : Int) - 1 < l.length := by omega
    have d4 : decide ((W : Int) - 1 < l.length) = true := decide_eq_true (by omega)
    go_enter Tryd.func48, Tryd.ntmps48
    go_wp2_with fail
    go_ret2
    exact ⟨rfl, rfl⟩

set_option maxHeartbeats 400000 in
theorem FRead_full (l : List UInt8) (whole : Bool) (h1 : 1 ≤ l.length) (h2 : l.length ≤ 512) (h4 : (0 : UInt8) ∉ l) (w : World) :
    Calls Tryd.prog 96 #[.string (bs l), .bool whole] w fun e w' => e = .returned (.tuple #[.string (bs (if whole then l else [])), .int .i64 (if whole then 0 else 3)]) ∧ Below w.heap.size w w' := by
  have hz := bs_size l
  have hix := Lib.hid (indexByte_not h4)
  have d1 : decide ((l.length : Int) < 1) = false := decide_eq_false (by omega)
  have d2 : decide (512 < (l.length : Int)) = false := decide_eq_false (by omega)
  have hT := Lib.hid (Trim_nul [] · (by simp))
  rw [show Lib.trimB [] (0 : UInt8) = [] from rfl] at hT
  have t0 : (bs []).toList = [] := bs_toList []
  clear h4
  cases whole
  · go_enter Tryd.func96, Tryd.ntmps96
    go_wp2_with fail
    refine (IndexByte_nul l _).mono ?_
    rintro e w' ⟨rfl, rfl⟩
    rw [hix.out]
    go_wp2_with fail
    go_ret2
    exact ⟨ret_si rfl rfl, Below.refl _ _⟩
  · go_enter Tryd.func96, Tryd.ntmps96
    go_wp2_with fail
    refine (IndexByte_nul l _).mono ?_
    rintro e w' ⟨rfl, rfl⟩
    rw [hix.out]
    go_wp2_with fail
    refine (hT.out _).mono ?_
    rintro e w' ⟨rfl, hb⟩
    go_wp2_with fail
    go_ret2
    exact ⟨ret_si rfl rfl, hb⟩

set_option maxHeartbeats 400000 in
theorem FRead_part (a r : List UInt8) (whole : Bool) (h2 : (a ++ 0 :: r).length ≤ 512) (h4 : (0 : UInt8) ∉ a) (w : World) :
    Calls Tryd.prog 96 #[.string (bs (a ++ 0 :: r)), .bool whole] w fun e w' =>
      e = .returned (.tuple #[.string (bs (if r.all (· == 0) then a else [])), .int .i64 (if r.all (· == 0) then 0 else 3)]) ∧ Below w.heap.size w w' := by
  have hz := bs_size (a ++ 0 :: r)
  have hlen : (a ++ 0 :: r).length = a.length + r.length + 1 := by simp; omega
  have hix := Lib.hid (show Lib.indexByte (a ++ 0 :: r) 0 = a.length from indexByte_at h4)
  have hI := Lib.hid (IndexByte_nul (a ++ 0 :: r))
  have x1 : (bs (a ++ 0 :: r)).extract 0 a.length = bs a := by rw [bs_extract]; congr 1; simp
  have x2 : (bs (a ++ 0 :: r)).extract a.length (a.length + r.length + 1) = bs (0 :: r) := by
    rw [bs_extract]; congr 1; rw [List.drop_left, List.take_of_length_le (by simp; omega)]
  rw [hlen] at hz h2
  have hT := Lib.hid (Trim_nul (0 :: r) · (by simp; omega))
  have q1 : ¬ (bs (0 :: r)).toList = [] := by rw [bs_toList]; simp
  have q2 : (bs (0 :: r)).toList.isEmpty = false := by rw [bs_toList]; rfl
  have d1 : decide ((a.length : Int) + r.length + 1 < 1) = false := decide_eq_false (by omega)
  have d2 : decide (512 < (a.length : Int) + r.length + 1) = false := decide_eq_false (by omega)
  generalize bs (a ++ 0 :: r) = s at *
  by_cases hr : r.all (· == 0) = true
  · have t3 : (bs (Lib.trimB (0 :: r) 0)).toList = [] := by
      rw [bs_toList, trimB_nil]
      intro b hb
      rcases List.mem_cons.1 hb with rfl | hb
      · rfl
      · exact eq_of_beq (List.all_eq_true.1 hr b hb)
    rw [if_pos hr, if_pos hr]
    go_enter Tryd.func96, Tryd.ntmps96
    go_wp2_with fail
    refine (hI.out _).mono ?_
    rintro e w' ⟨rfl, rfl⟩
    rw [hix.out]
    go_wp2_with fail
    go_quiet (fail)
    go_wp2_with fail
    refine (hT.out _).mono ?_
    rintro e w1 ⟨rfl, hb⟩
    go_wp2_with fail
    go_ret2
    exact ⟨ret_si rfl rfl, (below_drewN (Below.refl _ _) _).trans hb⟩
  · have t3 : ¬ (bs (Lib.trimB (0 :: r) 0)).toList = [] := by
      rw [bs_toList, trimB_nil]
      intro h
      exact hr (List.all_eq_true.2 fun b hb => beq_iff_eq.2 (h b (by simp [hb])))
    have t4 : (bs (Lib.trimB (0 :: r) 0)).toList.isEmpty = false := by simpa using t3
    rw [if_neg hr, if_neg hr]
    go_enter Tryd.func96, Tryd.ntmps96
    go_wp2_with fail
    refine (hI.out _).mono ?_
    rintro e w' ⟨rfl, rfl⟩
    rw [hix.out]
    go_wp2_with fail
    go_quiet (fail)
    go_wp2_with fail
    refine (hT.out _).mono ?_
    rintro e w1 ⟨rfl, hb⟩
    go_wp2_with fail
    go_ret2
    exact ⟨ret_si rfl rfl, (below_drewN (Below.refl _ _) _).trans hb⟩
theorem all_rep (n : Nat) : (List.replicate n (0 : UInt8)).all (· == 0) = true := by
  rw [List.all_eq_true]; intro x hx; rw [List.eq_of_mem_replicate hx]; rfl
/-- what was written is read -/
theorem FRead_written (l : List UInt8) (W : Nat) (whole : Bool) (h1 : 1 ≤ W) (h2 : W ≤ 512) (h3 : l.length ≤ fmost W whole) (h4 : (0 : UInt8) ∉ l) (w : World) :
    Calls Tryd.prog 96 #[.string (bs (l ++ List.replicate (W - l.length) 0)), .bool whole] w fun e w' => e = .returned (.tuple #[.string (bs l), .int .i64 0]) ∧ Below w.heap.size w w' := by
  have hle : l.length ≤ W := by unfold fmost at h3; split at h3 <;> omega
  by_cases hw : l.length = W
  · have hwh : whole = true := by
      cases whole
      · simp [fmost] at h3; omega
      · rfl
    subst hwh
    have := FRead_full l true (by omega) (by omega) h4 w
    simp only [if_true] at this
    rw [show W - l.length = 0 from by omega, List.replicate_zero, List.append_nil]
    exact this
  · obtain ⟨n, hn⟩ : ∃ n, W - l.length = n + 1 := ⟨W - l.length - 1, by omega⟩
    have := FRead_part l (List.replicate n 0) whole (by simp; omega) h4 w
    rw [all_rep] at this
    simp only [if_true] at this
    rw [hn, List.replicate_succ]
    exact this
end Go.Proofs.YtnbggojmbdgkmaaDoor
