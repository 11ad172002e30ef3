/-
  list.date, list.Day, each once; the laws ListNext, ListRound. No condition.
-/
import Derived.Test.YtmioinfhggbfkaaDoorDates
import Derived.Test.YtmioinfhggbfkaaDoorWords
namespace Go.Proofs.YtmioinfhggbfkaaDoor
set_option linter.all false
open Go.RowKit

theorem ret3_int {a b c a' b' c' : Int} (h : a = a') (h' : b = b') (h'' : c = c') : Ending.returned (.tuple #[.int .i64 a, .int .i64 b, .int .i64 c]) = .returned (.tuple #[.int .i64 a', .int .i64 b', .int .i64 c']) := by rw [h, h', h'']
theorem yoe_int (o : Nat) : ((o : Int) - (o : Int) / 1460 + (o : Int) / 36524 - (o : Int) / 146096) / 365 = ((Dt.f o : Nat) : Int) := by
  unfold Dt.f Dt.t; omega
theorem doy_int (o Y : Nat) (h : Dt.st Y ≤ o) : (o : Int) - (365 * (Y : Int) + (Y : Int) / 4 - (Y : Int) / 100) = ((o - Dt.st Y : Nat) : Int) := by
  unfold Dt.st at *; omega

set_option maxHeartbeats 1000000 in
theorem date_any (day : Int) (h1 : -20000000 ≤ day) (h2 : day ≤ 20000000) (w : World) :
    Calls Tryd.prog 56 #[.int .i64 day] w fun e w' => e = .returned (.tuple #[.int .i64 (Dt.dateI (day + 719468)).1, .int .i64 (Dt.dateI (day + 719468)).2.1, .int .i64 (Dt.dateI (day + 719468)).2.2]) ∧ w = w' := by
  have hdef : Dt.dateI (day + 719468) = Dt.ymd ((day + 719468) % 146097).toNat ((day + 719468) / 146097) := rfl
  obtain ⟨o, ho⟩ := Int.eq_ofNat_of_zero_le (Int.emod_nonneg (day + 719468) (show (146097 : Int) ≠ 0 by omega))
  obtain ⟨z, rfl⟩ : ∃ z, day = z - 719468 := ⟨day + 719468, by omega⟩
  have ez : z - 719468 + 719468 = z := by omega
  rw [ez] at hdef ho
  rw [ez]
  rw [ho, Int.toNat_natCast] at hdef
  have hlt : o ≤ 146096 := by have := Int.emod_lt_of_pos z (show (0 : Int) < 146097 by omega); omega
  generalize he : z / 146097 = ea at *
  have hz : z = 146097 * ea + o := by omega
  have hst := (Dt.f_ok hlt).1
  have hfl := Dt.f_le hlt
  have hday := Dt.day_le hlt
  have r3 := yoe_int o
  have r4 := doy_int o (Dt.f o) hst
  rw [Dt.ymd_md] at hdef
  generalize Dt.f o = Y at *
  generalize o - Dt.st Y = D at *
  unfold Dt.md at hdef
  have hm : ((5 * D + 2) / 153 : Nat) ≤ 11 := by omega
  have r5 : (5 * (D : Int) + 2) / 153 = (((5 * D + 2) / 153 : Nat) : Int) := by omega
  have r6 : (D : Int) - (153 * (((5 * D + 2) / 153 : Nat) : Int) + 2) / 5 + 1 = ((D - (153 * ((5 * D + 2) / 153) + 2) / 5 + 1 : Nat) : Int) := by omega
  have r7 : (D - (153 * ((5 * D + 2) / 153) + 2) / 5 + 1 : Nat) ≤ 400 := by omega
  generalize (5 * D + 2) / 153 = m at *
  generalize D - (153 * m + 2) / 5 + 1 = d at *
  have HD := Lib.hid hdef
  clear hdef ho
  have r1 : 146097 * ea + (o : Int) - 146097 * ea = o := by omega
  by_cases hneg : z < 0
  · have r0 : (146097 * ea + (o : Int) - 146096).tdiv 146097 = ea := by
      rw [← hz, ← he]
      have : z - 146096 = -(-(z - 146096)) := by omega
      rw [this, Int.neg_tdiv, Int.tdiv_eq_ediv_of_nonneg (by omega)]
      omega
    subst hz
    clear he
    by_cases hm10 : m < 10
    all_goals
      go_enter Tryd.func56, Tryd.ntmps56
      go_wp2
      go_ret3
      refine ⟨?_, rfl⟩
      rw [HD.out]
      first | rw [if_pos hm10] | rw [if_neg (by omega)]
      exact ret3_int rfl rfl rfl
  · have r0 : (146097 * ea + (o : Int)) / 146097 = ea := by rw [← hz]; exact he
    subst hz
    clear he
    by_cases hm10 : m < 10
    all_goals
      go_enter Tryd.func56, Tryd.ntmps56
      go_wp2
      go_ret3
      refine ⟨?_, rfl⟩
      rw [HD.out]
      first | rw [if_pos hm10] | rw [if_neg (by omega)]
      exact ret3_int rfl rfl rfl

theorem results_four {fn : Func} {t u v x : Tmp} (h : fn.results = #[.tmp t, .tmp u, .tmp v, .tmp x]) (tmps : Array Value) (P : Program) (w : World) :
    (results fn tmps).run P w = .ok (.tuple #[tmps.getD t undef, tmps.getD u undef, tmps.getD v undef, tmps.getD x undef]) w := by simp [results, h]

def dayI (second : Int) : Int × Int × Int := Dt.dateI (second / 86400 + 719468)
theorem ret4_int {a b c d a' b' c' : Int} (h : a = a') (h' : b = b') (h'' : c = c') : Ending.returned (.tuple #[.int .i64 a, .int .i64 b, .int .i64 c, .int .i64 d]) = .returned (.tuple #[.int .i64 a', .int .i64 b', .int .i64 c', .int .i64 d]) := by rw [h, h', h'']

set_option maxHeartbeats 1000000 in
theorem Day_ok (second : Int) (h1 : -1099511627776 ≤ second) (h2 : second ≤ 1099511627776) (w : World) :
    Calls Tryd.prog 28 #[.int .i64 second] w fun e w' => e = .returned (.tuple #[.int .i64 (dayI second).1, .int .i64 (dayI second).2.1, .int .i64 (dayI second).2.2, .int .i64 0]) ∧ w = w' := by
  have hD := Lib.hid (show dayI second = Dt.dateI (second / 86400 + 719468) from rfl)
  by_cases h0 : 0 ≤ second
  · go_enter Tryd.func28, Tryd.ntmps28
    go_wp2_with fail
    refine (date_any (second / 86400) (by omega) (by omega) _).mono ?_
    rintro e w' ⟨rfl, rfl⟩
    go_wp2_with fail
    refine bodyPost_ret (results_four rfl _ _ _) rfl ?_
    exact ⟨ret4_int rfl rfl rfl, rfl⟩
  · have t1 : second.tdiv 86400 = -((-second) / 86400) := by
      have : second = -(-second) := by omega
      conv => lhs; rw [this, Int.neg_tdiv, Int.tdiv_eq_ediv_of_nonneg (by omega)]
    have t2 : second.tmod 86400 = -((-second) % 86400) := by
      have : second = -(-second) := by omega
      conv => lhs; rw [this, Int.neg_tmod, Int.tmod_eq_emod_of_nonneg (by omega)]
    by_cases hr : second % 86400 = 0
    · have t3 : second.tdiv 86400 = second / 86400 := by omega
      have t4 : second.tmod 86400 = 0 := by omega
      clear t1 t2 hr
      go_enter Tryd.func28, Tryd.ntmps28
      go_wp2_with fail
      refine (date_any (second / 86400) (by omega) (by omega) _).mono ?_
      rintro e w' ⟨rfl, rfl⟩
      go_wp2_with fail
      refine bodyPost_ret (results_four rfl _ _ _) rfl ?_
      exact ⟨ret4_int rfl rfl rfl, rfl⟩
    · have t3 : second.tdiv 86400 = second / 86400 + 1 := by omega
      obtain ⟨r, hr2, hr3, hr4⟩ : ∃ r, second.tmod 86400 = r ∧ r < 0 ∧ -86400 ≤ r := ⟨_, rfl, by omega, by omega⟩
      have t5 : second / 86400 + 1 - 1 = second / 86400 := by omega
      clear t1 t2 hr
      go_enter Tryd.func28, Tryd.ntmps28
      go_wp2_with fail
      refine (date_any (second / 86400) (by omega) (by omega) _).mono ?_
      rintro e w' ⟨rfl, rfl⟩
      go_wp2_with fail
      refine bodyPost_ret (results_four rfl _ _ _) rfl ?_
      exact ⟨ret4_int rfl rfl rfl, rfl⟩

theorem dayI_bd (s : Int) (h1 : -1099511627776 ≤ s) (h2 : s ≤ 1099511627776) : (-40000 ≤ (dayI s).1 ∧ (dayI s).1 ≤ 40000) ∧ 1 ≤ (dayI s).2.1 ∧ (dayI s).2.1 ≤ 12 ∧ 1 ≤ (dayI s).2.2 ∧ (dayI s).2.2 ≤ 31 := by
  have := Dt.bd_year (s / 86400 + 719468)
  exact ⟨by unfold dayI; omega, Dt.bd _⟩
theorem dayI_next (s : Int) : Dt.Next (dayI s) (dayI (s + 86400)) := by
  have := Dt.next (s / 86400 + 719468)
  unfold dayI
  rw [show (s + 86400) / 86400 + 719468 = s / 86400 + 719468 + 1 from by omega]
  exact this
theorem dayI_round (s : Int) : (dayI (s + 12622780800)).1 = (dayI s).1 + 400 ∧ (dayI (s + 12622780800)).2 = (dayI s).2 := by
  have := Dt.round (s / 86400 + 719468)
  unfold dayI
  rw [show (s + 12622780800) / 86400 + 719468 = s / 86400 + 719468 + 146097 from by omega]
  exact this
theorem dayI_0 : dayI 0 = (1970, 1, 1) := Dt.dateI_0

end Go.Proofs.YtmioinfhggbfkaaDoor
