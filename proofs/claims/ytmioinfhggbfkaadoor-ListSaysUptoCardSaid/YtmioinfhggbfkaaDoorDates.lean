/-
  Dates: the plain law of list.date (no program in sight). No condition.
-/
import Derived.Test.YtmioinfhggbfkaaDoorWords
namespace Go.Proofs.YtmioinfhggbfkaaDoor.Dt
set_option linter.all false
def t (o : Nat) : Nat := o + o / 36524 - o / 1460 - o / 146096
def f (o : Nat) : Nat := t o / 365
def st (Y : Nat) : Nat := 365 * Y + Y / 4 - Y / 100
def en (Y : Nat) : Nat := if Y = 399 then 146097 else st (Y + 1)
theorem t_mono {a b : Nat} (h : a ≤ b) : t a ≤ t b := by
  unfold t
  have e1 : a / 146096 = a / 36524 / 4 := by rw [Nat.div_div_eq_div_mul]
  have e2 : b / 146096 = b / 36524 / 4 := by rw [Nat.div_div_eq_div_mul]
  rw [e1, e2]
  omega
theorem f_mono {a b : Nat} (h : a ≤ b) : f a ≤ f b := Nat.div_le_div_right (t_mono h)
def chk (Y : Nat) : Bool := Nat.beq (f (st Y)) Y && Nat.beq (f (en Y - 1)) Y && Nat.ble 1 (en Y)
def chkAll : Nat → Bool
  | 0 => true
  | k + 1 => chk k && chkAll k
theorem chkAll_of {n : Nat} (h : chkAll n = true) : ∀ k, k < n → chk k = true := by
  induction n with
  | zero => intro k hk; omega
  | succ n ih =>
    simp only [chkAll, Bool.and_eq_true] at h
    intro k hk
    by_cases e : k = n
    · subst e; exact h.1
    · exact ih h.2 k (by omega)
theorem chk400 : chkAll 400 = true := by decide +kernel
theorem chk_at {Y : Nat} (h : Y < 400) : f (st Y) = Y ∧ f (en Y - 1) = Y ∧ 1 ≤ en Y := by
  have := chkAll_of chk400 Y h
  simp only [chk, Bool.and_eq_true, Nat.ble_eq] at this
  exact ⟨Nat.eq_of_beq_eq_true this.1.1, Nat.eq_of_beq_eq_true this.1.2, this.2⟩
theorem f_le {o : Nat} (h : o ≤ 146096) : f o ≤ 399 := by
  have := f_mono h
  have e : f 146096 = 399 := by decide +kernel
  omega
theorem f_ok {o : Nat} (h : o ≤ 146096) : st (f o) ≤ o ∧ o < en (f o) := by
  have h1 := f_le h
  have hc := chk_at (Y := f o) (by omega)
  constructor
  · rcases Nat.lt_or_ge o (st (f o)) with h2 | h2
    · exfalso
      have hpos : 0 < f o := by
        rcases Nat.eq_zero_or_pos (f o) with e | e
        · rw [e] at h2; simp [st] at h2
        · exact e
      have hc2 := chk_at (Y := f o - 1) (by omega)
      have e : en (f o - 1) = st (f o) := by unfold en; rw [if_neg (by omega), show f o - 1 + 1 = f o from by omega]
      rw [e] at hc2
      have := f_mono (show o ≤ st (f o) - 1 by omega)
      omega
    · exact h2
  · rcases Nat.lt_or_ge o (en (f o)) with h2 | h2
    · exact h2
    · exfalso
      unfold en at h2
      split at h2
      · omega
      · have hc2 := chk_at (Y := f o + 1) (by omega)
        have := f_mono h2
        omega
theorem f_uniq {o Y : Nat} (hY : Y < 400) (h1 : st Y ≤ o) (h2 : o < en Y) : f o = Y := by
  have hc := chk_at hY
  have a := f_mono h1
  have b := f_mono (show o ≤ en Y - 1 by omega)
  omega

/-- the date of o days behind the start of an era of 400 years that begins in March, e eras behind year 0 -/
def ymd (o : Nat) (e : Int) : Int × Int × Int :=
  let Y := f o
  let D := o - st Y
  let m := (5 * D + 2) / 153
  let d := D - (153 * m + 2) / 5 + 1
  if m < 10 then ((Y : Int) + 400 * e, (m : Int) + 3, (d : Int)) else ((Y : Int) + 400 * e + 1, (m : Int) - 9, (d : Int))
def dateI (z : Int) : Int × Int × Int := ymd (z % 146097).toNat (z / 146097)

def Next (a b : Int × Int × Int) : Prop :=
  (b.1 = a.1 ∧ b.2.1 = a.2.1 ∧ b.2.2 = a.2.2 + 1) ∨ (b.1 = a.1 ∧ b.2.1 = a.2.1 + 1 ∧ b.2.2 = 1 ∧ 28 ≤ a.2.2) ∨ (b.1 = a.1 + 1 ∧ b.2.1 = 1 ∧ b.2.2 = 1 ∧ a.2.1 = 12 ∧ a.2.2 = 31)
theorem day_le {o : Nat} (h : o ≤ 146096) : o - st (f o) ≤ 365 := by
  have h1 := f_le h
  have h2 := (f_ok h).2
  unfold en at h2
  split at h2
  · rename_i e
    rw [e]
    have : st 399 = 145731 := by decide +kernel
    omega
  · unfold st at *
    omega
def md (D : Nat) (y : Int) : Int × Int × Int :=
  if (5 * D + 2) / 153 < 10 then (y, (((5 * D + 2) / 153 : Nat) : Int) + 3, ((D - (153 * ((5 * D + 2) / 153) + 2) / 5 + 1 : Nat) : Int))
  else (y + 1, (((5 * D + 2) / 153 : Nat) : Int) - 9, ((D - (153 * ((5 * D + 2) / 153) + 2) / 5 + 1 : Nat) : Int))
theorem ymd_md (o : Nat) (e : Int) : ymd o e = md (o - st (f o)) ((f o : Int) + 400 * e) := rfl
def nx (D : Nat) : Bool :=
  let m := (5 * D + 2) / 153
  let d := D - (153 * m + 2) / 5 + 1
  let m' := (5 * (D + 1) + 2) / 153
  let d' := D + 1 - (153 * m' + 2) / 5 + 1
  (decide (m' = m) && decide (d' = d + 1)) || (decide (m' = m + 1) && decide (d' = 1) && decide (28 ≤ d) && (decide (m ≠ 9) || decide (d = 31)))
def nxAll : Nat → Bool
  | 0 => true
  | k + 1 => nx k && nxAll k
theorem nxAll_of {n : Nat} (h : nxAll n = true) : ∀ k, k < n → nx k = true := by
  induction n with
  | zero => intro k hk; omega
  | succ n ih =>
    simp only [nxAll, Bool.and_eq_true] at h
    intro k hk
    by_cases e : k = n
    · subst e; exact h.1
    · exact ih h.2 k (by omega)
theorem nx365 : nxAll 365 = true := by decide +kernel
theorem md_next (D : Nat) (y : Int) (h : D + 1 ≤ 365) : Next (md D y) (md (D + 1) y) := by
  have hn := nxAll_of nx365 D (by omega)
  simp only [nx, Bool.or_eq_true, Bool.and_eq_true, decide_eq_true_eq] at hn
  unfold Next md
  generalize (5 * D + 2) / 153 = m at *
  generalize (5 * (D + 1) + 2) / 153 = m' at *
  generalize D - (153 * m + 2) / 5 + 1 = d at *
  generalize D + 1 - (153 * m' + 2) / 5 + 1 = d' at *
  rcases hn with ⟨rfl, rfl⟩ | ⟨⟨⟨rfl, rfl⟩, h1⟩, h2⟩
  · split <;> simp
  · split <;> split <;> simp <;> omega
theorem st_step (Y : Nat) : st Y + 365 ≤ st (Y + 1) ∧ st (Y + 1) ≤ st Y + 366 := by
  unfold st
  have e1 : Y / 100 = Y / 4 / 25 := by rw [Nat.div_div_eq_div_mul]
  have e2 : (Y + 1) / 100 = (Y + 1) / 4 / 25 := by rw [Nat.div_div_eq_div_mul]
  have e3 : (Y + 1) / 4 = Y / 4 ∨ (Y + 1) / 4 = Y / 4 + 1 := by omega
  rw [e1, e2]
  rcases e3 with e | e <;> rw [e] <;> omega
theorem md_last (D : Nat) (y : Int) (h : D = 364 ∨ D = 365) : Next (md D y) (md 0 (y + 1)) := by
  rcases h with rfl | rfl <;> (unfold Next md; simp; try omega)
theorem md_bd (D : Nat) (y : Int) (h : D ≤ 365) : 1 ≤ (md D y).2.1 ∧ (md D y).2.1 ≤ 12 ∧ 1 ≤ (md D y).2.2 ∧ (md D y).2.2 ≤ 31 := by
  unfold md
  split <;> simp only <;> omega
theorem next (z : Int) : Next (dateI z) (dateI (z + 1)) := by
  unfold dateI
  obtain ⟨o, ho⟩ := Int.eq_ofNat_of_zero_le (Int.emod_nonneg z (show (146097 : Int) ≠ 0 by omega))
  have hlt : o ≤ 146096 := by have := Int.emod_lt_of_pos z (show (0 : Int) < 146097 by omega); omega
  have hf := f_ok hlt
  have hfl := f_le hlt
  have hD := day_le hlt
  by_cases hend : o = 146096
  · have e1 : (z + 1) % 146097 = 0 := by omega
    have e2 : (z + 1) / 146097 = z / 146097 + 1 := by omega
    have hf0 : f 146096 = 399 := by decide +kernel
    have hs0 : st 399 = 145731 := by decide +kernel
    have hf1 : f 0 = 0 := by decide +kernel
    have hs1 : st 0 = 0 := by decide +kernel
    rw [e1, e2, ho, hend]
    simp only [Int.toNat_natCast, Int.toNat_zero, ymd_md, hf0, hs0, hf1, hs1]
    have := md_last 365 (399 + 400 * (z / 146097)) (.inr rfl)
    have e3 : ((0 : Nat) : Int) + 400 * (z / 146097 + 1) = 399 + 400 * (z / 146097) + 1 := by omega
    rw [e3]
    exact this
  · have e1 : (z + 1) % 146097 = ((o + 1 : Nat) : Int) := by omega
    have e2 : (z + 1) / 146097 = z / 146097 := by omega
    rw [e1, e2, ho]
    simp only [Int.toNat_natCast, ymd_md]
    by_cases hin : o + 1 < en (f o)
    · have hu : f (o + 1) = f o := f_uniq (by omega) (by omega) hin
      rw [hu, show o + 1 - st (f o) = o - st (f o) + 1 from by omega]
      refine md_next _ _ ?_
      have := day_le (o := o + 1) (by omega)
      rw [hu] at this
      omega
    · have he : o + 1 = en (f o) := by omega
      have hne : f o ≠ 399 := by intro e; rw [e] at he; simp [en] at he; omega
      have hen : en (f o) = st (f o + 1) := by unfold en; rw [if_neg hne]
      have hu : f (o + 1) = f o + 1 := f_uniq (by omega) (by omega) (by
        have := (chk_at (Y := f o + 1) (by omega)).2
        rw [he, hen]
        unfold en st
        split <;> (try unfold st) <;> omega)
      rw [hu, show o + 1 - st (f o + 1) = 0 from by omega, Int.natCast_add, show ((f o : Int) + ((1 : Nat) : Int)) + 400 * (z / 146097) = (f o : Int) + 400 * (z / 146097) + 1 from by omega]
      refine md_last _ _ ?_
      have h3 : o + 1 = st (f o + 1) := by omega
      have h4 := hf.1
      have h5 := st_step (f o)
      omega
theorem bd (z : Int) : 1 ≤ (dateI z).2.1 ∧ (dateI z).2.1 ≤ 12 ∧ 1 ≤ (dateI z).2.2 ∧ (dateI z).2.2 ≤ 31 := by
  refine md_bd _ _ (day_le ?_)
  have := Int.emod_lt_of_pos z (show (0 : Int) < 146097 by omega)
  have := Int.emod_nonneg z (show (146097 : Int) ≠ 0 by omega)
  omega
theorem round (z : Int) : (dateI (z + 146097)).1 = (dateI z).1 + 400 ∧ (dateI (z + 146097)).2 = (dateI z).2 := by
  have e1 : (z + 146097) % 146097 = z % 146097 := by omega
  have e2 : (z + 146097) / 146097 = z / 146097 + 1 := by omega
  unfold dateI
  rw [e1, e2, ymd_md, ymd_md]
  generalize (z % 146097).toNat = o
  generalize o - st (f o) = D
  unfold md
  by_cases h : (5 * D + 2) / 153 < 10
  · rw [if_pos h, if_pos h]; simp only; exact ⟨by omega, trivial⟩
  · rw [if_neg h, if_neg h]; simp only; exact ⟨by omega, trivial⟩
theorem bd_year (z : Int) : 400 * (z / 146097) ≤ (dateI z).1 ∧ (dateI z).1 ≤ 400 * (z / 146097) + 400 := by
  have h1 := Int.emod_lt_of_pos z (show (0 : Int) < 146097 by omega)
  have h2 := Int.emod_nonneg z (show (146097 : Int) ≠ 0 by omega)
  have := f_le (o := (z % 146097).toNat) (by omega)
  unfold dateI
  rw [ymd_md]
  unfold md
  split <;> simp only <;> omega
theorem dateI_0 : dateI 719468 = (1970, 1, 1) := by decide +kernel
end Go.Proofs.YtmioinfhggbfkaaDoor.Dt
