/-
  glob.wild at the closures of glob.part and at those of glob.parts. No condition beyond what the closures do.
-/
import Derived.Test.YtngkfelhlabloaaDoorGlobM
import Derived.Test.YtngkfelhlabloaaDoorStr
import Derived.Test.YtngkfelhlabloaaDoorA1
namespace Go.Proofs.YtngkfelhlabloaaDoor
open Go.RowKit

def lastI (L : Option Nat) : Int := match L with | none => -1 | some l => l
def rankI (n m : Nat) (la fr k : Int) : Nat := (n + 1 - (la + 1).toNat) * ((m + 2) * (m + 2)) + (m + 1 - fr.toNat) * (m + 2) + (m - k.toNat)
theorem rankI_eq (n m F K : Nat) (L : Option Nat) : rankI n m (lastI L) F K = globs.rank n m L F K := by
  unfold rankI globs.rank globs.nx lastI
  cases L with
  | none => simp
  | some l => simp


set_option maxRecDepth 100000 in
set_option maxHeartbeats 4000000 in
theorem wild_part {π α : Type} (star : π → Bool) (fits : π → α → Bool) (P : List π) (T : List α) (pl pt : Value) (w : World) (hn : P.length ≤ 1000) (hm : T.length ≤ 1000)
    (hstar : ∀ (i : Nat) (h : i < P.length) (W : World), Below w.heap.size w W → Calls Tryd.prog 102 #[.int .i64 i, pl] W fun e w' => e = .returned (.bool (star P[i])) ∧ Below W.heap.size W w')
    (hfits : ∀ (i k : Nat) (h : i < P.length) (h2 : k < T.length) (W : World), Below w.heap.size w W → Calls Tryd.prog 103 #[.int .i64 i, .int .i64 k, pl, pt] W fun e w' => e = .returned (.bool (fits P[i] T[k])) ∧ Below W.heap.size W w') :
    Calls Tryd.prog 80 #[.int .i64 P.length, .int .i64 T.length, .func (Fn.func 102) #[] #[pl], .func (Fn.func 103) #[] #[pl, pt]] w fun e w' => e = .returned (.bool (globs.glob star fits P T)) ∧ Below w.heap.size w w' := by
  have HS := Lib.hid hstar
  have HF := Lib.hid hfits
  clear hstar hfits
  obtain ⟨n, hnn⟩ : ∃ n, n = P.length := ⟨_, rfl⟩
  obtain ⟨m, hmm⟩ : ∃ m, m = T.length := ⟨_, rfl⟩
  rw [← hnn] at hn ⊢
  rw [← hmm] at hm ⊢
  have HN := Lib.hid hnn
  have HM := Lib.hid hmm
  clear hnn hmm
  obtain ⟨G, hG⟩ : ∃ G, G = w.heap.size := ⟨_, rfl⟩
  rw [← hG] at HS HF ⊢
  have HG := Lib.hid hG
  clear hG
  go_enter Tryd.func80, Tryd.ntmps80
  go_wp2_with fail
  go_loopw [9, 10, 11, 12] (fun i la fr k wr => ∃ (I K F : Nat) (L : Option Nat), i = .int .i64 I ∧ la = .int .i64 (lastI L) ∧ fr = .int .i64 F ∧ k = .int .i64 K ∧ Hid (globs.Inv star fits P T I K L F) ∧ Below G w wr) (fun _ la fr k _ => rankI n m (intOf la) (intOf fr) (intOf k))
  case atStart => exact ⟨0, 0, 0, none, rfl, rfl, rfl, rfl, Lib.hid (globs.Inv.start P T), Below.refl _ _⟩
  case round =>
    obtain ⟨I, K, F, L, rfl, rfl, rfl, rfl, hI, hb⟩ := hrel
    have hIn : I ≤ n := by rw [HN.out]; exact hI.out.hi
    have hKm : K ≤ m := by rw [HM.out]; exact hI.out.hk
    have hFK : F ≤ K := hI.out.hf
    have hbs : ∀ {w1 : World}, Below wr.heap.size wr w1 → Below G w w1 := fun h => hb.trans (h.mono (by rw [HG.out]; exact hb.size))
    have HBS := @hbs
    clear hbs
    have hLb : -1 ≤ lastI L ∧ lastI L ≤ 1000 := by
      cases hL : L with
      | none => have : lastI none = -1 := rfl; omega
      | some l => have := (hI.out.hl l hL).1; unfold lastI; simp only; omega
    obtain ⟨lb1, lb2⟩ := hLb
    by_cases hk : K < m
    · have hkT : K < T.length := by rw [← HM.out]; exact hk
      have k1 : decide ((K : Int) < m) = true := decide_eq_true (by omega)
      have k2 : decide (K < m) = true := decide_eq_true hk
      by_cases hi : I < n
      · have hiP : I < P.length := by rw [← HN.out]; exact hi
        have i1 : decide ((I : Int) < n) = true := decide_eq_true (by omega)
        have i2 : decide (I < n) = true := decide_eq_true hi
        have hS1 := Lib.hid (fun W h => HS.out I hiP W h)
        cases hst : star P[I]
        · rw [hst] at hS1
          have hF1 := Lib.hid (fun W h => HF.out I K hiP hkT W h)
          cases hft : fits P[I] T[K]
          · rw [hft] at hF1
            have hno := globs.no_sign (star := star) (fits := fits) hiP hkT hst hft
            have HNO := Lib.hid hno
            clear hno hst hft
            cases L with
            | none =>
              have fin := Lib.hid (hI.out.fail HNO.out)
              have l0 : lastI none = -1 := rfl
              have l1 : decide ((0 : Int) ≤ lastI none) = false := decide_eq_false (by omega)
              have l2 : ¬ (0 : Int) ≤ lastI none := by omega
              clear l0
              generalize lastI none = la at *
              go_wp2_with fail
              refine (hS1.out _ hb).mono ?_
              rintro e w1 ⟨rfl, b1⟩
              go_wp2_with fail
              refine (hF1.out _ (HBS b1)).mono ?_
              rintro e w2 ⟨rfl, b2⟩
              go_wp2_with fail
              go_ret
              exact ⟨ret_bool (by rw [fin.out]), HBS (b1.trans (b2.mono b1.size))⟩
            | some l =>
              have nx := Lib.hid (hI.out.back hkT HNO.out)
              have hrk := globs.rank_back (n := n) (m := m) (f := F) (k := K) (last := some l) hFK hk
              rw [← rankI_eq, ← rankI_eq] at hrk
              have HRK := Lib.hid hrk
              have hla : lastI (some l) = (l : Int) := rfl
              have l1 : decide ((0 : Int) ≤ (l : Int)) = true := decide_eq_true (by omega)
              rw [hla] at HRK lb1 lb2 ⊢
              clear hrk hla
              go_wp2_with fail
              refine (hS1.out _ hb).mono ?_
              rintro e w1 ⟨rfl, b1⟩
              go_wp2_with fail
              refine (hF1.out _ (HBS b1)).mono ?_
              rintro e w2 ⟨rfl, b2⟩
              go_wp2_with fail
              go_roundw
              case rel => exact ⟨l + 1, F + 1, F + 1, some l, by go_num, rfl, by go_num, by go_num, nx, HBS (b1.trans (b2.mono b1.size))⟩
              case measure => have h := HRK.out; simp [intOf] at h ⊢; exact h
          · rw [hft] at hF1
            have nx := Lib.hid (hI.out.step hiP hkT hst hft)
            have hrk := globs.rank_step (n := n) (m := m) (f := F) (k := K) (last := L) hk
            rw [← rankI_eq, ← rankI_eq] at hrk
            have HRK := Lib.hid hrk
            clear hrk hst hft
            generalize hla : lastI L = la at *
            have HLA := Lib.hid hla
            clear hla
            go_wp2_with fail
            refine (hS1.out _ hb).mono ?_
            rintro e w1 ⟨rfl, b1⟩
            go_wp2_with fail
            refine (hF1.out _ (HBS b1)).mono ?_
            rintro e w2 ⟨rfl, b2⟩
            go_wp2_with fail
            go_roundw
            case rel => exact ⟨I + 1, K + 1, F, L, by go_num, by rw [HLA.out], rfl, by go_num, nx, HBS (b1.trans (b2.mono b1.size))⟩
            case measure => have h := HRK.out; simp [intOf] at h ⊢; exact h
        · rw [hst] at hS1
          have nx := Lib.hid (hI.out.onStar hiP hst)
          have hrk := globs.rank_star (n := n) (m := m) (i := I) (k := K) (f := K) (from_ := F) (k' := K) (last := L) hi (fun l hl => (hI.out.hl l hl).1) hKm
          rw [← rankI_eq, ← rankI_eq] at hrk
          have HRK := Lib.hid hrk
          clear hrk hst
          generalize lastI L = la at *
          go_wp2_with fail
          refine (hS1.out _ hb).mono ?_
          rintro e w1 ⟨rfl, b1⟩
          go_wp2_with fail
          go_roundw
          case rel => exact ⟨I + 1, K, K, some I, by go_num, rfl, rfl, rfl, nx, HBS b1⟩
          case measure => have h := HRK.out; simp [intOf, lastI] at h ⊢; exact h
      · have hIe : I = P.length := by rw [← HN.out]; omega
        have i1 : decide ((I : Int) < n) = false := decide_eq_false (by omega)
        have i2 : decide (I < n) = false := decide_eq_false hi
        have HNO : Hid (globs.glob star fits (P.drop I) (T.drop K) = false) := Lib.hid (by rw [hIe]; exact globs.no_end hkT)
        clear hIe
        cases L with
        | none =>
          have fin := Lib.hid (hI.out.fail HNO.out)
          have l0 : lastI none = -1 := rfl
          have l1 : decide ((0 : Int) ≤ lastI none) = false := decide_eq_false (by omega)
          have l2 : ¬ (0 : Int) ≤ lastI none := by omega
          clear l0
          generalize lastI none = la at *
          go_wp2_with fail
          go_ret
          exact ⟨ret_bool (by rw [fin.out]), hb⟩
        | some l =>
          have nx := Lib.hid (hI.out.back hkT HNO.out)
          have hrk := globs.rank_back (n := n) (m := m) (f := F) (k := K) (last := some l) hFK hk
          rw [← rankI_eq, ← rankI_eq] at hrk
          have HRK := Lib.hid hrk
          have hla : lastI (some l) = (l : Int) := rfl
          have l1 : decide ((0 : Int) ≤ (l : Int)) = true := decide_eq_true (by omega)
          rw [hla] at HRK lb1 lb2 ⊢
          clear hrk hla
          go_wp2_with fail
          go_roundw
          case rel => exact ⟨l + 1, F + 1, F + 1, some l, by go_num, rfl, by go_num, by go_num, nx, hb⟩
          case measure => have h := HRK.out; simp [intOf] at h ⊢; exact h
    · obtain rfl : K = m := by omega
      have k1 : decide ((K : Int) < K) = false := decide_eq_false (by omega)
      have hdone : Hid (globs.glob star fits P T = globs.glob star fits (P.drop I) []) := Lib.hid (by
        have h := hI.out
        rw [HM.out] at h
        exact h.done)
      generalize lastI L = la at *
      go_wp2_with fail
      go_loopw [9] (fun i wq => ∃ J : Nat, J ≤ n ∧ i = .int .i64 J ∧ Hid (globs.glob star fits P T = globs.glob star fits (P.drop J) []) ∧ Below G w wq) (fun i _ => n - (intOf i).toNat)
      case atStart => exact ⟨I, hIn, rfl, hdone, hb⟩
      case round =>
        obtain ⟨J, hJ, rfl, hd, hbq⟩ := hrel
        have hbs2 : ∀ {w1 : World}, Below wr.heap.size wr w1 → Below G w w1 := fun h => hbq.trans (h.mono (by rw [HG.out]; exact hbq.size))
        have HBS2 := @hbs2
        clear hbs2
        by_cases hj : J < n
        · have hjP : J < P.length := by rw [← HN.out]; exact hj
          have i1 : decide ((J : Int) < n) = true := decide_eq_true (by omega)
          have i2 : decide (J < n) = true := decide_eq_true hj
          have hS1 := Lib.hid (fun W h => HS.out J hjP W h)
          cases hst : star P[J]
          · rw [hst] at hS1
            have fin := Lib.hid (hd.out.trans (globs.tail_sign hjP hst))
            have e1 : ((J : Int) == n) = false := beq_eq_false_iff_ne.2 (by omega)
            clear hst
            go_wp2_with fail
            refine (hS1.out _ hbq).mono ?_
            rintro e w1 ⟨rfl, b1⟩
            go_wp2_with fail
            go_ret
            exact ⟨ret_bool (by rw [fin.out]), HBS2 b1⟩
          · rw [hst] at hS1
            have nx := Lib.hid (hd.out.trans (globs.tail_star hjP hst))
            clear hst
            go_wp2_with fail
            refine (hS1.out _ hbq).mono ?_
            rintro e w1 ⟨rfl, b1⟩
            go_wp2_with fail
            go_roundw
            case rel => exact ⟨J + 1, by omega, by go_num, nx, HBS2 b1⟩
            case measure => simp [intOf]; omega
        · obtain rfl : J = n := by omega
          have fin := Lib.hid (hd.out.trans (show globs.glob star fits (P.drop J) [] = true by rw [show J = P.length from HN.out]; exact globs.tail_end P))
          have i1 : decide ((J : Int) < J) = false := decide_eq_false (by omega)
          go_wp2_with fail
          go_ret
          exact ⟨ret_bool (by rw [fin.out]), hbq⟩


set_option maxRecDepth 100000 in
set_option maxHeartbeats 4000000 in
theorem wild_parts {π α : Type} (star : π → Bool) (fits : π → α → Bool) (P : List π) (T : List α) (pl pt : Value) (w : World) (hn : P.length ≤ 1000) (hm : T.length ≤ 1000)
    (hstar : ∀ (i : Nat) (h : i < P.length) (W : World), Below w.heap.size w W → Calls Tryd.prog 81 #[.int .i64 i, pl] W fun e w' => e = .returned (.bool (star P[i])) ∧ Below W.heap.size W w')
    (hfits : ∀ (i k : Nat) (h : i < P.length) (h2 : k < T.length) (W : World), Below w.heap.size w W → Calls Tryd.prog 82 #[.int .i64 i, .int .i64 k, pl, pt] W fun e w' => e = .returned (.bool (fits P[i] T[k])) ∧ Below W.heap.size W w') :
    Calls Tryd.prog 80 #[.int .i64 P.length, .int .i64 T.length, .func (Fn.func 81) #[] #[pl], .func (Fn.func 82) #[] #[pl, pt]] w fun e w' => e = .returned (.bool (globs.glob star fits P T)) ∧ Below w.heap.size w w' := by
  have HS := Lib.hid hstar
  have HF := Lib.hid hfits
  clear hstar hfits
  obtain ⟨n, hnn⟩ : ∃ n, n = P.length := ⟨_, rfl⟩
  obtain ⟨m, hmm⟩ : ∃ m, m = T.length := ⟨_, rfl⟩
  rw [← hnn] at hn ⊢
  rw [← hmm] at hm ⊢
  have HN := Lib.hid hnn
  have HM := Lib.hid hmm
  clear hnn hmm
  obtain ⟨G, hG⟩ : ∃ G, G = w.heap.size := ⟨_, rfl⟩
  rw [← hG] at HS HF ⊢
  have HG := Lib.hid hG
  clear hG
  go_enter Tryd.func80, Tryd.ntmps80
  go_wp2_with fail
  go_loopw [9, 10, 11, 12] (fun i la fr k wr => ∃ (I K F : Nat) (L : Option Nat), i = .int .i64 I ∧ la = .int .i64 (lastI L) ∧ fr = .int .i64 F ∧ k = .int .i64 K ∧ Hid (globs.Inv star fits P T I K L F) ∧ Below G w wr) (fun _ la fr k _ => rankI n m (intOf la) (intOf fr) (intOf k))
  case atStart => exact ⟨0, 0, 0, none, rfl, rfl, rfl, rfl, Lib.hid (globs.Inv.start P T), Below.refl _ _⟩
  case round =>
    obtain ⟨I, K, F, L, rfl, rfl, rfl, rfl, hI, hb⟩ := hrel
    have hIn : I ≤ n := by rw [HN.out]; exact hI.out.hi
    have hKm : K ≤ m := by rw [HM.out]; exact hI.out.hk
    have hFK : F ≤ K := hI.out.hf
    have hbs : ∀ {w1 : World}, Below wr.heap.size wr w1 → Below G w w1 := fun h => hb.trans (h.mono (by rw [HG.out]; exact hb.size))
    have HBS := @hbs
    clear hbs
    have hLb : -1 ≤ lastI L ∧ lastI L ≤ 1000 := by
      cases hL : L with
      | none => have : lastI none = -1 := rfl; omega
      | some l => have := (hI.out.hl l hL).1; unfold lastI; simp only; omega
    obtain ⟨lb1, lb2⟩ := hLb
    by_cases hk : K < m
    · have hkT : K < T.length := by rw [← HM.out]; exact hk
      have k1 : decide ((K : Int) < m) = true := decide_eq_true (by omega)
      have k2 : decide (K < m) = true := decide_eq_true hk
      by_cases hi : I < n
      · have hiP : I < P.length := by rw [← HN.out]; exact hi
        have i1 : decide ((I : Int) < n) = true := decide_eq_true (by omega)
        have i2 : decide (I < n) = true := decide_eq_true hi
        have hS1 := Lib.hid (fun W h => HS.out I hiP W h)
        cases hst : star P[I]
        · rw [hst] at hS1
          have hF1 := Lib.hid (fun W h => HF.out I K hiP hkT W h)
          cases hft : fits P[I] T[K]
          · rw [hft] at hF1
            have hno := globs.no_sign (star := star) (fits := fits) hiP hkT hst hft
            have HNO := Lib.hid hno
            clear hno hst hft
            cases L with
            | none =>
              have fin := Lib.hid (hI.out.fail HNO.out)
              have l0 : lastI none = -1 := rfl
              have l1 : decide ((0 : Int) ≤ lastI none) = false := decide_eq_false (by omega)
              have l2 : ¬ (0 : Int) ≤ lastI none := by omega
              clear l0
              generalize lastI none = la at *
              go_wp2_with fail
              refine (hS1.out _ hb).mono ?_
              rintro e w1 ⟨rfl, b1⟩
              go_wp2_with fail
              refine (hF1.out _ (HBS b1)).mono ?_
              rintro e w2 ⟨rfl, b2⟩
              go_wp2_with fail
              go_ret
              exact ⟨ret_bool (by rw [fin.out]), HBS (b1.trans (b2.mono b1.size))⟩
            | some l =>
              have nx := Lib.hid (hI.out.back hkT HNO.out)
              have hrk := globs.rank_back (n := n) (m := m) (f := F) (k := K) (last := some l) hFK hk
              rw [← rankI_eq, ← rankI_eq] at hrk
              have HRK := Lib.hid hrk
              have hla : lastI (some l) = (l : Int) := rfl
              have l1 : decide ((0 : Int) ≤ (l : Int)) = true := decide_eq_true (by omega)
              rw [hla] at HRK lb1 lb2 ⊢
              clear hrk hla
              go_wp2_with fail
              refine (hS1.out _ hb).mono ?_
              rintro e w1 ⟨rfl, b1⟩
              go_wp2_with fail
              refine (hF1.out _ (HBS b1)).mono ?_
              rintro e w2 ⟨rfl, b2⟩
              go_wp2_with fail
              go_roundw
              case rel => exact ⟨l + 1, F + 1, F + 1, some l, by go_num, rfl, by go_num, by go_num, nx, HBS (b1.trans (b2.mono b1.size))⟩
              case measure => have h := HRK.out; simp [intOf] at h ⊢; exact h
          · rw [hft] at hF1
            have nx := Lib.hid (hI.out.step hiP hkT hst hft)
            have hrk := globs.rank_step (n := n) (m := m) (f := F) (k := K) (last := L) hk
            rw [← rankI_eq, ← rankI_eq] at hrk
            have HRK := Lib.hid hrk
            clear hrk hst hft
            generalize hla : lastI L = la at *
            have HLA := Lib.hid hla
            clear hla
            go_wp2_with fail
            refine (hS1.out _ hb).mono ?_
            rintro e w1 ⟨rfl, b1⟩
            go_wp2_with fail
            refine (hF1.out _ (HBS b1)).mono ?_
            rintro e w2 ⟨rfl, b2⟩
            go_wp2_with fail
            go_roundw
            case rel => exact ⟨I + 1, K + 1, F, L, by go_num, by rw [HLA.out], rfl, by go_num, nx, HBS (b1.trans (b2.mono b1.size))⟩
            case measure => have h := HRK.out; simp [intOf] at h ⊢; exact h
        · rw [hst] at hS1
          have nx := Lib.hid (hI.out.onStar hiP hst)
          have hrk := globs.rank_star (n := n) (m := m) (i := I) (k := K) (f := K) (from_ := F) (k' := K) (last := L) hi (fun l hl => (hI.out.hl l hl).1) hKm
          rw [← rankI_eq, ← rankI_eq] at hrk
          have HRK := Lib.hid hrk
          clear hrk hst
          generalize lastI L = la at *
          go_wp2_with fail
          refine (hS1.out _ hb).mono ?_
          rintro e w1 ⟨rfl, b1⟩
          go_wp2_with fail
          go_roundw
          case rel => exact ⟨I + 1, K, K, some I, by go_num, rfl, rfl, rfl, nx, HBS b1⟩
          case measure => have h := HRK.out; simp [intOf, lastI] at h ⊢; exact h
      · have hIe : I = P.length := by rw [← HN.out]; omega
        have i1 : decide ((I : Int) < n) = false := decide_eq_false (by omega)
        have i2 : decide (I < n) = false := decide_eq_false hi
        have HNO : Hid (globs.glob star fits (P.drop I) (T.drop K) = false) := Lib.hid (by rw [hIe]; exact globs.no_end hkT)
        clear hIe
        cases L with
        | none =>
          have fin := Lib.hid (hI.out.fail HNO.out)
          have l0 : lastI none = -1 := rfl
          have l1 : decide ((0 : Int) ≤ lastI none) = false := decide_eq_false (by omega)
          have l2 : ¬ (0 : Int) ≤ lastI none := by omega
          clear l0
          generalize lastI none = la at *
          go_wp2_with fail
          go_ret
          exact ⟨ret_bool (by rw [fin.out]), hb⟩
        | some l =>
          have nx := Lib.hid (hI.out.back hkT HNO.out)
          have hrk := globs.rank_back (n := n) (m := m) (f := F) (k := K) (last := some l) hFK hk
          rw [← rankI_eq, ← rankI_eq] at hrk
          have HRK := Lib.hid hrk
          have hla : lastI (some l) = (l : Int) := rfl
          have l1 : decide ((0 : Int) ≤ (l : Int)) = true := decide_eq_true (by omega)
          rw [hla] at HRK lb1 lb2 ⊢
          clear hrk hla
          go_wp2_with fail
          go_roundw
          case rel => exact ⟨l + 1, F + 1, F + 1, some l, by go_num, rfl, by go_num, by go_num, nx, hb⟩
          case measure => have h := HRK.out; simp [intOf] at h ⊢; exact h
    · obtain rfl : K = m := by omega
      have k1 : decide ((K : Int) < K) = false := decide_eq_false (by omega)
      have hdone : Hid (globs.glob star fits P T = globs.glob star fits (P.drop I) []) := Lib.hid (by
        have h := hI.out
        rw [HM.out] at h
        exact h.done)
      generalize lastI L = la at *
      go_wp2_with fail
      go_loopw [9] (fun i wq => ∃ J : Nat, J ≤ n ∧ i = .int .i64 J ∧ Hid (globs.glob star fits P T = globs.glob star fits (P.drop J) []) ∧ Below G w wq) (fun i _ => n - (intOf i).toNat)
      case atStart => exact ⟨I, hIn, rfl, hdone, hb⟩
      case round =>
        obtain ⟨J, hJ, rfl, hd, hbq⟩ := hrel
        have hbs2 : ∀ {w1 : World}, Below wr.heap.size wr w1 → Below G w w1 := fun h => hbq.trans (h.mono (by rw [HG.out]; exact hbq.size))
        have HBS2 := @hbs2
        clear hbs2
        by_cases hj : J < n
        · have hjP : J < P.length := by rw [← HN.out]; exact hj
          have i1 : decide ((J : Int) < n) = true := decide_eq_true (by omega)
          have i2 : decide (J < n) = true := decide_eq_true hj
          have hS1 := Lib.hid (fun W h => HS.out J hjP W h)
          cases hst : star P[J]
          · rw [hst] at hS1
            have fin := Lib.hid (hd.out.trans (globs.tail_sign hjP hst))
            have e1 : ((J : Int) == n) = false := beq_eq_false_iff_ne.2 (by omega)
            clear hst
            go_wp2_with fail
            refine (hS1.out _ hbq).mono ?_
            rintro e w1 ⟨rfl, b1⟩
            go_wp2_with fail
            go_ret
            exact ⟨ret_bool (by rw [fin.out]), HBS2 b1⟩
          · rw [hst] at hS1
            have nx := Lib.hid (hd.out.trans (globs.tail_star hjP hst))
            clear hst
            go_wp2_with fail
            refine (hS1.out _ hbq).mono ?_
            rintro e w1 ⟨rfl, b1⟩
            go_wp2_with fail
            go_roundw
            case rel => exact ⟨J + 1, by omega, by go_num, nx, HBS2 b1⟩
            case measure => simp [intOf]; omega
        · obtain rfl : J = n := by omega
          have fin := Lib.hid (hd.out.trans (show globs.glob star fits (P.drop J) [] = true by rw [show J = P.length from HN.out]; exact globs.tail_end P))
          have i1 : decide ((J : Int) < J) = false := decide_eq_false (by omega)
          go_wp2_with fail
          go_ret
          exact ⟨ret_bool (by rw [fin.out]), hbq⟩

end Go.Proofs.YtngkfelhlabloaaDoor
