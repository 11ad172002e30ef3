/-
  slices.SortStableFunc over at most 20 nodes by path.Compare: a row of the call's own, sorted in place. Condition: paths of at most 400 bytes.
-/
import Derived.Test.YtpanjldionaaiaaDoorSortN
namespace Go.Proofs.YtpanjldionaaiaaDoor
set_option linter.all false
open Go.RowKit Go.Sort Go.Shelf Go.Lib
theorem Parts_grow (l : List UInt8) (w : World) (hs : l.length < 4294967281) (hm : ML w) :
    Calls Tryd.prog 46 #[.string (bs l)] w fun e w' => ∃ v, e = .returned v ∧ StrsAt w' w'.heap.size v (partsS l) ∧ ∃ os, w' = grow w os := by
  by_cases h : l = []
  · have fin := Lib.hid (show partsS l = [] from if_pos h)
    subst h
    have t0 : (bs []).toList = [] := bs_toList []
    go_enter Tryd.func46, Tryd.ntmps46
    go_wp2_with fail
    go_ret
    exact ⟨_, rfl, by rw [fin.out]; exact StrsAt.nil _ _, #[], (grow_empty _).symm⟩
  · have fin := Lib.hid (show partsS l = splitC 47 l from if_neg h)
    have t0 : ¬ (bs l).toList = [] := by rw [bs_toList]; exact h
    have t1 : (bs l).toList.isEmpty = false := by rw [bs_toList]; cases l <;> simp at h ⊢
    go_enter Tryd.func46, Tryd.ntmps46
    go_wp2_with fail
    refine (split_grow l _ hs hm).mono ?_
    rintro e w1 ⟨v, rfl, hv, os, rfl⟩
    go_wp2_with fail
    go_ret
    exact ⟨_, rfl, by rw [fin.out]; exact hv, os, rfl⟩
theorem Compare_grow (a b : List UInt8) (w : World) (ha : a.length < 4294967281) (hb : b.length < 4294967281) (hm : ML w) :
    Calls Tryd.prog 23 #[.string (bs a), .string (bs b)] w fun e w' => e = .returned (.int .i64 (cmpP a b)) ∧ ∃ os, w' = grow w os := by
  have HA := Lib.hid (fun w hm => Parts_grow a w ha hm)
  have HB := Lib.hid (fun w hm => Parts_grow b w hb hm)
  have HM := Lib.hid (fun os => hm.below (below_grow w os))
  have HM0 := Lib.hid hm
  clear hm ha hb
  go_enter Tryd.func23, Tryd.ntmps23
  go_wp2_with fail
  refine (HA.out _ HM0.out).mono ?_
  rintro e w1 ⟨v1, rfl, h1, os1, rfl⟩
  have H1 := Lib.hid h1
  clear h1
  go_wp2_with fail
  refine (HB.out _ (HM.out os1)).mono ?_
  rintro e w2 ⟨v2, rfl, h2, os2, rfl⟩
  have H2 := Lib.hid h2
  clear h2
  go_wp2_with fail
  refine (CompareS_any v1 v2 (partsS a) (partsS b) (grow (grow w os1) os2).heap.size _ ((H1.out.below (below_grow _ os2)).more (by simp [grow])) H2.out).mono ?_
  rintro e w3 ⟨rfl, rfl⟩
  go_wp2_with fail
  go_ret
  exact ⟨rfl, os1 ++ os2, grow_grow _ _ _⟩
def pathCmp (x y : ShortN) : Int := cmpP x.1.1.path y.1.1.path
theorem lt_path (x y : ShortN) : ltOf pathCmp x y = decide (cmpP x.1.1.path y.1.1.path < 0) := rfl
theorem path_swo : SWO (ltOf pathCmp) where
  irrefl x := by rw [lt_path, show cmpP x.1.1.path x.1.1.path = 0 from cmpL_self _]; rfl
  trans x y z h1 h2 := by
    rw [lt_path] at *
    simp only [decide_eq_true_eq] at *
    have h3 : cmpP x.1.1.path z.1.1.path ≤ 0 := cmpL_le _ (partsS y.1.1.path) _ (show cmpP x.1.1.path y.1.1.path ≤ 0 by omega) (show cmpP y.1.1.path z.1.1.path ≤ 0 by omega)
    rcases Int.lt_or_eq_of_le h3 with h | h
    · exact h
    · have e : partsS x.1.1.path = partsS z.1.1.path := cmpL_zero h
      have a1 : cmpP y.1.1.path x.1.1.path = -cmpP x.1.1.path y.1.1.path := cmpL_neg _ _
      have a2 : cmpP y.1.1.path x.1.1.path = cmpP y.1.1.path z.1.1.path := by unfold cmpP; rw [e]
      omega
  ntrans x y z h1 h2 := by
    rw [lt_path] at *
    simp only [decide_eq_false_iff_not, Int.not_lt] at *
    have a1 : cmpP y.1.1.path x.1.1.path = -cmpP x.1.1.path y.1.1.path := cmpL_neg _ _
    have a2 : cmpP z.1.1.path y.1.1.path = -cmpP y.1.1.path z.1.1.path := cmpL_neg _ _
    have a3 : cmpP z.1.1.path x.1.1.path = -cmpP x.1.1.path z.1.1.path := cmpL_neg _ _
    have : cmpP z.1.1.path x.1.1.path ≤ 0 := cmpL_le _ (partsS y.1.1.path) _ (show cmpP z.1.1.path y.1.1.path ≤ 0 by omega) (show cmpP y.1.1.path x.1.1.path ≤ 0 by omega)
    omega
end Go.Proofs.YtpanjldionaaiaaDoor
