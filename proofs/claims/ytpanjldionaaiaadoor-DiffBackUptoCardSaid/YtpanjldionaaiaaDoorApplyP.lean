/-
  Changes applied to a tree, plainly: one by one they make the second tree of the first one. No program in sight, no condition.
-/
import Derived.Test.YtpanjldionaaiaaDoorDiffP
namespace Go.Proofs.YtpanjldionaaiaaDoor
set_option linter.all false
open Go.RowKit
theorem diffP_left : ∀ a : List NodeP, diffP a [] = a.map fun y => (1, y)
  | [] => by rw [diffP]; rfl
  | x :: a => by rw [diffP]
theorem diffP_right (b : List NodeP) : diffP [] b = b.map fun y => (2, y) := by rw [diffP]
/-- the first change -/
theorem diff_head {a b : List NodeP} {c : Int × NodeP} {r : List (Int × NodeP)} (h : diffP a b = c :: r) :
    (∃ s x a2 b2, a = s ++ x :: a2 ∧ b = s ++ b2 ∧ c = (1, x) ∧ r = diffP a2 b2) ∨
    (∃ s y a2 b2, a = s ++ a2 ∧ b = s ++ y :: b2 ∧ c = (2, y) ∧ r = diffP a2 b2 ∧ (∀ x ∈ a2.head?, cmpP y.path x.path < 0)) ∨
    (∃ s x y a2 b2, a = s ++ x :: a2 ∧ b = s ++ y :: b2 ∧ c = (3, y) ∧ r = diffP a2 b2 ∧ cmpP x.path y.path = 0) := by
  induction a, b using diffP.induct with
  | case1 b =>
    rw [diffP_right] at h
    cases b with
    | nil => cases h
    | cons y b =>
      rw [List.map_cons] at h
      injection h with h1 h2
      exact .inr (.inl ⟨[], y, [], b, rfl, rfl, h1.symm, by rw [diffP_right, h2], by simp⟩)
  | case2 x a =>
    rw [diffP_left, List.map_cons] at h
    injection h with h1 h2
    exact .inl ⟨[], x, a, [], rfl, rfl, h1.symm, by rw [diffP_left, h2]⟩
  | case3 x a y b h1 ih =>
    rw [diffP, if_pos h1] at h
    injection h with h2 h3
    exact .inl ⟨[], x, a, y :: b, rfl, rfl, h2.symm, h3.symm⟩
  | case4 x a y b h1 h2 ih =>
    rw [diffP, if_neg h1, if_pos h2] at h
    injection h with h3 h4
    refine .inr (.inl ⟨[], y, x :: a, b, rfl, rfl, h3.symm, h4.symm, fun z hz => ?_⟩)
    simp only [List.head?_cons, Option.mem_def, Option.some.injEq] at hz
    subst hz
    have : cmpP y.path x.path = -cmpP x.path y.path := cmpL_neg _ _
    omega
  | case5 x a y b h1 h2 h3 ih =>
    rw [diffP, if_neg h1, if_neg h2, if_pos h3] at h
    obtain rfl := (stay_iff x y).1 h3
    rcases ih h with ⟨s, x', a2, b2, e1, e2, e3, e4⟩ | ⟨s, y, a2, b2, e1, e2, e3, e4, e5⟩ | ⟨s, x', y, a2, b2, e1, e2, e3, e4, e5⟩
    · exact .inl ⟨x :: s, x', a2, b2, by rw [e1]; rfl, by rw [e2]; rfl, e3, e4⟩
    · exact .inr (.inl ⟨x :: s, y, a2, b2, by rw [e1]; rfl, by rw [e2]; rfl, e3, e4, e5⟩)
    · exact .inr (.inr ⟨x :: s, x', y, a2, b2, by rw [e1]; rfl, by rw [e2]; rfl, e3, e4, e5⟩)
  | case6 x a y b h1 h2 h3 ih =>
    rw [diffP, if_neg h1, if_neg h2, if_neg h3] at h
    injection h with h4 h5
    exact .inr (.inr ⟨[], x, y, a, b, rfl, rfl, h4.symm, h5.symm, by omega⟩)
def SoP (l : List NodeP) : Prop := l.Pairwise (fun x y => cmpP x.path y.path < 0)
theorem so_less {x y z : NodeP} (h1 : cmpP x.path y.path < 0) (h2 : cmpP y.path z.path < 0) : cmpP x.path z.path < 0 := by
  have h3 : cmpP x.path z.path ≤ 0 := cmpL_le _ (partsS y.path) _ (show cmpP x.path y.path ≤ 0 by omega) (show cmpP y.path z.path ≤ 0 by omega)
  rcases Int.lt_or_eq_of_le h3 with h | h
  · exact h
  · have e : partsS x.path = partsS z.path := cmpL_zero h
    have a1 : cmpP y.path x.path = -cmpP x.path y.path := cmpL_neg _ _
    have a2 : cmpP y.path x.path = cmpP y.path z.path := by unfold cmpP; rw [e]
    omega
theorem head_all {y : NodeP} : ∀ {a : List NodeP}, SoP a → (∀ x ∈ a.head?, cmpP y.path x.path < 0) → ∀ x ∈ a, cmpP y.path x.path < 0
  | [], _, _, x, hx => by cases hx
  | z :: a, hs, hh, x, hx => by
    have hz := hh z rfl
    rcases List.mem_cons.1 hx with rfl | hx
    · exact hz
    · exact so_less hz ((List.pairwise_cons.1 hs).1 x hx)
/-- what the changes that are done leave: of the second tree what is ahead, of the first one what is to come -/
def ApP (a b : List NodeP) (k : Nat) (out : List NodeP) : Prop := ∃ pre a1 b1 a0, out = pre ++ a1 ∧ b = pre ++ b1 ∧ a = a0 ++ a1 ∧ (diffP a b).drop k = diffP a1 b1 ∧ SoP out
theorem ApP.start {a b : List NodeP} (ha : SoP a) : ApP a b 0 a := ⟨[], a, b, [], rfl, rfl, rfl, rfl, ha⟩
theorem ApP.node {a b : List NodeP} (ha : ∀ x ∈ a, NodeOk x) (hb : ∀ x ∈ b, NodeOk x) {k : Nat} {out : List NodeP} (h : ApP a b k out) : ∀ x ∈ out, NodeOk x := by
  obtain ⟨pre, a1, b1, a0, rfl, rfl, rfl, -, -⟩ := h
  intro x hx
  rcases List.mem_append.1 hx with h | h
  · exact hb x (List.mem_append_left _ h)
  · exact ha x (List.mem_append_right _ h)
theorem ApP.len {a b : List NodeP} {k : Nat} {out : List NodeP} (h : ApP a b k out) : out.length ≤ a.length + b.length := by
  obtain ⟨pre, a1, b1, a0, rfl, rfl, rfl, -, -⟩ := h
  simp only [List.length_append]; omega
theorem ApP.done {a b : List NodeP} {out : List NodeP} (h : ApP a b (diffP a b).length out) : out = b := by
  obtain ⟨pre, a1, b1, a0, rfl, hb, -, h4, -⟩ := h
  rw [List.drop_length] at h4
  rw [hb, diffP_nil h4.symm]
theorem path_zero {x y : NodeP} (hx : NodeOk x) (hy : NodeOk y) (h : cmpP x.path y.path = 0) : x.path = y.path := parts_inj (cmpL_zero h)
/-- one change: what is found, and what is left -/
theorem ApP.step {a b : List NodeP} (ha : SoP a) (hb : SoP b) (hna : ∀ x ∈ a, NodeOk x) (hnb : ∀ x ∈ b, NodeOk x) {k : Nat} {out : List NodeP} (h : ApP a b k out) (hk : k < (diffP a b).length) :
    (∃ i x, (diffP a b)[k] = (1, x) ∧ i < out.length ∧ findP out x.path = some i ∧ ApP a b (k + 1) (out.eraseIdx i)) ∨
    (∃ y t, (diffP a b)[k] = (2, y) ∧ findP out y.path = none ∧ NodeOk y ∧ t.Perm (out ++ [y]) ∧ SoP t ∧ ApP a b (k + 1) t) ∨
    (∃ i y, (diffP a b)[k] = (3, y) ∧ i < out.length ∧ findP out y.path = some i ∧ NodeOk y ∧ ApP a b (k + 1) (out.set i y)) := by
  have hno := h.node hna hnb
  obtain ⟨pre, a1, b1, a0, rfl, rfl, rfl, h4, h5⟩ := h
  rw [List.drop_eq_getElem_cons hk] at h4
  have hnd := sorted_nodup h5
  have fnd : ∀ {l m : List NodeP} {x : NodeP}, SoP (l ++ x :: m) → findP (l ++ x :: m) x.path = some l.length := fun {l m x} hs => by
    have := findP_at (sorted_nodup hs) (i := l.length) (by simp)
    simpa using this
  rcases diff_head h4.symm with ⟨s, x, a2, b2, e1, e2, e3, e4⟩ | ⟨s, y, a2, b2, e1, e2, e3, e4, e5⟩ | ⟨s, x, y, a2, b2, e1, e2, e3, e4, e5⟩
  · subst e1 e2
    have hf := fnd (l := pre ++ s) (m := a2) (x := x) (by rw [List.append_assoc]; exact h5)
    rw [List.append_assoc] at hf
    have he : (pre ++ (s ++ x :: a2)).eraseIdx (pre ++ s).length = pre ++ (s ++ a2) := by
      rw [← List.append_assoc, List.eraseIdx_append_of_length_le (Nat.le_refl _)]
      simp
    refine .inl ⟨(pre ++ s).length, x, e3, by simp only [List.length_append, List.length_cons]; omega, hf, pre ++ s, a2, b2, a0 ++ (s ++ [x]), by rw [he, List.append_assoc], by simp, by simp, e4, ?_⟩
    exact h5.sublist (List.eraseIdx_sublist _ _)
  · subst e1 e2
    have hy := hnb y (by simp)
    have hs2 : SoP a2 := h5.sublist ((List.sublist_append_right s a2).trans (List.sublist_append_right pre _))
    have hall := head_all hs2 e5
    have hpy : ∀ x ∈ pre ++ s, cmpP x.path y.path < 0 := fun x hx => by
      have hb2 : SoP ((pre ++ s) ++ (y :: b2)) := by rw [List.append_assoc]; exact hb
      exact (List.pairwise_append.1 hb2).2.2 x hx y (by simp)
    have h5' : SoP ((pre ++ s) ++ a2) := by rw [List.append_assoc]; exact h5
    refine .inr (.inl ⟨y, (pre ++ s) ++ y :: a2, e3, ?_, hy, ?_, ?_, (pre ++ s) ++ [y], a2, b2, a0 ++ s, by simp, by simp, by simp, e4, ?_⟩)
    · rw [findP_none]
      intro x hx e
      have h0 : cmpP x.path y.path = 0 := by rw [e]; exact cmpL_self _
      rw [← List.append_assoc] at hx
      rcases List.mem_append.1 hx with hx | hx
      · have := hpy x hx; omega
      · have := hall x hx
        have h1 : cmpP x.path y.path = -cmpP y.path x.path := cmpL_neg _ _
        omega
    · rw [← List.append_assoc]
      exact (List.perm_middle).trans (List.perm_append_singleton _ _).symm
    all_goals
      unfold SoP at *
      rw [List.pairwise_append] at h5' ⊢
      refine ⟨h5'.1, List.pairwise_cons.2 ⟨hall, h5'.2.1⟩, fun p hp q hq => ?_⟩
      rcases List.mem_cons.1 hq with rfl | hq
      · exact hpy p hp
      · exact h5'.2.2 p hp q hq
  · subst e1 e2
    have hx := hna x (by simp)
    have hy := hnb y (by simp)
    have hpe := path_zero hx hy e5
    have hf := fnd (l := pre ++ s) (m := a2) (x := x) (by rw [List.append_assoc]; exact h5)
    rw [List.append_assoc, hpe] at hf
    have he : (pre ++ (s ++ x :: a2)).set (pre ++ s).length y = pre ++ (s ++ y :: a2) := by
      rw [← List.append_assoc, List.set_append_right _ _ (Nat.le_refl _)]
      simp
    refine .inr (.inr ⟨(pre ++ s).length, y, e3, by simp only [List.length_append, List.length_cons]; omega, hf, hy, (pre ++ s) ++ [y], a2, b2, a0 ++ (s ++ [x]), by rw [he]; simp, by simp, by simp, e4, ?_⟩)
    rw [he]
    unfold SoP at *
    rw [← List.append_assoc, List.pairwise_append, List.pairwise_cons] at h5 ⊢
    refine ⟨h5.1, ⟨fun q hq => by rw [← hpe]; exact h5.2.1.1 q hq, h5.2.1.2⟩, fun p hp q hq => ?_⟩
    rcases List.mem_cons.1 hq with rfl | hq
    · rw [← hpe]; exact h5.2.2 p hp x (by simp)
    · exact h5.2.2 p hp q (by simp [hq])
end Go.Proofs.YtpanjldionaaiaaDoor
