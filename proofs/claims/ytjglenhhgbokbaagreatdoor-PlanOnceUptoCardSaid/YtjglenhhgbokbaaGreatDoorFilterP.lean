/-
  What rules take of a tree, plainly. No program in sight, no condition.
-/
import Derived.Test.YtjglenhhgbokbaaGreatDoorRulesJ
import Derived.Test.YtjglenhhgbokbaaGreatDoorGlobPP
import Derived.Test.YtjglenhhgbokbaaGreatDoorSmallP
namespace Go.Proofs.YtjglenhhgbokbaaGreatDoor
open Go.RowKit

/-- a rule, with its pattern's parts -/
structure RuleG where
  take : Bool
  pat : List UInt8
  ps : List (List Piece)
  ok : Pattern pat ps
def ruleP_ (r : RuleG) : RuleP := (r.take, r.pat)
def fitsG (s : List UInt8) (r : RuleG) : Bool := globs.glob starQ fitsQ r.ps (splitC 47 s)
/-- what the last rule that fits says -/
def takesG (rs : List RuleG) (s : List UInt8) : Bool := match rs.reverse.find? (fitsG s) with | some r => r.take | none => true
theorem takesG_nil (s : List UInt8) : takesG [] s = true := rfl
theorem takesG_snoc (rs : List RuleG) (r : RuleG) (s : List UInt8) : takesG (rs ++ [r]) s = if fitsG s r = true then r.take else takesG rs s := by
  unfold takesG
  rw [List.reverse_append, List.reverse_cons, List.reverse_nil, List.nil_append, List.singleton_append, List.find?_cons]
  by_cases h : fitsG s r = true
  · simp [h]
  · have h : fitsG s r = false := by simpa using h
    simp [h]
theorem takesG_take {rs : List RuleG} {k : Nat} (hk : k < rs.length) (s : List UInt8) : takesG (rs.take (k + 1)) s = if fitsG s rs[k] = true then rs[k].take else takesG (rs.take k) s := by
  rw [List.take_succ_eq_append_getElem hk, takesG_snoc]
/-- every rule list of the patterns that are known is one of rules with parts -/
theorem rules_known : ∀ {l : List RuleP}, (∀ x ∈ l, x.2 ∈ patternsL) → ∃ rs : List RuleG, rs.map ruleP_ = l
  | [], _ => ⟨[], rfl⟩
  | x :: l, h => by
    obtain ⟨ps, hp, _⟩ := patterns_are x.2 (h x (by simp))
    obtain ⟨rs, e⟩ := rules_known (l := l) (fun y hy => h y (by simp [hy]))
    exact ⟨⟨x.1, x.2, ps, hp⟩ :: rs, by rw [List.map_cons, e]; rfl⟩

/-! ### a path and all that it is in -/
theorem upP_short {p : List UInt8} (h : p ≠ []) : (upP p).length < p.length := by
  rcases cutLast p with h1 | ⟨a, b, rfl, h1⟩
  · rw [upP_none h1]; cases p with | nil => exact absurd rfl h | cons => simp
  · rw [upP_some h1]; simp
def wantP (rs : List RuleG) (p : List UInt8) : Bool := if _h : p = [] then true else takesG rs p && wantP rs (upP p)
  termination_by p.length
  decreasing_by exact upP_short _h
theorem wantP_nil (rs : List RuleG) : wantP rs [] = true := by rw [wantP]; simp
theorem wantP_cons (rs : List RuleG) {p : List UInt8} (h : p ≠ []) : wantP rs p = (takesG rs p && wantP rs (upP p)) := by rw [wantP, dif_neg h]

/-! ### what is taken of a tree -/
def filterStep (rs : List RuleG) (out : List NodeP) (n : NodeP) : List NodeP := if takesG rs n.path = true ∧ (upP n.path = [] ∨ findP out (upP n.path) ≠ none) then out ++ [n] else out
def filterP (t : List NodeP) (rs : List RuleG) : List NodeP := t.foldl (filterStep rs) []
theorem filterP_take {t : List NodeP} {rs : List RuleG} {k : Nat} (hk : k < t.length) : filterP (t.take (k + 1)) rs = filterStep rs (filterP (t.take k) rs) t[k] := by
  unfold filterP
  rw [List.take_succ_eq_append_getElem hk, List.foldl_append]; rfl
theorem filterP_length (t : List NodeP) (rs : List RuleG) : (filterP t rs).length ≤ t.length := by
  unfold filterP
  have key : ∀ (l : List NodeP) (out : List NodeP), (l.foldl (filterStep rs) out).length ≤ out.length + l.length := by
    intro l
    induction l with
    | nil => intro out; simp
    | cons x l ih =>
      intro out
      rw [List.foldl_cons]
      have h1 := ih (filterStep rs out x)
      have h2 : (filterStep rs out x).length ≤ out.length + 1 := by unfold filterStep; split <;> simp
      simp only [List.length_cons]
      omega
  simpa using key t []
theorem node_path_ne {x : NodeP} (h : NodeOk x) : x.path ≠ [] := by
  intro e
  have := h.path.1
  rw [e] at this
  exact absurd this (by decide)
/-- the one that it is in stands ahead -/
theorem TreeOk.ahead {t : List NodeP} (h : TreeOk t) {k : Nat} (hk : k < t.length) (hu : upP t[k].path ≠ []) : ∃ j, ∃ hj : j < t.length, j < k ∧ t[j].path = upP t[k].path ∧ t[j].kind = 2 := by
  rcases h.up t[k] (List.getElem_mem _) with h0 | ⟨y, hy, e1, e2⟩
  · exact absurd h0 hu
  · obtain ⟨j, hj, rfl⟩ := List.getElem_of_mem hy
    have hl := up_less hu
    rw [← e1] at hl
    refine ⟨j, hj, ?_, e1, e2⟩
    rcases Nat.lt_trichotomy j k with a | a | a
    · exact a
    · subst a
      have : cmpP t[j].path t[j].path = 0 := cmpL_self (partsS _)
      omega
    · have a1 := (List.pairwise_iff_getElem.1 h.sorted) k j hk hj a
      have a2 : cmpP t[j].path t[k].path = -cmpP t[k].path t[j].path := cmpL_neg _ _
      omega
theorem filterP_eq {t : List NodeP} (h : TreeOk t) (rs : List RuleG) : filterP t rs = t.filter fun x => wantP rs x.path := by
  have key : ∀ k, k ≤ t.length → filterP (t.take k) rs = (t.take k).filter fun x => wantP rs x.path := by
    intro k
    induction k with
    | zero => intro _; simp [filterP]
    | succ k ih =>
      intro hk
      have hk : k < t.length := by omega
      have ih := ih (by omega)
      rw [filterP_take hk, ih, List.take_succ_eq_append_getElem hk, List.filter_append]
      have hne := node_path_ne (h.node _ (List.getElem_mem hk))
      have hw := wantP_cons rs hne
      have hfin : (takesG rs t[k].path = true ∧ (upP t[k].path = [] ∨ findP ((t.take k).filter fun x => wantP rs x.path) (upP t[k].path) ≠ none)) ↔ wantP rs t[k].path = true := by
        rw [hw, Bool.and_eq_true]
        refine and_congr_right fun _ => ?_
        by_cases hu : upP t[k].path = []
        · simp [hu, wantP_nil]
        · obtain ⟨j, hj, hjk, e1, _⟩ := h.ahead hk hu
          simp only [hu, false_or]
          constructor
          · intro hf
            by_cases hwu : wantP rs (upP t[k].path) = true
            · exact hwu
            · refine absurd (findP_none.2 fun x hx e => ?_) hf
              have := (List.mem_filter.1 hx).2
              rw [e] at this
              exact hwu this
          · intro hwu hn
            refine findP_none.1 hn t[j] (List.mem_filter.2 ⟨?_, ?_⟩) e1
            · rw [List.mem_take_iff_getElem]; exact ⟨j, by omega, rfl⟩
            · rw [e1]; exact hwu
      unfold filterStep
      by_cases hc : wantP rs t[k].path = true
      · rw [if_pos (hfin.2 hc)]; simp [hc]
      · rw [if_neg (fun a => hc (hfin.1 a))]; simp [hc]
  have := key t.length (Nat.le_refl _)
  rwa [List.take_length] at this
theorem want_up {rs : List RuleG} {p : List UInt8} (h : wantP rs p = true) : wantP rs (upP p) = true := by
  by_cases hp : p = []
  · subst hp; rw [show upP [] = [] from rfl]; exact wantP_nil rs
  · rw [wantP_cons rs hp, Bool.and_eq_true] at h; exact h.2
theorem filter_ok {t : List NodeP} (h : TreeOk t) (rs : List RuleG) : TreeOk (filterP t rs) := by
  rw [filterP_eq h]
  have hs : (t.filter fun x => wantP rs x.path).Sublist t := List.filter_sublist
  refine ⟨Nat.le_trans hs.length_le h.len, fun x hx => h.node x (hs.subset hx), h.sorted.sublist hs, fun x hx => ?_, fun x hx y hy => h.alike x (hs.subset hx) y (hs.subset hy)⟩
  obtain ⟨h1, h2⟩ := List.mem_filter.1 hx
  refine (h.up x h1).imp id ?_
  rintro ⟨y, hy, e1, e2⟩
  exact ⟨y, List.mem_filter.2 ⟨hy, by rw [e1]; exact want_up h2⟩, e1, e2⟩
theorem filter_again {t : List NodeP} (h : TreeOk t) (rs : List RuleG) : filterP (filterP t rs) rs = filterP t rs := by
  rw [filterP_eq (filter_ok h rs), filterP_eq h, List.filter_filter]
  simp
theorem filter_has {t : List NodeP} (h : TreeOk t) (rs : List RuleG) {k : Nat} (hk : k < t.length) : (findP (filterP t rs) t[k].path = none) ↔ wantP rs t[k].path = false := by
  rw [filterP_eq h, findP_none]
  constructor
  · intro hn
    by_cases hw : wantP rs t[k].path = true
    · exact absurd rfl (hn t[k] (List.mem_filter.2 ⟨List.getElem_mem _, hw⟩))
    · simpa using hw
  · intro hw x hx e
    have := (List.mem_filter.1 hx).2
    rw [e, hw] at this
    cases this
theorem filter_in {t : List NodeP} (h : TreeOk t) (rs : List RuleG) {k : Nat} (hk : k < (filterP t rs).length) : ∃ i, ∃ hi : i < t.length, findP t (filterP t rs)[k].path = some i ∧ t[i] = (filterP t rs)[k] := by
  have hm : (filterP t rs)[k] ∈ t := by
    have hsub : ∀ x ∈ filterP t rs, x ∈ t := by
      rw [filterP_eq h]
      exact fun x hx => (List.mem_filter.1 hx).1
    exact hsub _ (List.getElem_mem hk)
  obtain ⟨i, hi, e⟩ := List.getElem_of_mem hm
  refine ⟨i, hi, ?_, e⟩
  rw [← e]
  exact findP_at (sorted_nodup h.sorted) hi

/-! ### no rules, and one for all -/
theorem want_none (p : List UInt8) : wantP [] p = true := by
  induction h : p.length using Nat.strongRecOn generalizing p with
  | ind n ih =>
    by_cases hp : p = []
    · rw [hp]; exact wantP_nil _
    · rw [wantP_cons _ hp, takesG_nil, Bool.true_and]
      exact ih _ (by rw [← h]; exact upP_short hp) _ rfl
theorem filter_none_ {t : List NodeP} (h : TreeOk t) : filterP t [] = t := by
  rw [filterP_eq h]
  exact List.filter_eq_self.2 fun x _ => want_none x.path
def allG (b : Bool) : RuleG := ⟨b, [42, 42], [twoStars], pattern_two⟩
theorem takes_all (rs : List RuleG) (b : Bool) (s : List UInt8) : takesG (rs ++ [allG b]) s = b := by
  rw [takesG_snoc, if_pos (show fitsG s (allG b) = true from glob_two _)]; rfl
theorem want_all (rs : List RuleG) (p : List UInt8) : wantP (rs ++ [allG true]) p = true := by
  induction h : p.length using Nat.strongRecOn generalizing p with
  | ind n ih =>
    by_cases hp : p = []
    · rw [hp]; exact wantP_nil _
    · rw [wantP_cons _ hp, takes_all, Bool.true_and]
      exact ih _ (by rw [← h]; exact upP_short hp) _ rfl
theorem filter_all {t : List NodeP} (h : TreeOk t) (rs : List RuleG) : filterP t (rs ++ [allG true]) = t := by
  rw [filterP_eq h]
  exact List.filter_eq_self.2 fun x _ => want_all rs x.path
theorem filter_nothing {t : List NodeP} (h : TreeOk t) (rs : List RuleG) : filterP t (rs ++ [allG false]) = [] := by
  rw [filterP_eq h, List.filter_eq_nil_iff]
  intro x hx
  rw [wantP_cons _ (node_path_ne (h.node x hx)), takes_all]
  simp

/-! ### the closed ones -/
def litG (b : Bool) : RuleG := ⟨b, [97], [[.inl 97]], ⟨by decide, by decide, by decide, by simp [okP]⟩⟩
def lastbG (b : Bool) : RuleG := ⟨b, [42, 42, 47, 98], [[.inl 42, .inl 42], [.inl 98]], ⟨by decide, by decide, by decide, by simp [okP]⟩⟩
theorem small_lit : (filterP smallP [litG false]).length = 1 := by decide
theorem small_lastb : (filterP smallP [lastbG false]).length = 2 := by decide
theorem lit_not : takesG [litG false] [97] = false := by decide
end Go.Proofs.YtjglenhhgbokbaaGreatDoor
