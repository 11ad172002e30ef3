/-
  What the desk's steps of DeskRefuses come to, plainly. No condition.
-/
import Derived.Test.YtphmhmdcaafmdaaGreatDoorUnderP
import Derived.Test.YtphmhmdcaafmdaaGreatDoorOwn
import Derived.Test.YtphmhmdcaafmdaaGreatDoorFilterQ
namespace Go.Proofs.YtphmhmdcaafmdaaGreatDoor
set_option linter.all false
open Go.RowKit
def upZ : NodeP := ⟨[122, 122, 47, 122, 122], 1, 0, [], metaZ, []⟩
theorem upZ_ok : NodeOk upZ := ⟨by decide, metaZ_ok, by decide, by decide, by decide, by decide, by decide⟩
def dnZ : NodeP := ⟨[], 0, 0, [], metaZ, []⟩
theorem chkAt_pre {l m : List NodeP} {j : Nat} (hj : j < l.length) : chkAt (l ++ m) j = chkAt l j := by
  have hg : ∀ k, k < l.length → (l ++ m).getD k default = l.getD k default := fun k hk => by
    rw [List.getD_eq_getElem?_getD, List.getD_eq_getElem?_getD, List.getElem?_append_left hk]
  have ht : (l ++ m).take j = l.take j := List.take_append_of_le_length (by omega)
  have hu : ∀ p, upBad (l ++ m) j p = upBad l j p := fun p => by
    unfold upBad
    rw [ht]
    cases hq : findP (l.take j) p with
    | none => rfl
    | some k =>
      obtain ⟨h1, h2, -⟩ := findP_take hq
      show (((l ++ m).getD k default).kind != 2) = ((l.getD k default).kind != 2)
      rw [hg k h1]
  unfold chkAt
  rw [hg j hj, hg (j - 1) (by omega), ht, hu]
theorem pre_ok {t : List NodeP} (h : TreeOk t) (k : Nat) : TreeOk (t.take k) where
  len := by have := h.len; rw [List.length_take]; omega
  node := fun x hx => h.node x (List.mem_of_mem_take hx)
  sorted := h.sorted.sublist (List.take_sublist _ _)
  up := fun x hx => by
    obtain ⟨j, hj, rfl⟩ := List.getElem_of_mem hx
    rw [List.length_take] at hj
    rw [List.getElem_take]
    by_cases hu : upP t[j].path = []
    · exact .inl hu
    · obtain ⟨i, hi, hij, e1, e2⟩ := h.ahead (by omega) hu
      exact .inr ⟨t[i], List.mem_take_iff_getElem.2 ⟨i, by omega, rfl⟩, e1, e2⟩
  alike := fun x hx y hy => h.alike x (List.mem_of_mem_take hx) y (List.mem_of_mem_take hy)
theorem pre_put {t : List NodeP} (h : TreeOk t) {k : Nat} (hk : k < t.length) : putP (t.take k) t[k] = t.take (k + 1) := by
  rw [put_end, List.take_succ_eq_append_getElem hk]
  intro y hy
  obtain ⟨j, hj, rfl⟩ := List.getElem_of_mem hy
  rw [List.length_take] at hj
  rw [List.getElem_take]
  exact List.pairwise_iff_getElem.1 h.sorted j k (by omega) hk (by omega)
theorem upZ_no {p : List NodeP} (hp : ∀ x ∈ p, PartsOk x.path) : ∀ x ∈ p, x.path ≠ upZ.path ∧ x.path ≠ [122, 122] := fun x hx => by
  constructor
  · intro e
    have h := (hp x hx).2 [122, 122] (by rw [e]; decide)
    exact absurd h (by decide)
  · intro e
    have h := (hp x hx).2 [122, 122] (by rw [e]; decide)
    exact absurd h (by decide)
theorem up_bad {p : List NodeP} (h : TreeOk p) (hp : ∀ x ∈ p, PartsOk x.path) (hl : p.length ≤ 39) : chkT (putP p upZ) = 10 := by
  have hh : hasAt p upZ.path = false := by
    unfold hasAt
    rw [decide_eq_false_iff_not]
    rintro ⟨a, e⟩
    exact (upZ_no hp _ (List.getElem_mem a)).1 (parts_inj (cmpL_zero e))
  have hle := lowP_le p upZ.path
  have hlow := fun j (hj : j < p.length) (hjl : j < lowP p upZ.path) => lowP_lt hj hjl
  have hpp : putP p upZ = p.take (lowP p upZ.path) ++ upZ :: p.drop (lowP p upZ.path) := by
    unfold putP
    rw [hh]
    rfl
  generalize lowP p upZ.path = lo at *
  have hlt : (p.take lo).length = lo := by rw [List.length_take]; omega
  have hlen : (putP p upZ).length = p.length + 1 := by
    rw [hpp, List.length_append, List.length_cons, List.length_take, List.length_drop]; omega
  have hat : ∀ j, j < lo → chkAt (putP p upZ) j = 0 := fun j hj => by
    have h1 := (chkT_all h.chk).2 j (by omega)
    rw [← List.take_append_drop lo p, chkAt_pre (by rw [hlt]; exact hj)] at h1
    rw [hpp, chkAt_pre (by rw [hlt]; exact hj)]
    exact h1
  have hg : (putP p upZ).getD lo default = upZ := by
    rw [hpp, List.getD_eq_getElem?_getD, List.getElem?_append_right (by omega), hlt]
    simp
  have hg1 : ∀ h0 : 0 < lo, (putP p upZ).getD (lo - 1) default = p[lo - 1]'(by omega) := fun h0 => by
    rw [hpp, List.getD_eq_getElem?_getD, List.getElem?_append_left (by omega), List.getElem?_take_of_lt (by omega), List.getElem?_eq_getElem (by omega)]
    rfl
  have ht : (putP p upZ).take lo = p.take lo := by
    rw [hpp, List.take_append_of_le_length (by omega), List.take_of_length_le (by omega)]
  have hup : upP upZ.path = [122, 122] := by decide
  have hfn : findP (p.take lo) [122, 122] = none := by
    rw [findP_none]
    intro x hx
    exact (upZ_no hp x (List.mem_of_mem_take hx)).2
  have hc : chkAt (putP p upZ) lo = 10 := by
    unfold chkAt
    rw [hg, if_neg ?_, if_pos ?_]
    · refine ⟨by rw [hup]; decide, ?_⟩
      rw [hup]
      unfold upBad
      rw [ht, hfn]
    · rintro ⟨h0, h1⟩
      rw [hg1 h0] at h1
      have := hlow (lo - 1) (by omega) (by omega)
      omega
  rw [chkT_at (by omega) (by omega) hat (by rw [hc]; decide), hc]
/-! ### steps -/
structure StepP where
  kind : Int
  node : NodeP
  path : List UInt8
def StepTo (t : List NodeP) (s : StepP) (c : Int) (t' : List NodeP) : Prop :=
  (s.kind = 1 ∧ NodeOk s.node ∧ chkT (putP t s.node) = c ∧ ((c = 0 ∧ t' = putP t s.node) ∨ (c ≠ 0 ∧ t' = t))) ∨
  (s.kind = 2 ∧ findP t s.path = none ∧ s.path.length ≤ 400 ∧ c = 5 ∧ t' = t) ∨ (s.kind = 9 ∧ c = 2 ∧ t' = t) ∨ (s.kind = 4 ∧ c = 5 ∧ t' = t)
def ownL (t : List NodeP) : List StepP := t.map fun n => ⟨1, n, []⟩
def four (n : NodeP) : List StepP := [⟨1, n, []⟩, ⟨2, dnZ, [110, 111, 110, 101]⟩, ⟨9, dnZ, []⟩, ⟨1, upZ, []⟩]
def allL (t : List NodeP) : List StepP := t.flatMap four
def codeA (i : Nat) : Int := [0, 5, 2, 10].getD (i % 4) 0
theorem ownL_len (t : List NodeP) : (ownL t).length = t.length := by simp [ownL]
theorem allL_cons (x : NodeP) (t : List NodeP) : allL (x :: t) = four x ++ allL t := List.flatMap_cons
theorem allL_len : ∀ t : List NodeP, (allL t).length = t.length * 4
  | [] => rfl
  | x :: t => by rw [allL_cons, List.length_append, allL_len t, List.length_cons]; show 4 + _ = _; omega
theorem allL_get : ∀ (t : List NodeP) (k r : Nat), r < 4 → k < t.length → (allL t)[k * 4 + r]? = (four (t.getD k default))[r]?
  | [], _, _, _, h => by simp at h
  | x :: t, 0, r, hr, _ => by
    rw [allL_cons, List.getElem?_append_left (by show 0 * 4 + r < 4; omega), Nat.zero_mul, Nat.zero_add]
    rfl
  | x :: t, k + 1, r, hr, h => by
    rw [allL_cons, List.getElem?_append_right (by show 4 ≤ (k + 1) * 4 + r; omega), show (k + 1) * 4 + r - (four x).length = k * 4 + r by show (k + 1) * 4 + r - 4 = _; omega, allL_get t k r hr (by simpa using h)]
    rfl
theorem own_to {t : List NodeP} (h : TreeOk t) {i : Nat} (hi : i < (ownL t).length) : StepTo (t.take i) (ownL t)[i] 0 (t.take (i + 1)) := by
  have hi2 : i < t.length := by rw [ownL_len] at hi; exact hi
  have e : (ownL t)[i] = ⟨1, t[i], []⟩ := by simp [ownL]
  rw [e]
  refine .inl ⟨rfl, h.node _ (List.getElem_mem _), ?_, .inl ⟨rfl, ?_⟩⟩
  · show chkT (putP (t.take i) t[i]) = 0
    rw [pre_put h hi2]
    exact (pre_ok h (i + 1)).chk
  · show t.take (i + 1) = putP (t.take i) t[i]
    rw [pre_put h hi2]
theorem all_to {t : List NodeP} (h : TreeOk t) (hl : t.length ≤ 10) (hp : ∀ x ∈ t, PartsOk x.path) {i : Nat} (hi : i < (allL t).length) : StepTo (t.take ((i + 3) / 4)) (allL t)[i] (codeA i) (t.take ((i + 4) / 4)) := by
  have hi2 : i < t.length * 4 := by rw [allL_len] at hi; exact hi
  obtain ⟨k, r, hr, rfl⟩ : ∃ k r, r < 4 ∧ i = k * 4 + r := ⟨i / 4, i % 4, by omega, by omega⟩
  have hk : k < t.length := by omega
  have e : (allL t)[k * 4 + r] = (four t[k])[r]'(by simpa [four] using hr) := by
    have h2 := allL_get t k r hr hk
    rw [getD_at hk, List.getElem?_eq_getElem hi, List.getElem?_eq_getElem (by simpa [four] using hr)] at h2
    exact Option.some.inj h2
  rw [e]
  have hpre := fun x (hx : x ∈ t.take (k + 1)) => hp x (List.mem_of_mem_take hx)
  have h4 : (k * 4 + r + 4) / 4 = k + 1 := by omega
  rw [h4]
  unfold codeA
  rw [show (k * 4 + r) % 4 = r by omega]
  rcases (show r = 0 ∨ r = 1 ∨ r = 2 ∨ r = 3 by omega) with rfl | rfl | rfl | rfl
  · rw [show (k * 4 + 0 + 3) / 4 = k by omega]
    refine .inl ⟨rfl, h.node _ (List.getElem_mem _), ?_, .inl ⟨rfl, ?_⟩⟩
    · show chkT (putP (t.take k) t[k]) = 0
      rw [pre_put h hk]
      exact (pre_ok h (k + 1)).chk
    · show t.take (k + 1) = putP (t.take k) t[k]
      rw [pre_put h hk]
  · rw [show (k * 4 + 1 + 3) / 4 = k + 1 by omega]
    exact .inr (.inl ⟨rfl, none_new hpre, show ([110, 111, 110, 101] : List UInt8).length ≤ 400 by decide, rfl, rfl⟩)
  · rw [show (k * 4 + 2 + 3) / 4 = k + 1 by omega]
    exact .inr (.inr (.inl ⟨rfl, rfl, rfl⟩))
  · rw [show (k * 4 + 3 + 3) / 4 = k + 1 by omega]
    refine .inl ⟨rfl, upZ_ok, ?_, .inr ⟨by decide, rfl⟩⟩
    show chkT (putP (t.take (k + 1)) upZ) = 10
    exact up_bad (pre_ok h (k + 1)) hpre (by rw [List.length_take]; omega)
theorem un_to {i : Nat} (hi : i < ([⟨4, dnZ, []⟩] : List StepP).length) : StepTo [] ([⟨4, dnZ, []⟩] : List StepP)[i] 5 [] := by
  obtain rfl : i = 0 := by simpa using hi
  exact .inr (.inr (.inr ⟨rfl, rfl, rfl⟩))
end Go.Proofs.YtphmhmdcaafmdaaGreatDoor
