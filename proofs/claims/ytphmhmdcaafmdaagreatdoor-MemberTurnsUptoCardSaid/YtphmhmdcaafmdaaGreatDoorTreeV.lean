/-
  When a tree may be, plainly; what creelkeep.Tree grows may be. No program in sight, no condition.
-/
import Derived.Test.YtphmhmdcaafmdaaGreatDoorNearG
import Derived.Test.YtphmhmdcaafmdaaGreatDoorMetaS
import Derived.Test.YtphmhmdcaafmdaaGreatDoorPathW
namespace Go.Proofs.YtphmhmdcaafmdaaGreatDoor
set_option linter.all false
open Go.RowKit
/-! ### parents -/
def upP (p : List UInt8) : List UInt8 := p.take (Lib.lastIndexByte (bs p) 47).toNat
/-! ### a node by itself -/
structure NodeOk (x : NodeP) : Prop where
  path : checkS x.path = 0 ∧ x.path.length ≤ 400
  mt : MetaOk x.mt
  same : 0 ≤ x.same ∧ x.same ≤ 1048576 ∧ (x.kind ≠ 1 → x.same = 0)
  kind : x.kind = 1 ∨ x.kind = 2 ∨ x.kind = 3
  data : x.data.length ≤ 2000 ∧ (x.kind ≠ 1 → x.data = [])
  none : x.kind ≠ 3 → x.target = []
  target : x.target.length ≤ 400 ∧ (x.kind = 3 → x.target ≠ [] ∧ (0 : UInt8) ∉ x.target)
/-! ### a tree, checked -/
/-! ### a tree that may be -/
/-! ### what is grown may be -/
theorem tmem_splitC {c b : UInt8} (hb : b ≠ c) : ∀ {l : List UInt8}, b ∈ l → ∃ q ∈ splitC c l, b ∈ q := by
  intro l h
  have h2 := join_split c l
  rw [← h2] at h
  clear h2
  generalize splitC c l = ps at h
  induction ps with
  | nil => simp [joinC] at h
  | cons x ps ih =>
    cases ps with
    | nil => exact ⟨x, by simp, by simpa [joinC] using h⟩
    | cons y ps =>
      rw [joinC] at h
      rcases List.mem_append.1 h with h | h
      · exact ⟨x, by simp, h⟩
      · rcases List.mem_cons.1 h with h | h
        · exact absurd h hb
        · obtain ⟨q, hq, hbq⟩ := ih h
          exact ⟨q, List.mem_cons_of_mem _ hq, hbq⟩
theorem tparts_check {p : List UInt8} (h : PartsOk p) (hl : p.length ≤ 400) : checkS p = 0 := by
  have h1 : 1 ≤ p.length := by cases p with | nil => exact absurd rfl h.1 | cons => simp
  have h2 : (splitC 47 p).any badPart = false := by
    rw [List.any_eq_false]
    intro q hq
    obtain ⟨a1, _, _, a4, a5, _⟩ := namesL_ok q (h.2 q hq)
    simp [badPart, a1, a4, a5]
  have h3 : (0 : UInt8) ∉ p := fun hb => by
    obtain ⟨q, hq, hbq⟩ := tmem_splitC (c := 47) (by decide) hb
    exact (namesL_ok q (h.2 q hq)).2.2.1 hbq
  unfold checkS
  rw [if_neg (by omega), if_neg h3, h2]
  rfl
structure GrowVOk (s : TreeS) : Prop where
  node : ∀ x ∈ s.t, NodeOk { x with path := [97] }
  up : ∀ x ∈ s.t, upP x.path = [] ∨ ∃ y ∈ s.t, y.path = upP x.path ∧ y.kind = 2
  dirs : ∀ d ∈ s.dirs, d = [] ∨ ∃ y ∈ s.t, y.path = d ∧ y.kind = 2
  same : ∀ x ∈ s.t, x.same ≠ 0 → ∃ (k : Nat) (y : NodeP), s.t[k]? = some y ∧ x.same = (k : Int) + 1 ∧ y.same = (k : Int) + 1 ∧ y.mt = x.mt ∧ y.data = x.data
theorem ok97 : checkS [97] = 0 ∧ ([97] : List UInt8).length ≤ 400 := by decide
theorem marked_path (x : NodeP) (j : Nat) (h : NodeOk { x with path := [97] }) (hk : x.kind = 1) (hj : j < 1048576) : NodeOk { marked x j with path := [97] } := by
  refine ⟨ok97, h.mt, ⟨?_, ?_, fun hn => absurd hk hn⟩, h.kind, h.data, h.none, h.target⟩
  · show 0 ≤ if x.same = 0 then (j : Int) + 1 else x.same
    have : 0 ≤ x.same := h.same.1
    split <;> omega
  · show (if x.same = 0 then (j : Int) + 1 else x.same) ≤ 1048576
    have : x.same ≤ 1048576 := h.same.2.1
    split <;> omega
theorem mem_set_or {α} {t : List α} {j : Nat} {y x : α} (h : x ∈ t.set j y) : x = y ∨ x ∈ t := by
  rcases List.mem_or_eq_of_mem_set h with h | h
  · exact .inr h
  · exact .inl h
/-- the new node is a node of its own -/
theorem GrowVOk.plain {s : TreeS} (h : GrowVOk s) (n : NodeP) (ds : List (List UInt8)) (hn : NodeOk { n with path := [97] }) (h0 : n.same = 0) (hu : upP n.path = [] ∨ ∃ y ∈ s.t, y.path = upP n.path ∧ y.kind = 2) (hd : ∀ d ∈ ds, d = n.path ∧ n.kind = 2) : GrowVOk ⟨s.t ++ [n], s.dirs ++ ds⟩ := by
  have more : ∀ p, (∃ y ∈ s.t, y.path = p ∧ y.kind = 2) → ∃ y ∈ s.t ++ [n], y.path = p ∧ y.kind = 2 := fun p ⟨y, h1, h2⟩ => ⟨y, List.mem_append_left _ h1, h2⟩
  refine ⟨fun x hx => ?_, fun x hx => ?_, fun d hx => ?_, fun x hx => ?_⟩
  · rcases List.mem_append.1 hx with hx | hx
    · exact h.node x hx
    · rw [List.mem_singleton] at hx; rw [hx]; exact hn
  · rcases List.mem_append.1 hx with hx | hx
    · exact (h.up x hx).imp id (more _)
    · rw [List.mem_singleton] at hx; rw [hx]; exact hu.imp id (more _)
  · rcases List.mem_append.1 hx with hx | hx
    · exact (h.dirs d hx).imp id (more _)
    · obtain ⟨e1, e2⟩ := hd d hx
      exact .inr ⟨n, by simp, e1.symm, e2⟩
  · intro hs
    rcases List.mem_append.1 hx with hx | hx
    · obtain ⟨k, y, hk, r⟩ := h.same x hx hs
      exact ⟨k, y, by rw [List.getElem?_append_left (List.getElem?_eq_some_iff.1 hk).1]; exact hk, r⟩
    · rw [List.mem_singleton] at hx; rw [hx] at hs; exact absurd h0 hs
/-- the new node is one with an elder one -/
theorem GrowVOk.link {s : TreeS} (h : GrowVOk s) {j : Nat} {x0 : NodeP} (hj : s.t[j]? = some x0) (hl : s.t.length < 1048576) (hk : x0.kind = 1) (p : List UInt8) (hu : upP p = [] ∨ ∃ y ∈ s.t, y.path = upP p ∧ y.kind = 2) : GrowVOk ⟨s.t.set j (marked x0 j) ++ [linkN x0 j p], s.dirs⟩ := by
  have hjl := (List.getElem?_eq_some_iff.1 hj).1
  have hx0 : x0 ∈ s.t := List.mem_of_getElem? hj
  have hset : ∀ (k : Nat) (y : NodeP), s.t[k]? = some y → k ≠ j → (s.t.set j (marked x0 j) ++ [linkN x0 j p])[k]? = some y := fun k y hy hne => by
    rw [List.getElem?_append_left (by rw [List.length_set]; exact (List.getElem?_eq_some_iff.1 hy).1), List.getElem?_set_ne (Ne.symm hne)]
    exact hy
  have hsj : (s.t.set j (marked x0 j) ++ [linkN x0 j p])[j]? = some (marked x0 j) := by
    rw [List.getElem?_append_left (by rw [List.length_set]; exact hjl), List.getElem?_set_self hjl]
  have more : ∀ q, (∃ y ∈ s.t, y.path = q ∧ y.kind = 2) → ∃ y ∈ s.t.set j (marked x0 j) ++ [linkN x0 j p], y.path = q ∧ y.kind = 2 := by
    rintro q ⟨y, h1, h2, h3⟩
    obtain ⟨k, hkl, rfl⟩ := List.getElem_of_mem h1
    by_cases e : k = j
    · subst e
      rw [List.getElem?_eq_getElem hkl] at hj
      injection hj with hj
      rw [hj] at h3
      omega
    · exact ⟨_, List.mem_of_getElem? (hset k _ (List.getElem?_eq_getElem hkl) e), h2, h3⟩
  have hm := marked_path x0 j (h.node x0 hx0) hk (by omega)
  -- where a node of this number is
  have old : ∀ x ∈ s.t, x.same ≠ 0 → ∃ (k : Nat) (y : NodeP), (s.t.set j (marked x0 j) ++ [linkN x0 j p])[k]? = some y ∧ x.same = (k : Int) + 1 ∧ y.same = (k : Int) + 1 ∧ y.mt = x.mt ∧ y.data = x.data := by
    intro x hx hs
    obtain ⟨k, y, hk', e1, e2, e3, e4⟩ := h.same x hx hs
    by_cases e : k = j
    · subst e
      rw [hj] at hk'
      injection hk' with hk'
      subst hk'
      refine ⟨k, marked x0 k, hsj, e1, ?_, e3, e4⟩
      show (if x0.same = 0 then (k : Int) + 1 else x0.same) = _
      split <;> omega
    · exact ⟨k, y, hset k y hk' e, e1, e2, e3, e4⟩
  have mark : ∀ x : NodeP, x.same = (marked x0 j).same → x.mt = x0.mt → x.data = x0.data → ∃ (k : Nat) (y : NodeP), (s.t.set j (marked x0 j) ++ [linkN x0 j p])[k]? = some y ∧ x.same = (k : Int) + 1 ∧ y.same = (k : Int) + 1 ∧ y.mt = x.mt ∧ y.data = x.data := by
    intro x e1 e2 e3
    have e0 : (marked x0 j).same = if x0.same = 0 then (j : Int) + 1 else x0.same := rfl
    by_cases h0 : x0.same = 0
    · rw [if_pos h0] at e0
      exact ⟨j, marked x0 j, hsj, by rw [e1, e0], e0, e2.symm, e3.symm⟩
    · rw [if_neg h0] at e0
      obtain ⟨k, y, a1, a2, a3, a4, a5⟩ := old x0 hx0 h0
      exact ⟨k, y, a1, by rw [e1, e0]; exact a2, a3, by rw [e2]; exact a4, by rw [e3]; exact a5⟩
  refine ⟨fun x hx => ?_, fun x hx => ?_, fun d hx => ?_, fun x hx => ?_⟩
  · rcases List.mem_append.1 hx with hx | hx
    · rcases mem_set_or hx with rfl | hx
      · exact hm
      · exact h.node x hx
    · rw [List.mem_singleton] at hx; rw [hx]; exact hm
  · rcases List.mem_append.1 hx with hx | hx
    · rcases mem_set_or hx with rfl | hx
      · exact (h.up x0 hx0).imp id (more _)
      · exact (h.up x hx).imp id (more _)
    · rw [List.mem_singleton] at hx; rw [hx]; exact hu.imp id (more _)
  · exact (h.dirs d hx).imp id (more _)
  · intro hs
    rcases List.mem_append.1 hx with hx | hx
    · rcases mem_set_or hx with rfl | hx
      · exact mark _ rfl rfl rfl
      · exact old x hx hs
    · rw [List.mem_singleton] at hx; rw [hx]; exact mark _ rfl rfl rfl
end Go.Proofs.YtphmhmdcaafmdaaGreatDoor
