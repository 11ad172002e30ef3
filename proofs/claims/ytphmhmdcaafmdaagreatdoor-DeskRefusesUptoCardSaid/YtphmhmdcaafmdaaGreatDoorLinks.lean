/-
  Files that are one, plainly: first ones, names. No program in sight, no condition.
  link.Firsts: of each node the first one that is the same file; the table that it keeps. Condition: a tree that passes tree.Check, its nodes each by themselves.
  link.Names: how many names each node's file has. Condition: a tree that passes tree.Check, its nodes each by themselves.
-/
import Derived.Test.YtphmhmdcaafmdaaGreatDoorTreeV
import Derived.Test.YtphmhmdcaafmdaaGreatDoorMapsT
import Derived.Test.YtphmhmdcaafmdaaGreatDoorTCheck
import Derived.Test.YtphmhmdcaafmdaaGreatDoorCopyS
import Derived.StillTailTactics
namespace Go.Proofs.YtphmhmdcaafmdaaGreatDoor
set_option linter.all false
section
open Go.RowKit
def sameAt (s : Int) (x : NodeP) : Bool := x.same == s
def firstAt (t : List NodeP) (i : Nat) : Nat := if (t.getD i default).same = 0 then i else (t.findIdx? (sameAt (t.getD i default).same)).getD i
def firstsP (t : List NodeP) : List Int := (List.range t.length).map fun i => (firstAt t i : Int)
/-- what the table holds behind k rounds -/
def FirstM (t : List NodeP) (k : Nat) (M : List (Int × Value)) : Prop := ∀ s : Int, s ≠ 0 → mapGet M s = ((t.take k).findIdx? (sameAt s)).map fun i => Value.int .i64 (i : Int)
theorem FirstM.start (t : List NodeP) : FirstM t 0 [] := fun _ _ => rfl
theorem take_idx {t : List NodeP} {k : Nat} (hk : k < t.length) (s : Int) : (t.take (k + 1)).findIdx? (sameAt s) = ((t.take k).findIdx? (sameAt s)).or (if t[k].same = s then some k else none) := by
  rw [List.take_succ_eq_append_getElem hk, List.findIdx?_append, List.length_take, Nat.min_eq_left (Nat.le_of_lt hk)]
  congr 1
  by_cases h : t[k].same = s
  · rw [if_pos h]; simp [sameAt, h]
  · rw [if_neg h]; simp [sameAt, h]
theorem take_some {t : List NodeP} {k j : Nat} {s : Int} (h : (t.take k).findIdx? (sameAt s) = some j) : t.findIdx? (sameAt s) = some j := by
  rw [← List.take_append_drop k t, List.findIdx?_append, h]; rfl
theorem FirstM.none_ {t : List NodeP} {k : Nat} {M : List (Int × Value)} (h : FirstM t k M) (hk : k < t.length) (h0 : t[k].same = 0) : FirstM t (k + 1) M ∧ firstAt t k = k := by
  refine ⟨fun s hs => ?_, ?_⟩
  · rw [take_idx hk, if_neg (by rw [h0]; exact fun e => hs e.symm), Option.or_none]
    exact h s hs
  · unfold firstAt; rw [getD_at hk, if_pos h0]
theorem FirstM.old {t : List NodeP} {k : Nat} {M : List (Int × Value)} {v : Value} (h : FirstM t k M) (hk : k < t.length) (h0 : t[k].same ≠ 0) (hv : mapGet M t[k].same = some v) : FirstM t (k + 1) M ∧ v = .int .i64 (firstAt t k : Int) := by
  have h1 := h _ h0
  rw [hv] at h1
  cases hq : (t.take k).findIdx? (sameAt t[k].same) with
  | none => rw [hq] at h1; cases h1
  | some j =>
    refine ⟨fun s hs => ?_, ?_⟩
    · rw [take_idx hk]
      by_cases e : t[k].same = s
      · rw [← e, hq, Option.some_or, ← hq]; exact h _ h0
      · rw [if_neg e, Option.or_none]; exact h s hs
    · rw [hq] at h1
      unfold firstAt
      rw [getD_at hk, if_neg h0, take_some hq]
      injection h1
theorem FirstM.fresh {t : List NodeP} {k : Nat} {M : List (Int × Value)} (h : FirstM t k M) (hk : k < t.length) (h0 : t[k].same ≠ 0) (hv : mapGet M t[k].same = none) : FirstM t (k + 1) (mapPut M t[k].same (.int .i64 (k : Int))) ∧ firstAt t k = k := by
  have h1 := h _ h0
  rw [hv] at h1
  have hq : (t.take k).findIdx? (sameAt t[k].same) = none := by
    cases hq : (t.take k).findIdx? (sameAt t[k].same) with
    | none => rfl
    | some j => rw [hq] at h1; cases h1
  have hf : (t.take (k + 1)).findIdx? (sameAt t[k].same) = some k := by rw [take_idx hk, hq, if_pos rfl]; rfl
  refine ⟨fun s hs => ?_, ?_⟩
  · rw [mapGet_put]
    by_cases e : s = t[k].same
    · rw [if_pos e, e, hf]; rfl
    · rw [if_neg e, take_idx hk, if_neg (fun a => e a.symm), Option.or_none]; exact h s hs
  · unfold firstAt
    rw [getD_at hk, if_neg h0, take_some hf]; rfl
end
section
open Go.RowKit
theorem IMap.drewN {w : World} {b : Nat} {M : List (Int × Value)} (h : IMap w b M) (n : Nat) : IMap (w.drewN n) b M := h
section
variable {G b : Nat} {M : List (Int × Value)} {w : World}
end
/-! ### link.Firsts -/
/-- a row of ints of the call's own -/
def IntsOwn (w : World) (base : Nat) (v : Value) (l : List Int) : Prop := w.ownsRow base 3 1 v l.length (l.map (.int .i64))
theorem IntsOwn.below {w w' : World} {base : Nat} {v : Value} {l : List Int} (h : IntsOwn w base v l) (hb : Below w.heap.size w w') : IntsOwn w' base v l := ownsRow_below h hb
theorem IntsOwn.mono {w : World} {base base' : Nat} {v : Value} {l : List Int} (h : IntsOwn w base v l) (hb : base' ≤ base) : IntsOwn w base' v l := ownsRow_mono h hb
theorem IntsOwn.nil (w : World) (base : Nat) : IntsOwn w base (.slice none 0 0) [] := World.ownsRow_nil _ _ _ _
def FSt (w : World) (l : List NodeP) (b G : Nat) (km kv : Nat) (v : Value) (W : World) : Prop :=
  Below w.heap.size w W ∧ w.heap.size ≤ b ∧ G ≠ b ∧ Blk W G 220 #[.map (some b)] ∧ (∃ M, IMap W b M ∧ FirstM l km M) ∧ IntsOwn W w.heap.size v ((firstsP l).take kv)
theorem FSt.below {w W W' : World} {l : List NodeP} {b G km kv : Nat} {v : Value} (h : FSt w l b G km kv v W) (hb : Below W.heap.size W W') : FSt w l b G km kv v W' := by
  obtain ⟨h1, h2, h3, h4, ⟨M, h5, h6⟩, h7⟩ := h
  exact ⟨h1.trans (hb.mono h1.size), h2, h3, h4.below hb h4.lt, ⟨M, h5.below hb, h6⟩, h7.below hb⟩
end
section
open Go.RowKit
/-- a table of counts, as k rounds leave it -/
def CntM (L : List Int) (k : Nat) (M : List (Int × Value)) : Prop := ∀ s, (mapGet M s).getD (.int .i64 0) = .int .i64 ((L.take k).count s : Int)
theorem CntM.start (L : List Int) : CntM L 0 [] := fun s => by simp [mapGet]
theorem CntM.step {L : List Int} {k : Nat} {M : List (Int × Value)} (h : CntM L k M) (hk : k < L.length) : CntM L (k + 1) (mapPut M L[k] (.int .i64 (((L.take k).count L[k] : Int) + 1))) := fun s => by
  rw [mapGet_put, List.take_succ_eq_append_getElem hk, List.count_append]
  by_cases e : s = L[k]
  · rw [if_pos e, e]; simp
  · rw [if_neg e, h s, List.count_singleton]
    have : (L[k] == s) = false := by simp; exact fun a => e a.symm
    simp [this]
/-- one of a row of ints, as a walk loads it -/
theorem IntsOwn.load {w : World} {base : Nat} {A : Option Addr} {n c : Nat} {l : List Int} (h : IntsOwn w base (.slice A n c) l) {k : Nat} (hk : k < l.length) :
    ∃ ad, A = some ad ∧ w.cell? (ad.add k) = some (.int .i64 l[k]) := by
  obtain ⟨A', c', e, _, _, _, hr⟩ := ownsRow_read h
  injection e with e1 e2 e3
  subst e1
  obtain ⟨ad, u, e, _, hu, hc⟩ := hr.at_ hk
  rw [List.getElem?_map, List.getElem?_eq_getElem hk] at hu
  injection hu with hu
  exact ⟨ad, e, by rw [hc, ← hu]⟩
end
end Go.Proofs.YtphmhmdcaafmdaaGreatDoor
