/-
  What rules take of a tree, plainly. No program in sight, no condition.
  filter.Check, takes, Takes, Run. Condition: rules whose patterns have parts, a tree that may be.
-/
import Derived.Test.YtphmhmdcaafmdaaGreatDoorRulesJ
import Derived.Test.YtphmhmdcaafmdaaGreatDoorGlobPP
import Derived.Test.YtphmhmdcaafmdaaGreatDoorCopyS
import Derived.Test.YtphmhmdcaafmdaaGreatDoorTCheck
import Derived.Test.YtphmhmdcaafmdaaGreatDoorPut
namespace Go.Proofs.YtphmhmdcaafmdaaGreatDoor
set_option linter.all false
section
open Go.RowKit
/-- a rule, with its pattern's parts -/
structure RuleG where
  take : Bool
  pat : List UInt8
  ps : List (List Piece)
  ok : Pattern pat ps
def ruleP_ (r : RuleG) : RuleP := (r.take, r.pat)
def fitsG (s : List UInt8) (r : RuleG) : Bool := globs.glob starQ fitsQ r.ps (splitC 47 s)
/-- what the last rule that fits says -/
def takesG (rs : List RuleG) (s : List UInt8) : Bool := match rs.reverse.find? (fitsG s) with | some r => r.take | none => true
/-! ### a path and all that it is in -/
/-! ### what is taken of a tree -/
def filterStep (rs : List RuleG) (out : List NodeP) (n : NodeP) : List NodeP := if takesG rs n.path = true ∧ (upP n.path = [] ∨ findP out (upP n.path) ≠ none) then out ++ [n] else out
def filterP (t : List NodeP) (rs : List RuleG) : List NodeP := t.foldl (filterStep rs) []
/-- the one that it is in stands ahead -/
theorem TreeOk.ahead {t : List NodeP} (h : TreeOk t) {k : Nat} (hk : k < t.length) (hu : upP t[k].path ≠ []) : ∃ j, ∃ hj : j < t.length, j < k ∧ t[j].path = upP t[k].path ∧ t[j].kind = 2 := by
  rcases h.up t[k] (List.getElem_mem _) with h0 | ⟨y, hy, e1, e2⟩
  · exact absurd h0 hu
  · obtain ⟨j, hj, rfl⟩ := List.getElem_of_mem hy
    have hl := up_less hu
    rw [← e1] at hl
    refine ⟨j, hj, ?_, e1, e2⟩
    rcases Nat.lt_trichotomy j k with a | a | a
    · exact a
    · subst a
      have : cmpP t[j].path t[j].path = 0 := cmpL_self (partsS _)
      omega
    · have a1 := (List.pairwise_iff_getElem.1 h.sorted) k j hk hj a
      have a2 : cmpP t[j].path t[k].path = -cmpP t[k].path t[j].path := cmpL_neg _ _
      omega
/-! ### no rules, and one for all -/
/-! ### the closed ones -/
end
section
section
open Go.RowKit
/-- a row of rules, read -/
def RulesAt (w : World) (v : Value) (rs : List RuleG) : Prop := ∃ base, RulesOwn w base v (rs.map ruleP_)
theorem RulesAt.below {w w' : World} {v : Value} {rs : List RuleG} (h : RulesAt w v rs) (hb : Below w.heap.size w w') : RulesAt w' v rs := by
  obtain ⟨b, h⟩ := h
  exact ⟨b, h.below hb⟩
theorem RulesAt.slice {w : World} {v : Value} {rs : List RuleG} (h : RulesAt w v rs) : ∃ A c, v = .slice A rs.length c ∧ rs.length ≤ c ∧ c ≤ maxLen := by
  obtain ⟨b, h⟩ := h
  obtain ⟨A, c, e, h1, h2, _⟩ := ownsRow_read h
  rw [List.length_map] at e h1
  exact ⟨A, c, e, h1, h2⟩
theorem RulesAt.row {w : World} {v : Value} {rs : List RuleG} (h : RulesAt w v rs) (hl : 0 < rs.length) : ∃ g c, v = .slice (some ⟨g, 0, none⟩) rs.length c ∧ g < w.heap.size ∧
    ∀ j, (hj : j < rs.length) → w.cell? ⟨g, j * 2, none⟩ = some (.bool rs[j].take) ∧ w.cell? ⟨g, j * 2 + 1, none⟩ = some (.string (bs rs[j].pat)) := by
  obtain ⟨b, h⟩ := h
  obtain ⟨g, c, e, h1, _, _, h4⟩ := RulesOwn.row h (by rw [List.length_map]; exact hl)
  rw [List.length_map] at e
  refine ⟨g, c, e, h1, fun j hj => ?_⟩
  obtain ⟨a1, a2⟩ := h4 j (by rw [List.length_map]; exact hj)
  rw [List.getElem_map] at a1 a2
  exact ⟨a1, a2⟩
theorem RulesAt.nil (w : World) : RulesAt w (.slice none 0 0) [] := ⟨0, ⟨rfl, .inl ⟨rfl, rfl⟩⟩⟩
theorem RuleG.check (r : RuleG) (w : World) (hm : ML w) : Calls Tryz.prog 180 #[.string (bs r.pat)] w fun e w' => e = .returned (.int .i64 0) ∧ Below w.heap.size w w' := by
  have hp := r.ok
  exact GCheck_ok r.pat hp.len1 hp.len2 (fun t ht => by
    rw [hp.split] at ht
    obtain ⟨l, hl, rfl⟩ := List.mem_map.1 ht
    exact ⟨textPs_ne (hp.ok l hl).1, l, rfl, (hp.ok l hl).2⟩) (fun t ht => Nat.le_trans (splitC_len t ht) hp.len2) w hm
end
section
open Go.RowKit
/-- a row of nodes of the call's own; their data may lie elsewhere -/
def NodesRow (w : World) (base : Nat) (v : Value) (l : List NodeP) : Prop :=
  ∃ xs : List NodeV, xs.map (·.1) = l ∧ w.ownsRow base 29 12 v l.length (xs.flatMap nodeC) ∧ ∀ x ∈ xs, DataAt w 0 x.2 x.1.data
theorem NodesRow.below {w w' : World} {base : Nat} {v : Value} {l : List NodeP} (h : NodesRow w base v l) (hb : Below w.heap.size w w') : NodesRow w' base v l := by
  obtain ⟨xs, h0, h1, h2⟩ := h
  exact ⟨xs, h0, ownsRow_below h1 hb, fun x hx => (h2 x hx).below hb⟩
theorem NodesRow.at_ {w : World} {base : Nat} {v : Value} {l : List NodeP} (h : NodesRow w base v l) : NodesAt w v l := by
  obtain ⟨xs, h0, h1, h2⟩ := h
  obtain ⟨A, c, e1, e2, e3, e4, e5⟩ := ownsRow_read h1
  exact ⟨xs, A, c, h0, e1, e2, e3, e4, e5, h2⟩
theorem NodesRow.nil (w : World) (base : Nat) : NodesRow w base (.slice none 0 0) [] := ⟨[], rfl, World.ownsRow_nil _ _ _ _, by simp⟩
theorem NodesRow.snoc {w w' : World} {base : Nat} {tv v' : Value} {l : List NodeP} {xs : List NodeV} {n : NodeP} {dv : Value} (hx : xs.map (·.1) = l) (hd : ∀ x ∈ xs, DataAt w 0 x.2 x.1.data) (hn : DataAt w 0 dv n.data) (h : w.ownsRow base 29 12 tv l.length (xs.flatMap nodeC)) (hg : w.grownBy w' tv.ownBlock)
    (ho : w'.ownsRow base 29 12 v' (l.length + 1) (xs.flatMap nodeC ++ nodeC (n, dv))) : NodesRow w' base v' (l ++ [n]) := by
  have hk : U8Kept w w' := U8Kept.grown hg (fun g e => by
    obtain ⟨_, C, fr, hC⟩ := own_typed h e
    exact ⟨C, _, fr, hC, by decide⟩)
  refine ⟨xs ++ [(n, dv)], by rw [List.map_append, hx]; rfl, ?_, fun x hx2 => ?_⟩
  · rw [List.length_append, List.flatMap_append]
    simpa using ho
  · rcases List.mem_append.1 hx2 with h1 | h1
    · exact (hd x h1).kept hk
    · rw [List.mem_singleton] at h1
      subst h1
      exact hn.kept hk
def FrSt (w : World) (l : List NodeP) (rs : List RuleG) (k : Nat) (v : Value) (W : World) : Prop := Below w.heap.size w W ∧ NodesRow W w.heap.size v (filterP (l.take k) rs)
theorem FrSt.below {w W W' : World} {l : List NodeP} {rs : List RuleG} {k : Nat} {v : Value} (h : FrSt w l rs k v W) (hb : Below W.heap.size W W') : FrSt w l rs k v W' := ⟨h.1.trans (hb.mono h.1.size), h.2.below hb⟩
end
end
end Go.Proofs.YtphmhmdcaafmdaaGreatDoor
