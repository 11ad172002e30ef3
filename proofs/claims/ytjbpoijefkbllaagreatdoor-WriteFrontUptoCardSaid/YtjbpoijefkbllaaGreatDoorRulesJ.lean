/-
  creelkeep.Rules: the rules of raw things. Condition: raw things of the second form's bound.
  Rules of raw things, plainly: their patterns, by their parts; a row of rules, as a walk reads it. No condition.
-/
import Derived.Test.YtjbpoijefkbllaaGreatDoorPaths
import Derived.Deep.RegionHeld3
import Derived.Test.YtjbpoijefkbllaaGreatDoorGlobPP
namespace Go.Proofs.YtjbpoijefkbllaaGreatDoor
section
open Go.RowKit

def patternsL : List (List UInt8) := [[97], [42, 42], [42], [97, 47, 42, 42], [42, 42, 47, 98], [63], [91, 97, 45, 98, 93], [91, 33, 97, 93, 42], [42, 42, 47, 42, 46, 116, 120, 116], [120, 42], [97, 98, 47, 42], [42, 42, 47, 110, 42]]
abbrev RuleP := Bool × List UInt8
def ruleC (x : RuleP) : List Value := [.bool x.1, .string (bs x.2)]
theorem ruleC_length (x : RuleP) : (ruleC x).length = 2 := rfl
def ruleOf (r : RawS) : RuleP := (decide (pick r.kind 2 = 0), patternsL.getD (pick r.a 12).toNat [])
def rulesP (l : List RawS) (most : Nat) : List RuleP := (l.take most).map ruleOf
def RulesOwn (w : World) (base : Nat) (v : Value) (rs : List RuleP) : Prop := w.ownsRow base 246 2 v rs.length (rs.flatMap ruleC)
theorem RulesOwn.below {w w' : World} {base : Nat} {v : Value} {rs : List RuleP} (h : RulesOwn w base v rs) (hb : Below w.heap.size w w') : RulesOwn w' base v rs := ownsRow_below h hb
theorem ruleinfo : (Tryz.prog.info? 246).map (fun i => (i.zero, i.size, i.bytes)) = some (some (.agg #[.bool false, .string ⟨#[]⟩]), 2, 24) := by kernel_rfl
theorem grown_cell {w w' : World} {row : Option Nat} {b o : Nat} {u : Value} {tb : TypeId} (hg : w.grownBy w' row) (h : w.cell? ⟨b, o, none⟩ = some u) (hb : ∃ C fr, w.heap[b]? = some (.cells C tb fr)) (hr : ∀ g, row = some g → ∃ C t fr, w.heap[g]? = some (.cells C t fr) ∧ t ≠ tb) : w'.cell? ⟨b, o, none⟩ = some u := by
  obtain ⟨C, fr, hC⟩ := hb
  have hne : some b ≠ row := fun e => by
    obtain ⟨C', t, fr', hC', hne⟩ := hr b e.symm
    rw [hC] at hC'
    injection hC' with hC'
    injection hC' with _ ht
    exact hne ht.symm
  exact (World.cell?_of_block (w := w) (a := ⟨b, o, none⟩) (hg.block b (heap_lt hC) hne)).trans h
/-- in the loop of Rules -/
def RuSt (w0 : World) (v : Value) (rs : List RuleP) (w : World) : Prop := Below w0.heap.size w0 w ∧ RulesOwn w w0.heap.size v rs ∧ Blk w w0.heap.size 9 (patternsL.map fun p => Value.string (bs p)).toArray
theorem RuSt.below {w0 w w' : World} {v : Value} {rs : List RuleP} (h : RuSt w0 v rs w) (hb : Below w.heap.size w w') : RuSt w0 v rs w' := ⟨h.1.trans (hb.mono h.1.size), h.2.1.below hb, h.2.2.below hb h.2.2.lt⟩
theorem RuSt.snoc {w0 w w' : World} {v v' : Value} {rs : List RuleP} {x : RuleP} (h : RuSt w0 v rs w) (hg : w.grownBy w' v.ownBlock) (ho : w'.ownsRow w0.heap.size 246 2 v' (rs.length + 1) (rs.flatMap ruleC ++ ruleC x)) : RuSt w0 v' (rs ++ [x]) w' := by
  have ht : ∀ g, v.ownBlock = some g → w0.heap.size ≤ g ∧ ∃ C fr, w.heap[g]? = some (.cells C 246 fr) := fun g e => own_typed h.2.1 e
  refine ⟨h.1.grown hg h.1.size (fun k e => (ht k e).1), ?_, h.2.2.grown hg (fun e => ?_)⟩
  · unfold RulesOwn
    rw [List.length_append, List.flatMap_append]
    simpa using ho
  · obtain ⟨_, C, fr, hC⟩ := ht _ e.symm
    have h2 := h.2.2
    unfold Blk at h2
    rw [h2] at hC
    injection hC with hC
    injection hC with _ ht
    exact absurd ht (by decide)
theorem rules_take {l : List RawS} {most k : Nat} (hk : k < l.length) (hm : k < most) : rulesP (l.take (k + 1)) most = rulesP (l.take k) most ++ [ruleOf l[k]] := by
  unfold rulesP
  rw [List.take_take, List.take_take, Nat.min_eq_right (by omega), Nat.min_eq_right (by omega), List.take_succ_eq_append_getElem hk, List.map_append]
  rfl
theorem rules_full {l : List RawS} {most k : Nat} (hm : most ≤ k) : rulesP (l.take (k + 1)) most = rulesP (l.take k) most := by
  unfold rulesP
  rw [List.take_take, List.take_take, Nat.min_eq_left (by omega), Nat.min_eq_left (by omega)]
theorem rules_len {l : List RawS} {most k : Nat} (hk : k ≤ l.length) (hm : k ≤ most) : (rulesP (l.take k) most).length = k := by
  unfold rulesP
  rw [List.length_map, List.length_take, List.length_take]; omega
end
section
open Go.RowKit

theorem patterns_are : ∀ p ∈ patternsL, ∃ ps, Pattern p ps ∧ p.length ≤ 10 := by
  have ok : ∀ {ls : List (List Piece)} {p : List UInt8}, (1 ≤ p.length ∧ p.length ≤ 10 ∧ splitC 47 p = ls.map textPs) → (∀ l ∈ ls, l ≠ [] ∧ ∀ q ∈ l, okP q) → ∃ ps, Pattern p ps ∧ p.length ≤ 10 := fun {ls p} h1 h2 => ⟨ls, ⟨h1.1, by omega, h1.2.2, h2⟩, h1.2.1⟩
  have lit : ∀ b : UInt8, b ≠ 91 → okP (.inl b) := fun b h => h
  intro p hp
  simp only [patternsL, List.mem_cons, List.mem_nil_iff, or_false] at hp
  rcases hp with rfl | rfl | rfl | rfl | rfl | rfl | rfl | rfl | rfl | rfl | rfl | rfl
  · exact ok (ls := [[.inl 97]]) (by decide) (by simp [okP])
  · exact ok (ls := [[.inl 42, .inl 42]]) (by decide) (by simp [okP])
  · exact ok (ls := [[.inl 42]]) (by decide) (by simp [okP])
  · exact ok (ls := [[.inl 97], [.inl 42, .inl 42]]) (by decide) (by simp [okP])
  · exact ok (ls := [[.inl 42, .inl 42], [.inl 98]]) (by decide) (by simp [okP])
  · exact ok (ls := [[.inl 63]]) (by decide) (by simp [okP])
  · exact ok (ls := [[.inr (false, 97, [45, 98])]]) (by decide) (by simp [okP])
  · exact ok (ls := [[.inr (true, 97, []), .inl 42]]) (by decide) (by simp [okP])
  · exact ok (ls := [[.inl 42, .inl 42], [.inl 42, .inl 46, .inl 116, .inl 120, .inl 116]]) (by decide) (by simp [okP])
  · exact ok (ls := [[.inl 120, .inl 42]]) (by decide) (by simp [okP])
  · exact ok (ls := [[.inl 97, .inl 98], [.inl 42]]) (by decide) (by simp [okP])
  · exact ok (ls := [[.inl 42, .inl 42], [.inl 110, .inl 42]]) (by decide) (by simp [okP])
theorem rules_mem (l : List RawS) (most : Nat) : ∀ x ∈ rulesP l most, x.2 ∈ patternsL := fun x hx => by
  unfold rulesP at hx
  obtain ⟨r, _, rfl⟩ := List.mem_map.1 hx
  unfold ruleOf
  have h := pick_bd r.a 12 (by omega)
  rw [List.getD_eq_getElem?_getD, List.getElem?_eq_getElem (by rw [show patternsL.length = 12 from rfl]; omega)]
  exact List.getElem_mem _
theorem rulesP_len (l : List RawS) (most : Nat) : (rulesP l most).length ≤ most := by unfold rulesP; rw [List.length_map, List.length_take]; omega
/-- a row of rules, as a walk reads it -/
theorem RulesOwn.row {w : World} {base : Nat} {v : Value} {l : List RuleP} (h : RulesOwn w base v l) (hl : 0 < l.length) : ∃ g c, v = .slice (some ⟨g, 0, none⟩) l.length c ∧ g < w.heap.size ∧ l.length ≤ c ∧ c ≤ maxLen ∧
    ∀ j, (hj : j < l.length) → w.cell? ⟨g, j * 2, none⟩ = some (.bool l[j].1) ∧ w.cell? ⟨g, j * 2 + 1, none⟩ = some (.string (bs l[j].2)) := by
  rcases id h.2 with ⟨_, h4⟩ | ⟨g, cap, cur, rfl, hb, hg, hn, hm, _⟩
  · omega
  · refine ⟨g, cap, rfl, heap_lt hg, hn, hm, fun j hj => ?_⟩
    have key : ∀ i, i < 2 → w.cell? ⟨g, j * 2 + i, none⟩ = (ruleC l[j])[i]? := fun i hi => by
      have h3 : (l.flatMap ruleC)[j * 2 + i]? = (ruleC l[j])[i]? := by
        rw [flat_get ruleC_length l j i hi, List.getElem?_eq_getElem hj]; rfl
      have hl2 : i < (ruleC l[j]).length := hi
      rw [List.getElem?_eq_getElem hl2] at h3 ⊢
      have h4 := World.ownsRow.cells h (g := g) rfl (j * 2 + i) _ h3
      rwa [add_flat, Nat.zero_add] at h4
    exact ⟨key 0 (by omega), key 1 (by omega)⟩
end
end Go.Proofs.YtjbpoijefkbllaaGreatDoor
