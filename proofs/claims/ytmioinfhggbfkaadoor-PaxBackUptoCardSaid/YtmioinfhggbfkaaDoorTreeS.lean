/-
  The state of creelkeep.Tree as it grows. Plain lemmas: no condition.
  creelkeep.Tree's closure 'at'. No condition.
-/
import Derived.Test.YtmioinfhggbfkaaDoorNodesG
import Derived.Test.YtmioinfhggbfkaaDoorRawW
import Derived.Test.YtmioinfhggbfkaaDoorPathW
namespace Go.Proofs.YtmioinfhggbfkaaDoor
set_option linter.all false
section
open Go.RowKit

/-- the slice of directories: a row of the call's own -/
def DirsOwn (w : World) (base : Nat) (v : Value) (l : List (List UInt8)) : Prop := w.ownsRow base 9 1 v l.length (l.map fun d => .string (bs d))
/-- a directory, as a walk reads it -/
theorem DirsOwn.at_ {w : World} {base : Nat} {v : Value} {l : List (List UInt8)} (h : DirsOwn w base v l) (hl : 1 ≤ l.length) : ∃ g c, v = .slice (some ⟨g, 0, none⟩) l.length c ∧ l.length ≤ c ∧ c ≤ maxLen ∧ g < w.heap.size ∧ ∀ k, (hk : k < l.length) → w.cell? ⟨g, k, none⟩ = some (.string (bs l[k])) := by
  obtain ⟨g, cap, rfl, hb, hlt⟩ := World.ownsRow.form h (by omega)
  have h2 := h
  obtain ⟨A, c, e1, e2, e3, _, _⟩ := ownsRow_read h
  injection e1 with e1 _ e4
  subst e4
  refine ⟨g, _, rfl, e2, e3, hlt, fun k hk => ?_⟩
  have h3 := World.ownsRow.cells h2 (g := g) rfl k (.string (bs l[k])) (by rw [List.getElem?_map, List.getElem?_eq_getElem hk]; rfl)
  rwa [add_flat, Nat.zero_add] at h3
def growN (most : Nat) (l : List RawS) (k : Nat) : TreeS := growAll most (l.take k)
theorem growN_zero (most : Nat) (l : List RawS) : growN most l 0 = ⟨[], [[]]⟩ := rfl
theorem growN_succ {most : Nat} {l : List RawS} {k : Nat} (hk : k < l.length) : growN most l (k + 1) = growStep most (growN most l k) l[k] := by
  unfold growN growAll
  rw [List.take_succ_eq_append_getElem hk, List.foldl_append]; rfl
theorem growN_all {most : Nat} {l : List RawS} {k : Nat} (hk : l.length ≤ k) : growN most l k = growAll most l := by
  unfold growN; rw [List.take_of_length_le hk]
theorem growN_full {most : Nat} {l : List RawS} {k : Nat} (h : most ≤ (growN most l k).t.length) : growN most l k = growAll most l := by
  have e : growAll most l = (l.drop k).foldl (growStep most) (growN most l k) := by
    unfold growN growAll
    rw [← List.foldl_append, List.take_append_drop]
  rw [e, grow_full h]
theorem growN_ok (most : Nat) (l : List RawS) (k : Nat) : GrowOk most (growN most l k) := growOk_all most _ (growOk_start most)
/-- a raw thing's cells, as a walk loads them -/
theorem load_raw {w : World} {B : Nat} {A : Option Addr} {l : List RawS} (h : Reads w B 4 A l.length (l.flatMap rawCells)) {k : Nat} (hk : k < l.length) :
    ∃ ad, A = some ad ∧ ad.block < B ∧ w.cell? (ad.add (k * 4)) = some (.int .i64 l[k].kind) ∧ w.cell? ⟨(ad.add (k * 4)).block, (ad.add (k * 4)).off + 1, none⟩ = some (.int .i64 l[k].a) ∧ w.cell? ⟨(ad.add (k * 4)).block, (ad.add (k * 4)).off + 2, none⟩ = some (.int .i64 l[k].b) ∧ w.cell? ⟨(ad.add (k * 4)).block, (ad.add (k * 4)).off + 3, none⟩ = some (.string (bs l[k].text)) := by
  obtain ⟨ad, e, hb, h0, h1, h2, h3⟩ := h.raw_at hk
  have hs := spot_of h0
  refine ⟨ad, e, hb, h0, ?_, ?_, ?_⟩
  · rw [← add_step hs, add_of_add]; exact h1
  · rw [← add_step hs, add_of_add]; exact h2
  · rw [← add_step hs, add_of_add]; exact h3
theorem namesL_bd : ∀ n ∈ namesL, n.length ≤ 130 := by
  intro n hn
  simp only [namesL, List.mem_cons, List.mem_nil_iff, or_false] at hn
  rcases hn with rfl | rfl | rfl | rfl | rfl | rfl | rfl | rfl | rfl | rfl | rfl
  all_goals first | (rw [List.length_replicate]; omega) | (simp only [List.length_cons, List.length_nil]; omega)
theorem growPath_length {most : Nat} {s : TreeS} (h : GrowOk most s) (r : RawS) : (growPath s.dirs r).length ≤ 531 := by
  unfold growPath upS
  have h1 : (s.dirs.getD (pick r.b s.dirs.length).toNat []).length ≤ 400 := by
    rw [List.getD_eq_getElem?_getD]
    rcases hq : s.dirs[(pick r.b s.dirs.length).toNat]? with _ | d
    · simp
    · exact h.dirLen d (List.mem_of_getElem? hq)
  have h2 : (namesL.getD (pick r.a 11).toNat []).length ≤ 130 := by
    rw [List.getD_eq_getElem?_getD]
    rcases hq : namesL[(pick r.a 11).toNat]? with _ | d
    · simp
    · exact namesL_bd d (List.mem_of_getElem? hq)
  rw [List.length_append]
  split
  · rw [List.length_nil]; omega
  · rw [List.length_append, List.length_singleton]; omega
end
section
open Go.RowKit

theorem idxN_neg {p : List UInt8} {l : List NodeP} (h : hasPath l p = false) : idxN (fun x => x.path == p) l = -1 :=
  idxN_miss (fun j hj => by
    unfold hasPath at h
    rw [List.any_eq_false] at h
    simpa using h _ (List.getElem_mem hj))
theorem idxN_nat {p : List UInt8} {l : List NodeP} (h : hasPath l p = true) : ∃ i : Nat, i < l.length ∧ idxN (fun x => x.path == p) l = i ∧ ∃ x, l[i]? = some x ∧ x.path = p := by
  unfold idxN
  cases hq : l.findIdx? (fun x => x.path == p) with
  | some i =>
    rw [List.findIdx?_eq_some_iff_getElem] at hq
    obtain ⟨h1, h2, _⟩ := hq
    exact ⟨i, h1, rfl, l[i], List.getElem?_eq_getElem h1, by simpa using h2⟩
  | none =>
    rw [List.findIdx?_eq_none_iff] at hq
    unfold hasPath at h
    rw [List.any_eq_true] at h
    obtain ⟨x, hx, e⟩ := h
    rw [hq x hx] at e
    cases e
end
end Go.Proofs.YtmioinfhggbfkaaDoor
