/-
  creelkeep.Tree, plainly: what it grows. No program in sight, no condition.
-/
import Derived.Test.YtjglenhhgbokbaaDoorNodes
import Derived.Lib.Repeat
namespace Go.Proofs.YtjglenhhgbokbaaDoor
open Go.RowKit

def namesL : List (List UInt8) := [[97], [98], [97, 98], [66], [120, 32, 121], [195, 169], [99, 46, 116, 120, 116], List.replicate 60 110, List.replicate 130 109, [97, 33], [45]]
structure TreeS where
  t : List NodeP
  dirs : List (List UInt8)
def upS (d : List UInt8) : List UInt8 := if d = [] then [] else d ++ [47]
def growPath (dirs : List (List UInt8)) (r : RawS) : List UInt8 := upS (dirs.getD (pick r.b dirs.length).toNat []) ++ namesL.getD (pick r.a 11).toNat []
def plainN (r : RawS) (p : List UInt8) : NodeP := ⟨p, 1, 0, [], metaOf r, Lib.repeatL (cleanS r.text 40) (pick r.b 30).toNat⟩
def dirN (r : RawS) (p : List UInt8) : NodeP := ⟨p, 2, 0, [], metaOf r, []⟩
def symN (r : RawS) (p : List UInt8) : NodeP := ⟨p, 3, 0, 116 :: Lib.repeatL (cleanS r.text 10) (pick r.a 20).toNat, metaOf r, []⟩
def marked (x : NodeP) (j : Nat) : NodeP := ⟨x.path, x.kind, if x.same = 0 then (j : Int) + 1 else x.same, x.target, x.mt, x.data⟩
def linkN (x : NodeP) (j : Nat) (p : List UInt8) : NodeP := ⟨p, x.kind, if x.same = 0 then (j : Int) + 1 else x.same, x.target, x.mt, x.data⟩
/-- the place of the file that the new one is to be, if there is one -/
def linkAt (s : TreeS) (r : RawS) : Option Nat :=
  match s.t[(pick r.a (s.t.length + 1)).toNat]? with
  | some x => if x.kind = 1 then some (pick r.a (s.t.length + 1)).toNat else none
  | none => none
def growKind (s : TreeS) (r : RawS) (p : List UInt8) (k : Nat) : TreeS :=
  if k = 0 ∨ k = 1 then ⟨s.t ++ [dirN r p], s.dirs ++ [p]⟩
  else if k = 2 then ⟨s.t ++ [symN r p], s.dirs⟩
  else if k = 3 ∨ k = 4 then
    match linkAt s r with
    | some j => ⟨s.t.set j (marked (s.t.getD j default) j) ++ [linkN (s.t.getD j default) j p], s.dirs⟩
    | none => ⟨s.t ++ [plainN r p], s.dirs⟩
  else ⟨s.t ++ [plainN r p], s.dirs⟩
def hasPath (t : List NodeP) (p : List UInt8) : Bool := t.any fun x => x.path == p
def growStep (most : Nat) (s : TreeS) (r : RawS) : TreeS :=
  if most ≤ s.t.length then s
  else if 400 < (growPath s.dirs r).length ∨ hasPath s.t (growPath s.dirs r) = true then s
  else growKind s r (growPath s.dirs r) (pick r.kind 7).toNat
def growAll (most : Nat) (l : List RawS) : TreeS := l.foldl (growStep most) ⟨[], [[]]⟩
theorem grow_full {most : Nat} {s : TreeS} (h : most ≤ s.t.length) : ∀ l : List RawS, l.foldl (growStep most) s = s
  | [] => rfl
  | r :: l => by rw [List.foldl_cons, show growStep most s r = s from if_pos h]; exact grow_full h l

/-! ### order -/
def cmpS (a b : List UInt8) : Int := cmpL (splitC 47 a) (splitC 47 b)
theorem cmpS_cmpP {a b : List UInt8} (ha : a ≠ []) (hb : b ≠ []) : cmpS a b = cmpP a b := by
  unfold cmpS cmpP partsS; rw [if_neg ha, if_neg hb]
theorem split_inj {a b : List UInt8} (h : splitC 47 a = splitC 47 b) : a = b := by rw [← join_split 47 a, h, join_split]
theorem cmpS_self (a : List UInt8) : cmpS a a = 0 := cmpL_self _
theorem cmpS_zero {a b : List UInt8} (h : cmpS a b = 0) : a = b := split_inj (cmpL_zero h)
theorem cmpS_neg (a b : List UInt8) : cmpS b a = -cmpS a b := cmpL_neg _ _
theorem cmpS_le {a b c : List UInt8} (h1 : cmpS a b ≤ 0) (h2 : cmpS b c ≤ 0) : cmpS a c ≤ 0 := cmpL_le _ _ _ h1 h2
def nodeLe (x y : NodeP) : Bool := decide (cmpS x.path y.path ≤ 0)
def treeP (l : List RawS) (most : Nat) : List NodeP := (growAll most l).t.mergeSort nodeLe
theorem nodeLe_trans (a b c : NodeP) (h1 : nodeLe a b = true) (h2 : nodeLe b c = true) : nodeLe a c = true := by
  unfold nodeLe at *
  simp only [decide_eq_true_eq] at *
  exact cmpS_le h1 h2
theorem nodeLe_total (a b : NodeP) : (nodeLe a b || nodeLe b a) = true := by
  unfold nodeLe
  have := cmpS_neg a.path b.path
  simp only [Bool.or_eq_true, decide_eq_true_eq]
  omega
theorem treeP_perm (l : List RawS) (most : Nat) : (treeP l most).Perm (growAll most l).t := List.mergeSort_perm _ _
theorem treeP_sorted (l : List RawS) (most : Nat) : (treeP l most).Pairwise (fun x y => cmpS x.path y.path ≤ 0) :=
  (List.pairwise_mergeSort nodeLe_trans nodeLe_total _).imp (fun h => by unfold nodeLe at h; simpa using h)
/-- two orders of nodes with paths of their own are one -/
theorem sorted_one : ∀ {l m : List NodeP}, l.Perm m → l.Pairwise (fun x y => cmpS x.path y.path ≤ 0) → m.Pairwise (fun x y => cmpS x.path y.path ≤ 0) → (l.map (·.path)).Nodup → l = m
  | [], m, hp, _, _, _ => (List.nil_perm.1 hp).symm
  | x :: l, m, hp, h1, h2, hn => by
    match m, hp, h2 with
    | [], hp, _ => simp at hp
    | y :: m, hp, h2 =>
      have hxy : x = y := by
        have hx : x ∈ y :: m := hp.subset (List.mem_cons_self ..)
        have hy : y ∈ x :: l := hp.symm.subset (List.mem_cons_self ..)
        rcases List.mem_cons.1 hx with e | hx
        · exact e
        · rcases List.mem_cons.1 hy with e | hy
          · exact e.symm
          · have a1 := (List.pairwise_cons.1 h1).1 y hy
            have a2 := (List.pairwise_cons.1 h2).1 x hx
            have a3 := cmpS_neg x.path y.path
            have a4 : x.path = y.path := cmpS_zero (by omega)
            rw [List.map_cons, List.nodup_cons] at hn
            exact absurd (List.mem_map.2 ⟨y, hy, a4.symm⟩) hn.1
      subst hxy
      rw [List.map_cons, List.nodup_cons] at hn
      rw [sorted_one (List.Perm.cons_inv hp) (List.pairwise_cons.1 h1).2 (List.pairwise_cons.1 h2).2 hn.2]

/-! ### what the walk asks of a tree that grows -/
structure GrowOk (most : Nat) (s : TreeS) : Prop where
  len : s.t.length ≤ most
  dirs : 1 ≤ s.dirs.length
  dirsLe : s.dirs.length ≤ s.t.length + 1
  dirLen : ∀ d ∈ s.dirs, d.length ≤ 400
  path : ∀ x ∈ s.t, x.path.length ≤ 400
  nodup : (s.t.map (·.path)).Nodup
theorem hasPath_iff {t : List NodeP} {p : List UInt8} : hasPath t p = true ↔ p ∈ t.map (·.path) := by
  unfold hasPath
  rw [List.any_eq_true, List.mem_map]
  simp
theorem growOk_start (most : Nat) : GrowOk most ⟨[], [[]]⟩ := ⟨by simp, by simp, by simp, by simp, by simp, by simp⟩
theorem growKind_form (s : TreeS) (r : RawS) (p : List UInt8) (k : Nat) : ∃ (j : Nat) (y : NodeP) (n : NodeP) (ds : List (List UInt8)), growKind s r p k = ⟨s.t.set j y ++ [n], s.dirs ++ ds⟩ ∧ n.path = p ∧ (ds = [] ∨ ds = [p]) ∧ (∀ x, s.t[j]? = some x → y.path = x.path) := by
  have plain : ∀ n : NodeP, n.path = p → ∀ ds, (ds = [] ∨ ds = [p]) → ∃ (j : Nat) (y : NodeP) (n' : NodeP) (ds' : List (List UInt8)), (⟨s.t ++ [n], s.dirs ++ ds⟩ : TreeS) = ⟨s.t.set j y ++ [n'], s.dirs ++ ds'⟩ ∧ n'.path = p ∧ (ds' = [] ∨ ds' = [p]) ∧ (∀ x, s.t[j]? = some x → y.path = x.path) := by
    intro n hn ds hds
    refine ⟨s.t.length, n, n, ds, ?_, hn, hds, fun x hx => ?_⟩
    · rw [List.set_eq_of_length_le (Nat.le_refl _)]
    · rw [List.getElem?_eq_none (Nat.le_refl _)] at hx; cases hx
  unfold growKind
  split
  · exact plain (dirN r p) rfl [p] (.inr rfl)
  · split
    · have h := plain (symN r p) rfl [] (.inl rfl); rw [List.append_nil] at h; exact h
    · split
      · split
        · next j hj =>
          refine ⟨j, _, _, [], by rw [List.append_nil], rfl, .inl rfl, fun x hx => ?_⟩
          rw [List.getD_eq_getElem?_getD, hx]; rfl
        · have h := plain (plainN r p) rfl [] (.inl rfl); rw [List.append_nil] at h; exact h
      · have h := plain (plainN r p) rfl [] (.inl rfl); rw [List.append_nil] at h; exact h
theorem set_paths {t : List NodeP} {j : Nat} {y : NodeP} (h : ∀ x, t[j]? = some x → y.path = x.path) : (t.set j y).map (·.path) = t.map (·.path) := by
  rw [List.map_set]
  apply List.ext_getElem?
  intro i
  rw [List.getElem?_set]
  split
  · next e =>
    subst e
    split
    · next hl =>
      rw [List.length_map] at hl
      rw [List.getElem?_map, List.getElem?_eq_getElem hl, h _ (List.getElem?_eq_getElem hl)]; rfl
    · next hl => rw [List.getElem?_eq_none (by omega)]
  · rfl
theorem growOk_step {most : Nat} {s : TreeS} (h : GrowOk most s) (r : RawS) : GrowOk most (growStep most s r) := by
  unfold growStep
  split
  · exact h
  · split
    · exact h
    · next h1 h2 =>
      obtain ⟨j, y, n, ds, e, hn, hds, hy⟩ := growKind_form s r (growPath s.dirs r) (pick r.kind 7).toNat
      have hp : (growPath s.dirs r).length ≤ 400 := by
        rcases Nat.lt_or_ge 400 (growPath s.dirs r).length with a | a
        · exact absurd (.inl a) h2
        · exact a
      have hno : growPath s.dirs r ∉ s.t.map (·.path) := fun a => h2 (.inr (hasPath_iff.2 a))
      have hm : (s.t.set j y ++ [n]).map (·.path) = s.t.map (·.path) ++ [growPath s.dirs r] := by rw [List.map_append, set_paths hy, List.map_cons, hn]; rfl
      have hl : ds.length ≤ 1 := by rcases hds with rfl | rfl <;> simp
      rw [e]
      refine ⟨?_, ?_, ?_, ?_, ?_, ?_⟩
      · simp only [List.length_append, List.length_set, List.length_cons, List.length_nil]; omega
      · have := h.dirs; simp only [List.length_append]; omega
      · have := h.dirsLe; simp only [List.length_append, List.length_set, List.length_cons, List.length_nil]; omega
      · intro d hd
        rcases List.mem_append.1 hd with hd | hd
        · exact h.dirLen d hd
        · rcases hds with rfl | rfl
          · simp at hd
          · rw [List.mem_singleton] at hd; subst hd; exact hp
      · intro x hx
        have hx2 : x.path ∈ (s.t.set j y ++ [n]).map (·.path) := List.mem_map_of_mem hx
        rw [hm] at hx2
        rcases List.mem_append.1 hx2 with a | a
        · obtain ⟨z, hz, ez⟩ := List.mem_map.1 a
          rw [← ez]; exact h.path z hz
        · rw [List.mem_singleton] at a; rw [a]; exact hp
      · rw [hm, List.nodup_append]
        exact ⟨h.nodup, by simp, fun a ha b hb e => by rw [List.mem_singleton] at hb; subst hb; subst e; exact hno ha⟩
theorem growOk_all (most : Nat) : ∀ (l : List RawS) {s : TreeS}, GrowOk most s → GrowOk most (l.foldl (growStep most) s)
  | [], _, h => h
  | r :: l, _, h => growOk_all most l (growOk_step h r)
theorem treeP_nodup (l : List RawS) (most : Nat) : ((treeP l most).map (·.path)).Nodup :=
  (List.Perm.nodup_iff ((treeP_perm l most).map _)).2 (growOk_all most l (growOk_start most)).nodup
theorem treeP_length (l : List RawS) (most : Nat) : (treeP l most).length ≤ most := by
  rw [(treeP_perm l most).length_eq]; exact (growOk_all most l (growOk_start most)).len
/-- whatever order of what was grown is sorted is the tree -/
theorem treeP_of {l : List RawS} {most : Nat} {m : List NodeP} (hp : m.Perm (growAll most l).t) (hs : m.Pairwise (fun x y => cmpS x.path y.path ≤ 0)) : m = treeP l most :=
  sorted_one (hp.trans (treeP_perm l most).symm) hs (treeP_sorted l most) ((List.Perm.nodup_iff (hp.map _)).2 (growOk_all most l (growOk_start most)).nodup)
end Go.Proofs.YtjglenhhgbokbaaDoor
