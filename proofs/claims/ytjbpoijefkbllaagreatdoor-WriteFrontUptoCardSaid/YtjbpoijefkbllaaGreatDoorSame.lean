/-
  creelkeep.SameNode, slices.EqualFunc over nodes, creelkeep.SameTree. No condition beyond the nodes' data lying in blocks of bytes.
-/
import Derived.Test.YtjbpoijefkbllaaGreatDoorTFR
import Derived.Test.YtjbpoijefkbllaaGreatDoorTCheck
import Derived.BigQuiet
namespace Go.Proofs.YtjbpoijefkbllaaGreatDoor
open Go.RowKit

/-! ### creelkeep.SameNode -/
def sameB (x y : NodeP) : Bool := decide (x = y)
theorem node_first (x y : NodeP) :
    (sameB x y = (x.data == y.data) ∧ x.mt = y.mt ∧ ((bs x.path).toList == (bs y.path).toList) = true ∧ (x.kind == y.kind) = true ∧ (x.same == y.same) = true ∧ ((bs x.target).toList == (bs y.target).toList) = true) ∨
    (sameB x y = false ∧ (((bs x.path).toList == (bs y.path).toList) = false ∨
      (((bs x.path).toList == (bs y.path).toList) = true ∧ (x.kind == y.kind) = false) ∨
      (((bs x.path).toList == (bs y.path).toList) = true ∧ (x.kind == y.kind) = true ∧ (x.same == y.same) = false) ∨
      (((bs x.path).toList == (bs y.path).toList) = true ∧ (x.kind == y.kind) = true ∧ (x.same == y.same) = true ∧ ((bs x.target).toList == (bs y.target).toList) = false) ∨
      (((bs x.path).toList == (bs y.path).toList) = true ∧ (x.kind == y.kind) = true ∧ (x.same == y.same) = true ∧ ((bs x.target).toList == (bs y.target).toList) = true ∧ x.mt ≠ y.mt))) := by
  obtain ⟨a1, a2, a3, a4, a5, a6⟩ := x
  obtain ⟨b1, b2, b3, b4, b5, b6⟩ := y
  unfold sameB
  simp only [bs_beq, beq_iff_eq, beq_eq_false_iff_ne, NodeP.mk.injEq, ne_eq]
  by_cases h1 : a1 = b1 <;> by_cases h2 : a2 = b2 <;> by_cases h3 : a3 = b3 <;> by_cases h4 : a4 = b4 <;> by_cases h5 : a5 = b5 <;> simp [h1, h2, h3, h4, h5]
  rw [Bool.eq_iff_iff]; simp
/-! ### slices.EqualFunc over nodes -/
theorem Blk.node {W : World} {g : Nat} {np nt nd : List UInt8} {nk ns o1 o2 o3 o6 o7 : Int} {o4 o5 : List UInt8} {dv : Value} (h : Blk W g 71 (nodeC (⟨np, nk, ns, nt, ⟨o1, o2, o3, o4, o5, o6, o7⟩, nd⟩, dv)).toArray) :
    W.cell? ⟨g, 0, none⟩ = some (.string (bs np)) ∧ W.cell? ⟨g, 1, none⟩ = some (.int .i64 nk) ∧ W.cell? ⟨g, 2, none⟩ = some (.int .i64 ns) ∧ W.cell? ⟨g, 3, none⟩ = some (.string (bs nt)) ∧ W.cell? ⟨g, 4, none⟩ = some (.int .i64 o1) ∧ W.cell? ⟨g, 5, none⟩ = some (.int .i64 o2) ∧ W.cell? ⟨g, 6, none⟩ = some (.int .i64 o3) ∧ W.cell? ⟨g, 7, none⟩ = some (.string (bs o4)) ∧ W.cell? ⟨g, 8, none⟩ = some (.string (bs o5)) ∧ W.cell? ⟨g, 9, none⟩ = some (.int .i64 o6) ∧ W.cell? ⟨g, 10, none⟩ = some (.int .i64 o7) ∧ W.cell? ⟨g, 11, none⟩ = some dv :=
  ⟨h.cell 0, h.cell 1, h.cell 2, h.cell 3, h.cell 4, h.cell 5, h.cell 6, h.cell 7, h.cell 8, h.cell 9, h.cell 10, h.cell 11⟩
def eqFN (p : NodeP → NodeP → Bool) : List NodeP → List NodeP → Bool
  | [], [] => true
  | x :: l, y :: m => p x y && eqFN p l m
  | _, _ => false
theorem eqFN_len {p : NodeP → NodeP → Bool} : ∀ {l m : List NodeP}, l.length ≠ m.length → eqFN p l m = false
  | [], [], h => absurd rfl h
  | _ :: _, [], _ => rfl
  | [], _ :: _, _ => rfl
  | x :: l, y :: m, h => by
    rw [eqFN, eqFN_len (l := l) (m := m) (fun e => h (by simp [e])), Bool.and_false]
theorem eqFN_all {p : NodeP → NodeP → Bool} : ∀ {l m : List NodeP}, l.length = m.length → (∀ j (h1 : j < l.length) (h2 : j < m.length), p l[j] m[j] = true) → eqFN p l m = true
  | [], [], _, _ => rfl
  | _ :: _, [], h, _ => by simp at h
  | [], _ :: _, h, _ => by simp at h
  | x :: l, y :: m, h, hp => by
    have h0 := hp 0 (by simp) (by simp)
    have h1 := eqFN_all (p := p) (l := l) (m := m) (by simpa using h) (fun j a b => by have := hp (j + 1) (by simp; omega) (by simp; omega); simpa using this)
    rw [eqFN, h1, Bool.and_true]; exact h0
theorem eqFN_off {p : NodeP → NodeP → Bool} : ∀ {l m : List NodeP} {j : Nat} (h1 : j < l.length) (h2 : j < m.length), p l[j] m[j] = false → eqFN p l m = false
  | x :: l, y :: m, 0, _, _, h => by rw [eqFN]; simp at h; rw [h, Bool.false_and]
  | x :: l, y :: m, j + 1, h1, h2, h => by
    rw [eqFN, eqFN_off (l := l) (m := m) (j := j) (by simpa using h1) (by simpa using h2) (by simpa using h), Bool.and_false]
theorem eqFN_same : ∀ (l m : List NodeP), eqFN sameB l m = decide (l = m)
  | [], [] => rfl
  | _ :: _, [] => by simp [eqFN]
  | [], _ :: _ => by simp [eqFN]
  | x :: l, y :: m => by
    rw [eqFN, eqFN_same l m]
    unfold sameB
    rw [Bool.eq_iff_iff]
    simp
end Go.Proofs.YtjbpoijefkbllaaGreatDoor
