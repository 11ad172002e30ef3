/-
  tree.Find, tree.alike: each once. No condition.
  tree.Right over nodes that may be. No condition beyond the world's shape.
-/
import Derived.Test.YtphmhmdcaafmdaaGreatDoorTreeV
import Derived.Test.YtphmhmdcaafmdaaGreatDoorNodesG
namespace Go.Proofs.YtphmhmdcaafmdaaGreatDoor
set_option linter.all false
section
open Go.RowKit
/-! ### equality of what is told -/
theorem meta_first (m m' : MetaP) :
    (m = m' ∧ (m.mode == m'.mode) = true ∧ (m.uid == m'.uid) = true ∧ (m.gid == m'.gid) = true ∧ ((bs m.user).toList == (bs m'.user).toList) = true ∧ ((bs m.group).toList == (bs m'.group).toList) = true ∧ (m.second == m'.second) = true ∧ (m.nano == m'.nano) = true) ∨
    (m ≠ m' ∧ ((m.mode == m'.mode) = false ∨
      ((m.mode == m'.mode) = true ∧ (m.uid == m'.uid) = false) ∨
      ((m.mode == m'.mode) = true ∧ (m.uid == m'.uid) = true ∧ (m.gid == m'.gid) = false) ∨
      ((m.mode == m'.mode) = true ∧ (m.uid == m'.uid) = true ∧ (m.gid == m'.gid) = true ∧ ((bs m.user).toList == (bs m'.user).toList) = false) ∨
      ((m.mode == m'.mode) = true ∧ (m.uid == m'.uid) = true ∧ (m.gid == m'.gid) = true ∧ ((bs m.user).toList == (bs m'.user).toList) = true ∧ ((bs m.group).toList == (bs m'.group).toList) = false) ∨
      ((m.mode == m'.mode) = true ∧ (m.uid == m'.uid) = true ∧ (m.gid == m'.gid) = true ∧ ((bs m.user).toList == (bs m'.user).toList) = true ∧ ((bs m.group).toList == (bs m'.group).toList) = true ∧ (m.second == m'.second) = false) ∨
      ((m.mode == m'.mode) = true ∧ (m.uid == m'.uid) = true ∧ (m.gid == m'.gid) = true ∧ ((bs m.user).toList == (bs m'.user).toList) = true ∧ ((bs m.group).toList == (bs m'.group).toList) = true ∧ (m.second == m'.second) = true ∧ (m.nano == m'.nano) = false))) := by
  obtain ⟨a1, a2, a3, a4, a5, a6, a7⟩ := m
  obtain ⟨b1, b2, b3, b4, b5, b6, b7⟩ := m'
  simp only [bs_beq, beq_iff_eq, beq_eq_false_iff_ne, MetaP.mk.injEq, ne_eq]
  by_cases h1 : a1 = b1 <;> by_cases h2 : a2 = b2 <;> by_cases h3 : a3 = b3 <;> by_cases h4 : a4 = b4 <;> by_cases h5 : a5 = b5 <;> by_cases h6 : a6 = b6 <;> by_cases h7 : a7 = b7 <;> simp [h1, h2, h3, h4, h5, h6, h7]
end
section
open Go.RowKit
end
end Go.Proofs.YtphmhmdcaafmdaaGreatDoor
