/-
  Two heads compared by ==. No condition.
-/
import Derived.Test.YtmioinfhggbfkaaDoorHeadWrite
namespace Go.Proofs.YtmioinfhggbfkaaDoor
set_option linter.all false
open Go.RowKit

theorem head_first (h i : PHead) : (h = i ∧ ((bs h.name).toList == (bs i.name).toList) = true ∧ ((bs h.pre).toList == (bs i.pre).toList) = true ∧ ((bs h.link).toList == (bs i.link).toList) = true ∧ ((h.mode : Int) == (i.mode : Int)) = true ∧ ((h.uid : Int) == (i.uid : Int)) = true ∧ ((h.gid : Int) == (i.gid : Int)) = true ∧ ((h.size : Int) == (i.size : Int)) = true ∧ ((h.time : Int) == (i.time : Int)) = true ∧ ((h.type.toNat : Int) == (i.type.toNat : Int)) = true ∧ ((bs h.user).toList == (bs i.user).toList) = true ∧ ((bs h.group).toList == (bs i.group).toList) = true) ∨ (h ≠ i ∧ ((((bs h.name).toList == (bs i.name).toList) = false) ∨ (((bs h.name).toList == (bs i.name).toList) = true ∧ ((bs h.pre).toList == (bs i.pre).toList) = false) ∨ (((bs h.name).toList == (bs i.name).toList) = true ∧ ((bs h.pre).toList == (bs i.pre).toList) = true ∧ ((bs h.link).toList == (bs i.link).toList) = false) ∨ (((bs h.name).toList == (bs i.name).toList) = true ∧ ((bs h.pre).toList == (bs i.pre).toList) = true ∧ ((bs h.link).toList == (bs i.link).toList) = true ∧ ((h.mode : Int) == (i.mode : Int)) = false) ∨ (((bs h.name).toList == (bs i.name).toList) = true ∧ ((bs h.pre).toList == (bs i.pre).toList) = true ∧ ((bs h.link).toList == (bs i.link).toList) = true ∧ ((h.mode : Int) == (i.mode : Int)) = true ∧ ((h.uid : Int) == (i.uid : Int)) = false) ∨ (((bs h.name).toList == (bs i.name).toList) = true ∧ ((bs h.pre).toList == (bs i.pre).toList) = true ∧ ((bs h.link).toList == (bs i.link).toList) = true ∧ ((h.mode : Int) == (i.mode : Int)) = true ∧ ((h.uid : Int) == (i.uid : Int)) = true ∧ ((h.gid : Int) == (i.gid : Int)) = false) ∨ (((bs h.name).toList == (bs i.name).toList) = true ∧ ((bs h.pre).toList == (bs i.pre).toList) = true ∧ ((bs h.link).toList == (bs i.link).toList) = true ∧ ((h.mode : Int) == (i.mode : Int)) = true ∧ ((h.uid : Int) == (i.uid : Int)) = true ∧ ((h.gid : Int) == (i.gid : Int)) = true ∧ ((h.size : Int) == (i.size : Int)) = false) ∨ (((bs h.name).toList == (bs i.name).toList) = true ∧ ((bs h.pre).toList == (bs i.pre).toList) = true ∧ ((bs h.link).toList == (bs i.link).toList) = true ∧ ((h.mode : Int) == (i.mode : Int)) = true ∧ ((h.uid : Int) == (i.uid : Int)) = true ∧ ((h.gid : Int) == (i.gid : Int)) = true ∧ ((h.size : Int) == (i.size : Int)) = true ∧ ((h.time : Int) == (i.time : Int)) = false) ∨ (((bs h.name).toList == (bs i.name).toList) = true ∧ ((bs h.pre).toList == (bs i.pre).toList) = true ∧ ((bs h.link).toList == (bs i.link).toList) = true ∧ ((h.mode : Int) == (i.mode : Int)) = true ∧ ((h.uid : Int) == (i.uid : Int)) = true ∧ ((h.gid : Int) == (i.gid : Int)) = true ∧ ((h.size : Int) == (i.size : Int)) = true ∧ ((h.time : Int) == (i.time : Int)) = true ∧ ((h.type.toNat : Int) == (i.type.toNat : Int)) = false) ∨ (((bs h.name).toList == (bs i.name).toList) = true ∧ ((bs h.pre).toList == (bs i.pre).toList) = true ∧ ((bs h.link).toList == (bs i.link).toList) = true ∧ ((h.mode : Int) == (i.mode : Int)) = true ∧ ((h.uid : Int) == (i.uid : Int)) = true ∧ ((h.gid : Int) == (i.gid : Int)) = true ∧ ((h.size : Int) == (i.size : Int)) = true ∧ ((h.time : Int) == (i.time : Int)) = true ∧ ((h.type.toNat : Int) == (i.type.toNat : Int)) = true ∧ ((bs h.user).toList == (bs i.user).toList) = false) ∨ (((bs h.name).toList == (bs i.name).toList) = true ∧ ((bs h.pre).toList == (bs i.pre).toList) = true ∧ ((bs h.link).toList == (bs i.link).toList) = true ∧ ((h.mode : Int) == (i.mode : Int)) = true ∧ ((h.uid : Int) == (i.uid : Int)) = true ∧ ((h.gid : Int) == (i.gid : Int)) = true ∧ ((h.size : Int) == (i.size : Int)) = true ∧ ((h.time : Int) == (i.time : Int)) = true ∧ ((h.type.toNat : Int) == (i.type.toNat : Int)) = true ∧ ((bs h.user).toList == (bs i.user).toList) = true ∧ ((bs h.group).toList == (bs i.group).toList) = false))) := by
  obtain ⟨a1, a2, a3, a4, a5, a6, a7, a8, a9, a10, a11⟩ := h
  obtain ⟨b1, b2, b3, b4, b5, b6, b7, b8, b9, b10, b11⟩ := i
  have e9 : ((a9.toNat : Int) == (b9.toNat : Int)) = (a9 == b9) := by
    rw [Bool.eq_iff_iff, beq_iff_eq, beq_iff_eq]
    constructor
    · intro h; exact UInt8.toNat_inj.1 (by omega)
    · intro h; rw [h]
  simp only [bs_beq, e9, beq_iff_eq, beq_eq_false_iff_ne, PHead.mk.injEq, ne_eq, Int.natCast_inj]
  by_cases h1 : a1 = b1
  case neg => simp [h1]
  by_cases h2 : a2 = b2
  case neg => simp [h1, h2]
  by_cases h3 : a3 = b3
  case neg => simp [h1, h2, h3]
  by_cases h4 : a4 = b4
  case neg => simp [h1, h2, h3, h4]
  by_cases h5 : a5 = b5
  case neg => simp [h1, h2, h3, h4, h5]
  by_cases h6 : a6 = b6
  case neg => simp [h1, h2, h3, h4, h5, h6]
  by_cases h7 : a7 = b7
  case neg => simp [h1, h2, h3, h4, h5, h6, h7]
  by_cases h8 : a8 = b8
  case neg => simp [h1, h2, h3, h4, h5, h6, h7, h8]
  by_cases h9 : a9 = b9
  case neg => simp [h1, h2, h3, h4, h5, h6, h7, h8, h9]
  by_cases h10 : a10 = b10
  case neg => simp [h1, h2, h3, h4, h5, h6, h7, h8, h9, h10]
  by_cases h11 : a11 = b11
  case neg => simp [h1, h2, h3, h4, h5, h6, h7, h8, h9, h10, h11]
  simp [h1, h2, h3, h4, h5, h6, h7, h8, h9, h10, h11]
open Classical in
noncomputable def eqH (h i : PHead) : Bool := decide (h = i)
theorem eqH_true {h i : PHead} (e : h = i) : eqH h i = true := by unfold eqH; simp [e]
theorem eqH_false {h i : PHead} (e : h ≠ i) : eqH h i = false := by unfold eqH; simp [e]
set_option maxRecDepth 100000 in
set_option maxHeartbeats 2000000 in
theorem run_eqH (h i : PHead) (W : World) : (binOp .eql 31 (headV h) (headV i)).run Tryd.prog W = .ok (.bool (eqH h i)) W := by
  rcases head_first h i with ⟨he, q1, q2, q3, q4, q5, q6, q7, q8, q9, q10, q11⟩ | ⟨he, hq⟩
  · rw [eqH_true he]
    unfold headV headCells
    simp [go_sem, q1, q2, q3, q4, q5, q6, q7, q8, q9, q10, q11]
    done
  · rw [eqH_false he]
    unfold headV headCells
    rcases hq with q | ⟨q1, q⟩ | ⟨q1, q2, q⟩ | ⟨q1, q2, q3, q⟩ | ⟨q1, q2, q3, q4, q⟩ | ⟨q1, q2, q3, q4, q5, q⟩ | ⟨q1, q2, q3, q4, q5, q6, q⟩ | ⟨q1, q2, q3, q4, q5, q6, q7, q⟩ | ⟨q1, q2, q3, q4, q5, q6, q7, q8, q⟩ | ⟨q1, q2, q3, q4, q5, q6, q7, q8, q9, q⟩ | ⟨q1, q2, q3, q4, q5, q6, q7, q8, q9, q10, q⟩
    all_goals simp [go_sem, *]
end Go.Proofs.YtmioinfhggbfkaaDoor
