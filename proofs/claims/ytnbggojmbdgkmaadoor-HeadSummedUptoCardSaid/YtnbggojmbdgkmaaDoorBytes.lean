/-
  A string to bytes and back. No condition.
-/
import Derived.Test.YtnbggojmbdgkmaaDoorStr
import Derived.Laws.IdiomStrings
namespace Go.Proofs.YtnbggojmbdgkmaaDoor
open Go.RowKit

/-- the cells of a new array that bears these bytes first -/
def Bears (C : Array Value) (l : List UInt8) : Prop := ∀ j (hj : j < l.length), C[j]? = some (.int .u8 (l[j].toNat : Int))
theorem Bears.set_ {C : Array Value} {l : List UInt8} (h : Bears C l) (k : Nat) (c : UInt8) : Bears (C.setIfInBounds k (.int .u8 c.toNat)) (l.set k c) := by
  intro j hj
  rw [List.length_set] at hj
  have h1 := h j hj
  rw [Array.getElem?_setIfInBounds, List.getElem_set]
  by_cases e : k = j
  · subst e
    have : k < C.size := (Array.getElem?_eq_some_iff.1 h1).1
    simp [this]
  · simp [e, h1]
theorem conv_sb (l : List UInt8) (w : World) (hl : l.length ≤ 4611686018427387904) : ∃ (c n : Nat) (C : Array Value), l.length ≤ c ∧ c ≤ maxLen ∧ C.size = n ∧ l.length ≤ n ∧ Bears C l ∧
    (convert 9 30 (.string (bs l))).run Tryd.prog w = .ok (.slice (some ⟨w.heap.size, 0, none⟩) l.length c) (w.drew.alloc (.cells C 5 (n, n + 1))) := by
  have h := run_bytes_of_string (P := Tryd.prog) w 9 30 5 (bs l) Tryd.underlying9 Tryd.underlying30 Tryd.underlying5
  rw [bs_size] at h
  refine ⟨_, _, bytesRow (bs l) (grownCap w l.length 0 5), grownCap_ge _ _ _ _, grownCap_le_maxLen _ _ _ _ (by unfold maxLen; omega), rfl, ?_, fun j hj => ?_, h⟩
  · unfold bytesRow
    have : (bs l).data.size = l.length := bs_size l
    simp [this]
  · have hj' : j < (bs l).data.size := by have : (bs l).data.size = l.length := bs_size l; omega
    rw [bytesRow_at (bs l) _ j hj']
    rfl
/-- a block that bears bytes, made into a string -/
theorem conv_bs (l : List UInt8) (w : World) (g c : Nat) (C : Array Value) (t : TypeId) (fr : Nat × Nat) (h : w.heap[g]? = some (.cells C t fr)) (hC : Bears C l) :
    (convert 30 9 (.slice (some ⟨g, 0, none⟩) l.length c)).run Tryd.prog w = .ok (.string (bs l)) w := by
  refine run_convert_bytes_back (P := Tryd.prog) w 30 9 5 ⟨g, 0, none⟩ c l Tryd.underlying30 Tryd.underlying5 Tryd.underlying9 (fun j hj => ?_)
  have e : (⟨g, 0, none⟩ : Addr).add j = ⟨g, j, none⟩ := by unfold Addr.add; split <;> simp_all
  rw [e, cell_of_row w g j C t fr h]
  exact hC j hj
end Go.Proofs.YtnbggojmbdgkmaaDoor
