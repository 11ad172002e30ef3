/-
  octal.Most, octal.Write, octal.Read, each once; no condition beyond the ranges named.
  The laws OctalBack, OctalRises, OctalOver: their walks. No condition.
  A string to bytes and back. No condition.
-/
import Derived.Test.YtphmhmdcaafmdaaGreatDoorWords
import Derived.Test.YtphmhmdcaafmdaaGreatDoorShelf
import Derived.Lib.SmallJoins
import Derived.Laws.BytesArg
import Derived.Laws.IdiomStrings
namespace Go.Proofs.YtphmhmdcaafmdaaGreatDoor
set_option linter.all false
section
open Go.RowKit
/-- the lowest j octal digits of n, the highest first -/
def low : Nat → Nat → List UInt8
  | 0, _ => []
  | j + 1, n => UInt8.ofNat (48 + n / 8 ^ j % 8) :: low j n
def ofB (b : UInt8) : Int := (b.toNat : Int)
/-! ### octal.Read -/
end
section
open Go.RowKit
/-! ### order -/
/-! ### one digit more -/
end
section
open Go.RowKit
/-- the cells of a new array that bears these bytes first -/
def Bears (C : Array Value) (l : List UInt8) : Prop := ∀ j (hj : j < l.length), C[j]? = some (.int .u8 (l[j].toNat : Int))
theorem Bears.set_ {C : Array Value} {l : List UInt8} (h : Bears C l) (k : Nat) (c : UInt8) : Bears (C.setIfInBounds k (.int .u8 c.toNat)) (l.set k c) := by
  intro j hj
  rw [List.length_set] at hj
  have h1 := h j hj
  rw [Array.getElem?_setIfInBounds, List.getElem_set]
  by_cases e : k = j
  · subst e
    have : k < C.size := (Array.getElem?_eq_some_iff.1 h1).1
    simp [this]
  · simp [e, h1]
theorem conv_sb (l : List UInt8) (w : World) (hl : l.length ≤ 4611686018427387904) : ∃ (c n : Nat) (C : Array Value), l.length ≤ c ∧ c ≤ maxLen ∧ C.size = n ∧ l.length ≤ n ∧ Bears C l ∧
    (convert 9 27 (.string (bs l))).run Tryz.prog w = .ok (.slice (some ⟨w.heap.size, 0, none⟩) l.length c) (w.drew.alloc (.cells C 5 (n, n + 1))) := by
  have h := run_bytes_of_string (P := Tryz.prog) w 9 27 5 (bs l) Tryz.underlying9 Tryz.underlying27 Tryz.underlying5
  rw [bs_size] at h
  refine ⟨_, _, bytesRow (bs l) (grownCap w l.length 0 5), grownCap_ge _ _ _ _, grownCap_le_maxLen _ _ _ _ (by unfold maxLen; omega), rfl, ?_, fun j hj => ?_, h⟩
  · unfold bytesRow
    have : (bs l).data.size = l.length := bs_size l
    simp [this]
  · have hj' : j < (bs l).data.size := by have : (bs l).data.size = l.length := bs_size l; omega
    rw [bytesRow_at (bs l) _ j hj']
    rfl
/-! ### bytes in memory -/
/-- a slice of bytes: nil let in -/
def BytesAt (w : World) (B : Nat) (v : Value) (l : List UInt8) : Prop := IntsAt .u8 w B v (l.map ofB)
theorem conv_str {w : World} {B : Nat} {v : Value} {l : List UInt8} (h : BytesAt w B v l) :
    (convert 27 9 v).run Tryz.prog w = .ok (.string (bs l)) w := by
  obtain ⟨A, c, rfl, h1, h2, h3, hr⟩ := h
  rw [List.length_map]
  rcases A with _ | ad
  · have hl : l = [] := by
      cases l with
      | nil => rfl
      | cons b l =>
        obtain ⟨ad, e, _⟩ := hr.2 (by simp)
        cases e
    subst hl
    exact run_convert_bytes_nil (P := Tryz.prog) w 27 5 Tryz.underlying27 Tryz.underlying5 0 c 9 Tryz.underlying9
  · refine run_convert_bytes_back (P := Tryz.prog) w 27 9 5 ad c l Tryz.underlying27 Tryz.underlying5 Tryz.underlying9 (fun j hj => ?_)
    obtain ⟨ad', e, _, hc⟩ := hr.2 (by rw [List.length_map]; omega)
    cases e
    exact hc j _ (by rw [List.getElem?_map, List.getElem?_map, List.getElem?_eq_getElem hj]; rfl)
end
end Go.Proofs.YtphmhmdcaafmdaaGreatDoor
