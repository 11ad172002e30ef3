/-
  A string to bytes and back. No condition.
-/
import Derived.Test.YtjglenhhgbokbaaGreatDoorStr
import Derived.Test.YtjglenhhgbokbaaGreatDoorOctal
import Derived.Lib.SmallJoins
import Derived.Laws.BytesArg
import Derived.Laws.IdiomStrings
namespace Go.Proofs.YtjglenhhgbokbaaGreatDoor
open Go.RowKit

/-- the cells of a new array that bears these bytes first -/
def Bears (C : Array Value) (l : List UInt8) : Prop := ∀ j (hj : j < l.length), C[j]? = some (.int .u8 (l[j].toNat : Int))
theorem Bears.set_ {C : Array Value} {l : List UInt8} (h : Bears C l) (k : Nat) (c : UInt8) : Bears (C.setIfInBounds k (.int .u8 c.toNat)) (l.set k c) := by
  intro j hj
  rw [List.length_set] at hj
  have h1 := h j hj
  rw [Array.getElem?_setIfInBounds, List.getElem_set]
  by_cases e : k = j
  · subst e
    have : k < C.size := (Array.getElem?_eq_some_iff.1 h1).1
    simp [this]
  · simp [e, h1]
theorem conv_sb (l : List UInt8) (w : World) (hl : l.length ≤ 4611686018427387904) : ∃ (c n : Nat) (C : Array Value), l.length ≤ c ∧ c ≤ maxLen ∧ C.size = n ∧ l.length ≤ n ∧ Bears C l ∧
    (convert 9 38 (.string (bs l))).run Tryz.prog w = .ok (.slice (some ⟨w.heap.size, 0, none⟩) l.length c) (w.drew.alloc (.cells C 5 (n, n + 1))) := by
  have h := run_bytes_of_string (P := Tryz.prog) w 9 38 5 (bs l) Tryz.underlying9 Tryz.underlying38 Tryz.underlying5
  rw [bs_size] at h
  refine ⟨_, _, bytesRow (bs l) (grownCap w l.length 0 5), grownCap_ge _ _ _ _, grownCap_le_maxLen _ _ _ _ (by unfold maxLen; omega), rfl, ?_, fun j hj => ?_, h⟩
  · unfold bytesRow
    have : (bs l).data.size = l.length := bs_size l
    simp [this]
  · have hj' : j < (bs l).data.size := by have : (bs l).data.size = l.length := bs_size l; omega
    rw [bytesRow_at (bs l) _ j hj']
    rfl
/-- a block that bears bytes, made into a string -/
theorem conv_bs (l : List UInt8) (w : World) (g c : Nat) (C : Array Value) (t : TypeId) (fr : Nat × Nat) (h : w.heap[g]? = some (.cells C t fr)) (hC : Bears C l) :
    (convert 38 9 (.slice (some ⟨g, 0, none⟩) l.length c)).run Tryz.prog w = .ok (.string (bs l)) w := by
  refine run_convert_bytes_back (P := Tryz.prog) w 38 9 5 ⟨g, 0, none⟩ c l Tryz.underlying38 Tryz.underlying5 Tryz.underlying9 (fun j hj => ?_)
  have e : (⟨g, 0, none⟩ : Addr).add j = ⟨g, j, none⟩ := by unfold Addr.add; split <;> simp_all
  rw [e, cell_of_row w g j C t fr h]
  exact hC j hj
/-! ### bytes in memory -/
theorem ofB_u8 (l : List UInt8) : ∀ n ∈ l.map ofB, U8 n := by
  intro n hn
  obtain ⟨b, _, rfl⟩ := List.mem_map.1 hn
  have := b.toNat_lt
  exact ⟨by unfold ofB; omega, by unfold ofB; omega⟩
theorem of_u8 : ∀ l : List Int, (∀ n ∈ l, U8 n) → ∃ b : List UInt8, l = b.map ofB
  | [], _ => ⟨[], rfl⟩
  | n :: l, h => by
    obtain ⟨b, rfl⟩ := of_u8 l (fun x hx => h x (by simp [hx]))
    have hn := h n (by simp)
    refine ⟨UInt8.ofNat n.toNat :: b, ?_⟩
    have : ofB (UInt8.ofNat n.toNat) = n := by
      unfold ofB; rw [UInt8.toNat_ofNat']; have := hn.1; have := hn.2; omega
    rw [List.map_cons, this]
/-- a slice of bytes: nil let in -/
def BytesAt (w : World) (B : Nat) (v : Value) (l : List UInt8) : Prop := IntsAt .u8 w B v (l.map ofB)
theorem conv_str {w : World} {B : Nat} {v : Value} {l : List UInt8} (h : BytesAt w B v l) :
    (convert 38 9 v).run Tryz.prog w = .ok (.string (bs l)) w := by
  obtain ⟨A, c, rfl, h1, h2, h3, hr⟩ := h
  rw [List.length_map]
  rcases A with _ | ad
  · have hl : l = [] := by
      cases l with
      | nil => rfl
      | cons b l =>
        obtain ⟨ad, e, _⟩ := hr.2 (by simp)
        cases e
    subst hl
    exact run_convert_bytes_nil (P := Tryz.prog) w 38 5 Tryz.underlying38 Tryz.underlying5 0 c 9 Tryz.underlying9
  · refine run_convert_bytes_back (P := Tryz.prog) w 38 9 5 ad c l Tryz.underlying38 Tryz.underlying5 Tryz.underlying9 (fun j hj => ?_)
    obtain ⟨ad', e, _, hc⟩ := hr.2 (by rw [List.length_map]; omega)
    cases e
    exact hc j _ (by rw [List.getElem?_map, List.getElem?_map, List.getElem?_eq_getElem hj]; rfl)
/-- a string made into bytes -/
theorem conv_sb_at (l : List UInt8) (w : World) (hl : l.length ≤ 4611686018427387904) : ∃ (v : Value) (W : World),
    (convert 9 38 (.string (bs l))).run Tryz.prog w = .ok v W ∧ BytesAt W W.heap.size v l ∧ Below w.heap.size w W := by
  obtain ⟨c, n, C, h1, h2, h3, h4, h5, h6⟩ := conv_sb l w hl
  refine ⟨_, _, h6, ⟨_, c, by rw [List.length_map], by rw [List.length_map]; exact h1, h2, (fun h => by cases h), ?_⟩, ((Below.refl _ w).drew).alloc (Nat.le_refl _) _⟩
  rw [List.length_map]
  refine ⟨by simp, fun _ => ⟨_, rfl, by simp, fun j u hu => ?_⟩⟩
  have hj : j < l.length := by have := (List.getElem?_eq_some_iff.1 hu).1; simpa using this
  have e : (⟨w.heap.size, 0, none⟩ : Addr).add j = ⟨w.heap.size, j, none⟩ := by unfold Addr.add; split <;> simp_all
  have hc := cell_of_row (w.drew.alloc (.cells C 5 (n, n + 1))) w.heap.size j C 5 (n, n + 1) (heap_alloc_new w.drew _)
  rw [e, hc, h5 j hj]
  rw [List.getElem?_map, List.getElem?_map, List.getElem?_eq_getElem hj] at hu
  exact hu
end Go.Proofs.YtjglenhhgbokbaaGreatDoor
