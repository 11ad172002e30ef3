/-
  path.In: whether a path lies in another one; the law PathInside. No condition beyond the lengths that the form itself gives.
-/
import Derived.Test.YtpibgdgcgflooaaFrame
import Derived.Test.YtpibgdgcgflooaaA1
import Derived.Test.YtpibgdgcgflooaaShelf
namespace Go.Proofs.Ytpibgdgcgflooaa
open Go.RowKit

/-- path.In, plainly -/
def inB (s d : List UInt8) : Bool := if d.isEmpty && !s.isEmpty then true else Lib.hasPrefix s (d ++ [47])

set_option maxHeartbeats 400000 in
theorem In_any (s d : ByteArray) (hd : d.size ≤ 4611686018427387904) (w : World) :
    Calls Try.prog 17 #[.string s, .string d] w fun e w' => e = .returned (.bool (inB s.data.toList d.data.toList)) ∧ w = w' := by
  by_cases h1 : d.toList = []
  · by_cases h2 : s.toList = []
    · have fin := Lib.hid (show inB s.data.toList d.data.toList = Lib.hasPrefix s.data.toList (d.data.toList ++ [47]) by
        rw [← Lib.toList_data, ← Lib.toList_data, h1, h2]; rfl)
      go_enter Try.func17, Try.ntmps17
      go_wp2_with (go_at_call 23; refine (Try.strings_HasPrefix _ _ _).mono ?_; rintro e w' ⟨rfl, rfl⟩)
      go_ret
      exact ⟨ret_bool (by rw [fin.out]), rfl⟩
    · have fin := Lib.hid (show inB s.data.toList d.data.toList = true by
        rw [← Lib.toList_data, ← Lib.toList_data, h1]; simp [inB, h2])
      go_enter Try.func17, Try.ntmps17
      go_wp2_with (go_at_call 23; refine (Try.strings_HasPrefix _ _ _).mono ?_; rintro e w' ⟨rfl, rfl⟩)
      go_ret
      exact ⟨ret_bool (by rw [fin.out]), rfl⟩
  · have fin := Lib.hid (show inB s.data.toList d.data.toList = Lib.hasPrefix s.data.toList (d.data.toList ++ [47]) by
      rw [← Lib.toList_data, ← Lib.toList_data]; simp [inB, h1])
    go_enter Try.func17, Try.ntmps17
    go_wp2_with (go_at_call 23; refine (Try.strings_HasPrefix _ _ _).mono ?_; rintro e w' ⟨rfl, rfl⟩)
    go_ret
    exact ⟨ret_bool (by rw [fin.out]), rfl⟩

theorem hasPrefix_append (p r : List UInt8) : Lib.hasPrefix (p ++ r) p = true := by
  unfold Lib.hasPrefix
  exact List.isPrefixOf_iff_prefix.2 (List.prefix_append _ _)
theorem hasPrefix_long (s p : List UInt8) (h : s.length < p.length) : Lib.hasPrefix s p = false := by
  unfold Lib.hasPrefix
  rw [Bool.eq_false_iff]
  intro h2
  have := (List.isPrefixOf_iff_prefix.1 h2).length_le
  omega
theorem inB_of (a r : List UInt8) : inB (a ++ [47] ++ r) a = true := by
  unfold inB
  split
  · rfl
  · exact hasPrefix_append _ _
theorem inB_not (a s : List UInt8) (h : a.length ≤ s.length) : inB a s = false := by
  unfold inB
  rw [if_neg, hasPrefix_long]
  · simp; omega
  · cases a <;> cases s <;> simp at h ⊢

set_option maxHeartbeats 400000 in
theorem PathInside_walk (a : ByteArray) (ha : a.size ≤ reachBytes) (b : ByteArray) (hb : b.size ≤ reachBytes) (c : ByteArray) (hc : c.size ≤ reachBytes) (w : World) (_hsh : w.ShapedOpen Try.prog) :
    Calls Try.prog 4 #[.string a, .string b, .string c] w fun e w' => e = .returned (.bool true) ∧ Below w.heap.size w w' := by
  have hr : reachBytes ≤ 140737488355328 := by decide
  have k1 : inB [97, 47, 98, 47, 99] [97] = true := by decide
  have k2 : inB [97, 98] [97] = false := by decide
  have k3 : inB a.data.toList a.data.toList = false := inB_not _ _ (Nat.le_refl _)
  have k4 : inB (a.data.toList ++ [47] ++ b.data.toList ++ [47] ++ c.data.toList) a.data.toList = true := by
    have := inB_of a.data.toList (b.data.toList ++ [47] ++ c.data.toList)
    simpa using this
  have k5 : inB (a.data.toList ++ [47] ++ b.data.toList ++ [47] ++ c.data.toList) (a.data.toList ++ [47] ++ b.data.toList) = true := by
    have := inB_of (a.data.toList ++ [47] ++ b.data.toList) c.data.toList
    simpa using this
  have k6 : inB (a.data.toList ++ [47] ++ b.data.toList) a.data.toList = true := inB_of _ _
  have k7 : inB a.data.toList (a.data.toList ++ [47] ++ b.data.toList ++ [47] ++ c.data.toList) = false := inB_not _ _ (by simp)
  simp only [List.append_assoc, List.cons_append, List.nil_append] at k4 k5 k6 k7
  go_enter Try.func4, Try.ntmps4
  go_wp2_with (go_at_call 17; refine (In_any _ _ ?_ _).mono ?_; (first | decide | omega | (rw [Lib.size_eq]; simp; omega)); rintro e w' ⟨rfl, rfl⟩)
  go_ret
  exact ⟨rfl, Below.refl _ _⟩
end Go.Proofs.Ytpibgdgcgflooaa
