/-
  path.In: whether a path lies in another one; the law PathInside. No condition beyond the lengths that the form itself gives.
-/
import Derived.Test.YtjglenhhgbokbaaDoorFrame
import Derived.Test.YtjglenhhgbokbaaDoorA1
import Derived.Test.YtjglenhhgbokbaaDoorShelf
namespace Go.Proofs.YtjglenhhgbokbaaDoor
open Go.RowKit

/-- path.In, plainly -/
def inB (s d : List UInt8) : Bool := if d.isEmpty && !s.isEmpty then true else Lib.hasPrefix s (d ++ [47])

set_option maxHeartbeats 400000 in
theorem In_any (s d : ByteArray) (hd : d.size ≤ 4611686018427387904) (w : World) :
    Calls Tryd.prog 56 #[.string s, .string d] w fun e w' => e = .returned (.bool (inB s.data.toList d.data.toList)) ∧ w = w' := by
  by_cases h1 : d.toList = []
  · by_cases h2 : s.toList = []
    · have fin := Lib.hid (show inB s.data.toList d.data.toList = Lib.hasPrefix s.data.toList (d.data.toList ++ [47]) by
        rw [← Lib.toList_data, ← Lib.toList_data, h1, h2]; rfl)
      go_enter Tryd.func56, Tryd.ntmps56
      go_wp2_with (go_at_call 68; refine (Tryd.strings_HasPrefix _ _ _).mono ?_; rintro e w' ⟨rfl, rfl⟩)
      go_ret
      exact ⟨ret_bool (by rw [fin.out]), rfl⟩
    · have fin := Lib.hid (show inB s.data.toList d.data.toList = true by
        rw [← Lib.toList_data, ← Lib.toList_data, h1]; simp [inB, h2])
      go_enter Tryd.func56, Tryd.ntmps56
      go_wp2_with (go_at_call 68; refine (Tryd.strings_HasPrefix _ _ _).mono ?_; rintro e w' ⟨rfl, rfl⟩)
      go_ret
      exact ⟨ret_bool (by rw [fin.out]), rfl⟩
  · have fin := Lib.hid (show inB s.data.toList d.data.toList = Lib.hasPrefix s.data.toList (d.data.toList ++ [47]) by
      rw [← Lib.toList_data, ← Lib.toList_data]; simp [inB, h1])
    go_enter Tryd.func56, Tryd.ntmps56
    go_wp2_with (go_at_call 68; refine (Tryd.strings_HasPrefix _ _ _).mono ?_; rintro e w' ⟨rfl, rfl⟩)
    go_ret
    exact ⟨ret_bool (by rw [fin.out]), rfl⟩

theorem hasPrefix_append (p r : List UInt8) : Lib.hasPrefix (p ++ r) p = true := by
  unfold Lib.hasPrefix
  exact List.isPrefixOf_iff_prefix.2 (List.prefix_append _ _)
theorem hasPrefix_long (s p : List UInt8) (h : s.length < p.length) : Lib.hasPrefix s p = false := by
  unfold Lib.hasPrefix
  rw [Bool.eq_false_iff]
  intro h2
  have := (List.isPrefixOf_iff_prefix.1 h2).length_le
  omega
theorem inB_of (a r : List UInt8) : inB (a ++ [47] ++ r) a = true := by
  unfold inB
  split
  · rfl
  · exact hasPrefix_append _ _
theorem inB_not (a s : List UInt8) (h : a.length ≤ s.length) : inB a s = false := by
  unfold inB
  rw [if_neg, hasPrefix_long]
  · simp; omega
  · cases a <;> cases s <;> simp at h ⊢

end Go.Proofs.YtjglenhhgbokbaaDoor
