/-
  The laws PadBack, PadStrict: what they compute is true. Condition: at most 1048576 bytes.
-/
import Derived.Test.YtjbpoijefkbllaaGreatDoorPads
import Derived.Test.YtjbpoijefkbllaaGreatDoorSum
import Derived.Test.YtjbpoijefkbllaaGreatDoorFields
namespace Go.Proofs.YtjbpoijefkbllaaGreatDoor
open Go.RowKit

def padB (l : List UInt8) : List UInt8 := l ++ List.replicate (lackN l.length) 0
theorem fillL_map (l : List UInt8) : fillL (l.map ofB) = (padB l).map ofB := by
  unfold fillL padB
  rw [List.map_append, List.map_replicate, List.length_map]; rfl
theorem padB_length (l : List UInt8) : (padB l).length = kN l.length * 512 := by
  unfold padB lackN kN; simp; omega
theorem ownL {w : World} {base : Nat} {v : Value} {l : List UInt8} (h : w.ownsRow base 5 1 v l.length ((l.map ofB).map (.int .u8))) : BytesAt w w.heap.size v l := own_at h rfl

theorem Fill_bytes (v : Value) (l : List UInt8) (B : Nat) (w : World) (hl : BytesAt w B v l) (hB : B ≤ w.heap.size) (hn : l.length ≤ 1000000000) :
    Calls Tryz.prog 52 #[v] w fun e w' => ∃ v', e = .returned v' ∧ w'.ownsRow w.heap.size 5 1 v' (padB l).length (((padB l).map ofB).map (.int .u8)) ∧ Below w.heap.size w w' := by
  refine (Fill_any v (l.map ofB) B w hl hB (by rw [List.length_map]; exact hn)).mono fun e w' ⟨v', h1, h2, h3⟩ => ⟨v', h1, ?_, h3⟩
  rw [fillL_map, List.length_map] at h2
  exact h2
/-- what was filled up is cut off again -/
theorem PCut_pad (v : Value) (l m : List UInt8) (w : World) (hl : BytesAt w w.heap.size v (padB l ++ m)) (hn : l.length ≤ 10000000) (hm : m.length ≤ 10000000) :
    Calls Tryz.prog 100 #[v, .int .i64 l.length] w fun e w' => ∃ v1 v2, e = .returned (.tuple #[v1, v2, .int .i64 0]) ∧ BytesAt w' w'.heap.size v1 l ∧ BytesAt w' w'.heap.size v2 m ∧ Below w.heap.size w w' := by
  have hl' := hl
  obtain ⟨A, c, e, h1, h2, h3, hr⟩ := hl'
  rw [List.length_map] at e h1 hr
  rcases A with _ | ad
  · have h0 : padB l ++ m = [] := by
      rcases Nat.eq_zero_or_pos (padB l ++ m).length with h | h
      · exact List.eq_nil_of_length_eq_zero h
      · obtain ⟨_, h, _⟩ := hr.2 h
        cases h
    obtain rfl : c = 0 := h3 rfl
    rw [h0] at e
    rw [e]
    have hl0 : l = [] := by
      cases l with
      | nil => rfl
      | cons b l => simp [padB] at h0
    have hm0 : m = [] := (List.append_eq_nil_iff.1 h0).2
    subst hl0 hm0
    exact (PCut_nil w).mono fun e w' ⟨h1, h2⟩ => ⟨_, _, h1, IntsAt.nil _ _ _, IntsAt.nil _ _ _, h2⟩
  · subst e
    have hp := padB_length l
    have ht : (padB l ++ m).take l.length = l := by unfold padB; rw [List.append_assoc, List.take_left]
    have hd : (padB l ++ m).drop (kN l.length * 512) = m := by rw [← hp, List.drop_left]
    have := PCut_ok ad (padB l ++ m) l.length c w hl hn (by rw [List.length_append]; omega) (by rw [List.length_append]; unfold kN at hp; omega) (by
      intro b hb
      have hx : ((padB l ++ m).drop l.length).take (kN l.length * 512 - l.length) = List.replicate (lackN l.length) 0 := by
        have hq : kN l.length * 512 - l.length = lackN l.length := by rw [← hp]; unfold padB; simp
        rw [hq]
        unfold padB
        rw [List.append_assoc, List.drop_left, List.take_append_of_le_length (by simp), List.take_of_length_le (by simp)]
      rw [hx] at hb
      exact List.eq_of_mem_replicate hb)
    rw [ht, hd] at this
    exact this

end Go.Proofs.YtjbpoijefkbllaaGreatDoor
