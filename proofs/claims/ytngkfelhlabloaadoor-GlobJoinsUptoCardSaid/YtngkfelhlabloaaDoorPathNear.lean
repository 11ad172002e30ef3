/-
  The law PathNear: what it computes is true. Condition: raw things of the second form's bound.
-/
import Derived.Test.YtngkfelhlabloaaDoorPaths
import Derived.Test.YtngkfelhlabloaaDoorGrowP
import Derived.Deep.QuietTactic
import Derived.BigQuiet
namespace Go.Proofs.YtngkfelhlabloaaDoor
open Go.RowKit

theorem pathsL_ok (l : List RawS) (most : Nat) : ∀ p ∈ pathsL l most, PartsOk p ∧ p.length ≤ 400 := fun p hp => by
  unfold pathsL at hp
  rcases List.mem_cons.1 hp with rfl | hp
  · exact ⟨⟨by simp, by decide⟩, by simp⟩
  · obtain ⟨x, hx, rfl⟩ := List.mem_map.1 hp
    exact treeP_parts l most x hx
/-- one path, picked -/
theorem pick_path {l : List (List UInt8)} (hl : 1 ≤ l.length) (hl2 : l.length ≤ 41) (a : Int) (ha : I64 a) : ∃ k : Nat, k < l.length ∧ (∀ w, Calls Tryd.prog 16 #[.int .i64 a, .int .i64 l.length] w fun e w' => e = .returned (.int .i64 k) ∧ ∃ n, w' = w.drewN n) := by
  obtain ⟨k, hk, bk⟩ := pick_nat a l.length hl
  refine ⟨k, bk, fun w => ?_⟩
  have h := picked_any a l.length ha (by omega) (by omega) w
  rw [hk] at h
  exact h.mono fun e w' ⟨h1, h2⟩ => ⟨h1, 0, h2.symm⟩
end Go.Proofs.YtngkfelhlabloaaDoor
