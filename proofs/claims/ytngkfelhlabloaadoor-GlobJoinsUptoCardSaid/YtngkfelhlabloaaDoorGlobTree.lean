/-
  The laws GlobSelf and GlobStars: what they compute is true. Condition: raw things of the second form's bound.
-/
import Derived.Test.YtngkfelhlabloaaDoorPathNear
import Derived.Test.YtngkfelhlabloaaDoorGlobPlain
namespace Go.Proofs.YtngkfelhlabloaaDoor
open Go.RowKit

theorem joinC_ge : ∀ {ps : List (List UInt8)}, ps ≠ [] → (∀ q ∈ ps, q ≠ []) → 2 * ps.length ≤ (joinC 47 ps).length + 1
  | [], h, _ => absurd rfl h
  | [q], _, h => by
    have : 0 < q.length := List.length_pos_iff.2 (h q (by simp))
    simp only [joinC, List.length_cons, List.length_nil]; omega
  | q :: r :: ps, _, h => by
    have h1 : 0 < q.length := List.length_pos_iff.2 (h q (by simp))
    have h2 := joinC_ge (ps := r :: ps) (by simp) (fun z hz => h z (by simp [hz]))
    rw [joinC, List.length_append, List.length_cons]
    simp only [List.length_cons] at h2 ⊢
    omega
theorem parts_few {p : List UInt8} (h : PartsOk p) : 2 * (splitC 47 p).length ≤ p.length + 1 := by
  have h2 := joinC_ge (splitC_ne 47 p) (fun q hq => (namesL_ok q (h.2 q hq)).1)
  rwa [join_split] at h2
theorem bs_eqb (a b : List UInt8) : ((bs a).toList == (bs b).toList) = (a == b) := by rw [bs_toList, bs_toList]
end Go.Proofs.YtngkfelhlabloaaDoor
