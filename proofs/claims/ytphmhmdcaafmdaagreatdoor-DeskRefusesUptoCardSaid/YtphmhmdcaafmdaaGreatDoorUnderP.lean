/-
  A tree that is put under a directory of another: what comes of it, plainly. No condition.
-/
import Derived.Test.YtphmhmdcaafmdaaGreatDoorAnewLike
import Derived.Test.YtphmhmdcaafmdaaGreatDoorPut
namespace Go.Proofs.YtphmhmdcaafmdaaGreatDoor
set_option linter.all false
open Go.RowKit
theorem tw_all {p : NodeP → Bool} : ∀ (t : List NodeP), (∀ y ∈ t, p y = true) → t.takeWhile p = t
  | [], _ => rfl
  | y :: t, h => by rw [List.takeWhile_cons, if_pos (h y List.mem_cons_self), tw_all t (fun z hz => h z (List.mem_cons_of_mem _ hz))]
theorem put_end {t : List NodeP} {x : NodeP} (h : ∀ y ∈ t, cmpP y.path x.path < 0) : putP t x = t ++ [x] := by
  have h1 : lowP t x.path = t.length := by
    unfold lowP
    rw [show t.takeWhile (fun y => decide (cmpP y.path x.path < 0)) = t from tw_all t (fun y hy => decide_eq_true (h y hy))]
  have h2 : hasAt t x.path = false := by
    unfold hasAt
    exact decide_eq_false (fun ⟨a, _⟩ => by omega)
  unfold putP
  rw [h2, h1, List.take_length]
  simp
end Go.Proofs.YtphmhmdcaafmdaaGreatDoor
