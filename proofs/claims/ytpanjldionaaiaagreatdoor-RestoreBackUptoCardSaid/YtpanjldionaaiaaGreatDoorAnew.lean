/-
  The law ReadTorn: what it computes is true. Condition: raw things of the second form's bound; the library's table of powers of ten lies as Go laid it.
  creelkeep.SameEntry; slices.Equal over records. No condition beyond the data lying in blocks of bytes.
  slices.EqualFunc over members by creelkeep.SameEntry: a list is the same as itself, lying elsewhere. No condition.
  The law WriteBack: what it computes is true. Condition: raw things of the second form's bound; the library's table of powers of ten lies as Go laid it.
  link.Anew: files that are one told by the place of the first one. Condition: a tree that passes tree.Check, its nodes each by themselves.
-/
import Derived.Test.YtpanjldionaaiaaGreatDoorArcRd
import Derived.Test.YtpanjldionaaiaaGreatDoorArchW
import Derived.Test.YtpanjldionaaiaaGreatDoorEnts
import Derived.Test.YtpanjldionaaiaaGreatDoorRecsQ
import Derived.Test.YtpanjldionaaiaaGreatDoorTFR
import Derived.BigQuiet
import Derived.Deep.QuietTactic
import Derived.Test.YtpanjldionaaiaaGreatDoorPChecksS
import Derived.Test.YtpanjldionaaiaaGreatDoorPut
import Derived.Test.YtpanjldionaaiaaGreatDoorLinks
namespace Go.Proofs.YtpanjldionaaiaaGreatDoor
set_option linter.all false
open Go.RowKit
theorem endB_len : endB.length = 1024 := List.length_replicate
theorem allZ_end {l : List UInt8} (h : ∀ b ∈ l, b = 0) : allZ l = true := by
  unfold allZ
  rw [List.all_eq_true]
  intro b hb
  rw [h b hb]; rfl
theorem end_take {k : Nat} : ∀ b ∈ endB.take k, b = 0 := fun b hb => List.eq_of_mem_replicate (List.mem_of_mem_take hb)
end Go.Proofs.YtpanjldionaaiaaGreatDoor
namespace Go.Proofs.YtpanjldionaaiaaGreatDoor
set_option linter.all false
open Go.RowKit
/-! ### slices.Equal over records -/
end Go.Proofs.YtpanjldionaaiaaGreatDoor
namespace Go.Proofs.YtpanjldionaaiaaGreatDoor
set_option linter.all false
open Go.RowKit
end Go.Proofs.YtpanjldionaaiaaGreatDoor
namespace Go.Proofs.YtpanjldionaaiaaGreatDoor
set_option linter.all false
open Go.RowKit
theorem endT_end : endT endB = true := by
  unfold endT
  rw [endB_len, allZ_end (l := endB) (fun _ hb => List.eq_of_mem_replicate hb)]
  rfl
theorem tail_end : TailOk endB 0 := .inr (.inl ⟨rfl, by rw [endB_len]; omega, allZ_end end_take⟩)
/-- what is archived is read as it was -/
theorem Archive_back (x : List EntP) (hok : EntsOk x) (v : Value) (w : World) (hm : ∀ W, Below w.heap.size w W → ML W) (h10 : ∀ W, Below w.heap.size w W → P10 W) (hv : BytesAt w w.heap.size v (arcB x ++ endB)) :
    Calls Tryz.prog 37 #[v] w fun e w' => ∃ lv, e = .returned (.tuple #[lv, .int .i64 0]) ∧ EntsOwn w' w.heap.size lv x ∧ Below w.heap.size w w' := by
  refine (Archive_any x hok.ent hok.len endB (fun _ => hok) tail_end (by rw [endB_len]; omega) v w hm h10 hv).mono fun e w' hh => ?_
  rcases hh with ⟨-, h⟩ | ⟨h, -⟩
  · exact h
  · rw [endT_end] at h; cases h
end Go.Proofs.YtpanjldionaaiaaGreatDoor
namespace Go.Proofs.YtpanjldionaaiaaGreatDoor
set_option linter.all false
open Go.RowKit
def setSame (x : NodeP) (s : Int) : NodeP := ⟨x.path, x.kind, s, x.target, x.mt, x.data⟩
def anewS (t : List NodeP) (i : Nat) : Int := if 1 < (firstsP t).count (firstAt t i : Int) then (firstAt t i : Int) + 1 else 0
def anewAt (t : List NodeP) (i : Nat) : NodeP := setSame (t.getD i default) (anewS t i)
def anewP (t : List NodeP) : List NodeP := (List.range t.length).map (anewAt t)
theorem anewP_length (t : List NodeP) : (anewP t).length = t.length := by simp [anewP]
theorem anewP_at {t : List NodeP} {i : Nat} (hi : i < t.length) : (anewP t)[i]'(by rw [anewP_length]; exact hi) = anewAt t i := by simp [anewP]
end Go.Proofs.YtpanjldionaaiaaGreatDoor
