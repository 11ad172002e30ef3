/-
  append(x, make([]T, m)...), elements of one cell: the zeros stand behind what was there. Plain lemmas over any program (after the library's lemma on append of a slice).
  The laws PadBack, PadStrict: what they compute is true. Condition: at most 1048576 bytes.
  member, plainly: the head and the records of a member that may be; what they say is the member again. No program in sight, no condition.
  head.Write, once. Condition: a head that may be.
-/
import Derived.Test.YtpanjldionaaiaaGreatDoorWords
import Derived.Maps.AppendAt
import Derived.IntWalk
import Derived.Test.YtpanjldionaaiaaGreatDoorPathW
import Derived.Test.YtpanjldionaaiaaGreatDoorOctalB
import Derived.Deep.RegionLaw
import Derived.Test.YtpanjldionaaiaaGreatDoorSum
import Derived.Test.YtpanjldionaaiaaGreatDoorFields
import Derived.Test.YtpanjldionaaiaaGreatDoorRecsQ
import Derived.Test.YtpanjldionaaiaaGreatDoorStampQ
import Derived.Test.YtpanjldionaaiaaGreatDoorEnts
import Derived.Deep.QuietTactic
import Derived.BigQuiet
namespace Go.Proofs.YtpanjldionaaiaaGreatDoor
set_option linter.all false
section
section
open Go.RowKit
section
variable {P : Program} (w : World)
end
end
section
open Go.RowKit
/-! ### slices.Concat at []byte -/
end
section
open Go.RowKit
/-- a part of a slice of bytes -/
theorem BytesAt.part {w : World} {B c : Nat} {ad : Addr} {l : List UInt8} (h : BytesAt w B (.slice (some ad) l.length c) l) (a b : Nat) (hab : a ≤ b) (hb : b ≤ l.length) :
    BytesAt w B (.slice (some (if c = a then ad else ad.add a)) (b - a) (c - a)) ((l.drop a).take (b - a)) := by
  obtain ⟨A, c2, e, h1, h2, h3, hr⟩ := h
  rw [List.length_map] at e h1 hr
  cases e
  have hl : (((l.drop a).take (b - a)).map ofB).length = b - a := by rw [List.length_map, List.length_take, List.length_drop]; omega
  refine ⟨_, _, by rw [hl], by rw [hl]; omega, by unfold maxLen at *; omega, (fun h => by cases h), by rw [hl, List.length_map, hl, Nat.mul_one], fun h0 => ?_⟩
  rw [hl] at h0
  obtain ⟨ad', e, hb', hc⟩ := hr.2 (by omega)
  cases e
  have hca : c ≠ a := by omega
  refine ⟨_, rfl, by rw [if_neg hca, block_of_add]; exact hb', fun j u hu => ?_⟩
  rw [if_neg hca, add_of_add]
  refine hc _ u ?_
  rw [← hu]
  simp only [List.getElem?_map]
  rw [List.getElem?_take, List.getElem?_drop]
  by_cases hj : j < b - a
  · rw [if_pos hj]
  · exfalso
    rw [List.getElem?_map, List.getElem?_map, List.getElem?_take, if_neg hj] at hu
    cases hu
/-- append of a part onto nothing, within a region that draws -/
theorem own_at {w : World} {base n : Nat} {v : Value} {l : List UInt8} (h : w.ownsRow base 5 1 v n ((l.map ofB).map (.int .u8))) (hn : n = l.length) : BytesAt w w.heap.size v l := by
  subst hn
  refine IntsAt.of_own (base := base) (e := 5) ?_
  rw [List.length_map]; exact h
end
end
section
open Go.RowKit
theorem ownL {w : World} {base : Nat} {v : Value} {l : List UInt8} (h : w.ownsRow base 5 1 v l.length ((l.map ofB).map (.int .u8))) : BytesAt w w.heap.size v l := own_at h rfl
end
end Go.Proofs.YtpanjldionaaiaaGreatDoor
namespace Go.Proofs.YtpanjldionaaiaaGreatDoor
set_option linter.all false
open Go.RowKit
/-! ### the records may be -/
/-! ### the records' order -/
/-! ### what they say -/
/-! ### the bytes -/
end Go.Proofs.YtpanjldionaaiaaGreatDoor
namespace Go.Proofs.YtpanjldionaaiaaGreatDoor
set_option linter.all false
open Go.RowKit
structure HWr (w0 w : World) (G : Nat) (cs : Array Value) (l : List UInt8) : Prop where
  pen : PenAt w G G l
  arg : Blk w w0.heap.size 133 cs
  below : Below w0.heap.size w0 w
  at_ : G = w0.heap.size + 1
theorem HWr.put {w0 w w' : World} {G : Nat} {cs : Array Value} {l m : List UInt8} (h : HWr w0 w G cs l) (hp : PenAt w' G G m) (hb : Below G w w') : HWr w0 w' G cs m :=
  ⟨hp, h.arg.below hb (by have := h.at_; omega), h.below.trans (hb.mono (by have := h.at_; omega)), h.at_⟩
end Go.Proofs.YtpanjldionaaiaaGreatDoor
