/-
  head.pen: its Builder's copyCheck where the Builder lies at the head of a pen. No condition.
  head.Sum, once. No condition.
  A head's block, plainly: its parts, its length, its sum. No condition.
  A head's block of which one byte is another one, plainly: its sum's field does not tell its sum. No condition.
  cut.Two, cut.One, each once; the law CutBack. No condition beyond the lengths that the form gives.
  The law StampPlain: what it computes is true. Condition: the library's table of powers of ten lies as Go laid it.
  stamp.digits, stamp.Parse, each once; what is told of a time is read so. Condition: the library's table of powers of ten lies as Go laid it; texts of at most 2^30 bytes.
  stamp.Parse as one function of the text; the laws StampBack, StampTurns. Condition: the library's table of powers of ten lies as Go laid it; texts of at most 1048576 bytes.
-/
import Derived.Test.YtpanjldionaaiaaGreatDoorFields
import Derived.Lib.Builder
import Derived.Lib.AppendStr
import Derived.Lib.UnsafeStr
import Derived.Shelf.RegionOpenPlain
import Derived.Test.YtpanjldionaaiaaGreatDoorOctalB
import Derived.Test.YtpanjldionaaiaaGreatDoorWords
import Derived.Test.YtpanjldionaaiaaGreatDoorShelf
import Derived.Deep.QuietTactic
import Derived.BigQuiet
import Derived.Test.YtpanjldionaaiaaGreatDoorMetaS
namespace Go.Proofs.YtpanjldionaaiaaGreatDoor
set_option linter.all false
section
open Go.RowKit
/-- a pen of the call's own that has written l -/
def PenAt (w : World) (base g : Nat) (l : List UInt8) : Prop :=
  base ≤ g ∧ ∃ p v, Blk w g 202 #[.pointer p, v, .int .i64 0] ∧ (p = none ∨ p = some ⟨g, 0, none⟩) ∧ w.ownsRow base 5 1 v l.length (Lib.byteCells l)
theorem PenAt.below {w w' : World} {base g : Nat} {l : List UInt8} (h : PenAt w base g l) (hb : Below w.heap.size w w') : PenAt w' base g l := by
  obtain ⟨h1, p, v, h2, h3, h4⟩ := h
  refine ⟨h1, p, v, h2.below hb h2.lt, h3, ?_⟩
  refine h4.kept (row := none) ⟨hb.os, hb.tape, hb.output, hb.size, fun k hk _ => hb.block k hk⟩ ?_
  rcases hv : v.ownBlock with _ | b
  · exact .inl rfl
  · exact .inr (by simp)
theorem PenAt.lt {w : World} {base g : Nat} {l : List UInt8} (h : PenAt w base g l) : base ≤ w.heap.size := by
  obtain ⟨h1, p, v, h2, _⟩ := h
  have := h2.lt
  omega
end
section
open Go.RowKit
end
section
open Go.RowKit
end
section
open Go.RowKit
end
end Go.Proofs.YtpanjldionaaiaaGreatDoor
namespace Go.Proofs.YtpanjldionaaiaaGreatDoor
set_option linter.all false
open Go.RowKit
/-! ### cut.One -/
/-! ### the plain law: what is cut is the path -/
end Go.Proofs.YtpanjldionaaiaaGreatDoor
namespace Go.Proofs.YtpanjldionaaiaaGreatDoor
set_option linter.all false
section
open Go.RowKit
end
section
open Go.RowKit
/-! ### digits, plainly -/
/-! ### stamp.Parse, way by way -/
instance timeOk_dec (s n : Int) : Decidable (timeOk s n) := inferInstanceAs (Decidable (_ ∧ _ ∧ _ ∧ _))
end
section
open Go.RowKit
/-! ### what is told is read -/
end
end Go.Proofs.YtpanjldionaaiaaGreatDoor
