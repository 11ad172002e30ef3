/-
  Records as they lie in a slice; their keys' order; pax.Check, pax.Find at records that may be. Condition: at most 12 records.
  strings.Builder as a variable of the call's own: copyCheck, WriteString, String. No condition.
  pax.Check, pax.Find, pax.Write, pax.Read at records that may be, each once. Condition: at most 12 records; the library's table of powers of ten lies as Go laid it.
-/
import Derived.Test.YtpanjldionaaiaaGreatDoorRecd
import Derived.Test.YtpanjldionaaiaaGreatDoorRawW
import Derived.Test.YtpanjldionaaiaaGreatDoorNodesG
import Derived.Test.YtpanjldionaaiaaGreatDoorTreeS
import Derived.Test.YtpanjldionaaiaaGreatDoorFields
import Derived.Lib.Builder
import Derived.Lib.AppendStr
import Derived.Lib.UnsafeStr
import Derived.Shelf.RegionOpenPlain
import Derived.Deep.QuietTactic
import Derived.BigQuiet
import Derived.Test.YtpanjldionaaiaaGreatDoorTreeE
import Derived.IntWalk
namespace Go.Proofs.YtpanjldionaaiaaGreatDoor
set_option linter.all false
section
open Go.RowKit
def recC (r : RecS) : List Value := [.string (bs r.key), .string (bs r.value)]
/-- a slice of records: nil let in -/
def RecsAt (w : World) (v : Value) (l : List RecS) : Prop :=
  ∃ A c, v = .slice A l.length c ∧ l.length ≤ c ∧ c ≤ maxLen ∧ (A = none → c = 0) ∧ Reads w w.heap.size 2 A l.length (l.flatMap recC)
theorem RecsAt.below {w w' : World} {v : Value} {l : List RecS} (h : RecsAt w v l) (hb : Below w.heap.size w w') : RecsAt w' v l := by
  obtain ⟨A, c, h1, h2, h3, h4, h5⟩ := h
  exact ⟨A, c, h1, h2, h3, h4, (h5.below hb).more hb.size⟩
theorem RecsAt.nil (w : World) : RecsAt w (.slice none 0 0) [] := ⟨none, 0, rfl, by simp, by simp, fun _ => rfl, Reads.none_⟩
/-- a row of the call's own -/
def RecsOwn (w : World) (base : Nat) (v : Value) (l : List RecS) : Prop := w.ownsRow base 198 2 v l.length (l.flatMap recC)
theorem RecsOwn.below {w w' : World} {base : Nat} {v : Value} {l : List RecS} (h : RecsOwn w base v l) (hb : Below w.heap.size w w') : RecsOwn w' base v l := ownsRow_below h hb
theorem RecsOwn.at_ {w : World} {base : Nat} {v : Value} {l : List RecS} (h : RecsOwn w base v l) : RecsAt w v l := by
  obtain ⟨A, c, rfl, h1, h2, h3, h4⟩ := ownsRow_read h
  exact ⟨A, c, rfl, h1, h2, h3, h4⟩
/-! ### the order of keys -/
end
section
open Go.RowKit
/-- a builder of the call's own that has written l -/
def BldAt (w : World) (base g : Nat) (l : List UInt8) : Prop :=
  base ≤ g ∧ ∃ p v, Blk w g 154 #[.pointer p, v] ∧ (p = none ∨ p = some ⟨g, 0, none⟩) ∧ w.ownsRow base 5 1 v l.length (Lib.byteCells l)
theorem BldAt.below {w w' : World} {base g : Nat} {l : List UInt8} (h : BldAt w base g l) (hb : Below w.heap.size w w') : BldAt w' base g l := by
  obtain ⟨h1, p, v, h2, h3, h4⟩ := h
  refine ⟨h1, p, v, h2.below hb h2.lt, h3, ?_⟩
  refine h4.kept (row := none) ⟨hb.os, hb.tape, hb.output, hb.size, fun k hk _ => hb.block k hk⟩ ?_
  rcases hv : v.ownBlock with _ | b
  · exact .inl rfl
  · exact .inr (by simp)
theorem BldAt.lt {w : World} {base g : Nat} {l : List UInt8} (h : BldAt w base g l) : base ≤ w.heap.size := by
  obtain ⟨h1, p, v, h2, _⟩ := h
  have := h2.lt
  omega
theorem BldAt.new (w : World) (B : Nat) (hB : B ≤ w.heap.size) : BldAt (w.alloc (.cells #[.pointer none, .slice none 0 0] 154)) B w.heap.size [] :=
  ⟨hB, none, .slice none 0 0, Blk.new _ _ _, .inl rfl, World.ownsRow_nil _ _ _ _⟩
end
section
open Go.RowKit
/-- in the loop of pax.Write -/
def PwSt (w0 : World) (g : Nat) (t : List UInt8) (w : World) : Prop := Below w0.heap.size w0 w ∧ BldAt w g g t ∧ w0.heap.size = g
theorem PwSt.below {w0 w w' : World} {g : Nat} {t : List UInt8} (h : PwSt w0 g t w) (hb : Below w.heap.size w w') : PwSt w0 g t w' := ⟨h.1.trans (hb.mono h.1.size), h.2.1.below hb, h.2.2⟩
end
end Go.Proofs.YtpanjldionaaiaaGreatDoor
