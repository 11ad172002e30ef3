/-
  record.Check, record.Write at keys of ASCII, each once; creelkeep.recorded. Condition: the library's table of powers of ten lies as Go laid it.
  creelkeep.recorded, once; the law RecordLong. Condition: the library's table of powers of ten lies as Go laid it; a text of at most 1048576 bytes.
  The law RecordLong: what it computes is true. Condition: the library's table of powers of ten lies as Go laid it; a text of at most 1048576 bytes.
  record.Read at a record's own text with anything behind it. Condition: the library's table of powers of ten lies as Go laid it; a text of at most 1048576 bytes.
  record.Read at a record's own text with anything behind it: the record, what is behind it. The law RecordBack. Condition: the library's table of powers of ten lies as Go laid it; a text of at most 1048576 bytes.
-/
import Derived.Test.YtpanjldionaaiaaGreatDoorRawW
import Derived.Test.YtpanjldionaaiaaGreatDoorFields
import Derived.Test.YtpanjldionaaiaaGreatDoorMetaS
import Derived.Deep.RegionHeld3
import Derived.Shelf.Strings.SlTrimAscii
namespace Go.Proofs.YtpanjldionaaiaaGreatDoor
set_option linter.all false
section
open Go.RowKit
structure RecS where
  key : List UInt8
  value : List UInt8
/-! ### record.Write -/
end
section
open Go.RowKit
abbrev SRec (G : Nat) (a b : Int) (bt : ByteArray) (W0 w' : World) : Prop :=
  w'.cell? ⟨G, 1, none⟩ = some (.int .i64 a) ∧ w'.cell? ⟨G, 2, none⟩ = some (.int .i64 b) ∧ w'.cell? ⟨G, 3, none⟩ = some (.string bt) ∧ w'.cell? ⟨G + 1, 0, none⟩ = some (peek w' ⟨G + 1, 0, none⟩) ∧ w'.cell? ⟨G + 1, 1, none⟩ = some (peek w' ⟨G + 1, 1, none⟩) ∧ w'.frozen? ⟨G + 1, 0, none⟩ = false ∧ w'.frozen? ⟨G + 1, 1, none⟩ = false ∧ Below (G + 1) W0 w' ∧ G + 2 ≤ w'.heap.size
theorem SRec.below {G : Nat} {a b : Int} {bt : ByteArray} {W0 w1 w2 : World} (h : SRec G a b bt W0 w1) (hb : Below w1.heap.size w1 w2) : SRec G a b bt W0 w2 := by
  obtain ⟨h1, h2, h3, h4, h5, h6, h7, h8, h9⟩ := h
  have c := fun (n : Nat) => hb.cell (p := ⟨G, n, none⟩) (show G < w1.heap.size by omega)
  have d := fun (n : Nat) => hb.cell (p := ⟨G + 1, n, none⟩) (show G + 1 < w1.heap.size by omega)
  have f := fun (n : Nat) => hb.frozen (p := ⟨G + 1, n, none⟩) (show G + 1 < w1.heap.size by omega)
  exact ⟨(c 1).trans h1, (c 2).trans h2, (c 3).trans h3, peek_some ((d 0).trans h4), peek_some ((d 1).trans h5), (f 0).trans h6, (f 1).trans h7, h8.trans (hb.mono (by omega)), Nat.le_trans h9 hb.size⟩
theorem SRec.drew {G : Nat} {a b : Int} {bt : ByteArray} {W0 w1 : World} (h : SRec G a b bt W0 w1) : SRec G a b bt W0 w1.drew := h.below ((Below.refl _ _).drew)
theorem SRec.stored {G : Nat} {a b : Int} {bt : ByteArray} {W0 w1 : World} (u v : Value) (h : SRec G a b bt W0 w1) : SRec G a b bt W0 ((w1.setCell ⟨G + 1, 0, none⟩ u).setCell ⟨G + 1, 1, none⟩ v) := by
  obtain ⟨h1, h2, h3, h4, h5, h6, h7, h8, h9⟩ := h
  have hb : Below (G + 1) w1 ((w1.setCell ⟨G + 1, 0, none⟩ u).setCell ⟨G + 1, 1, none⟩ v) := ((Below.refl _ w1).setCell (p := ⟨G + 1, 0, none⟩) (Nat.le_refl _) u).setCell (p := ⟨G + 1, 1, none⟩) (Nat.le_refl _) v
  have c := fun (n : Nat) => hb.cell (p := ⟨G, n, none⟩) (Nat.lt_succ_self G)
  refine ⟨(c 1).trans h1, (c 2).trans h2, (c 3).trans h3, ?_, ?_, ?_, ?_, h8.trans hb, Nat.le_trans h9 hb.size⟩
  · obtain ⟨x, hx⟩ := cell?_setCell_some (w := w1) (p := ⟨G + 1, 0, none⟩) (x := u) (q := ⟨G + 1, 0, none⟩) h4
    obtain ⟨y, hy⟩ := cell?_setCell_some (w := w1.setCell ⟨G + 1, 0, none⟩ u) (p := ⟨G + 1, 1, none⟩) (x := v) (q := ⟨G + 1, 0, none⟩) hx
    exact peek_some hy
  · obtain ⟨x, hx⟩ := cell?_setCell_some (w := w1) (p := ⟨G + 1, 0, none⟩) (x := u) (q := ⟨G + 1, 1, none⟩) h5
    obtain ⟨y, hy⟩ := cell?_setCell_some (w := w1.setCell ⟨G + 1, 0, none⟩ u) (p := ⟨G + 1, 1, none⟩) (x := v) (q := ⟨G + 1, 1, none⟩) hx
    exact peek_some hy
  · simpa using h6
  · simpa using h7
end
section
open Go.RowKit
end
section
open Go.RowKit
end
section
open Go.RowKit
end
end Go.Proofs.YtpanjldionaaiaaGreatDoor
