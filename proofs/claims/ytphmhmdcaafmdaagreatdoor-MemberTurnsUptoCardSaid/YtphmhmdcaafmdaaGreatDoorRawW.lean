/-
  A Raw thing by value: its four parts; what the second form's bound says of it. No condition.
  A slice of Raw things: nil let in; what the second form's bound says of it. No condition.
-/
import Derived.Test.YtphmhmdcaafmdaaGreatDoorWords
import Derived.Lib.SmallJoins
namespace Go.Proofs.YtphmhmdcaafmdaaGreatDoor
set_option linter.all false
section
open Go.Joins Go.ChangeShapes Go.WideShapes Go.RowKit
structure RawS where
  kind : Int
  a : Int
  b : Int
  text : List UInt8
def rawV (r : RawS) : Value := .agg #[.int .i64 r.kind, .int .i64 r.a, .int .i64 r.b, .string (bs r.text)]
structure RawOk (r : RawS) : Prop where
  kind : I64 r.kind
  a : I64 r.a
  b : I64 r.b
  text : r.text.length ≤ 1048576
section
variable {H : Type} {enc : TypeId × Value → H}
set_option maxRecDepth 100000 in
theorem open_raw {r : Reach} {b0 : Nat} {v : Value} {d : DataW H} {ps : List MemPlace} {w : World} {L : List (DataW H)} (hval : Value.okWide Tryz.prog w r b0 55 v) (hd : DataW.Trod enc Tryz.prog w 0 (fun _ => true) true 55 v d ps)
    (hk : Rows.uptoSmall H L = true) (hm : d ∈ L) : ∃ x : RawS, v = rawV x ∧ RawOk x := by
  obtain ⟨v0, v1, v2, v3, y0, y1, y2, y3, n, rfl, rfl, _, h0, h1, h2, h3⟩ := open_agg4 Tryz.underlying55 (by kernel_rfl) (by kernel_rfl) hval hd
  obtain ⟨n0, e0, rfl, w0⟩ := DataW.trod_int Tryz.underlying3 h0
  obtain ⟨n1, e1, rfl, w1⟩ := DataW.trod_int Tryz.underlying3 h1
  obtain ⟨n2, e2, rfl, w2⟩ := DataW.trod_int Tryz.underlying3 h2
  obtain ⟨s, e3, rfl, w3⟩ := DataW.trod_string Tryz.underlying9 h3
  simp only [List.cons.injEq, and_true] at e0 e1 e2 e3
  subst e0 e1 e2 e3
  have hb := bulks.part_le hm
  have hB := bulks.bound hk
  simp only [Rows.uptoBulk, Rows.uptoBulkAll] at hb
  have hlen : s.data.toList.length ≤ 1048576 := by omega
  exact ⟨⟨n0, n1, n2, s.data.toList⟩, rfl, ⟨i64_of_wf w0, i64_of_wf w1, i64_of_wf w2, hlen⟩⟩
end
end
section
open Go.Joins Go.ChangeShapes Go.WideShapes Go.RowKit Go.Deep
def rawCells (r : RawS) : List Value := [.int .i64 r.kind, .int .i64 r.a, .int .i64 r.b, .string (bs r.text)]
/-- a slice of Raw things: nil let in -/
def RawsAt (w : World) (B : Nat) (v : Value) (l : List RawS) : Prop :=
  ∃ A c, v = .slice A l.length c ∧ l.length ≤ c ∧ c ≤ maxLen ∧ (A = none → c = 0) ∧ Reads w B 4 A l.length (l.flatMap rawCells)
theorem RawsAt.below {w w' : World} {B : Nat} {v : Value} {l : List RawS} (h : RawsAt w B v l) (hb : Below B w w') : RawsAt w' B v l := by
  obtain ⟨A, c, h1, h2, h3, h4, h5⟩ := h
  exact ⟨A, c, h1, h2, h3, h4, h5.below hb⟩
theorem RawsAt.more {w : World} {B B' : Nat} {v : Value} {l : List RawS} (h : RawsAt w B v l) (hb : B ≤ B') : RawsAt w B' v l := by
  obtain ⟨A, c, h1, h2, h3, h4, h5⟩ := h
  exact ⟨A, c, h1, h2, h3, h4, h5.more hb⟩
section
variable {H : Type} {enc : TypeId × Value → H}
end
end
end Go.Proofs.YtphmhmdcaafmdaaGreatDoor
