/-
  head.eye's methods, each once. No condition.
-/
import Derived.Test.YtnbggojmbdgkmaaDoorField
namespace Go.Proofs.YtnbggojmbdgkmaaDoor
open Go.RowKit

abbrev Eye (w : World) (g : Nat) (l : List UInt8) (e : Int) : Prop := Blk w g 100 #[.string (bs l), .int .i64 e]
set_option maxRecDepth 100000 in
set_option maxHeartbeats 400000 in
theorem take_any (g : Nat) (a b : List UInt8) (e : Int) (n : Nat) (hn : n = a.length) (w : World) (h : Eye w g (a ++ b) e) :
    Calls Tryd.prog 55 #[.pointer (some ⟨g, 0, none⟩), .int .i64 n] w fun x w' => x = .returned (.string (bs a)) ∧ w' = w.setCell ⟨g, 0, none⟩ (.string (bs b)) := by
  subst hn
  have hz := bs_size (a ++ b)
  rw [List.length_append] at hz
  have x1 : (bs (a ++ b)).extract 0 a.length = bs a := by rw [bs_extract]; simp
  have x2 : (bs (a ++ b)).extract a.length (a.length + b.length) = bs b := by
    rw [bs_extract]; simp
  have c0 := h.cell 0
  have z0 := h.frozen 0
  have t1 : a.length ≤ (bs (a ++ b)).size := by omega
  generalize bs (a ++ b) = bl at *
  generalize a.length = n at *
  generalize bs a = ba at *
  generalize bs b = bb at *
  go_enter Tryd.func55, Tryd.ntmps55
  go_wp2_with fail
  go_ret
  exact ⟨rfl, rfl⟩
set_option maxRecDepth 100000 in
theorem note_ok (g : Nat) (l : List UInt8) (c : Int) (w : World) (h : Eye w g l 0) :
    Calls Tryd.prog 56 #[.pointer (some ⟨g, 0, none⟩), .int .i64 c] w fun x w' => x = .returned (.tuple #[]) ∧ w' = w.setCell ⟨g, 1, none⟩ (.int .i64 c) := by
  have c0 := h.cell 1
  have z0 := h.frozen 1
  go_enter Tryd.func56, Tryd.ntmps56
  go_wp2_with fail
  refine bodyPost_end (results_none rfl _ _ _) rfl ?_
  exact ⟨rfl, rfl⟩
set_option maxRecDepth 100000 in
theorem note_bad (g : Nat) (l : List UInt8) (e : Int) (he : e ≠ 0) (c : Int) (w : World) (h : Eye w g l e) :
    Calls Tryd.prog 56 #[.pointer (some ⟨g, 0, none⟩), .int .i64 c] w fun x w' => x = .returned (.tuple #[]) ∧ w' = w := by
  have c0 := h.cell 1
  have e1 : (e == 0) = false := beq_eq_false_iff_ne.2 he
  go_enter Tryd.func56, Tryd.ntmps56
  go_wp2_with fail
  refine bodyPost_end (results_none rfl _ _ _) rfl ?_
  exact ⟨rfl, rfl⟩
theorem Eye.set0 {w : World} {g : Nat} {l : List UInt8} {e : Int} (h : Eye w g l e) (b : List UInt8) : Eye (w.setCell ⟨g, 0, none⟩ (.string (bs b))) g b e := by
  have := Blk.set_ h 0 (.string (bs b))
  simpa using this
theorem Eye.set1 {w : World} {g : Nat} {l : List UInt8} {e : Int} (h : Eye w g l e) (c : Int) : Eye (w.setCell ⟨g, 1, none⟩ (.int .i64 c)) g l c := by
  have := Blk.set_ h 1 (.int .i64 c)
  simpa using this

/-- nothing that was there has turned but block g -/
structure Only (g : Nat) (w w' : World) : Prop where
  os : w'.os = w.os
  tape : w'.tape = w.tape
  output : w'.output = w.output
  size : w.heap.size ≤ w'.heap.size
  block : ∀ k, k < w.heap.size → k ≠ g → w'.heap[k]? = w.heap[k]?
theorem Only.refl (g : Nat) (w : World) : Only g w w := ⟨rfl, rfl, rfl, Nat.le_refl _, fun _ _ _ => rfl⟩
theorem Only.trans {g : Nat} {a b c : World} (h : Only g a b) (k : Only g b c) : Only g a c :=
  ⟨k.os.trans h.os, k.tape.trans h.tape, k.output.trans h.output, Nat.le_trans h.size k.size, fun i hi hn => (k.block i (Nat.lt_of_lt_of_le hi h.size) hn).trans (h.block i hi hn)⟩
theorem Only.set_ {g : Nat} {a w : World} (h : Only g a w) (i : Nat) (u : Value) : Only g a (w.setCell ⟨g, i, none⟩ u) :=
  h.trans ⟨rfl, rfl, rfl, by simp [World.setCell], fun k _ hn => Below.heap_setCell _ _ _ _ hn⟩
theorem Only.quiet {g : Nat} {a w w' : World} (h : Only g a w) (hb : Below w.heap.size w w') : Only g a w' :=
  h.trans ⟨hb.os, hb.tape, hb.output, hb.size, fun k hk _ => hb.block k hk⟩
theorem Only.below {g B : Nat} {w w' : World} (h : Only g w w') (hB : B ≤ g) (hs : B ≤ w.heap.size) : Below B w w' :=
  ⟨h.os, h.tape, h.output, h.size, fun k hk => h.block k (by omega) (by omega)⟩
theorem Only.blk {g b : Nat} {w w' : World} {t : TypeId} {cs : Array Value} (h : Only g w w') (hb : Blk w b t cs) (hn : b ≠ g) : Blk w' b t cs := (h.block b hb.lt hn).trans hb
theorem Only.hasBlk {g b n : Nat} {w w' : World} {t : TypeId} (h : Only g w w') (hb : HasBlk w b t n) (hn : b ≠ g) : HasBlk w' b t n := by
  obtain ⟨cs, hs, hb⟩ := hb
  exact ⟨cs, hs, h.blk hb hn⟩
end Go.Proofs.YtnbggojmbdgkmaaDoor
