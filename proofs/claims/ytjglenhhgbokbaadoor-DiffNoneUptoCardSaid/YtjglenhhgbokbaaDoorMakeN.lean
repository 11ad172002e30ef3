/-
  Words for a region that makes a node: the bytes out of a string by name, a raw thing's block kept, a node's block filled. Plain lemmas: no condition.
-/
import Derived.Test.YtjglenhhgbokbaaDoorTreeSt
namespace Go.Proofs.YtjglenhhgbokbaaDoor
open Go.RowKit

/-! ### the bytes of a string, by name -/
theorem conv_ex (l : List UInt8) (w : World) : ∃ p : Value × World, l.length ≤ 4611686018427387904 → ((convert 9 34 (.string (bs l))).run Tryd.prog w = .ok p.1 p.2 ∧ DataAt p.2 w.heap.size p.1 l ∧ Below w.heap.size w p.2) := by
  by_cases h : l.length ≤ 4611686018427387904
  · obtain ⟨v, W, h1, h2, h3⟩ := conv_data l w h
    exact ⟨(v, W), fun _ => ⟨h1, h2, h3⟩⟩
  · exact ⟨(undef, w), fun h2 => absurd h2 h⟩
noncomputable def cvV (l : List UInt8) (w : World) : Value := (Classical.choose (conv_ex l w)).1
noncomputable def cvW (l : List UInt8) (w : World) : World := (Classical.choose (conv_ex l w)).2
section
variable {l : List UInt8} (hl : l.length ≤ 4611686018427387904) (w : World)
include hl
theorem cv_run : (convert 9 34 (.string (bs l))).run Tryd.prog w = .ok (cvV l w) (cvW l w) := (Classical.choose_spec (conv_ex l w) hl).1
theorem cv_data : DataAt (cvW l w) w.heap.size (cvV l w) l := (Classical.choose_spec (conv_ex l w) hl).2.1
theorem cv_below : Below w.heap.size w (cvW l w) := (Classical.choose_spec (conv_ex l w) hl).2.2
theorem cv_cell (b o : Nat) (h : b < w.heap.size) : (cvW l w).cell? ⟨b, o, none⟩ = w.cell? ⟨b, o, none⟩ := (cv_below hl w).cell (p := ⟨b, o, none⟩) h
theorem cv_frozen (b o : Nat) (h : b < w.heap.size) : (cvW l w).frozen? ⟨b, o, none⟩ = w.frozen? ⟨b, o, none⟩ := (cv_below hl w).frozen (p := ⟨b, o, none⟩) h
end

/-! ### a raw thing's block, kept -/
abbrev RSt (w0 : World) (g : Nat) (kd a b : Int) (bt : ByteArray) (w : World) : Prop :=
  w.cell? ⟨g, 0, none⟩ = some (.int .i64 kd) ∧ w.cell? ⟨g, 1, none⟩ = some (.int .i64 a) ∧ w.cell? ⟨g, 2, none⟩ = some (.int .i64 b) ∧ w.cell? ⟨g, 3, none⟩ = some (.string bt) ∧ g < w0.heap.size ∧ Below w0.heap.size w0 w
section
variable {w0 w w' : World} {g : Nat} {kd a b : Int} {bt : ByteArray}
theorem RSt.start (h : Blk w g 67 #[.int .i64 kd, .int .i64 a, .int .i64 b, .string bt]) : RSt w g kd a b bt w := ⟨h.cell 0, h.cell 1, h.cell 2, h.cell 3, h.lt, Below.refl _ _⟩
theorem RSt.below (h : RSt w0 g kd a b bt w) (hb : Below w.heap.size w w') : RSt w0 g kd a b bt w' := by
  obtain ⟨h0, h1, h2, h3, hg, h4⟩ := h
  have hg2 : g < w.heap.size := Nat.lt_of_lt_of_le hg h4.size
  have k : ∀ i, w'.cell? ⟨g, i, none⟩ = w.cell? ⟨g, i, none⟩ := fun i => hb.cell (p := ⟨g, i, none⟩) hg2
  exact ⟨(k 0).trans h0, (k 1).trans h1, (k 2).trans h2, (k 3).trans h3, hg, h4.trans (hb.mono h4.size)⟩
theorem RSt.alloc (h : RSt w0 g kd a b bt w) (o : Obj) : RSt w0 g kd a b bt (w.alloc o) := h.below ((Below.refl _ _).alloc (Nat.le_refl _) o)
theorem RSt.drew (h : RSt w0 g kd a b bt w) : RSt w0 g kd a b bt w.drew := h.below ((Below.refl _ _).drew)
theorem RSt.conv {l : List UInt8} (hl : l.length ≤ 4611686018427387904) (h : RSt w0 g kd a b bt w) : RSt w0 g kd a b bt (cvW l w) := h.below (cv_below hl w)
theorem RSt.set_ (h : RSt w0 g kd a b bt w) {n : Nat} (hn : w0.heap.size ≤ n) (i : Nat) (u : Value) : RSt w0 g kd a b bt (w.setCell ⟨n, i, none⟩ u) := by
  obtain ⟨h0, h1, h2, h3, hg, h4⟩ := h
  have k : ∀ j, (w.setCell ⟨n, i, none⟩ u).cell? ⟨g, j, none⟩ = w.cell? ⟨g, j, none⟩ := fun j => World.cell?_setCell_other w ⟨n, i, none⟩ ⟨g, j, none⟩ u (by
    intro e
    have : n = g := congrArg Addr.block e
    omega)
  exact ⟨(k 0).trans h0, (k 1).trans h1, (k 2).trans h2, (k 3).trans h3, hg, h4.setCell (p := ⟨n, i, none⟩) hn u⟩
end

theorem RSt.setAll {w0 : World} {g : Nat} {kd a b : Int} {bt : ByteArray} {n : Nat} (hn : w0.heap.size ≤ n) : ∀ (vs : List Value) (i : Nat) {w : World}, RSt w0 g kd a b bt w → RSt w0 g kd a b bt (Proofs.YtjglenhhgbokbaaDoor.setAll w n i vs)
  | [], _, _, h => h
  | v :: r, i, _, h => RSt.setAll hn r (i + 1) (h.set_ hn i v)

/-! ### a node's block -/
def nodeZC : Array Value := #[.string ⟨#[]⟩, .int .i64 0, .int .i64 0, .string ⟨#[]⟩, .int .i64 0, .int .i64 0, .int .i64 0, .string ⟨#[]⟩, .string ⟨#[]⟩, .int .i64 0, .int .i64 0, .slice none 0 0]
theorem U8Kept.setAll {g : Nat} {t : TypeId} {n : Nat} (hne : t ≠ 5) : ∀ (vs : List Value) (i : Nat) {w : World}, HasBlk w g t n → U8Kept w (Proofs.YtjglenhhgbokbaaDoor.setAll w g i vs)
  | [], _, w, _ => U8Kept.refl w
  | v :: r, i, w, h => by
    obtain ⟨cs, hs, hb⟩ := id h
    exact (U8Kept.set_ (g := g) (t := t) hb hne i v).trans (U8Kept.setAll hne r (i + 1) (h.set_ i v))
/-- filled with twelve cells -/
theorem HasBlk.node {w : World} {g : Nat} (h : HasBlk w g 36 12) (vs : List Value) (hl : vs.length = 12) : Blk (Proofs.YtjglenhhgbokbaaDoor.setAll w g 0 vs) g 36 vs.toArray ∧ U8Kept w (Proofs.YtjglenhhgbokbaaDoor.setAll w g 0 vs) :=
  ⟨h.fill vs hl, U8Kept.setAll (by decide) vs 0 h⟩
theorem HasBlk.newN (w : World) : HasBlk (w.alloc (.cells nodeZC 36)) w.heap.size 36 12 := ⟨_, rfl, Blk.new w _ _⟩
/-! ### a string made into bytes, within a region that draws -/
theorem wp_conv {o : Oper} {a : Act} {w : World} {K : Act → World → Prop} {Q : Exit → Act → World → Prop} (x : Operand) (ho : o.op = .convert 9 34 x) (l : List UInt8) (hx : a.eval x = .string (bs l)) (hl : l.length ≤ 4611686018427387904)
    (h : ∀ v w', DataAt w' w.heap.size v l → Below w.heap.size w w' → K (a.put o.dst v) w') : o.wp Tryd.prog a w K Q := by
  obtain ⟨v, w', hrun, hd, hb⟩ := conv_data l w hl
  unfold Oper.wp execOp
  simp only [ho, Sem.run_bind, Sem.run_pure, Result.andThen_ok, hx, hrun]
  exact h v w' hd hb
set_option maxRecDepth 100000 in
theorem upon_conv {o : Oper} {a : Act} {w : World} {K : Act → World → Prop} {Q : Exit → Act → World → Prop} (l : List UInt8) (hl : l.length ≤ 4611686018427387904)
    (h : ∀ A c w', DataAt w' w.heap.size (.slice A l.length c) l → Below w.heap.size w w' → Oper.upon Tryd.prog o a K Q (Result.ok (Next.value (.slice A l.length c)) w')) :
    Oper.upon Tryd.prog o a K Q ((Sem.run Tryd.prog (convert 9 34 (.string (bs l))) w).andThen fun a w' => Result.ok (Next.value a) w') := by
  obtain ⟨v, w', hrun, hd, hb⟩ := conv_data l w hl
  obtain ⟨A, c, rfl, _⟩ := id hd
  rw [hrun]
  exact h A c w' hd hb
theorem step_conv {ops : Array Oper} {o : Oper} {a : Act} {w : World} {K : Act → World → Prop} {Q : Exit → Act → World → Prop} {E : Prop} (hgd : o.guard = none) (x : Operand) (ho : o.op = .convert 9 34 x) (l : List UInt8) (hx : a.eval x = .string (bs l)) (hl : l.length ≤ 4611686018427387904)
    (h : ∀ v w', DataAt w' w.heap.size v l → Below w.heap.size w w' → K (a.put o.dst v) w') : if Region.wanted o (yielded ops a.tmps) = true then Oper.wp Tryd.prog o a w K Q else E := by
  have hw : Region.wanted o (yielded ops a.tmps) = true := by simp [Region.wanted, hgd]
  rw [if_pos hw]
  exact wp_conv x ho l hx hl h
end Go.Proofs.YtjglenhhgbokbaaDoor
