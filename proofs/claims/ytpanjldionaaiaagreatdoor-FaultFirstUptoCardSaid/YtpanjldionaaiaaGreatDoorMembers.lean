/-
  member's packed: say, number, text, each once. Condition: the library's table of powers of ten lies as Go laid it.
  member.pack, once. Condition: a member that may be; the library's table of powers of ten lies as Go laid it.
  member.Records, member.Head, member.Write at a member that may be, each once. Condition: the library's table of powers of ten lies as Go laid it.
-/
import Derived.Test.YtpanjldionaaiaaGreatDoorRecsQ
import Derived.Test.YtpanjldionaaiaaGreatDoorHeadWrite
import Derived.Test.YtpanjldionaaiaaGreatDoorTreeE
import Derived.Test.YtpanjldionaaiaaGreatDoorOctalB
import Derived.Deep.QuietTactic
import Derived.BigQuiet
import Derived.BigRegion
import Derived.Deep.DeepCutAuto
import Derived.Deep.RegionHeld3
import Derived.Deep.AppendLies
namespace Go.Proofs.YtpanjldionaaiaaGreatDoor
set_option linter.all false
section
open Go.RowKit
theorem own_kept_set {w : World} {base g n size : Nat} {e t : TypeId} {v : Value} {xs : List Value} {cs : Array Value} (hown : w.ownsRow base e size v n xs) (hg : Blk w g t cs) (hne : e ≠ t) (i : Nat) (u : Value) : (w.setCell ⟨g, i, none⟩ u).ownsRow base e size v n xs :=
  hown.kept (row := some g) ⟨rfl, rfl, rfl, by simp [World.setCell], fun k _ hk => Below.heap_setCell _ _ _ _ (fun e => hk (by simp [e]))⟩ (.inr (own_blk_ne hown hg hne))
/-- a packed of the call's own: its head's cells, its records -/
def PackAt (w : World) (B g : Nat) (hc : List Value) (l : List RecS) : Prop :=
  B ≤ g ∧ hc.length = 11 ∧ ∃ v, Blk w g 136 (hc ++ [v]).toArray ∧ RecsOwn w B v l
theorem rec_ne_packed : 198 ≠ 136 := by decide
section
variable {w w' : World} {B g : Nat} {hc : List Value} {l : List RecS}
theorem PackAt.below (h : PackAt w B g hc l) (hb : Below w.heap.size w w') : PackAt w' B g hc l := by
  obtain ⟨h1, h2, v, h3, h4⟩ := h
  exact ⟨h1, h2, v, h3.below hb h3.lt, h4.below hb⟩
theorem PackAt.mono {B' : Nat} (h : PackAt w B g hc l) (hB : B' ≤ B) : PackAt w B' g hc l := by
  obtain ⟨h1, h2, v, h3, h4⟩ := h
  exact ⟨by omega, h2, v, h3, ownsRow_mono h4 hB⟩
theorem PackAt.lt (h : PackAt w B g hc l) : g < w.heap.size := by
  obtain ⟨h1, h2, v, h3, h4⟩ := h
  exact h3.lt
theorem PackAt.cell (h : PackAt w B g hc l) {i : Nat} (hi : i < 11) : w.cell? ⟨g, i, none⟩ = hc[i]? := by
  obtain ⟨h1, h2, v, h3, h4⟩ := h
  rw [h3.cell i, List.getElem?_toArray, List.getElem?_append_left (by omega)]
theorem PackAt.frozen (h : PackAt w B g hc l) (i : Nat) : w.frozen? ⟨g, i, none⟩ = false := by
  obtain ⟨h1, h2, v, h3, h4⟩ := h
  exact h3.frozen i
theorem PackAt.set_ (h : PackAt w B g hc l) {i : Nat} (hi : i < 11) (u : Value) : PackAt (w.setCell ⟨g, i, none⟩ u) B g (hc.set i u) l := by
  obtain ⟨h1, h2, v, h3, h4⟩ := h
  refine ⟨h1, by rw [List.length_set]; exact h2, v, ?_, own_kept_set h4 h3 rec_ne_packed i u⟩
  have := h3.set_ i u
  rw [List.setIfInBounds_toArray, List.set_append_left _ _ (by omega)] at this
  exact this
end
end
section
open Go.RowKit
/-- in member.pack -/
def PkSt (w0 : World) (cs : Array Value) (g : Nat) (hc : List Value) (l : List RecS) (W : World) : Prop :=
  Blk W w0.heap.size 40 cs ∧ PackAt W (w0.heap.size + 1) g hc l ∧ Below w0.heap.size w0 W ∧ w0.heap.size < W.heap.size
section
variable {w0 W W' : World} {cs : Array Value} {g : Nat} {hc hc' : List Value} {l l' : List RecS}
theorem PkSt.below (h : PkSt w0 cs g hc l W) (hb : Below W.heap.size W W') : PkSt w0 cs g hc l W' :=
  ⟨h.1.below hb h.1.lt, h.2.1.below hb, h.2.2.1.trans (hb.mono h.2.2.1.size), Nat.lt_of_lt_of_le h.2.2.2 hb.size⟩
theorem PkSt.next (h : PkSt w0 cs g hc l W) (hp : PackAt W' (w0.heap.size + 1) g hc' l') (hb : Below (w0.heap.size + 1) W W') : PkSt w0 cs g hc' l' W' :=
  ⟨h.1.below hb (Nat.lt_succ_self _), hp, h.2.2.1.trans (hb.mono (Nat.le_succ _)), Nat.lt_of_lt_of_le h.2.2.2 hb.size⟩
theorem PkSt.set_ (h : PkSt w0 cs g hc l W) {i : Nat} (hi : i < 11) (u : Value) : PkSt w0 cs g (hc.set i u) l (W.setCell ⟨g, i, none⟩ u) :=
  h.next (h.2.1.set_ hi u) ((Below.refl _ _).setCell (p := ⟨g, i, none⟩) h.2.1.1 u)
theorem PkSt.ent (h : PkSt w0 cs g hc l W) (i : Nat) : W.cell? ⟨w0.heap.size, i, none⟩ = cs[i]? := h.1.cell i
end
theorem PkSt.start {w W0 : World} {cs : Array Value} (hc : List Value) (h11 : hc.length = 11) (h1 : Blk W0 w.heap.size 40 cs) (h2 : Below w.heap.size w W0) (h3 : W0.heap.size = w.heap.size + 1) :
    PkSt w cs W0.heap.size hc [] (W0.alloc (.cells (hc ++ [Value.slice none 0 0]).toArray 136)).drew := by
  refine ⟨(h1.alloc _).drew, ⟨by omega, h11, .slice none 0 0, (Blk.new W0 _ _).drew, World.ownsRow_nil _ _ _ _⟩, (h2.alloc h2.size _).drew, ?_⟩
  show w.heap.size < (W0.alloc _).heap.size
  simp; omega
end
section
open Go.RowKit
/-- bytes in a row of the call's own -/
def BytesOwn (w : World) (base : Nat) (v : Value) (l : List UInt8) : Prop := w.ownsRow base 5 1 v l.length ((l.map ofB).map (.int .u8))
theorem BytesOwn.at_ {w : World} {base : Nat} {v : Value} {l : List UInt8} (h : BytesOwn w base v l) : BytesAt w w.heap.size v l := ownL h
theorem BytesOwn.below {w w' : World} {base : Nat} {v : Value} {l : List UInt8} (h : BytesOwn w base v l) (hb : Below w.heap.size w w') : BytesOwn w' base v l := ownsRow_below h hb
theorem BytesOwn.nil (w : World) (base : Nat) : BytesOwn w base (.slice none 0 0) [] := World.ownsRow_nil _ _ _ _
/-- in member.Write -/
def MwSt (w0 : World) (cs : Array Value) (W : World) : Prop := Blk W w0.heap.size 40 cs ∧ Below w0.heap.size w0 W
theorem MwSt.below {w0 W W' : World} {cs : Array Value} (h : MwSt w0 cs W) (hb : Below W.heap.size W W') : MwSt w0 cs W' := ⟨h.1.below hb h.1.lt, h.2.trans (hb.mono h.2.size)⟩
theorem MwSt.grown {w0 W W' : World} {cs : Array Value} {v : Value} {n : Nat} {xs : List Value} (h : MwSt w0 cs W) (ho : W.ownsRow w0.heap.size 5 1 v n xs) (hg : W.grownBy W' v.ownBlock) : MwSt w0 cs W' :=
  ⟨h.1.grown hg (fun e => own_blk_ne ho h.1 (by decide) e.symm), h.2.grown hg h.2.size (fun k e => (own_typed ho e).1)⟩
theorem PackAt.grown {W W' : World} {B g b : Nat} {hc : List Value} {l : List RecS} {v : Value} {n : Nat} {xs : List Value} (h : PackAt W B g hc l) (ho : W.ownsRow b 5 1 v n xs) (hg : W.grownBy W' v.ownBlock) : PackAt W' B g hc l := by
  obtain ⟨h1, h2, u, h3, h4⟩ := h
  refine ⟨h1, h2, u, h3.grown hg (fun e => own_blk_ne ho h3 (by decide) e.symm), ?_⟩
  refine h4.kept hg ?_
  rcases hv : u.ownBlock with _ | b2
  · exact .inl rfl
  · refine .inr ?_
    intro e
    obtain ⟨_, C1, f1, hc1⟩ := own_typed h4 hv
    obtain ⟨_, C2, f2, hc2⟩ := own_typed ho e.symm
    rw [hc1] at hc2
    injection hc2 with hc2
    injection hc2 with _ ht
    exact absurd ht (by decide)
end
end Go.Proofs.YtpanjldionaaiaaGreatDoor
