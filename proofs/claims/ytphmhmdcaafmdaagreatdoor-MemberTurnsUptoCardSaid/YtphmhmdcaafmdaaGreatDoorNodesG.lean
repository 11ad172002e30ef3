/-
  Nodes: plain, and as they lie in memory; data bytes in typed blocks. Plain lemmas: no condition.
  creelkeep.Tree, plainly: what it grows. No program in sight, no condition.
  creelkeep.Tree's small callees: names, less, the closure over two nodes. Condition: paths below 2^32.
  slices.IndexFunc over nodes, whatever the closure; the closures that ask for a path. No condition.
-/
import Derived.Test.YtphmhmdcaafmdaaGreatDoorWords
import Derived.Test.YtphmhmdcaafmdaaGreatDoorMetaS
import Derived.Test.YtphmhmdcaafmdaaGreatDoorOctalB
import Derived.Lib.Repeat
import Derived.Sort.Grow
import Derived.Shelf.SlicesQ.Load
import Derived.Shelf.GgClosure.Gives
import Derived.Deep.LoopGhost
namespace Go.Proofs.YtphmhmdcaafmdaaGreatDoor
set_option linter.all false
section
open Go.RowKit
structure NodeP where
  path : List UInt8
  kind : Int
  same : Int
  target : List UInt8
  mt : MetaP
  data : List UInt8
  deriving DecidableEq
def nodeZ : NodeP := ⟨[], 0, 0, [], ⟨0, 0, 0, [], [], 0, 0⟩, []⟩
instance : Inhabited NodeP := ⟨nodeZ⟩
/-- a node, and the slice that is its data -/
abbrev NodeV := NodeP × Value
def nodeC (x : NodeV) : List Value := [.string (bs x.1.path), .int .i64 x.1.kind, .int .i64 x.1.same, .string (bs x.1.target), .int .i64 x.1.mt.mode, .int .i64 x.1.mt.uid, .int .i64 x.1.mt.gid, .string (bs x.1.mt.user), .string (bs x.1.mt.group), .int .i64 x.1.mt.second, .int .i64 x.1.mt.nano, x.2]
theorem nodeC_length (x : NodeV) : (nodeC x).length = 12 := rfl
/-! ### blocks of bytes -/
def U8Kept (w w' : World) : Prop := ∀ (k : Nat) (C : Array Value) (fr : Nat × Nat), w.heap[k]? = some (.cells C 5 fr) → w'.heap[k]? = some (.cells C 5 fr)
theorem heap_lt {w : World} {k : Nat} {o : Obj} (h : w.heap[k]? = some o) : k < w.heap.size := (Array.getElem?_eq_some_iff.1 h).1
section
variable {w w' w'' : World}
theorem U8Kept.refl (w : World) : U8Kept w w := fun _ _ _ h => h
theorem U8Kept.trans (h : U8Kept w w') (h' : U8Kept w' w'') : U8Kept w w'' := fun k C fr hk => h' k C fr (h k C fr hk)
theorem U8Kept.of_below (h : Below w.heap.size w w') : U8Kept w w' := fun k _ _ hk => (h.block k (heap_lt hk)).trans hk
theorem U8Kept.set_ {g : Nat} {C : Array Value} {t : TypeId} {fr : Nat × Nat} (hg : w.heap[g]? = some (.cells C t fr)) (hne : t ≠ 5) (i : Nat) (u : Value) : U8Kept w (w.setCell ⟨g, i, none⟩ u) := by
  intro k C' fr' hk
  rw [Below.heap_setCell _ _ _ _ ?_]
  · exact hk
  · rintro rfl
    rw [hg] at hk
    injection hk with hk
    injection hk with _ ht
    exact hne ht
theorem U8Kept.grown {row : Option Nat} (hb : w.grownBy w' row) (hr : ∀ g, row = some g → ∃ C t fr, w.heap[g]? = some (.cells C t fr) ∧ t ≠ 5) : U8Kept w w' := by
  intro k C fr hk
  refine (hb.block k (heap_lt hk) ?_).trans hk
  intro e
  obtain ⟨C', t, fr', hg, hne⟩ := hr k e.symm
  rw [hg] at hk
  injection hk with hk
  injection hk with _ ht
  exact hne ht
end
/-- a slice of bytes in a block of bytes, from base on -/
def DataAt (w : World) (base : Nat) (v : Value) (l : List UInt8) : Prop :=
  ∃ A c, v = .slice A l.length c ∧ l.length ≤ c ∧ c ≤ maxLen ∧ (A = none → c = 0 ∧ l = []) ∧
    ∀ ad, A = some ad → ad.spot = none ∧ base ≤ ad.block ∧ ∃ C fr, w.heap[ad.block]? = some (.cells C 5 fr) ∧ ∀ j, (hj : j < l.length) → C[ad.off + j]? = some (.int .u8 (l[j].toNat : Int)) ∧ (fr.1 ≤ ad.off + j && decide (ad.off + j < fr.2)) = false
theorem DataAt.nil (w : World) (base : Nat) : DataAt w base (.slice none 0 0) [] := ⟨none, 0, rfl, by simp, by simp, fun _ => ⟨rfl, rfl⟩, fun _ h => by cases h⟩
theorem DataAt.kept {w w' : World} {base : Nat} {v : Value} {l : List UInt8} (h : DataAt w base v l) (hk : U8Kept w w') : DataAt w' base v l := by
  obtain ⟨A, c, h1, h2, h3, h4, h5⟩ := h
  refine ⟨A, c, h1, h2, h3, h4, fun ad e => ?_⟩
  obtain ⟨s, b, C, fr, hc, hx⟩ := h5 ad e
  exact ⟨s, b, C, fr, hk _ _ _ hc, hx⟩
theorem DataAt.below {w w' : World} {base : Nat} {v : Value} {l : List UInt8} (h : DataAt w base v l) (hb : Below w.heap.size w w') : DataAt w' base v l := h.kept (U8Kept.of_below hb)
theorem DataAt.mono {w : World} {base base' : Nat} {v : Value} {l : List UInt8} (h : DataAt w base v l) (hb : base' ≤ base) : DataAt w base' v l := by
  obtain ⟨A, c, h1, h2, h3, h4, h5⟩ := h
  refine ⟨A, c, h1, h2, h3, h4, fun ad e => ?_⟩
  obtain ⟨s, b, r⟩ := h5 ad e
  exact ⟨s, by omega, r⟩
theorem add_flat (g o j : Nat) : (⟨g, o, none⟩ : Addr).add j = ⟨g, o + j, none⟩ := by
  unfold Addr.add; split
  · next h => subst h; rfl
  · rfl
theorem DataAt.bytes {w : World} {base : Nat} {v : Value} {l : List UInt8} (h : DataAt w base v l) : BytesAt w w.heap.size v l := by
  obtain ⟨A, c, h1, h2, h3, h4, h5⟩ := h
  refine ⟨A, c, by rw [List.length_map]; exact h1, by rw [List.length_map]; exact h2, h3, fun e => (h4 e).1, ?_⟩
  rw [List.length_map]
  refine ⟨by simp, fun hl => ?_⟩
  rcases A with _ | ad
  · have := (h4 rfl).2; subst this; simp at hl
  · obtain ⟨s, b, C, fr, hc, hx⟩ := h5 ad rfl
    obtain ⟨g, o, sp⟩ := ad
    simp only at s hc b hx
    subst s
    refine ⟨_, rfl, heap_lt hc, fun j u hu => ?_⟩
    have hj : j < l.length := by have := (List.getElem?_eq_some_iff.1 hu).1; simpa using this
    rw [add_flat, cell_of_row _ _ _ _ _ _ hc, (hx j hj).1]
    rw [List.getElem?_map, List.getElem?_map, List.getElem?_eq_getElem hj] at hu
    exact hu
/-- out of a row of the call's own -/
theorem DataAt.of_own {w : World} {base : Nat} {v : Value} {l : List UInt8} (h : w.ownsRow base 5 1 v l.length ((l.map ofB).map (.int .u8))) : DataAt w base v l := by
  obtain ⟨_, h⟩ := h
  rcases h with ⟨rfl, h0⟩ | ⟨g, cap, cur, rfl, hb, hg, hn, hm, hs, ht⟩
  · obtain rfl : l = [] := List.eq_nil_of_length_eq_zero h0
    exact DataAt.nil w base
  · refine ⟨_, cap, rfl, hn, hm, (fun h => by cases h), fun ad e => ?_⟩
    cases e
    refine ⟨rfl, hb, cur, _, hg, fun j hj => ⟨?_, by simp⟩⟩
    have h2 : (cur.toList.take (l.length * 1))[j]? = some (.int .u8 (l[j].toNat : Int)) := by
      rw [ht, List.getElem?_map, List.getElem?_map, List.getElem?_eq_getElem hj]; rfl
    rw [List.getElem?_take, if_pos (by omega)] at h2
    simpa using h2
/-- a string made into bytes -/
theorem conv_data (l : List UInt8) (w : World) (hl : l.length ≤ 4611686018427387904) : ∃ (v : Value) (W : World),
    (convert 9 27 (.string (bs l))).run Tryz.prog w = .ok v W ∧ DataAt W w.heap.size v l ∧ Below w.heap.size w W := by
  obtain ⟨c, n, C, h1, h2, h3, h4, h5, h6⟩ := conv_sb l w hl
  refine ⟨_, _, h6, ⟨_, c, rfl, h1, h2, (fun h => by cases h), fun ad e => ?_⟩, ((Below.refl _ w).drew).alloc (Nat.le_refl _) _⟩
  cases e
  refine ⟨rfl, Nat.le_refl _, C, (n, n + 1), heap_alloc_new w.drew _, fun j hj => ⟨by rw [Nat.zero_add]; exact h5 j hj, ?_⟩⟩
  simp only [Bool.and_eq_false_iff, decide_eq_false_iff_not]
  left; omega
/-! ### slices of nodes -/
/-- read: nil let in -/
def NodesAt (w : World) (v : Value) (l : List NodeP) : Prop :=
  ∃ (xs : List NodeV) (A : Option Addr) (c : Nat), xs.map (·.1) = l ∧ v = .slice A l.length c ∧ l.length ≤ c ∧ c ≤ maxLen ∧ (A = none → c = 0) ∧ Reads w w.heap.size 12 A l.length (xs.flatMap nodeC) ∧ ∀ x ∈ xs, DataAt w 0 x.2 x.1.data
theorem NodesAt.below {w w' : World} {v : Value} {l : List NodeP} (h : NodesAt w v l) (hb : Below w.heap.size w w') : NodesAt w' v l := by
  obtain ⟨xs, A, c, h0, h1, h2, h3, h4, h5, h6⟩ := h
  exact ⟨xs, A, c, h0, h1, h2, h3, h4, (h5.below hb).more hb.size, fun x hx => (h6 x hx).below hb⟩
theorem NodesAt.nil (w : World) : NodesAt w (.slice none 0 0) [] := ⟨[], none, 0, rfl, rfl, by simp, by simp, fun _ => rfl, Reads.none_, by simp⟩
/-- a row of the call's own -/
def NodesOwn (w : World) (base : Nat) (v : Value) (l : List NodeP) : Prop :=
  ∃ xs : List NodeV, xs.map (·.1) = l ∧ w.ownsRow base 29 12 v l.length (xs.flatMap nodeC) ∧ ∀ x ∈ xs, DataAt w base x.2 x.1.data
theorem ownsRow_below {w w' : World} {base : Nat} {e : TypeId} {size n : Nat} {v : Value} {xs : List Value} (h : w.ownsRow base e size v n xs) (hb : Below w.heap.size w w') : w'.ownsRow base e size v n xs := by
  obtain ⟨h1, h2⟩ := h
  refine ⟨h1, ?_⟩
  rcases h2 with h | ⟨g, cap, cur, hv, hb', hg, r⟩
  · exact .inl h
  · exact .inr ⟨g, cap, cur, hv, hb', (hb.block g (heap_lt hg)).trans hg, r⟩
theorem ownsRow_mono {w : World} {base base' : Nat} {e : TypeId} {size n : Nat} {v : Value} {xs : List Value} (h : w.ownsRow base e size v n xs) (hb : base' ≤ base) : w.ownsRow base' e size v n xs := by
  obtain ⟨h1, h2⟩ := h
  refine ⟨h1, ?_⟩
  rcases h2 with h | ⟨g, cap, cur, hv, hb', r⟩
  · exact .inl h
  · exact .inr ⟨g, cap, cur, hv, by omega, r⟩
theorem NodesOwn.below {w w' : World} {base : Nat} {v : Value} {l : List NodeP} (h : NodesOwn w base v l) (hb : Below w.heap.size w w') : NodesOwn w' base v l := by
  obtain ⟨xs, h0, h1, h2⟩ := h
  exact ⟨xs, h0, ownsRow_below h1 hb, fun x hx => (h2 x hx).below hb⟩
theorem NodesOwn.mono {w : World} {base base' : Nat} {v : Value} {l : List NodeP} (h : NodesOwn w base v l) (hb : base' ≤ base) : NodesOwn w base' v l := by
  obtain ⟨xs, h0, h1, h2⟩ := h
  exact ⟨xs, h0, ownsRow_mono h1 hb, fun x hx => (h2 x hx).mono hb⟩
theorem ownsRow_read {w : World} {base : Nat} {e : TypeId} {size n : Nat} {v : Value} {xs : List Value} (h : w.ownsRow base e size v n xs) : ∃ A c, v = .slice A n c ∧ n ≤ c ∧ c ≤ maxLen ∧ (A = none → c = 0) ∧ Reads w w.heap.size size A n xs := by
  rcases h.2 with ⟨rfl, h0⟩ | ⟨g, cap, cur, rfl, _, _, hn, hm, _⟩
  · have h1 := h.1
    subst h0
    refine ⟨none, 0, rfl, by simp, by simp, fun _ => rfl, ?_⟩
    refine ⟨h1, fun h => absurd h (by omega)⟩
  · exact ⟨_, cap, rfl, hn, hm, (fun h => by cases h), Reads.of_own h⟩
theorem NodesOwn.at_ {w : World} {base : Nat} {v : Value} {l : List NodeP} (h : NodesOwn w base v l) : NodesAt w v l := by
  obtain ⟨xs, h0, h1, h2⟩ := h
  obtain ⟨A, c, e1, e2, e3, e4, e5⟩ := ownsRow_read h1
  exact ⟨xs, A, c, h0, e1, e2, e3, e4, e5, fun x hx => (h2 x hx).mono (Nat.zero_le _)⟩
end
section
open Go.RowKit
def namesL : List (List UInt8) := [[97], [98], [97, 98], [66], [120, 32, 121], [195, 169], [99, 46, 116, 120, 116], List.replicate 60 110, List.replicate 130 109, [97, 33], [45]]
structure TreeS where
  t : List NodeP
  dirs : List (List UInt8)
def marked (x : NodeP) (j : Nat) : NodeP := ⟨x.path, x.kind, if x.same = 0 then (j : Int) + 1 else x.same, x.target, x.mt, x.data⟩
def linkN (x : NodeP) (j : Nat) (p : List UInt8) : NodeP := ⟨p, x.kind, if x.same = 0 then (j : Int) + 1 else x.same, x.target, x.mt, x.data⟩
/-! ### order -/
/-! ### what the walk asks of a tree that grows -/
end
section
open Go.RowKit Go.Sort
theorem below_grow (w : World) (os : Array Obj) : Below w.heap.size w (grow w os) :=
  ⟨rfl, rfl, rfl, by simp [grow], fun k hk => heap_grow_old w os hk⟩
theorem ML.grow {w : World} (h : ML w) (os : Array Obj) : ML (grow w os) := h.below (below_grow w os)
theorem namesL_length : namesL.length = 11 := rfl
set_option maxHeartbeats 400000 in
theorem names_any (w : World) :
    Calls Tryz.prog 25 #[] w fun e w' => ∃ v, e = .returned v ∧ StrsOwn w' w.heap.size v namesL ∧ Below w.heap.size w w' := by
  have H1 : Hid (∀ w, Calls Tryz.prog 27 #[.string ⟨#[110]⟩, .int .i64 60] w fun e w' => e = .returned (.string (bs (List.replicate 60 110))) ∧ Below w.heap.size w w') := Lib.hid (fun w => Repeat_byte 110 60 w (by omega))
  have H2 : Hid (∀ w, Calls Tryz.prog 27 #[.string ⟨#[109]⟩, .int .i64 130] w fun e w' => e = .returned (.string (bs (List.replicate 130 109))) ∧ Below w.heap.size w w') := Lib.hid (fun w => Repeat_byte 109 130 w (by omega))
  have fin : Hid (namesL.map (fun s => Value.string (bs s)) = [.string ⟨#[97]⟩, .string ⟨#[98]⟩, .string ⟨#[97, 98]⟩, .string ⟨#[66]⟩, .string ⟨#[120, 32, 121]⟩, .string ⟨#[195, 169]⟩, .string ⟨#[99, 46, 116, 120, 116]⟩, .string (bs (List.replicate 60 110)), .string (bs (List.replicate 130 109)), .string ⟨#[97, 33]⟩, .string ⟨#[45]⟩]) := Lib.hid rfl
  generalize bs (List.replicate 60 110) = b1 at *
  generalize bs (List.replicate 130 109) = b2 at *
  go_enter Tryz.func25, Tryz.ntmps25
  go_wp2_with fail
  refine (H1.out _).mono ?_
  rintro e w1 ⟨rfl, c1⟩
  have B1 := Lib.hid c1
  clear c1
  go_wp2_with fail
  refine (H2.out _).mono ?_
  rintro e w2 ⟨rfl, c2⟩
  have B2 := Lib.hid (B1.out.trans (c2.mono B1.out.size))
  clear c2
  go_wp2_with fail
  go_ret
  refine ⟨_, rfl, ⟨w2.heap.size, 11, rfl, B2.out.size, by simp, Nat.le_refl _, by simp [maxLen], fun j u hu => ?_⟩, B2.out.alloc B2.out.size _⟩
  rw [fin.out] at hu
  rw [World.cell?_alloc_mark]
  simpa using hu
end
section
open Go.RowKit
theorem spot_of {w : World} {a : Addr} {v : Value} (h : w.cell? a = some v) : a.spot = none := by
  unfold World.cell? at h
  split at h
  · split at h
    · cases h
    · next hs => simpa using hs
  · cases h
theorem add_step {a : Addr} (h : a.spot = none) (j : Nat) : a.add j = ⟨a.block, a.off + j, none⟩ := by
  obtain ⟨b, o, s⟩ := a
  simp only at h
  subst h
  exact add_flat b o j
end
end Go.Proofs.YtphmhmdcaafmdaaGreatDoor
