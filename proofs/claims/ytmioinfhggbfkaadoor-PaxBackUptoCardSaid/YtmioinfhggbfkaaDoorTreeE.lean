/-
  Words for a region that makes a node: the bytes out of a string by name, a raw thing's block kept, a node's block filled. Plain lemmas: no condition.
  The end of a round of creelkeep.Tree: what was stored and appended. Plain lemmas: no condition.
-/
import Derived.Test.YtmioinfhggbfkaaDoorTreeS
import Derived.Test.YtmioinfhggbfkaaDoorSum
namespace Go.Proofs.YtmioinfhggbfkaaDoor
set_option linter.all false
section
open Go.RowKit

/-! ### the bytes of a string, by name -/
theorem conv_ex (l : List UInt8) (w : World) : ∃ p : Value × World, l.length ≤ 4611686018427387904 → ((convert 9 26 (.string (bs l))).run Tryd.prog w = .ok p.1 p.2 ∧ DataAt p.2 w.heap.size p.1 l ∧ Below w.heap.size w p.2) := by
  by_cases h : l.length ≤ 4611686018427387904
  · obtain ⟨v, W, h1, h2, h3⟩ := conv_data l w h
    exact ⟨(v, W), fun _ => ⟨h1, h2, h3⟩⟩
  · exact ⟨(undef, w), fun h2 => absurd h2 h⟩
noncomputable def cvV (l : List UInt8) (w : World) : Value := (Classical.choose (conv_ex l w)).1
noncomputable def cvW (l : List UInt8) (w : World) : World := (Classical.choose (conv_ex l w)).2
section
variable {l : List UInt8} (hl : l.length ≤ 4611686018427387904) (w : World)
include hl
theorem cv_run : (convert 9 26 (.string (bs l))).run Tryd.prog w = .ok (cvV l w) (cvW l w) := (Classical.choose_spec (conv_ex l w) hl).1
theorem cv_data : DataAt (cvW l w) w.heap.size (cvV l w) l := (Classical.choose_spec (conv_ex l w) hl).2.1
theorem cv_below : Below w.heap.size w (cvW l w) := (Classical.choose_spec (conv_ex l w) hl).2.2
theorem cv_cell (b o : Nat) (h : b < w.heap.size) : (cvW l w).cell? ⟨b, o, none⟩ = w.cell? ⟨b, o, none⟩ := (cv_below hl w).cell (p := ⟨b, o, none⟩) h
theorem cv_frozen (b o : Nat) (h : b < w.heap.size) : (cvW l w).frozen? ⟨b, o, none⟩ = w.frozen? ⟨b, o, none⟩ := (cv_below hl w).frozen (p := ⟨b, o, none⟩) h
end

/-! ### a raw thing's block, kept -/
abbrev RSt (w0 : World) (g : Nat) (kd a b : Int) (bt : ByteArray) (w : World) : Prop :=
  w.cell? ⟨g, 0, none⟩ = some (.int .i64 kd) ∧ w.cell? ⟨g, 1, none⟩ = some (.int .i64 a) ∧ w.cell? ⟨g, 2, none⟩ = some (.int .i64 b) ∧ w.cell? ⟨g, 3, none⟩ = some (.string bt) ∧ g < w0.heap.size ∧ Below w0.heap.size w0 w
section
variable {w0 w w' : World} {g : Nat} {kd a b : Int} {bt : ByteArray}
theorem RSt.start (h : Blk w g 23 #[.int .i64 kd, .int .i64 a, .int .i64 b, .string bt]) : RSt w g kd a b bt w := ⟨h.cell 0, h.cell 1, h.cell 2, h.cell 3, h.lt, Below.refl _ _⟩
theorem RSt.below (h : RSt w0 g kd a b bt w) (hb : Below w.heap.size w w') : RSt w0 g kd a b bt w' := by
  obtain ⟨h0, h1, h2, h3, hg, h4⟩ := h
  have hg2 : g < w.heap.size := Nat.lt_of_lt_of_le hg h4.size
  have k : ∀ i, w'.cell? ⟨g, i, none⟩ = w.cell? ⟨g, i, none⟩ := fun i => hb.cell (p := ⟨g, i, none⟩) hg2
  exact ⟨(k 0).trans h0, (k 1).trans h1, (k 2).trans h2, (k 3).trans h3, hg, h4.trans (hb.mono h4.size)⟩
theorem RSt.alloc (h : RSt w0 g kd a b bt w) (o : Obj) : RSt w0 g kd a b bt (w.alloc o) := h.below ((Below.refl _ _).alloc (Nat.le_refl _) o)
theorem RSt.drew (h : RSt w0 g kd a b bt w) : RSt w0 g kd a b bt w.drew := h.below ((Below.refl _ _).drew)
theorem RSt.conv {l : List UInt8} (hl : l.length ≤ 4611686018427387904) (h : RSt w0 g kd a b bt w) : RSt w0 g kd a b bt (cvW l w) := h.below (cv_below hl w)
theorem RSt.set_ (h : RSt w0 g kd a b bt w) {n : Nat} (hn : w0.heap.size ≤ n) (i : Nat) (u : Value) : RSt w0 g kd a b bt (w.setCell ⟨n, i, none⟩ u) := by
  obtain ⟨h0, h1, h2, h3, hg, h4⟩ := h
  have k : ∀ j, (w.setCell ⟨n, i, none⟩ u).cell? ⟨g, j, none⟩ = w.cell? ⟨g, j, none⟩ := fun j => World.cell?_setCell_other w ⟨n, i, none⟩ ⟨g, j, none⟩ u (by
    intro e
    have : n = g := congrArg Addr.block e
    omega)
  exact ⟨(k 0).trans h0, (k 1).trans h1, (k 2).trans h2, (k 3).trans h3, hg, h4.setCell (p := ⟨n, i, none⟩) hn u⟩
end

theorem RSt.setAll {w0 : World} {g : Nat} {kd a b : Int} {bt : ByteArray} {n : Nat} (hn : w0.heap.size ≤ n) : ∀ (vs : List Value) (i : Nat) {w : World}, RSt w0 g kd a b bt w → RSt w0 g kd a b bt (Proofs.YtmioinfhggbfkaaDoor.setAll w n i vs)
  | [], _, _, h => h
  | v :: r, i, _, h => RSt.setAll hn r (i + 1) (h.set_ hn i v)

/-! ### a node's block -/
def nodeZC : Array Value := #[.string ⟨#[]⟩, .int .i64 0, .int .i64 0, .string ⟨#[]⟩, .int .i64 0, .int .i64 0, .int .i64 0, .string ⟨#[]⟩, .string ⟨#[]⟩, .int .i64 0, .int .i64 0, .slice none 0 0]
theorem U8Kept.setAll {g : Nat} {t : TypeId} {n : Nat} (hne : t ≠ 5) : ∀ (vs : List Value) (i : Nat) {w : World}, HasBlk w g t n → U8Kept w (Proofs.YtmioinfhggbfkaaDoor.setAll w g i vs)
  | [], _, w, _ => U8Kept.refl w
  | v :: r, i, w, h => by
    obtain ⟨cs, hs, hb⟩ := id h
    exact (U8Kept.set_ (g := g) (t := t) hb hne i v).trans (U8Kept.setAll hne r (i + 1) (h.set_ i v))
/-! ### a string made into bytes, within a region that draws -/
theorem wp_conv {o : Oper} {a : Act} {w : World} {K : Act → World → Prop} {Q : Exit → Act → World → Prop} (x : Operand) (ho : o.op = .convert 9 26 x) (l : List UInt8) (hx : a.eval x = .string (bs l)) (hl : l.length ≤ 4611686018427387904)
    (h : ∀ v w', DataAt w' w.heap.size v l → Below w.heap.size w w' → K (a.put o.dst v) w') : o.wp Tryd.prog a w K Q := by
  obtain ⟨v, w', hrun, hd, hb⟩ := conv_data l w hl
  unfold Oper.wp execOp
  simp only [ho, Sem.run_bind, Sem.run_pure, Result.andThen_ok, hx, hrun]
  exact h v w' hd hb
set_option maxRecDepth 100000 in
theorem upon_conv {o : Oper} {a : Act} {w : World} {K : Act → World → Prop} {Q : Exit → Act → World → Prop} (l : List UInt8) (hl : l.length ≤ 4611686018427387904)
    (h : ∀ A c w', DataAt w' w.heap.size (.slice A l.length c) l → Below w.heap.size w w' → Oper.upon Tryd.prog o a K Q (Result.ok (Next.value (.slice A l.length c)) w')) :
    Oper.upon Tryd.prog o a K Q ((Sem.run Tryd.prog (convert 9 26 (.string (bs l))) w).andThen fun a w' => Result.ok (Next.value a) w') := by
  obtain ⟨v, w', hrun, hd, hb⟩ := conv_data l w hl
  obtain ⟨A, c, rfl, _⟩ := id hd
  rw [hrun]
  exact h A c w' hd hb
theorem step_conv {ops : Array Oper} {o : Oper} {a : Act} {w : World} {K : Act → World → Prop} {Q : Exit → Act → World → Prop} {E : Prop} (hgd : o.guard = none) (x : Operand) (ho : o.op = .convert 9 26 x) (l : List UInt8) (hx : a.eval x = .string (bs l)) (hl : l.length ≤ 4611686018427387904)
    (h : ∀ v w', DataAt w' w.heap.size v l → Below w.heap.size w w' → K (a.put o.dst v) w') : if Region.wanted o (yielded ops a.tmps) = true then Oper.wp Tryd.prog o a w K Q else E := by
  have hw : Region.wanted o (yielded ops a.tmps) = true := by simp [Region.wanted, hgd]
  rw [if_pos hw]
  exact wp_conv x ho l hx hl h
end
section
open Go.RowKit

section
variable {w0 w w' : World} {s : TreeS} {dv : Value}
theorem own_typed {base : Nat} {e : TypeId} {size n : Nat} {v : Value} {xs : List Value} (h : w.ownsRow base e size v n xs) {g : Nat} (hg : v.ownBlock = some g) : base ≤ g ∧ ∃ C fr, w.heap[g]? = some (.cells C e fr) := by
  rcases h.2 with ⟨rfl, _⟩ | ⟨g', cap, cur, rfl, hb, hh, _⟩
  · simp [Value.ownBlock] at hg
  · have : g' = g := by simpa [Value.ownBlock] using hg
    subst this
    exact ⟨hb, cur, _, hh⟩
theorem ownsRow_grown {base : Nat} {e : TypeId} {size n : Nat} {v : Value} {xs : List Value} {row : Option Nat} (h : w.ownsRow base e size v n xs) (hb : w.grownBy w' row) (hr : ∀ g, row = some g → ∃ C t fr, w.heap[g]? = some (.cells C t fr) ∧ t ≠ e) : w'.ownsRow base e size v n xs := by
  obtain ⟨h1, h2⟩ := h
  refine ⟨h1, ?_⟩
  rcases h2 with h | ⟨g, cap, cur, hv, hb', hg, r⟩
  · exact .inl h
  · refine .inr ⟨g, cap, cur, hv, hb', (hb.block g (heap_lt hg) ?_).trans hg, r⟩
    intro e2
    obtain ⟨C, t, fr, hC, hne⟩ := hr g e2.symm
    rw [hg] at hC
    injection hC with hC
    injection hC with _ ht
    exact hne ht.symm
theorem flat_set {u : Value} {z : NodeV} {i : Nat} (hi : i < 12) : ∀ (xs : List NodeV) (j : Nat) (hj : j < xs.length), (nodeC xs[j]).set i u = nodeC z → (xs.flatMap nodeC).set (j * 12 + i) u = (xs.set j z).flatMap nodeC
  | [], j, hj, _ => absurd hj (by simp)
  | x :: xs, 0, _, h => by
    rw [List.flatMap_cons, Nat.zero_mul, Nat.zero_add, List.set_append_left _ _ (by exact hi), List.set_cons_zero, List.flatMap_cons]
    exact congrArg (· ++ xs.flatMap nodeC) h
  | x :: xs, j + 1, hj, h => by
    rw [List.flatMap_cons, List.set_append_right _ _ (by rw [nodeC_length]; omega), List.set_cons_succ, List.flatMap_cons, nodeC_length, show (j + 1) * 12 + i - 12 = j * 12 + i by omega, flat_set hi xs j (by simpa using hj) h]
end
theorem strinfo : (Tryd.prog.info? 9).map (fun i => (i.zero, i.size, i.bytes)) = some (some (.string ⟨#[]⟩), 1, 16) := by kernel_rfl
/-- a new block's cells -/
theorem new_row (w : World) (t : TypeId) (vs : List Value) (n size : Nat) (h : vs.length = n * size) : Reads (w.alloc (.cells vs.toArray t)) (w.heap.size + 1) size (some ⟨w.heap.size, 0, none⟩) n vs :=
  ⟨h, fun _ => ⟨_, rfl, Nat.lt_succ_self _, fun j u hu => by
    rw [add_flat, Nat.zero_add, World.cell?_alloc_mark]
    simpa using hu⟩⟩
theorem one_node (x : NodeV) (h : x.2.oneCell' = true) : ∀ u ∈ nodeC x, u.oneCell' = true := by
  intro v hv
  simp only [nodeC, List.mem_cons, List.mem_nil_iff, or_false] at hv
  rcases hv with rfl | rfl | rfl | rfl | rfl | rfl | rfl | rfl | rfl | rfl | rfl | rfl
  all_goals first | rfl | exact h
theorem linkAt_none {s : TreeS} {r : RawS} {j : Nat} (hj : (pick r.a (s.t.length + 1)).toNat = j) (h : ∀ x, s.t[j]? = some x → x.kind ≠ 1) : linkAt s r = none := by
  unfold linkAt
  rw [hj]
  cases hq : s.t[j]? with
  | none => rfl
  | some x => simp only; rw [if_neg (h x hq)]
theorem linkAt_some {s : TreeS} {r : RawS} {j : Nat} (hj : (pick r.a (s.t.length + 1)).toNat = j) {x : NodeP} (hx : s.t[j]? = some x) (h : x.kind = 1) : linkAt s r = some j := by
  unfold linkAt
  rw [hj, hx]
  simp only
  rw [if_pos h]
/-- what holds of every node that is made holds of all that are grown -/
theorem growKind_P {P : NodeP → Prop} (h1 : ∀ r p, P (plainN r p)) (h2 : ∀ r p, P (dirN r p)) (h3 : ∀ r p, P (symN r p)) (h4 : ∀ x j, P x → P (marked x j)) (h5 : ∀ x j p, P x → P (linkN x j p)) {s : TreeS} (hs : ∀ x ∈ s.t, P x) (r : RawS) (p : List UInt8) (k : Nat) : ∀ x ∈ (growKind s r p k).t, P x := by
  have add : ∀ n, P n → ∀ x ∈ s.t ++ [n], P x := fun n hn x hx => by
    rcases List.mem_append.1 hx with h | h
    · exact hs x h
    · rw [List.mem_singleton] at h; rw [h]; exact hn
  unfold growKind
  split
  · exact add _ (h2 r p)
  · split
    · exact add _ (h3 r p)
    · split
      · split
        · next j hj =>
          have hx : P (s.t.getD j default) := by
            unfold linkAt at hj
            split at hj
            · next x hq =>
              split at hj
              · cases hj
                rw [List.getD_eq_getElem?_getD, hq]
                exact hs x (List.mem_of_getElem? hq)
              · cases hj
            · cases hj
          intro x hx2
          rcases List.mem_append.1 hx2 with h | h
          · rcases List.mem_or_eq_of_mem_set h with h | rfl
            · exact hs x h
            · exact h4 _ _ hx
          · rw [List.mem_singleton] at h; rw [h]; exact h5 _ _ _ hx
        · exact add _ (h1 r p)
      · exact add _ (h1 r p)
theorem grow_P {P : NodeP → Prop} (h1 : ∀ r p, P (plainN r p)) (h2 : ∀ r p, P (dirN r p)) (h3 : ∀ r p, P (symN r p)) (h4 : ∀ x j, P x → P (marked x j)) (h5 : ∀ x j p, P x → P (linkN x j p)) (most : Nat) : ∀ (l : List RawS) {s : TreeS}, (∀ x ∈ s.t, P x) → ∀ x ∈ (l.foldl (growStep most) s).t, P x
  | [], _, hs => hs
  | r :: l, s, hs => by
    refine grow_P h1 h2 h3 h4 h5 most l (s := growStep most s r) ?_
    unfold growStep
    split
    · exact hs
    · split
      · exact hs
      · exact growKind_P h1 h2 h3 h4 h5 hs r _ _
theorem growN_data (most : Nat) (l : List RawS) (k : Nat) : ∀ x ∈ (growN most l k).t, x.data.length ≤ 1200 := by
  refine grow_P (P := fun x => x.data.length ≤ 1200) (fun r p => ?_) (fun r p => ?_) (fun r p => ?_) (fun x j h => h) (fun x j p h => h) most _ (by simp)
  · show (Lib.repeatL (cleanS r.text 40) (pick r.b 30).toNat).length ≤ 1200
    rw [Lib.repeatL_length]
    have h1 := cleanS_length r.text 40
    have h2 := pick_bd r.b 30 (by omega)
    have h3 : (pick r.b 30).toNat * (cleanS r.text 40).length ≤ 30 * 40 := Nat.mul_le_mul (by omega) h1
    omega
  · exact Nat.zero_le _
  · exact Nat.zero_le _
end
end Go.Proofs.YtmioinfhggbfkaaDoor
