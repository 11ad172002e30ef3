/-
  Words for memory: a block known whole, append of whatever slice (nil let in) onto a row of the call's own. Plain lemmas: no condition. (Began as the guide's blocks that are given to be copied: extra-words.)
-/
import Derived.Test.YtjglenhhgbokbaaGreatDoorFrame
import Derived.Laws.OwnMore
import Derived.Laws.Rows
import Derived.Maps.AppendAt
import Derived.RegionTactic
import Derived.OwnWalk
import Derived.Lib.SlBytesConst
namespace Go.Proofs.YtjglenhhgbokbaaGreatDoor
open Go.RowKit

def Blk (w : World) (g : Nat) (t : TypeId) (cs : Array Value) : Prop := w.heap[g]? = some (.cells cs t (0, 0))

section
variable {w w' : World} {g : Nat} {t : TypeId} {cs : Array Value}
theorem Blk.lt (h : Blk w g t cs) : g < w.heap.size := by
  rcases Nat.lt_or_ge g w.heap.size with hlt | hge
  · exact hlt
  · unfold Blk at h; rw [Array.getElem?_eq_none hge] at h; cases h
theorem Blk.cell (h : Blk w g t cs) (i : Nat) : w.cell? ⟨g, i, none⟩ = cs[i]? := cell_of_row w g i cs t (0, 0) h
theorem Blk.frozen (h : Blk w g t cs) (i : Nat) : w.frozen? ⟨g, i, none⟩ = false := by
  unfold Blk at h
  simp [World.frozen?, h]
theorem Blk.new (w : World) (t : TypeId) (cs : Array Value) : Blk (w.alloc (.cells cs t)) w.heap.size t cs := heap_alloc_new w _
theorem Blk.drew (h : Blk w g t cs) : Blk w.drew g t cs := h
theorem Blk.drewN (h : Blk w g t cs) (n : Nat) : Blk (w.drewN n) g t cs := h
theorem Blk.alloc (h : Blk w g t cs) (o : Obj) : Blk (w.alloc o) g t cs := (Below.heap_alloc w o g h.lt).trans h
theorem Blk.set_ (h : Blk w g t cs) (i : Nat) (u : Value) : Blk (w.setCell ⟨g, i, none⟩ u) g t (cs.setIfInBounds i u) := by
  unfold Blk at h ⊢
  simp [World.setCell, Array.getElem?_modify, h]
theorem Blk.far (h : Blk w g t cs) {p : Addr} (hp : g ≠ p.block) (u : Value) : Blk (w.setCell p u) g t cs := (Below.heap_setCell w p u g hp).trans h
theorem Blk.below {B : Nat} (h : Blk w g t cs) (hb : Below B w w') (hg : g < B) : Blk w' g t cs := (hb.block g hg).trans h
theorem Blk.grown {row : Option Nat} (h : Blk w g t cs) (hb : w.grownBy w' row) (hg : some g ≠ row) : Blk w' g t cs := (hb.block g h.lt hg).trans h
theorem Blk.ne_ {g' : Nat} {t' : TypeId} {cs' : Array Value} (h : Blk w g t cs) (h' : Blk w g' t' cs') (hne : t ≠ t') : g ≠ g' := by
  rintro rfl
  unfold Blk at h h'
  rw [h] at h'
  injection h' with h'
  injection h' with _ ht
  exact hne ht
theorem own_blk_ne {base : Nat} {e : TypeId} {size n : Nat} {v : Value} {xs : List Value} (h : w.ownsRow base e size v n xs) (hg : Blk w g t cs) (hne : e ≠ t) : v.ownBlock ≠ some g := by
  rcases h.2 with ⟨rfl, _⟩ | ⟨g', cap, cur, rfl, _, hh, _⟩
  · simp [Value.ownBlock]
  · intro he
    have : g' = g := by simpa [Value.ownBlock] using he
    subst this
    exact Blk.ne_ (t := e) hh hg hne rfl
end

section
variable {P : Program} (w : World)

theorem run_append_of_nil (base : Nat) (t ty e : TypeId) (i : TypeInfo) (size : Nat) (ht : P.underlying t = some (.slice e)) (hi : P.info? e = some i)
    (v : Value) (n : Nat) (xs : List Value) (hown : w.ownsRow base e size v n xs) (c : Nat) : (Builtin.append_ #[t, t] ty #[v, .slice none 0 c]).run P w = .ok v w := by
  rcases hown.2 with ⟨rfl, rfl⟩ | ⟨g, cap, cur, rfl, _, _, hnc, _⟩
  · simp [Builtin.append_, run_underlying ht, sizeOf, typeInfo, hi, Builtin.lenOf, Builtin.firstCells]
  · simp [Builtin.append_, run_underlying ht, sizeOf, typeInfo, hi, Builtin.lenOf, Builtin.firstCells, hnc, storeCells]

theorem run_append_any (base : Nat) (t ty e : TypeId) (i : TypeInfo) (z : Value) (size bytes : Nat) (ht : P.underlying t = some (.slice e)) (hi : P.info? e = some i) (hz : i.zero = some z)
    (hsize : i.size = size) (hby : i.bytes = bytes) (hzs : z.cells.size = size) (hsz : 0 < size)
    (v : Value) (n : Nat) (xs : List Value) (hown : w.ownsRow base e size v n xs)
    (B : Nat) (A : Option Addr) (m c : Nat) (news : List Value) (hr : Reads w B size A m news) (h1 : ∀ u ∈ news, u.oneCell' = true)
    (h63 : n + m ≤ maxLen) (hbytes : (n + m) * bytes ≤ 140737488355328) (hbase : base ≤ w.heap.size) :
    ∃ v' w', (Builtin.append_ #[t, t] ty #[v, .slice A m c]).run P w = .ok v' w' ∧ w'.ownsRow base e size v' (n + m) (xs ++ news) ∧ w.grownBy w' v.ownBlock ∧
      (v'.ownBlock = v.ownBlock ∨ v'.ownBlock = some w.heap.size) := by
  rcases A with _ | ad
  · have hm : m = 0 := by
      rcases Nat.eq_zero_or_pos m with h0 | h0
      · exact h0
      · obtain ⟨ad, h, _⟩ := hr.2 h0
        cases h
    subst hm
    have hn : news = [] := List.eq_nil_of_length_eq_zero (by simpa using hr.1)
    subst hn
    exact ⟨v, w, run_append_of_nil w base t ty e i size ht hi v n xs hown c, by simpa using hown, World.grownBy.refl w _, .inl rfl⟩
  · have hcells : ∀ j u, news[j]? = some u → w.cell? (ad.add j) = some u := by
      intro j u hu
      rcases Nat.eq_zero_or_pos m with h0 | h0
      · subst h0
        have hn : news = [] := List.eq_nil_of_length_eq_zero (by simpa using hr.1)
        subst hn
        simp at hu
      · obtain ⟨ad', h, _, hc⟩ := hr.2 h0
        injection h with h
        subst h
        exact hc j u hu
    obtain ⟨v', w', hrun, h2, h3, _, h5⟩ := run_append_own_at (P := P) w base t ty e i z size bytes ht hi hz hsize hby hzs hsz v n xs hown ad m c news hr.1 hcells h1 h63 hbytes hbase
    exact ⟨v', w', hrun, h2, h3, h5⟩

theorem wp_append_any {o : Oper} {a : Act} {K : Act → World → Prop} {Q : Exit → Act → World → Prop} (s x : Operand) (t : TypeId)
    (ho : o.op = .call { callee := .builtin .append, args := #[s, x], argTypes := #[t, t] })
    (base : Nat) (e : TypeId) (i : TypeInfo) (z : Value) (size bytes : Nat) (ht : P.underlying t = some (.slice e)) (hi : P.info? e = some i) (hz : i.zero = some z)
    (hsize : i.size = size) (hby : i.bytes = bytes) (hzs : z.cells.size = size) (hsz : 0 < size)
    (v : Value) (n : Nat) (xs : List Value) (hs : a.eval s = v) (hown : w.ownsRow base e size v n xs)
    (B : Nat) (A : Option Addr) (m c : Nat) (news : List Value) (hx : a.eval x = .slice A m c) (hr : Reads w B size A m news) (h1 : ∀ u ∈ news, u.oneCell' = true)
    (h63 : n + m ≤ maxLen) (hbytes : (n + m) * bytes ≤ 140737488355328) (hbase : base ≤ w.heap.size)
    (h : ∀ v' w', w'.ownsRow base e size v' (n + m) (xs ++ news) → w.grownBy w' v.ownBlock → (v'.ownBlock = v.ownBlock ∨ v'.ownBlock = some w.heap.size) → K (a.put o.dst v') w') : o.wp P a w K Q := by
  obtain ⟨v', w', hrun, h2, h3, h4⟩ := run_append_any (P := P) w base t o.type e i z size bytes ht hi hz hsize hby hzs hsz v n xs hown B A m c news hr h1 h63 hbytes hbase
  unfold Oper.wp execOp
  simp only [ho, resolve, invoke, builtin, Sem.run_bind, Sem.run_pure, Result.andThen_ok, List.map_toArray, List.map_cons, List.map_nil, hs, hx, hrun]
  exact h v' w' h2 h3 h4

theorem wpList_append_any {ops : Array Oper} {rest : List Oper} {o : Oper} {a : Act} {Q : Exit → Act → World → Prop} (hgd : o.guard = none) (s x : Operand) (t : TypeId)
    (ho : o.op = .call { callee := .builtin .append, args := #[s, x], argTypes := #[t, t] })
    (base : Nat) (e : TypeId) (i : TypeInfo) (z : Value) (size bytes : Nat) (ht : P.underlying t = some (.slice e)) (hi : P.info? e = some i) (hz : i.zero = some z)
    (hsize : i.size = size) (hby : i.bytes = bytes) (hzs : z.cells.size = size) (hsz : 0 < size)
    (v : Value) (n : Nat) (xs : List Value) (hs : a.eval s = v) (hown : w.ownsRow base e size v n xs)
    (B : Nat) (A : Option Addr) (m c : Nat) (news : List Value) (hx : a.eval x = .slice A m c) (hr : Reads w B size A m news) (h1 : ∀ u ∈ news, u.oneCell' = true)
    (h63 : n + m ≤ maxLen) (hbytes : (n + m) * bytes ≤ 140737488355328) (hbase : base ≤ w.heap.size)
    (h : ∀ v' w', w'.ownsRow base e size v' (n + m) (xs ++ news) → w.grownBy w' v.ownBlock → (v'.ownBlock = v.ownBlock ∨ v'.ownBlock = some w.heap.size) → wpList P ops Q rest (a.put o.dst v') w') : wpList P ops Q (o :: rest) a w :=
  wpList_plain hgd fun _ hK => wp_append_any w s x t ho base e i z size bytes ht hi hz hsize hby hzs hsz v n xs hs hown B A m c news hx hr h1 h63 hbytes hbase fun v' w' h2 h3 h4 => hK _ _ (h v' w' h2 h3 h4)

theorem step_append_any {ops : Array Oper} {o : Oper} {a : Act} {K : Act → World → Prop} {Q : Exit → Act → World → Prop} {E : Prop} (hgd : o.guard = none) (s x : Operand) (t : TypeId)
    (ho : o.op = .call { callee := .builtin .append, args := #[s, x], argTypes := #[t, t] })
    (base : Nat) (e : TypeId) (i : TypeInfo) (z : Value) (size bytes : Nat) (ht : P.underlying t = some (.slice e)) (hi : P.info? e = some i) (hz : i.zero = some z)
    (hsize : i.size = size) (hby : i.bytes = bytes) (hzs : z.cells.size = size) (hsz : 0 < size)
    (v : Value) (n : Nat) (xs : List Value) (hs : a.eval s = v) (hown : w.ownsRow base e size v n xs)
    (B : Nat) (A : Option Addr) (m c : Nat) (news : List Value) (hx : a.eval x = .slice A m c) (hr : Reads w B size A m news) (h1 : ∀ u ∈ news, u.oneCell' = true)
    (h63 : n + m ≤ maxLen) (hbytes : (n + m) * bytes ≤ 140737488355328) (hbase : base ≤ w.heap.size)
    (h : ∀ v' w', w'.ownsRow base e size v' (n + m) (xs ++ news) → w.grownBy w' v.ownBlock → (v'.ownBlock = v.ownBlock ∨ v'.ownBlock = some w.heap.size) → K (a.put o.dst v') w') :
    if Region.wanted o (yielded ops a.tmps) = true then Oper.wp P o a w K Q else E := by
  have hw : Region.wanted o (yielded ops a.tmps) = true := by simp [Region.wanted, hgd]
  rw [if_pos hw]
  exact wp_append_any w s x t ho base e i z size bytes ht hi hz hsize hby hzs hsz v n xs hs hown B A m c news hx hr h1 h63 hbytes hbase h
end
theorem u8_info : (Tryz.prog.info? 5).map (fun i => (i.zero, i.size, i.bytes)) = some (some (.int .u8 0), 1, 1) := by kernel_rfl
theorem one_u8 (l : List Int) : ∀ u ∈ l.map (Value.int .u8), u.oneCell' = true := by
  intro u hu
  obtain ⟨x, _, rfl⟩ := List.mem_map.1 hu
  rfl
theorem IntsAt.of_own {k : IntKind} {w : World} {base : Nat} {e : TypeId} {v : Value} {l : List Int} (h : w.ownsRow base e 1 v l.length (l.map (.int k))) : IntsAt k w w.heap.size v l := by
  rcases h.2 with ⟨rfl, h0⟩ | ⟨g, cap, cur, rfl, _, _, hn, hm, _⟩
  · obtain rfl : l = [] := List.eq_nil_of_length_eq_zero h0
    exact ⟨none, 0, rfl, by simp, by simp, fun _ => rfl, Reads.none_⟩
  · exact ⟨_, cap, rfl, hn, hm, (fun h => by cases h), Reads.of_own h⟩
theorem IntsAt.below {k : IntKind} {w w' : World} {B : Nat} {v : Value} {l : List Int} (h : IntsAt k w B v l) (hb : Below B w w') : IntsAt k w' B v l := by
  obtain ⟨A, c, h1, h2, h3, h4, h5⟩ := h
  exact ⟨A, c, h1, h2, h3, h4, h5.below hb⟩
theorem IntsAt.more {k : IntKind} {w : World} {B B' : Nat} {v : Value} {l : List Int} (h : IntsAt k w B v l) (hb : B ≤ B') : IntsAt k w B' v l := by
  obtain ⟨A, c, h1, h2, h3, h4, h5⟩ := h
  exact ⟨A, c, h1, h2, h3, h4, h5.more hb⟩
theorem IntsAt.nil (k : IntKind) (w : World) (B : Nat) : IntsAt k w B (.slice none 0 0) [] := ⟨none, 0, rfl, by simp, by simp, fun _ => rfl, Reads.none_⟩

/-! ### a block known whole, with its mark -/
def MBlk (w : World) (g : Nat) (t : TypeId) (l : List Value) (fr : Nat × Nat) : Prop := w.heap[g]? = some (.cells l.toArray t fr)
section
variable {w w' : World} {g : Nat} {t : TypeId} {l : List Value} {fr : Nat × Nat}
theorem MBlk.lt (h : MBlk w g t l fr) : g < w.heap.size := by
  rcases Nat.lt_or_ge g w.heap.size with hlt | hge
  · exact hlt
  · unfold MBlk at h; rw [Array.getElem?_eq_none hge] at h; cases h
theorem MBlk.cell (h : MBlk w g t l fr) (i : Nat) : w.cell? ⟨g, i, none⟩ = l[i]? := by
  rw [cell_of_row w g i l.toArray t fr h]; simp
theorem MBlk.frozen (h : MBlk w g t l fr) {i : Nat} (hi : i < fr.1) : w.frozen? ⟨g, i, none⟩ = false := by
  unfold MBlk at h
  obtain ⟨lo, hi'⟩ := fr
  simp only at hi
  simp only [World.frozen?, h]
  simp only [Bool.and_eq_false_iff, decide_eq_false_iff_not]
  omega
theorem MBlk.new (w : World) (t : TypeId) (l : List Value) (fr : Nat × Nat) : MBlk (w.alloc (.cells l.toArray t fr)) w.heap.size t l fr := heap_alloc_new w _
theorem MBlk.alloc (h : MBlk w g t l fr) (o : Obj) : MBlk (w.alloc o) g t l fr := (Below.heap_alloc w o g h.lt).trans h
theorem MBlk.set_ (h : MBlk w g t l fr) (i : Nat) (u : Value) : MBlk (w.setCell ⟨g, i, none⟩ u) g t (l.set i u) fr := by
  unfold MBlk at h ⊢
  simp [World.setCell, Array.getElem?_modify, h]
theorem MBlk.far (h : MBlk w g t l fr) {p : Addr} (hp : g ≠ p.block) (u : Value) : MBlk (w.setCell p u) g t l fr := (Below.heap_setCell w p u g hp).trans h
theorem MBlk.below {B : Nat} (h : MBlk w g t l fr) (hb : Below B w w') (hg : g < B) : MBlk w' g t l fr := (hb.block g hg).trans h
end
/-- what a cell holds, whatever it is -/
def peek (w : World) (a : Addr) : Value := (w.cell? a).getD undef
theorem peek_some {w : World} {a : Addr} {v : Value} (h : w.cell? a = some v) : w.cell? a = some (peek w a) := by unfold peek; rw [h]; rfl

/-- n cells in a block of this type -/
def HasBlk (w : World) (g : Nat) (t : TypeId) (n : Nat) : Prop := ∃ cs : Array Value, cs.size = n ∧ Blk w g t cs
theorem HasBlk.peek_ {w : World} {g : Nat} {t : TypeId} {n : Nat} (h : HasBlk w g t n) {i : Nat} (hi : i < n) : w.cell? ⟨g, i, none⟩ = some (peek w ⟨g, i, none⟩) := by
  obtain ⟨cs, hs, hb⟩ := h
  refine peek_some (v := cs[i]) ?_
  rw [hb.cell i, Array.getElem?_eq_getElem]
theorem HasBlk.frozen {w : World} {g : Nat} {t : TypeId} {n : Nat} (h : HasBlk w g t n) (i : Nat) : w.frozen? ⟨g, i, none⟩ = false := by
  obtain ⟨cs, hs, hb⟩ := h
  exact hb.frozen i
theorem HasBlk.below {w w' : World} {g : Nat} {t : TypeId} {n : Nat} (h : HasBlk w g t n) (hb : Below w.heap.size w w') : HasBlk w' g t n := by
  obtain ⟨cs, hs, h⟩ := h
  exact ⟨cs, hs, h.below hb h.lt⟩
theorem HasBlk.set_ {w : World} {g : Nat} {t : TypeId} {n : Nat} (h : HasBlk w g t n) (i : Nat) (u : Value) : HasBlk (w.setCell ⟨g, i, none⟩ u) g t n := by
  obtain ⟨cs, hs, h⟩ := h
  exact ⟨_, by simp [hs], h.set_ i u⟩
theorem HasBlk.lt {w : World} {g : Nat} {t : TypeId} {n : Nat} (h : HasBlk w g t n) : g < w.heap.size := by
  obtain ⟨cs, hs, h⟩ := h
  exact h.lt

/-! ### a run of stores into one block -/
def setAll (w : World) (g : Nat) : Nat → List Value → World
  | _, [] => w
  | i, v :: r => setAll (w.setCell ⟨g, i, none⟩ v) g (i + 1) r
theorem HasBlk.setAll {g : Nat} {t : TypeId} {n : Nat} : ∀ (vs : List Value) (i : Nat) {w : World}, HasBlk w g t n → HasBlk (setAll w g i vs) g t n
  | [], _, _, h => h
  | v :: r, i, _, h => HasBlk.setAll r (i + 1) (h.set_ i v)
theorem Below.setAll {B g : Nat} (hB : B ≤ g) : ∀ (vs : List Value) (i : Nat) {a w : World}, Below B a w → Below B a (setAll w g i vs)
  | [], _, _, _, h => h
  | v :: r, i, _, _, h => Below.setAll hB r (i + 1) (h.setCell (p := ⟨g, i, none⟩) hB v)
theorem Blk.far_setAll {g b : Nat} {t : TypeId} {cs : Array Value} (hne : b ≠ g) : ∀ (vs : List Value) (i : Nat) {w : World}, Blk w b t cs → Blk (setAll w g i vs) b t cs
  | [], _, _, h => h
  | v :: r, i, _, h => Blk.far_setAll hne r (i + 1) (h.far (p := ⟨g, i, none⟩) hne v)
theorem Blk.fill_from {g : Nat} {t : TypeId} : ∀ (vs : List Value) (i : Nat) {w : World} {cs : Array Value}, Blk w g t cs → cs.size = i + vs.length → Blk (setAll w g i vs) g t (cs.toList.take i ++ vs).toArray
  | [], i, w, cs, h, hs => by
    have e : (cs.toList.take i ++ []).toArray = cs := by
      rw [List.append_nil, List.take_of_length_le (by simp at hs ⊢; omega)]
    rw [e]
    exact h
  | v :: r, i, w, cs, h, hs => by
    have h2 := Blk.fill_from r (i + 1) (h.set_ i v) (by simp at hs ⊢; omega)
    have e : (cs.setIfInBounds i v).toList.take (i + 1) ++ r = cs.toList.take i ++ v :: r := by
      have hi : i < cs.toList.length := by simp at hs ⊢; omega
      rw [Array.toList_setIfInBounds, List.take_succ_eq_append_getElem (by simpa using hi), List.take_set_of_le (by omega)]
      simp
    rw [e] at h2
    exact h2
theorem Blk.fill {w : World} {g : Nat} {t : TypeId} {cs : Array Value} (h : Blk w g t cs) (vs : List Value) (hs : cs.size = vs.length) : Blk (setAll w g 0 vs) g t vs.toArray := by
  have := Blk.fill_from vs 0 h (by omega)
  simpa using this
theorem HasBlk.fill {w : World} {g : Nat} {t : TypeId} {n : Nat} (h : HasBlk w g t n) (vs : List Value) (hs : vs.length = n) : Blk (Proofs.YtjglenhhgbokbaaGreatDoor.setAll w g 0 vs) g t vs.toArray := by
  obtain ⟨cs, hn, hb⟩ := h
  exact hb.fill vs (by omega)
end Go.Proofs.YtjglenhhgbokbaaGreatDoor
