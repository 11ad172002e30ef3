/-
  The law DeskRefuses: what it computes is true. Condition: raw things of the second form's bound.
-/
import Derived.Test.YtphmhmdcaafmdaaGreatDoorDeskR
import Derived.Test.YtphmhmdcaafmdaaGreatDoorTree
import Derived.Test.YtphmhmdcaafmdaaGreatDoorSame
import Derived.Great.BuildSlice
namespace Go.Proofs.YtphmhmdcaafmdaaGreatDoor
set_option linter.all false
open Go.RowKit
theorem dnodeinfo : (Tryz.prog.info? 29).map (·.size) = some 12 := by kernel_rfl
theorem NodesAt.load {w : World} {A : Option Addr} {n c : Nat} {l : List NodeP} (h : NodesAt w (.slice A n c) l) {k : Nat} (hk : k < l.length) :
    ∃ (ad : Addr) (Ax : Option Addr) (cx : Nat), A = some ad ∧ ad.block < w.heap.size ∧ DataAt w 0 (.slice Ax l[k].data.length cx) l[k].data ∧
      (Instr.loadAt 29 (.pointer (some (ad.add (k * 12))))).run Tryz.prog w = .ok (.agg (nodeC (l[k], .slice Ax l[k].data.length cx)).toArray) w := by
  obtain ⟨ad, Ax, cx, e, hb, hd, e0, e1, e2, e3, e4, e5, e6, e7, e8, e9, e10, e11⟩ := node_read h hk
  refine ⟨ad, Ax, cx, e, hb, hd, ?_⟩
  have hsp := spot_of e0
  generalize ad.add (k * 12) = q at *
  obtain ⟨g, o, sp⟩ := q
  simp only at hsp
  subst hsp
  refine run_loadAt_mid w g o 29 (nodeC (l[k], .slice Ax l[k].data.length cx)) _ (fun j v hv => ?_) Tryz.underlying29 rfl dnodeinfo
  have hj : j < 12 := by have := (List.getElem?_eq_some_iff.1 hv).1; rwa [nodeC_length] at this
  rw [← hv]
  obtain rfl | rfl | rfl | rfl | rfl | rfl | rfl | rfl | rfl | rfl | rfl | rfl : j = 0 ∨ j = 1 ∨ j = 2 ∨ j = 3 ∨ j = 4 ∨ j = 5 ∨ j = 6 ∨ j = 7 ∨ j = 8 ∨ j = 9 ∨ j = 10 ∨ j = 11 := by omega
  · exact e0
  · exact e1
  · exact e2
  · exact e3
  · exact e4
  · exact e5
  · exact e6
  · exact e7
  · exact e8
  · exact e9
  · exact e10
  · exact e11
theorem node_one (n : NodeP) (A : Option Addr) (k c : Nat) : (nodeC (n, .slice A k c)).toArray.all (·.oneCell') = true := by simp [nodeC, Value.oneCell']
theorem stepinfo3 : (Tryz.prog.info? 45).map (fun i => (i.zero, i.size, i.bytes)) = some (some (.agg stepZ), 18, 232) := by kernel_rfl
def zNodeC : Array Value := #[.string ⟨#[]⟩, .int .i64 0, .int .i64 0, .string ⟨#[]⟩, .int .i64 0, .int .i64 0, .int .i64 0, .string ⟨#[]⟩, .string ⟨#[]⟩, .int .i64 0, .int .i64 0, .slice none 0 0]
/-- a row of steps of the call's own -/
def StepsOwn (w : World) (base : Nat) (v : Value) (l : List StepP) : Prop :=
  ∃ xs : List StepV, xs.map (·.1) = l ∧ w.ownsRow base 45 18 v l.length (xs.flatMap stepV) ∧ ∀ x ∈ xs, DataAt w 0 x.2 x.1.node.data
theorem StepsOwn.below {w w' : World} {base : Nat} {v : Value} {l : List StepP} (h : StepsOwn w base v l) (hb : Below w.heap.size w w') : StepsOwn w' base v l := by
  obtain ⟨xs, h0, h1, h2⟩ := h
  exact ⟨xs, h0, ownsRow_below h1 hb, fun x hx => (h2 x hx).below hb⟩
theorem StepsOwn.at_ {w : World} {base : Nat} {v : Value} {l : List StepP} (h : StepsOwn w base v l) : StepsAt w v l := by
  obtain ⟨xs, h0, h1, h2⟩ := h
  obtain ⟨A, c, e1, e2, e3, e4, e5⟩ := ownsRow_read h1
  exact ⟨xs, A, c, h0, e1, e2, e3, e5, h2⟩
theorem StepsOwn.nil (w : World) (base : Nat) : StepsOwn w base (.slice none 0 0) [] := ⟨[], rfl, World.ownsRow_nil _ _ _ _, by simp⟩
theorem StepsOwn.open_ {w : World} {base : Nat} {v : Value} {l : List StepP} (h : StepsOwn w base v l) : ∃ (xs : List StepV) (A : Option Addr) (n c : Nat), xs.map (·.1) = l ∧ n = l.length ∧ v = .slice A n c ∧ n ≤ c ∧ c ≤ maxLen ∧ w.ownsRow base 45 18 v n (xs.flatMap stepV) ∧ ∀ x ∈ xs, DataAt w 0 x.2 x.1.node.data := by
  obtain ⟨xs, h0, h1, h2⟩ := h
  obtain ⟨A, c, e1, e2, e3, e4, e5⟩ := ownsRow_read h1
  exact ⟨xs, A, _, c, h0, rfl, e1, e2, e3, h1, h2⟩
theorem StepsOwn.lt {w : World} {base : Nat} {v : Value} {l : List StepP} (h : StepsOwn w base v l) {g : Nat} (hg : v.ownBlock = some g) : base ≤ g ∧ g < w.heap.size := by
  obtain ⟨xs, h0, h1, h2⟩ := h
  exact h1.lt g hg
theorem StepsOwn.typed {w : World} {base : Nat} {v : Value} {l : List StepP} (h : StepsOwn w base v l) {g : Nat} (hg : v.ownBlock = some g) : ∃ C fr, w.heap[g]? = some (.cells C 45 fr) := by
  obtain ⟨xs, h0, h1, h2⟩ := h
  exact (own_typed h1 hg).2
theorem DataAt.row {w w' : World} {v : Value} {l : List UInt8} {row : Option Nat} (h : DataAt w 0 v l) (hg : w.grownBy w' row) (hr : ∀ g, row = some g → ∃ C fr, w.heap[g]? = some (.cells C 45 fr)) : DataAt w' 0 v l :=
  h.kept (U8Kept.grown hg (fun g e => by obtain ⟨C, fr, hC⟩ := hr g e; exact ⟨C, _, fr, hC, by decide⟩))
/-- the other row, when one has grown -/
theorem StepsOwn.other {w w' : World} {base : Nat} {v : Value} {l : List StepP} {row : Option Nat} (h : StepsOwn w base v l) (hg : w.grownBy w' row) (hne : v.ownBlock = none ∨ v.ownBlock ≠ row) (hr : ∀ g, row = some g → ∃ C fr, w.heap[g]? = some (.cells C 45 fr)) : StepsOwn w' base v l := by
  obtain ⟨xs, h0, h1, h2⟩ := h
  exact ⟨xs, h0, h1.kept hg hne, fun x hx => (h2 x hx).row hg hr⟩
theorem StepsOwn.app {w w' : World} {base : Nat} {v v' : Value} {l m : List StepP} {xs ys : List StepV} (hx : xs.map (·.1) = l) (hy : ys.map (·.1) = m) (hd : ∀ x ∈ xs, DataAt w 0 x.2 x.1.node.data) (hn : ∀ y ∈ ys, DataAt w 0 y.2 y.1.node.data) (h : w.ownsRow base 45 18 v l.length (xs.flatMap stepV)) (hg : w.grownBy w' v.ownBlock)
    (ho : w'.ownsRow base 45 18 v' (l.length + m.length) (xs.flatMap stepV ++ ys.flatMap stepV)) : StepsOwn w' base v' (l ++ m) := by
  have hr : ∀ g, v.ownBlock = some g → ∃ C fr, w.heap[g]? = some (.cells C 45 fr) := fun g hg => (own_typed h hg).2
  refine ⟨xs ++ ys, by rw [List.map_append, hx, hy], ?_, fun x hx2 => ?_⟩
  · rw [List.length_append, List.flatMap_append]
    exact ho
  · rcases List.mem_append.1 hx2 with h1 | h1
    · exact (hd x h1).row hg hr
    · exact (hn x h1).row hg hr
structure DlSt (w1 : World) (t : List NodeP) (k : Nat) (vo vs : Value) (W : World) : Prop where
  below : Below w1.heap.size w1 W
  own : StepsOwn W w1.heap.size vo (ownL (t.take k))
  all : StepsOwn W w1.heap.size vs (allL (t.take k))
  apart : vs.ownBlock = none ∨ vs.ownBlock ≠ vo.ownBlock
theorem ownL_take {t : List NodeP} {k : Nat} (hk : k < t.length) : ownL (t.take (k + 1)) = ownL (t.take k) ++ [⟨1, t[k], []⟩] := by
  unfold ownL
  rw [List.take_succ_eq_append_getElem hk, List.map_append]
  rfl
theorem allL_take {t : List NodeP} {k : Nat} (hk : k < t.length) : allL (t.take (k + 1)) = allL (t.take k) ++ four t[k] := by
  unfold allL
  rw [List.take_succ_eq_append_getElem hk, List.flatMap_append]
  simp
def oneC (n : NodeP) (dv : Value) : List Value := stepV (⟨1, n, []⟩, dv)
def s2C : List Value := stepV (⟨2, dnZ, [110, 111, 110, 101]⟩, .slice none 0 0)
def s3C : List Value := stepV (⟨9, dnZ, []⟩, .slice none 0 0)
def s4C : List Value := stepV (⟨1, upZ, []⟩, .slice none 0 0)
def s5C : List Value := stepV (⟨4, dnZ, []⟩, .slice none 0 0)
theorem bld1 (n : NodeP) (A : Option Addr) (k c : Nat) (W : World) : (Instr.build 45 #[(0, .int .i64 1), (1, .agg (nodeC (n, .slice A k c)).toArray)]).run Tryz.prog W = .ok (.agg (oneC n (.slice A k c)).toArray) W := run_build W _ _ _ (by kernel_rfl)
theorem bld2 (W : World) : (Instr.build 45 #[(0, .int .i64 2), (2, .string ⟨#[110, 111, 110, 101]⟩)]).run Tryz.prog W = .ok (.agg s2C.toArray) W := run_build W _ _ _ (by kernel_rfl)
theorem bld3 (W : World) : (Instr.build 45 #[(0, .int .i64 9)]).run Tryz.prog W = .ok (.agg s3C.toArray) W := run_build W _ _ _ (by kernel_rfl)
theorem bldN (W : World) : (Instr.build 29 #[(0, .string ⟨#[122, 122, 47, 122, 122]⟩), (1, .int .i64 1)]).run Tryz.prog W = .ok (.agg (nodeC (upZ, .slice none 0 0)).toArray) W := run_build W _ _ _ (by kernel_rfl)
theorem bld4 (W : World) : (Instr.build 45 #[(0, .int .i64 1), (1, .agg (nodeC (upZ, .slice none 0 0)).toArray)]).run Tryz.prog W = .ok (.agg s4C.toArray) W := run_build W _ _ _ (by kernel_rfl)
theorem bld5 (W : World) : (Instr.build 45 #[(0, .int .i64 4)]).run Tryz.prog W = .ok (.agg s5C.toArray) W := run_build W _ _ _ (by kernel_rfl)
theorem bsl (W : World) (len : Nat) (parts : Array (Nat × Value)) (cs : List Value) (h1 : ¬ len * 18 > 2 ^ 24) (h2 : ¬ len * 18 = 0)
    (h : Instr.fill (fun i => some (i * 18, 18)) ((Array.range (len * 18)).map ((Value.agg stepZ).cells[· % (Value.agg stepZ).cells.size]!)) parts.toList = some cs.toArray) :
    (Instr.buildSlice 39 len parts).run Tryz.prog W = .ok (.slice (some ⟨W.heap.size, 0, none⟩) len len) (W.alloc (.cells cs.toArray 45)) := by
  obtain ⟨i, hi, hz, hs, -⟩ := info_parts stepinfo3
  exact run_buildSlice W _ _ len parts _ i _ Tryz.underlying39 hi hz (by rw [hs]; exact h1) (by rw [hs]; exact h2) (by rw [hs]; exact h)
theorem bsl1 (n : NodeP) (A : Option Addr) (k c : Nat) (W : World) : (Instr.buildSlice 39 1 #[(0, .agg (oneC n (.slice A k c)).toArray)]).run Tryz.prog W = .ok (.slice (some ⟨W.heap.size, 0, none⟩) 1 1) (W.alloc (.cells (oneC n (.slice A k c)).toArray 45)) := bsl W 1 _ _ (by decide) (by decide) (by kernel_rfl)
def fourC (n : NodeP) (dv : Value) : List Value := oneC n dv ++ (s2C ++ (s3C ++ s4C))
theorem bsl4 (n : NodeP) (A : Option Addr) (k c : Nat) (W : World) : (Instr.buildSlice 39 4 #[(0, .agg (oneC n (.slice A k c)).toArray), (1, .agg s2C.toArray), (2, .agg s3C.toArray), (3, .agg s4C.toArray)]).run Tryz.prog W = .ok (.slice (some ⟨W.heap.size, 0, none⟩) 4 4) (W.alloc (.cells (fourC n (.slice A k c)).toArray 45)) := bsl W 4 _ _ (by decide) (by decide) (by kernel_rfl)
theorem bsl5 (W : World) : (Instr.buildSlice 39 1 #[(0, .agg s5C.toArray)]).run Tryz.prog W = .ok (.slice (some ⟨W.heap.size, 0, none⟩) 1 1) (W.alloc (.cells s5C.toArray 45)) := bsl W 1 _ _ (by decide) (by decide) (by kernel_rfl)
theorem un_at (W : World) : StepsAt (W.alloc (.cells s5C.toArray 45)) (.slice (some ⟨W.heap.size, 0, none⟩) 1 1) [⟨4, dnZ, []⟩] := by
  refine ⟨[(⟨4, dnZ, []⟩, .slice none 0 0)], some ⟨W.heap.size, 0, none⟩, 1, rfl, rfl, Nat.le_refl _, by simp [maxLen], ?_, fun x hx => ?_⟩
  · have h := new_row W 45 (stepV (⟨4, dnZ, []⟩, .slice none 0 0)) 1 18 rfl
    have hz : (W.alloc (.cells s5C.toArray 45)).heap.size = W.heap.size + 1 := by simp
    rw [hz]
    exact h
  · rw [List.mem_singleton] at hx
    subst hx
    exact DataAt.nil _ _
theorem own_other {w : World} {base : Nat} {v u : Value} {l : List StepP} {W9 : Nat} (h : StepsOwn w base v l) (hW : w.heap.size ≤ W9) {u9 : Value} (hap : v.ownBlock = none ∨ v.ownBlock ≠ u.ownBlock) (hat : u9.ownBlock = u.ownBlock ∨ u9.ownBlock = some W9) : v.ownBlock = none ∨ v.ownBlock ≠ u9.ownBlock := by
  cases hv : v.ownBlock with
  | none => exact .inl rfl
  | some g =>
    refine .inr ?_
    rcases hat with e | e
    · rw [e]
      rcases hap with h1 | h1
      · rw [hv] at h1; cases h1
      · rwa [hv] at h1
    · rw [e]
      intro h1
      have := (h.lt hv).2
      injection h1 with h1
      omega
theorem DlSt.one {w1 W3 w9 : World} {t : List NodeP} {k no na : Nat} {vo vs v9 dv : Value} {xo xa : List StepV} (hk : k < t.length) (hb : Below w1.heap.size w1 W3) (hbs : w1.heap.size ≤ W3.heap.size)
    (ho0 : xo.map (·.1) = ownL (t.take k)) (hno : no = (ownL (t.take k)).length) (ho1 : W3.ownsRow w1.heap.size 45 18 vo no (xo.flatMap stepV)) (ho2 : ∀ x ∈ xo, DataAt W3 0 x.2 x.1.node.data)
    (ha0 : xa.map (·.1) = allL (t.take k)) (hna : na = (allL (t.take k)).length) (ha1 : W3.ownsRow w1.heap.size 45 18 vs na (xa.flatMap stepV)) (ha2 : ∀ x ∈ xa, DataAt W3 0 x.2 x.1.node.data)
    (hap : vs.ownBlock = none ∨ vs.ownBlock ≠ vo.ownBlock) (hd : DataAt W3 0 dv t[k].data)
    (hown9 : w9.ownsRow w1.heap.size 45 18 v9 (no + 1) (xo.flatMap stepV ++ oneC t[k] dv)) (hg9 : W3.grownBy w9 vo.ownBlock) (hat9 : v9.ownBlock = vo.ownBlock ∨ v9.ownBlock = some W3.heap.size) :
    StepsOwn w9 w1.heap.size v9 (ownL (t.take (k + 1))) ∧ w9.ownsRow w1.heap.size 45 18 vs na (xa.flatMap stepV) ∧ (∀ x ∈ xa, DataAt w9 0 x.2 x.1.node.data) ∧ (vs.ownBlock = none ∨ vs.ownBlock ≠ v9.ownBlock) ∧ DataAt w9 0 dv t[k].data ∧ Below w1.heap.size w1 w9 := by
  subst hno hna
  have hr : ∀ g, vo.ownBlock = some g → ∃ C fr, W3.heap[g]? = some (.cells C 45 fr) := fun g hg => (own_typed ho1 hg).2
  have ha : StepsOwn W3 w1.heap.size vs (allL (t.take k)) := ⟨xa, ha0, ha1, ha2⟩
  refine ⟨?_, ha1.kept hg9 hap, fun x hx => (ha2 x hx).row hg9 hr, own_other ha (Nat.le_refl _) hap hat9, hd.row hg9 hr, hb.grown hg9 hbs (fun g hg => (own_typed ho1 hg).1)⟩
  rw [ownL_take hk]
  refine StepsOwn.app (ys := [(⟨1, t[k], []⟩, dv)]) ho0 rfl ho2 (fun y hy => ?_) ho1 hg9 ?_
  · rw [List.mem_singleton] at hy
    subst hy
    exact hd
  · have e : ([(⟨1, t[k], []⟩, dv)] : List StepV).flatMap stepV = oneC t[k] dv := by simp [oneC]
    rw [e]
    exact hown9
theorem DlSt.two {w1 W3 w9 : World} {t : List NodeP} {k na : Nat} {vo vs v9 dv : Value} {xa : List StepV} (hk : k < t.length) (hb : Below w1.heap.size w1 W3) (hbs : w1.heap.size ≤ W3.heap.size)
    (ha0 : xa.map (·.1) = allL (t.take k)) (hna : na = (allL (t.take k)).length) (ha1 : W3.ownsRow w1.heap.size 45 18 vs na (xa.flatMap stepV)) (ha2 : ∀ x ∈ xa, DataAt W3 0 x.2 x.1.node.data)
    (ho : StepsOwn W3 w1.heap.size vo (ownL (t.take (k + 1)))) (hap : vs.ownBlock = none ∨ vs.ownBlock ≠ vo.ownBlock) (hd : DataAt W3 0 dv t[k].data)
    (hown9 : w9.ownsRow w1.heap.size 45 18 v9 (na + 4) (xa.flatMap stepV ++ fourC t[k] dv)) (hg9 : W3.grownBy w9 vs.ownBlock) (hat9 : v9.ownBlock = vs.ownBlock ∨ v9.ownBlock = some W3.heap.size) : DlSt w1 t (k + 1) vo v9 w9 := by
  subst hna
  have hr : ∀ g, vs.ownBlock = some g → ∃ C fr, W3.heap[g]? = some (.cells C 45 fr) := fun g hg => (own_typed ha1 hg).2
  have hap2 : vo.ownBlock = none ∨ vo.ownBlock ≠ vs.ownBlock := by
    cases hv : vo.ownBlock with
    | none => exact .inl rfl
    | some g =>
      rcases hap with h1 | h1
      · exact .inr (by rw [h1]; simp)
      · exact .inr (fun e => h1 (by rw [hv]; exact e.symm))
  refine ⟨hb.grown hg9 hbs (fun g hg => (own_typed ha1 hg).1), ho.other hg9 hap2 hr, ?_, ?_⟩
  · rw [allL_take hk]
    refine StepsOwn.app (ys := [(⟨1, t[k], []⟩, dv), (⟨2, dnZ, [110, 111, 110, 101]⟩, .slice none 0 0), (⟨9, dnZ, []⟩, .slice none 0 0), (⟨1, upZ, []⟩, .slice none 0 0)]) ha0 rfl ha2 (fun y hy => ?_) ha1 hg9 ?_
    · simp only [List.mem_cons, List.not_mem_nil, or_false] at hy
      rcases hy with rfl | rfl | rfl | rfl
      · exact hd
      · exact DataAt.nil _ _
      · exact DataAt.nil _ _
      · exact DataAt.nil _ _
    · have e : ([(⟨1, t[k], []⟩, dv), (⟨2, dnZ, [110, 111, 110, 101]⟩, .slice none 0 0), (⟨9, dnZ, []⟩, .slice none 0 0), (⟨1, upZ, []⟩, .slice none 0 0)] : List StepV).flatMap stepV = fourC t[k] dv := by simp [oneC, fourC, s2C, s3C, s4C]
      rw [e]
      exact hown9
  · rcases own_other (u := vs) (u9 := v9) ho (Nat.le_refl _) hap2 hat9 with h1 | h1
    · cases hv : v9.ownBlock with
      | none => exact .inl rfl
      | some g => exact .inr (by rw [h1]; simp)
    · exact .inr (fun e => h1 e.symm)
theorem one_len (n : NodeP) (A : Option Addr) (k c : Nat) : (oneC n (.slice A k c)).length = 1 * 18 := rfl
theorem four_len (n : NodeP) (A : Option Addr) (k c : Nat) : (fourC n (.slice A k c)).length = 4 * 18 := rfl
theorem one_cells (n : NodeP) (A : Option Addr) (k c : Nat) : ∀ u ∈ oneC n (.slice A k c), u.oneCell' = true := fun u hu => List.all_eq_true.1 (show (oneC n (.slice A k c)).all (·.oneCell') = true from rfl) u hu
theorem four_cells (n : NodeP) (A : Option Addr) (k c : Nat) : ∀ u ∈ fourC n (.slice A k c), u.oneCell' = true := fun u hu => List.all_eq_true.1 (show (fourC n (.slice A k c)).all (·.oneCell') = true from rfl) u hu
theorem rep_at (C : Nat → Int) {n k r : Nat} (hr : r < 3) (hk : k < n) : (repL C n)[k * 3 + r]? = (repC (C k)).toList[r]? := by
  unfold repL
  rw [flat_get (k := 3) (g := fun i => (repC (C i)).toList) (fun _ => rfl) (List.range n) k r hr, List.getElem?_range hk]
  rfl
theorem rep_read {w : World} {base n : Nat} {A : Option Addr} {m c : Nat} {C : Nat → Int} (h : w.ownsRow base 50 3 (.slice A m c) n (repL C n)) {k : Nat} (hk : k < n) :
    ∃ ad : Addr, A = some ad ∧ ad.block < w.heap.size ∧ w.cell? (ad.add (k * 3)) = some (.int .i64 (C k)) ∧ w.cell? ⟨(ad.add (k * 3)).block, (ad.add (k * 3)).off + 1, none⟩ = some (.int .i64 0) ∧ w.cell? ⟨(ad.add (k * 3)).block, (ad.add (k * 3)).off + 2, none⟩ = some (.int .i64 0) := by
  obtain ⟨h1, h2⟩ := h
  rcases h2 with ⟨-, h0⟩ | ⟨g, cap, cur, hv, hb, hg, hn, hm, hsz, ht⟩
  · omega
  · obtain ⟨e1, -, -⟩ := Value.slice.inj hv
    subst e1
    refine ⟨⟨g, 0, none⟩, rfl, heap_lt hg, ?_⟩
    have key : ∀ r, r < 3 → w.cell? ⟨g, k * 3 + r, none⟩ = (repC (C k)).toList[r]? := fun r hr => by
      rw [← rep_at C hr hk, ← ht, List.getElem?_take, if_pos (by omega)]
      unfold World.cell?
      rw [hg]
      simp
    rw [Addr.add_mid, Nat.zero_add]
    exact ⟨key 0 (by omega), key 1 (by omega), key 2 (by omega)⟩
set_option maxRecDepth 100000 in
set_option maxHeartbeats 8000000 in
theorem DeskRefuses_walk (w : World) (hsh : w.ShapedOpen Tryz.prog) (h10 : P10 w) (v : Value) (l : List RawS) (hl : RawsAt w w.heap.size v l) (hok : ∀ x ∈ l, RawOk x) (hn : l.length ≤ 1048576) :
    Calls Tryz.prog 4 #[v] w fun e w' => e = .returned (.bool true) ∧ Below w.heap.size w w' := by
  have hm := ML.of_shaped hsh
  clear hsh h10
  have HML : Hid (∀ W, Below w.heap.size w W → ML W) := Lib.hid (fun W hb => hm.below hb)
  have HT := Lib.hid (fun (_ : Unit) => Tree_any l v 10 w hm hl hok hn (by omega))
  have hto := treeP_ok l 10 (by omega)
  have htl := treeP_length l 10
  have htp := fun x hx => (treeP_parts l 10 x hx).1
  obtain ⟨Al, cl, rfl, -⟩ := hl
  clear hm hok hn
  generalize treeP l 10 = t at *
  obtain ⟨i9, hi9, hy0, hy1, hy2⟩ := info_parts stepinfo3
  have HRA := Lib.hid (fun W v (hb : Below w.heap.size w W) (h : StepsAt W v (allL t)) => (show Calls Tryz.prog 11 #[v] W fun e w' => ∃ rv tv, e = .returned (.tuple #[rv, tv, .int .i64 0]) ∧ w'.ownsRow W.heap.size 50 3 rv (allL t).length (repL codeA (allL t).length) ∧ NodesOwn w' W.heap.size tv t ∧ Below W.heap.size W w' by
    have h2 := Run_any v (allL t) (fun i => t.take ((i + 3) / 4)) codeA W (HML.out W hb) h (by rw [allL_len]; omega) rfl (fun i hi => all_to hto htl htp hi)
    have e : t.take (((allL t).length + 3) / 4) = t := by rw [allL_len]; exact List.take_of_length_le (by omega)
    simp only [e] at h2
    exact h2))
  have HRO := Lib.hid (fun W v (hb : Below w.heap.size w W) (h : StepsAt W v (ownL t)) => (show Calls Tryz.prog 11 #[v] W fun e w' => ∃ rv tv, e = .returned (.tuple #[rv, tv, .int .i64 0]) ∧ NodesOwn w' W.heap.size tv t ∧ Below W.heap.size W w' by
    have h2 := Run_any v (ownL t) (fun i => t.take i) (fun _ => 0) W (HML.out W hb) h (by rw [ownL_len]; omega) rfl (fun i hi => own_to hto hi)
    have e : t.take (ownL t).length = t := by rw [ownL_len]; exact List.take_length
    simp only [e] at h2
    exact h2.mono fun e w' ⟨rv, tv, h3, _, h4, h5⟩ => ⟨rv, tv, h3, h4, h5⟩))
  have HRU := Lib.hid (fun W v (hb : Below w.heap.size w W) (h : StepsAt W v [⟨4, dnZ, []⟩]) => (show Calls Tryz.prog 11 #[v] W fun e w' => ∃ rv tv, e = .returned (.tuple #[rv, tv, .int .i64 0]) ∧ w'.ownsRow W.heap.size 50 3 rv 1 (repL (fun _ => 5) 1) ∧ NodesOwn w' W.heap.size tv [] ∧ Below W.heap.size W w' by
    exact Run_any v [⟨4, dnZ, []⟩] (fun _ => []) (fun _ => 5) W (HML.out W hb) h (by simp) rfl (fun i hi => un_to hi)))
  clear hto htp HML
  go_enter Tryz.func4, Tryz.ntmps4
  go_wp2_with fail
  refine (HT.out ()).mono ?_
  rintro e w1 ⟨tv, rfl, htv, b1⟩
  have HB1 := Lib.hid b1
  have HN := Lib.hid htv.at_
  obtain ⟨_, At, ct, -, hte, hct1, hct2, -⟩ := htv.at_
  subst hte
  unfold maxLen at hct2
  have H0 : Hid (DlSt w1 t 0 (.slice none 0 0) (.slice none 0 0) w1) := Lib.hid ⟨Below.refl _ _, StepsOwn.nil _ _, StepsOwn.nil _ _, .inl rfl⟩
  clear htv b1 HT
  go_wp2_with fail
  go_loopg [3, 4, 21] t.length (fun gg s3 s4 s21 wr => ∃ k : Nat, k ≤ t.length ∧ t.length - k ≤ gg ∧ s21 = .int .i64 k ∧ Hid (DlSt w1 t k s4 s3 wr))
  case atStart => exact ⟨0, Nat.zero_le _, by omega, rfl, H0⟩
  case round =>
    obtain ⟨k, hk, hg, rfl, HS⟩ := hrel
    clear H0
    by_cases hlt : k < t.length
    · have hltz : (k : Int) < (t.length : Int) := by omega
      obtain ⟨ad, Ax, cx, rfl, hb, hdx, hld⟩ := (HN.out.below HS.out.below).load hlt
      obtain ⟨xo, Ao, no, co, ho0, hno, rfl, hco1, hco2, ho1, ho2⟩ := HS.out.own.open_
      obtain ⟨xa, Aa, na, ca, ha0, hna, rfl, hca1, hca2, ha1, ha2⟩ := HS.out.all.open_
      unfold maxLen at hco2 hca2
      have hnob : no ≤ 10 := by rw [hno, ownL_len, List.length_take]; omega
      have hnab : na ≤ 40 := by rw [hna, allL_len, List.length_take]; omega
      obtain ⟨W2, hst2, b2, hsz2, hk2⟩ := store_blk wr 29 zNodeC (nodeC (t[k], .slice Ax t[k].data.length cx)).toArray rfl dnodeinfo (node_one _ _ _ _)
      have HNS : Hid ((nodeC (t[k], .slice Ax t[k].data.length cx)).toArray.size = 12) := Lib.hid rfl
      have hld2 := load_blk hk2 Tryz.underlying29 rfl dnodeinfo
      unfold zNodeC at hst2
      have hB2 := HS.out.below.trans (b2.mono HS.out.below.size)
      have b3 := (Below.refl W2.heap.size W2).alloc (Nat.le_refl _) (.cells (oneC t[k] (.slice Ax t[k].data.length cx)).toArray 45)
      have hB3 := hB2.trans (b3.mono hB2.size)
      have b23 := b2.trans (b3.mono b2.size)
      have HB3 := Lib.hid hB3
      have HO3 := Lib.hid (ownsRow_below ho1 b23)
      have HOD := Lib.hid (fun x hx => (ho2 x hx).below b23)
      have HA3 := Lib.hid (ownsRow_below ha1 b23)
      have HAD := Lib.hid (fun x hx => (ha2 x hx).below b23)
      have HD3 := Lib.hid (hdx.below b23)
      have HK3 := Lib.hid (hk2.below b3 hk2.lt)
      have HONE := Lib.hid (fun w9 v9 h1 h2 h3 => DlSt.one (w9 := w9) (v9 := v9) hlt hB3 hB3.size ho0 hno HO3.out HOD.out ha0 hna HA3.out HAD.out HS.out.apart HD3.out h1 h2 h3)
      have HTWO := Lib.hid (fun W4 w9 vo v9 (hb : Below w1.heap.size w1 W4) (h1 : W4.ownsRow w1.heap.size 45 18 (.slice Aa na ca) na (xa.flatMap stepV)) (h2 : ∀ x ∈ xa, DataAt W4 0 x.2 x.1.node.data) (ho : StepsOwn W4 w1.heap.size vo (ownL (t.take (k + 1)))) (hap : (Value.slice Aa na ca).ownBlock = none ∨ (Value.slice Aa na ca).ownBlock ≠ vo.ownBlock) (hd : DataAt W4 0 (.slice Ax t[k].data.length cx) t[k].data) (h3 : w9.ownsRow w1.heap.size 45 18 v9 (na + 4) (xa.flatMap stepV ++ fourC t[k] (.slice Ax t[k].data.length cx))) (h4 : W4.grownBy w9 (Value.slice Aa na ca).ownBlock) (h5 : v9.ownBlock = (Value.slice Aa na ca).ownBlock ∨ v9.ownBlock = some W4.heap.size) => DlSt.two (W3 := W4) (w9 := w9) (v9 := v9) (vo := vo) (vs := .slice Aa na ca) (dv := .slice Ax t[k].data.length cx) hlt hb hb.size ha0 hna h1 h2 ho hap hd h3 h4 h5)
      have HG1 := Lib.hid (bld1 t[k] Ax t[k].data.length cx)
      have HG2 := Lib.hid (bsl1 t[k] Ax t[k].data.length cx)
      have HG4 := Lib.hid (bsl4 t[k] Ax t[k].data.length cx)
      have HL1 := Lib.hid (one_len t[k] Ax t[k].data.length cx)
      have HL4 := Lib.hid (four_len t[k] Ax t[k].data.length cx)
      have HC1 := Lib.hid (one_cells t[k] Ax t[k].data.length cx)
      have HC4 := Lib.hid (four_cells t[k] Ax t[k].data.length cx)
      clear hk2 hB2 hB3 b2 b3 b23 ho0 hno ho1 ho2 ha0 hna ha1 ha2 hdx HS hb hsz2
      generalize (Value.slice Ax t[k].data.length cx) = dv at *
      generalize (nodeC (t[k], dv)).toArray = N at *
      generalize oneC t[k] dv = L1 at *
      generalize fourC t[k] dv = L4 at *
      have HR1 := Lib.hid (new_row W2 45 L1 1 18 HL1.out)
      have HBS : Hid (w1.heap.size ≤ W2.heap.size + 1) := Lib.hid (by have := HB3.out.size; simpa using this)
      have g1 := HG1.out W2
      have g2 := HG2.out W2
      go_upto_region 5 with (first | ((with_reducible refine wpList_here ?_); refine wpList_load_run rfl _ _ rfl _ _ rfl hld ?_) | ((with_reducible refine wpList_here ?_); refine wpList_store_run rfl _ _ _ rfl _ _ rfl rfl hst2 ?_))
      refine wp_region_list ?_
      refine wpList_move_run rfl rfl rfl ?_
      simp only [Act.put, List.setIfInBounds_toArray, List.set_cons_zero, List.set_cons_succ, List.getElem_toArray, List.getElem_cons_zero, List.getElem_cons_succ]
      refine wpList_load_run rfl _ _ rfl _ _ rfl hld2 ?_
      simp only [Act.put, List.setIfInBounds_toArray, List.set_cons_zero, List.set_cons_succ, List.getElem_toArray, List.getElem_cons_zero, List.getElem_cons_succ]
      refine wpList_build_list g1 rfl rfl rfl ?_
      simp only [Act.put, List.setIfInBounds_toArray, List.set_cons_zero, List.set_cons_succ, List.getElem_toArray, List.getElem_cons_zero, List.getElem_cons_succ]
      refine wpList_slice_list g2 rfl rfl rfl ?_
      simp only [Act.put, List.setIfInBounds_toArray, List.set_cons_zero, List.set_cons_succ, List.getElem_toArray, List.getElem_cons_zero, List.getElem_cons_succ]
      refine wpList_append_any _ rfl (.tmp 25) (.tmp 28) _ rfl w1.heap.size 45 i9 _ 18 232 Tryz.underlying39 hi9 hy0 hy1 hy2 rfl (by omega) _ no (xo.flatMap stepV) rfl HO3.out (W2.heap.size + 1) (some ⟨W2.heap.size, 0, none⟩) 1 1 L1 rfl HR1.out HC1.out (by simp only [maxLen]; omega) (by omega) (by simp; exact HBS.out) ?_
      intro v9 w9 hown9 hg9 hat9
      have HQ := Lib.hid (HONE.out w9 v9 hown9 hg9 hat9)
      have HK9 := Lib.hid (HK3.out.grown hg9 (fun e => own_blk_ne HO3.out HK3.out (by decide) e.symm))
      clear hown9 hg9 hat9 g1 g2 hld2 hld hst2
      have hld9 := load_blk HK9.out Tryz.underlying29 rfl (by rw [HNS.out]; exact dnodeinfo)
      have p1 := HG1.out w9
      have p2 := bld2 w9
      have p3 := bld3 w9
      have pN := bldN w9
      have p4 := bld4 w9
      have ps := HG4.out w9
      have HB9 := Lib.hid HQ.out.2.2.2.2.2
      have HR4 := Lib.hid (new_row w9 45 L4 4 18 HL4.out)
      have b9 := (Below.refl w9.heap.size w9).alloc (Nat.le_refl _) (.cells L4.toArray 45)
      have HA9 := Lib.hid (ownsRow_below HQ.out.2.1 b9)
      have HBT := Lib.hid (HB9.out.trans (b9.mono HB9.out.size))
      have HAE := Lib.hid (fun x hx => (HQ.out.2.2.1 x hx).below b9)
      have HOE := Lib.hid (HQ.out.1.below b9)
      have HDE := Lib.hid (HQ.out.2.2.2.2.1.below b9)
      have HBU : Hid (w1.heap.size ≤ w9.heap.size + 1) := Lib.hid (by have := HB9.out.size; omega)
      clear b9
      go_upto_region 6 with fail
      refine wp_region_list ?_
      refine wpList_move_run rfl rfl rfl ?_
      simp only [Act.put, List.setIfInBounds_toArray, List.set_cons_zero, List.set_cons_succ, List.getElem_toArray, List.getElem_cons_zero, List.getElem_cons_succ]
      refine wpList_load_run rfl _ _ rfl _ _ rfl hld9 ?_
      simp only [Act.put, List.setIfInBounds_toArray, List.set_cons_zero, List.set_cons_succ, List.getElem_toArray, List.getElem_cons_zero, List.getElem_cons_succ]
      refine wpList_build_list p1 rfl rfl rfl ?_
      simp only [Act.put, List.setIfInBounds_toArray, List.set_cons_zero, List.set_cons_succ, List.getElem_toArray, List.getElem_cons_zero, List.getElem_cons_succ]
      refine wpList_build_list p2 rfl rfl rfl ?_
      simp only [Act.put, List.setIfInBounds_toArray, List.set_cons_zero, List.set_cons_succ, List.getElem_toArray, List.getElem_cons_zero, List.getElem_cons_succ]
      refine wpList_build_list p3 rfl rfl rfl ?_
      simp only [Act.put, List.setIfInBounds_toArray, List.set_cons_zero, List.set_cons_succ, List.getElem_toArray, List.getElem_cons_zero, List.getElem_cons_succ]
      refine wpList_build_list pN rfl rfl rfl ?_
      simp only [Act.put, List.setIfInBounds_toArray, List.set_cons_zero, List.set_cons_succ, List.getElem_toArray, List.getElem_cons_zero, List.getElem_cons_succ]
      refine wpList_build_list p4 rfl rfl rfl ?_
      simp only [Act.put, List.setIfInBounds_toArray, List.set_cons_zero, List.set_cons_succ, List.getElem_toArray, List.getElem_cons_zero, List.getElem_cons_succ]
      refine wpList_slice_list ps rfl rfl rfl ?_
      simp only [Act.put, List.setIfInBounds_toArray, List.set_cons_zero, List.set_cons_succ, List.getElem_toArray, List.getElem_cons_zero, List.getElem_cons_succ]
      refine wpList_append_any _ rfl (.tmp 30) (.tmp 37) _ rfl w1.heap.size 45 i9 _ 18 232 Tryz.underlying39 hi9 hy0 hy1 hy2 rfl (by omega) _ na (xa.flatMap stepV) rfl HA9.out (w9.heap.size + 1) (some ⟨w9.heap.size, 0, none⟩) 4 4 L4 rfl HR4.out HC4.out (by simp only [maxLen]; omega) (by omega) (by simp; exact HBU.out) ?_
      intro v10 w10 hown10 hg10 hat10
      have HTT := Lib.hid (HTWO.out _ w10 v9 v10 HBT.out HA9.out HAE.out HOE.out HQ.out.2.2.2.1 HDE.out hown10 hg10 hat10)
      clear hown10 hg10 hat10 hld9 p1 p2 p3 pN p4 ps
      go_wp2_with fail
      go_roundg (t.length - (k + 1))
      case measure => omega
      case rel => exact ⟨k + 1, by omega, by omega, by go_num, HTT⟩
    · obtain rfl : k = t.length := by omega
      have hB1 := HS.out.below
      have hso := HS.out.own
      have hsa := HS.out.all
      rw [List.take_length] at hso hsa
      have HSO := Lib.hid hso.at_
      have HSA := Lib.hid hsa.at_
      obtain ⟨xo, Ao, no, co, -, hno, rfl, hco1, hco2, -, -⟩ := hso.open_
      obtain ⟨xa, Aa, na, ca, -, hna, rfl, hca1, hca2, -, -⟩ := hsa.open_
      rw [← hna] at HRA
      have hnab : na ≤ 40 := by rw [hna, allL_len]; omega
      unfold maxLen at hca2 hco2
      have HB := Lib.hid (HB1.out.trans (hB1.mono HB1.out.size))
      clear HS hB1 hso hsa hno hna HN
      go_wp2_with fail
      refine (HRA.out _ _ HB.out HSA.out).mono ?_
      rintro e w2 ⟨rv, tv2, rfl, hr2, ht2, b2⟩
      have HB2 := Lib.hid (HB.out.trans (b2.mono HB.out.size))
      have HSO2 := Lib.hid (HSO.out.below b2)
      have HR2 := Lib.hid hr2
      have HT2 := Lib.hid ht2.at_
      obtain ⟨Ar, cr, rfl, hcr1, hcr2, -⟩ := ownsRow_read hr2
      obtain ⟨_, A2, c2, -, he2, -⟩ := ht2.at_
      subst he2
      unfold maxLen at hcr2
      clear hr2 ht2 b2 HRA HSA HSO HB
      go_wp2_with fail
      refine (HRO.out _ _ HB2.out HSO2.out).mono ?_
      rintro e w3 ⟨rv3, tv3, rfl, ht3, b3⟩
      have HB3 := Lib.hid (HB2.out.trans (b3.mono HB2.out.size))
      have HR3 := Lib.hid (ownsRow_below HR2.out b3)
      have HT3 := Lib.hid (HT2.out.below b3)
      have HU3 := Lib.hid ht3.at_
      obtain ⟨_, A3, c3, -, he3, -⟩ := ht3.at_
      subst he3
      have g5 := bld5 w3
      have gs5 := bsl5 w3
      have bA := (Below.refl w3.heap.size w3).alloc (Nat.le_refl _) (.cells s5C.toArray 45)
      have HUN := Lib.hid (un_at w3)
      have HB4 := Lib.hid (HB3.out.trans (bA.mono HB3.out.size))
      have HR4 := Lib.hid (ownsRow_below HR3.out bA)
      have HT4 := Lib.hid (HT3.out.below bA)
      have HU4 := Lib.hid (HU3.out.below bA)
      clear ht3 b3 HRO HSO2 HR2 HT2 HB2 HR3 HT3 HU3 HB3 bA
      go_upto_region 10 with fail
      refine wp_region_list ?_
      refine wpList_build_list g5 rfl rfl rfl ?_
      simp only [Act.put, List.setIfInBounds_toArray, List.set_cons_zero, List.set_cons_succ, List.getElem_toArray, List.getElem_cons_zero, List.getElem_cons_succ]
      refine wpList_slice_list gs5 rfl rfl rfl ?_
      simp only [Act.put, List.setIfInBounds_toArray, List.set_cons_zero, List.set_cons_succ, List.getElem_toArray, List.getElem_cons_zero, List.getElem_cons_succ]
      obtain ⟨W4, hW4⟩ : ∃ W4, W4 = w3.alloc (.cells s5C.toArray 45) := ⟨_, rfl⟩
      rw [← hW4] at HUN HB4 HR4 HT4 HU4 ⊢
      clear hW4 g5 gs5
      go_wp2_with fail
      refine (HRU.out _ _ HB4.out HUN.out).mono ?_
      rintro e w5 ⟨rv5, tv5, rfl, hr5, ht5, b5⟩
      have HB5 := Lib.hid (HB4.out.trans (b5.mono HB4.out.size))
      have HR5 := Lib.hid (ownsRow_below HR4.out b5)
      have HT5 := Lib.hid (HT4.out.below b5)
      have HU5 := Lib.hid (HU4.out.below b5)
      obtain ⟨A5, c5, rfl, hc51, hc52, -⟩ := ownsRow_read hr5
      obtain ⟨a5, rfl, hb5, q0, -, -⟩ := rep_read hr5 (Nat.lt_succ_self 0)
      unfold maxLen at hc52
      have hz5 : a5.add (0 * 3) = a5 := by rw [Nat.zero_mul]; rfl
      rw [hz5] at q0
      have HST := SameTree_any _ _ t t w5 HT5.out HU5.out
      rw [decide_eq_true rfl] at HST
      clear hr5 ht5 b5 HRU HB4 HR4 HT4 HU4 HT5 HU5 hz5 HUN
      go_wp2_with fail
      refine HST.mono ?_
      rintro e w6 ⟨rfl, b6⟩
      have HB6 := Lib.hid (HB5.out.trans (b6.mono HB5.out.size))
      have HR6 := Lib.hid (ownsRow_below HR5.out b6)
      clear b6 HST HB5 HR5 q0 hb5
      go_wp2_with fail
      go_loopg [96] na (fun gg s96 wr => ∃ k : Nat, k ≤ na ∧ na - k ≤ gg ∧ s96 = .int .i64 k ∧ Hid (Below w6.heap.size w6 wr))
      case atStart => exact ⟨0, Nat.zero_le _, by omega, rfl, Lib.hid (Below.refl _ _)⟩
      case round =>
        obtain ⟨k, hk, hg, rfl, HS⟩ := hrel
        by_cases hlt : k < na
        · have hltz : (k : Int) < (na : Int) := by omega
          obtain ⟨ad, rfl, hb, e0, e1, e2⟩ := rep_read (ownsRow_below HR6.out HS.out) hlt
          obtain ⟨q, hq, hq4⟩ : ∃ q, q = k % 4 ∧ q < 4 := ⟨_, rfl, by omega⟩
          have hcq : codeA k = [0, 5, 2, 10].getD q 0 := by unfold codeA; rw [hq]
          obtain ⟨cd, hcd⟩ : ∃ cd, cd = codeA k := ⟨_, rfl⟩
          rw [← hcd] at e0 hcq
          have hqm : Int.tmod (k : Int) 4 = (q : Int) := by rw [hq]; rfl
          obtain ⟨W7, hW7⟩ : ∃ W7, W7 = wr.alloc (.cells #[.int .i64 cd, .int .i64 0, .int .i64 0] 50) := ⟨_, rfl⟩
          obtain ⟨g7, hg7⟩ : ∃ g7, g7 = wr.heap.size := ⟨_, rfl⟩
          have b7 : Below wr.heap.size wr W7 := by rw [hW7]; exact (Below.refl _ _).alloc (Nat.le_refl _) _
          have hk7 : Blk W7 g7 50 #[.int .i64 cd, .int .i64 0, .int .i64 0] := by rw [hW7, hg7]; exact Blk.new _ _ _
          have HS7 := Lib.hid (HS.out.trans (b7.mono HS.out.size))
          have HK7 := Lib.hid hk7
          have HC7 : Hid (∀ W, Below W7.heap.size W7 W → W.cell? ⟨g7, 0, none⟩ = some (.int .i64 cd)) := Lib.hid (fun W hb => (HK7.out.below hb HK7.out.lt).cell 0)
          have HCQ : Hid ((#[.int .i64 0, .int .i64 5, .int .i64 2, .int .i64 10] : Array Value)[q]? = some (.int .i64 cd)) := Lib.hid (by
            rw [hcq]
            obtain h | h | h | h : q = 0 ∨ q = 1 ∨ q = 2 ∨ q = 3 := by omega
            all_goals (rw [h]; rfl))
          have i1 : (q : Int) < 4 := by omega
          have i2 : (0 : Int) ≤ (q : Int) := by omega
          have i3 : IntKind.i64.wrap (q : Int) = (q : Int) := IntWalk.i64_in _ ⟨by omega, by omega⟩
          clear b7 hk7 hcd hq hcq
          go_upto_region 16 with fail
          rw [← hW7, ← hg7]
          clear hW7 hg7 e0 e1 e2
          refine wp_region_G (S := fun W => Below W7.heap.size W7 W) (by kernel_rfl) (Below.refl _ _).drew ?_
          refine wpG_take (i := 0) (v := ?vr1) rfl (by kernel_rfl) (by kernel_rfl) (by kernel_rfl) (fun _ _ _ h => h) (Or.inl ⟨by rfl, ?hyr1⟩) ?restr1
          case hyr1 => (intro W hSw; left; (try dsimp only at hSw); go_simp; try with_reducible rfl)
          simp only [Act.put, List.setIfInBounds_toArray, List.set_cons_zero, List.set_cons_succ, List.getElem_toArray, List.getElem_cons_zero, List.getElem_cons_succ]
          refine wpG_take (i := 1) (v := ?vr2) rfl (by kernel_rfl) (by kernel_rfl) (by kernel_rfl) (fun _ _ _ h => h) (Or.inl ⟨by rfl, ?hyr2⟩) ?restr2
          case hyr2 => (intro W hSw; left; (try dsimp only at hSw); have c7 := HC7.out _ hSw; go_simp; try with_reducible rfl)
          simp only [Act.put, List.setIfInBounds_toArray, List.set_cons_zero, List.set_cons_succ, List.getElem_toArray, List.getElem_cons_zero, List.getElem_cons_succ]
          refine wpG_take (i := 3) (v := ?vr3) rfl (by kernel_rfl) (by kernel_rfl) (by kernel_rfl) (fun _ _ _ h => h) (Or.inl ⟨by rfl, ?hyr3⟩) ?restr3
          case hyr3 => (intro W hSw; left; (try dsimp only at hSw); go_simp; try with_reducible rfl)
          simp only [Act.put, List.setIfInBounds_toArray, List.set_cons_zero, List.set_cons_succ, List.getElem_toArray, List.getElem_cons_zero, List.getElem_cons_succ]
          refine wpG_take (i := 4) (v := ?vr4) rfl (by kernel_rfl) (by kernel_rfl) (by kernel_rfl) (fun _ _ _ h => h) (Or.inl ⟨by rfl, ?hyr4⟩) ?restr4
          case hyr4 => (intro W hSw; left; (try dsimp only at hSw); go_simp; try with_reducible rfl)
          simp only [Act.put, List.setIfInBounds_toArray, List.set_cons_zero, List.set_cons_succ, List.getElem_toArray, List.getElem_cons_zero, List.getElem_cons_succ]
          refine wpG_one (i := 2) (by kernel_rfl) rfl (fun Wb hb hS K hK => ?_)
          go_simp
          have hSb : Below W7.heap.size W7 (Wb.alloc (.cells #[.int .i64 0, .int .i64 5, .int .i64 2, .int .i64 10] 33)) := hS.alloc hS.size _
          have hk5 : Blk (Wb.alloc (.cells #[.int .i64 0, .int .i64 5, .int .i64 2, .int .i64 10] 33)) Wb.heap.size 33 #[.int .i64 0, .int .i64 5, .int .i64 2, .int .i64 10] := Blk.new _ _ _
          have HK5 := Lib.hid hk5
          refine hK.out _ _ hSb ?_
          clear hK K hS hb hSb hk5
          try simp only [Act.put, List.setIfInBounds_toArray, List.set_cons_zero, List.set_cons_succ, List.getElem_toArray, List.getElem_cons_zero, List.getElem_cons_succ]
          refine wpG_take (i := 5) (v := ?vr5) rfl (by kernel_rfl) (by kernel_rfl) (by kernel_rfl) (fun _ _ _ h => h) (Or.inl ⟨by rfl, ?hyr5⟩) ?restr5
          case hyr5 => (intro W hSw; left; (try dsimp only at hSw); go_simp; try with_reducible rfl)
          simp only [Act.put, List.setIfInBounds_toArray, List.set_cons_zero, List.set_cons_succ, List.getElem_toArray, List.getElem_cons_zero, List.getElem_cons_succ]
          refine wpG_one (i := 6) (by kernel_rfl) rfl (fun Wc hb hS K hK => ?_)
          have c5 : Wc.cell? ⟨Wb.heap.size, q, none⟩ = some (.int .i64 cd) := ((HK5.out.below hb HK5.out.lt).cell q).trans HCQ.out
          go_simp
          refine hK.out _ _ hS ?_
          clear hK K hS hb c5
          try simp only [Act.put, List.setIfInBounds_toArray, List.set_cons_zero, List.set_cons_succ, List.getElem_toArray, List.getElem_cons_zero, List.getElem_cons_succ]
          refine wpG_take (i := 7) (v := ?vr6) rfl (by kernel_rfl) (by kernel_rfl) (by kernel_rfl) (fun _ _ _ h => h) (Or.inl ⟨by rfl, ?hyr6⟩) ?restr6
          case hyr6 => (intro W hSw; left; (try dsimp only at hSw); go_simp; try with_reducible rfl)
          simp only [Act.put, List.setIfInBounds_toArray, List.set_cons_zero, List.set_cons_succ, List.getElem_toArray, List.getElem_cons_zero, List.getElem_cons_succ]
          refine wpG_done (by kernel_rfl) (fun w8 hb hS => ?_) _
          have HS8 := Lib.hid (HS7.out.trans (hS.mono HS7.out.size))
          clear hb hS HK5 HC7 HK7
          go_wp2_with fail
          go_roundg (na - (k + 1))
          case measure => omega
          case rel => exact ⟨k + 1, by omega, by omega, by go_num, HS8⟩
        · obtain rfl : k = na := by omega
          have HSZ := Lib.hid (HB6.out.trans (HS.out.mono HB6.out.size))
          clear HS
          go_wp2_with fail
          go_ret
          exact ⟨rfl, HSZ.out⟩
end Go.Proofs.YtphmhmdcaafmdaaGreatDoor
