/-
  desk.Run: what it answers to steps, at a desk that packs nothing. Condition: at most 60 steps.
-/
import Derived.Test.YtphmhmdcaafmdaaGreatDoorDeskT
namespace Go.Proofs.YtphmhmdcaafmdaaGreatDoor
set_option linter.all false
open Go.RowKit
abbrev StepV := StepP × Value
def stepV (x : StepV) : List Value := stepC x.1 x.2
theorem stepV_length (x : StepV) : (stepV x).length = 18 := rfl
theorem repinfo : (Tryz.prog.info? 50).map (fun i => (i.zero, i.size, i.bytes)) = some (some (.agg (repC 0)), 3, 24) := by kernel_rfl
def StepsAt (w : World) (v : Value) (l : List StepP) : Prop :=
  ∃ (xs : List StepV) (A : Option Addr) (c : Nat), xs.map (·.1) = l ∧ v = .slice A l.length c ∧ l.length ≤ c ∧ c ≤ maxLen ∧ Reads w w.heap.size 18 A l.length (xs.flatMap stepV) ∧ ∀ x ∈ xs, DataAt w 0 x.2 x.1.node.data
theorem StepsAt.below {w w' : World} {v : Value} {l : List StepP} (h : StepsAt w v l) (hb : Below w.heap.size w w') : StepsAt w' v l := by
  obtain ⟨xs, A, c, h0, h1, h2, h3, h5, h6⟩ := h
  exact ⟨xs, A, c, h0, h1, h2, h3, (h5.below hb).more hb.size, fun x hx => (h6 x hx).below hb⟩
theorem StepsAt.read {w : World} {A : Option Addr} {n c : Nat} {l : List StepP} (h : StepsAt w (.slice A n c) l) {k : Nat} (hk : k < l.length) :
    ∃ (ad : Addr) (Ax : Option Addr) (cx : Nat), A = some ad ∧ ad.block < w.heap.size ∧ DataAt w 0 (.slice Ax l[k].node.data.length cx) l[k].node.data ∧
      w.cell? (ad.add (k * 18)) = some (.int .i64 l[k].kind) ∧
      ∀ j, j < 17 → w.cell? ⟨(ad.add (k * 18)).block, (ad.add (k * 18)).off + (j + 1), none⟩ = (stepC l[k] (.slice Ax l[k].node.data.length cx))[j + 1]? := by
  obtain ⟨xs, A', c', h0, h1, h2, h3, h5, h6⟩ := h
  injection h1 with e1 e2 e3
  subst e1 e2 e3
  have hxl : xs.length = l.length := by rw [← h0, List.length_map]
  have hkx : k < xs.length := by omega
  obtain ⟨ad, e, hb, hc⟩ := h5.2 (by omega)
  have hxk : xs[k].1 = l[k] := by subst h0; simp
  have hd := h6 xs[k] (List.getElem_mem _)
  obtain ⟨Ax, cx, hde, -⟩ := id hd
  rw [hxk] at hde
  have hxe : xs[k] = (l[k], .slice Ax l[k].node.data.length cx) := by rw [← hxk, Prod.mk.injEq]; exact ⟨rfl, by rw [hxk]; exact hde⟩
  rw [hxe] at hd
  have key : ∀ j, j < 18 → w.cell? (ad.add (k * 18 + j)) = (stepV xs[k])[j]? := fun j hj => by
    have h7 : (xs.flatMap stepV)[k * 18 + j]? = (stepV xs[k])[j]? := by
      rw [flat_get stepV_length xs k j hj, List.getElem?_eq_getElem hkx]; rfl
    have hj2 : j < (stepV xs[k]).length := hj
    rw [List.getElem?_eq_getElem hj2] at h7 ⊢
    exact hc _ _ h7
  have hsp : ad.spot = none := by
    have h0x : 0 < xs.length := by omega
    have h7 : (xs.flatMap stepV)[0 * 18 + 0]? = (stepV xs[0])[0]? := by
      rw [flat_get stepV_length xs 0 0 (by omega), List.getElem?_eq_getElem h0x]; rfl
    have h8 : w.cell? (ad.add (0 * 18 + 0)) = some (.int .i64 xs[0].1.kind) := hc _ _ h7
    have := spot_of h8
    simpa [Addr.add] using this
  have stp : ∀ j, ad.add (k * 18 + (j + 1)) = ⟨(ad.add (k * 18)).block, (ad.add (k * 18)).off + (j + 1), none⟩ := fun j => by
    obtain ⟨g, o, sp⟩ := ad
    simp only at hsp
    subst hsp
    unfold Addr.add
    rw [if_neg (by omega)]
    by_cases hk0 : k * 18 = 0
    · simp [hk0]
    · rw [if_neg hk0]
      simp [Nat.add_assoc]
  refine ⟨ad, Ax, cx, e, hb, hd, ?_, fun j hj => ?_⟩
  · have := key 0 (by omega)
    rw [hxe] at this
    exact this
  · have := key (j + 1) (by omega)
    rw [hxe, stp j] at this
    exact this
theorem Below.setCells_ {B : Nat} {a : World} (b : Nat) : ∀ (vs : List Value) (o : Nat) {w : World}, Below B a w → B ≤ b → Below B a (w.setCells b o vs)
  | [], _, _, h, _ => h
  | v :: r, o, _, h, hb => Below.setCells_ b r (o + 1) (h.setCell (p := ⟨b, o, none⟩) hb v) hb
theorem size_setCells_ (b : Nat) : ∀ (vs : List Value) (o : Nat) (w : World), (w.setCells b o vs).heap.size = w.heap.size
  | [], _, _ => rfl
  | v :: r, o, w => by rw [World.setCells, size_setCells_ b r]; simp [World.setCell]
def stepZ : Array Value := #[.int .i64 0, .string ⟨#[]⟩, .int .i64 0, .int .i64 0, .string ⟨#[]⟩, .int .i64 0, .int .i64 0, .int .i64 0, .string ⟨#[]⟩, .string ⟨#[]⟩, .int .i64 0, .int .i64 0, .slice none 0 0, .string ⟨#[]⟩, .int .i64 0, .int .i64 0, .slice none 0 0, .slice none 0 0]
theorem stepinfo : (Tryz.prog.info? 45).map (·.size) = some 18 := by kernel_rfl
theorem step_one (s : StepP) (A : Option Addr) (n c : Nat) : (stepC s (.slice A n c)).toArray.all (·.oneCell') = true := by simp [stepC, Value.oneCell']
theorem StepsAt.load {w : World} {A : Option Addr} {n c : Nat} {l : List StepP} (h : StepsAt w (.slice A n c) l) {k : Nat} (hk : k < l.length) :
    ∃ (ad : Addr) (Ax : Option Addr) (cx : Nat), A = some ad ∧ ad.block < w.heap.size ∧ DataAt w 0 (.slice Ax l[k].node.data.length cx) l[k].node.data ∧
      (Instr.loadAt 45 (.pointer (some (ad.add (k * 18))))).run Tryz.prog w = .ok (.agg (stepC l[k] (.slice Ax l[k].node.data.length cx)).toArray) w := by
  obtain ⟨ad, Ax, cx, e, hb, hd, e0, he⟩ := h.read hk
  refine ⟨ad, Ax, cx, e, hb, hd, ?_⟩
  have hsp := spot_of e0
  generalize ad.add (k * 18) = q at *
  obtain ⟨g, o, sp⟩ := q
  simp only at hsp
  subst hsp
  refine run_loadAt_mid w g o 45 (stepC l[k] _) _ (fun j v hv => ?_) Tryz.underlying45 rfl stepinfo
  rcases j with _ | j
  · rw [Nat.add_zero]; rw [e0]; exact hv
  · rw [he j (by have := (List.getElem?_eq_some_iff.1 hv).1; unfold stepC at this; simp at this; omega)]; exact hv
theorem wpList_here {P : Program} {ops : Array Oper} {rest : List Oper} {op : Oper} {a : Act} {w : World} {Q : Exit → Act → World → Prop} (h : wpList P ops Q (op :: rest) a w) : wpList P ops Q (op :: rest) a w := h
/-- a load, a store, a build whose run is known -/
theorem wpList_load_run {P : Program} {ops : Array Oper} {rest : List Oper} {op : Oper} {a : Act} {w : World} {Q : Exit → Act → World → Prop} (hgd : op.guard = none) (ty : TypeId) (x : Operand) (ho : op.op = .load ty x)
    (pv v : Value) (hx : a.eval x = pv) (hr : (Instr.loadAt ty pv).run P w = .ok v w) (h : wpList P ops Q rest (a.put op.dst v) w) : wpList P ops Q (op :: rest) a w :=
  wpList_plain hgd fun K hK => by
    unfold Oper.wp execOp
    simp only [ho, hx, Sem.run_bind, hr, Result.andThen_ok]
    exact hK _ _ h
theorem wpList_store_run {P : Program} {ops : Array Oper} {rest : List Oper} {op : Oper} {a : Act} {w W : World} {Q : Exit → Act → World → Prop} (hgd : op.guard = none) (ty : TypeId) (x y : Operand) (ho : op.op = .store ty x y)
    (pv v : Value) (hx : a.eval x = pv) (hy : a.eval y = v) (hr : (Instr.storeAt ty pv v).run P w = .ok () W) (h : wpList P ops Q rest (a.put op.dst undef) W) : wpList P ops Q (op :: rest) a w :=
  wpList_plain hgd fun K hK => by
    unfold Oper.wp execOp
    simp only [ho, hx, hy, Sem.run_bind, hr, Result.andThen_ok]
    exact hK _ _ h
theorem wpList_build_run {P : Program} {ops : Array Oper} {rest : List Oper} {op : Oper} {a : Act} {w : World} {Q : Exit → Act → World → Prop} {t : TypeId} {parts : Array (Nat × Operand)} {vs : Array (Nat × Value)} {v : Value} (hr : (Instr.build t vs).run P w = .ok v w) (hgd : op.guard = none) (ho : op.op = .build t parts)
    (hx : (parts.map fun (i, x) => (i, a.eval x)) = vs) (h : wpList P ops Q rest (a.put op.dst v) w) : wpList P ops Q (op :: rest) a w :=
  wpList_plain hgd fun K hK => by
    unfold Oper.wp execOp
    simp only [ho, hx, Sem.run_bind, hr, Result.andThen_ok]
    exact hK _ _ h
theorem wpList_slice_run {P : Program} {ops : Array Oper} {rest : List Oper} {op : Oper} {a : Act} {w W : World} {Q : Exit → Act → World → Prop} {t : TypeId} {n : Nat} {parts : Array (Nat × Operand)} {vs : Array (Nat × Value)} {v : Value} (hr : (Instr.buildSlice t n vs).run P w = .ok v W) (hgd : op.guard = none) (ho : op.op = .buildSlice t n parts)
    (hx : (parts.map fun (i, x) => (i, a.eval x)) = vs) (h : wpList P ops Q rest (a.put op.dst v) W) : wpList P ops Q (op :: rest) a w :=
  wpList_plain hgd fun K hK => by
    unfold Oper.wp execOp
    simp only [ho, hx, Sem.run_bind, hr, Result.andThen_ok]
    exact hK _ _ h
theorem wpList_move_run {P : Program} {ops : Array Oper} {rest : List Oper} {op : Oper} {a : Act} {w : World} {Q : Exit → Act → World → Prop} (hgd : op.guard = none) {x : Operand} (ho : op.op = .move x)
    {v : Value} (hx : a.eval x = v) (h : wpList P ops Q rest (a.put op.dst v) w) : wpList P ops Q (op :: rest) a w :=
  wpList_plain hgd fun K hK => by
    unfold Oper.wp execOp
    simp only [ho, hx]
    exact hK _ _ h
theorem wpList_build_list {P : Program} {ops : Array Oper} {rest : List Oper} {op : Oper} {a : Act} {w : World} {Q : Exit → Act → World → Prop} {t : TypeId} {parts : Array (Nat × Operand)} {vs : Array (Nat × Value)} {v : Value} (hr : (Instr.build t vs).run P w = .ok v w) (hgd : op.guard = none) (ho : op.op = .build t parts)
    (hx : parts.toList.map (fun p => (p.1, a.eval p.2)) = vs.toList) (h : wpList P ops Q rest (a.put op.dst v) w) : wpList P ops Q (op :: rest) a w :=
  wpList_build_run hr hgd ho (Array.ext' (by rw [Array.toList_map]; exact hx)) h
theorem wpList_slice_list {P : Program} {ops : Array Oper} {rest : List Oper} {op : Oper} {a : Act} {w W : World} {Q : Exit → Act → World → Prop} {t : TypeId} {n : Nat} {parts : Array (Nat × Operand)} {vs : Array (Nat × Value)} {v : Value} (hr : (Instr.buildSlice t n vs).run P w = .ok v W) (hgd : op.guard = none) (ho : op.op = .buildSlice t n parts)
    (hx : parts.toList.map (fun p => (p.1, a.eval p.2)) = vs.toList) (h : wpList P ops Q rest (a.put op.dst v) W) : wpList P ops Q (op :: rest) a w :=
  wpList_slice_run hr hgd ho (Array.ext' (by rw [Array.toList_map]; exact hx)) h
theorem setCells_all (g : Nat) : ∀ (vs : List Value) (i : Nat) (w : World), w.setCells g i vs = setAll w g i vs
  | [], _, _ => rfl
  | v :: r, i, w => setCells_all g r (i + 1) _
theorem load_blk {w : World} {g : Nat} {t : TypeId} {cs : Array Value} {d : TypeDesc} (h : Blk w g t cs) (hu : Tryz.prog.underlying t = some d) (hd : d.isRow = true) (hi : (Tryz.prog.info? t).map (·.size) = some cs.size) :
    (Instr.loadAt t (.pointer (some ⟨g, 0, none⟩))).run Tryz.prog w = .ok (.agg cs) w := by
  have := run_loadAt_mid (P := Tryz.prog) w g 0 t cs.toList d (fun j v hv => by rw [Nat.zero_add, h.cell j]; simpa using hv) hu hd (by rw [Array.length_toList]; exact hi)
  simpa using this
/-- a block that a struct is stored into, whole -/
theorem store_blk (w : World) (t : TypeId) (Z CS : Array Value) (hz : Z.size = CS.size) (hi : (Tryz.prog.info? t).map (·.size) = some CS.size) (h1 : CS.all (·.oneCell') = true) :
    ∃ W, (Instr.storeAt t (.pointer (some ⟨w.heap.size, 0, none⟩)) (.agg CS)).run Tryz.prog (w.alloc (.cells Z t)) = .ok () W ∧ Below w.heap.size w W ∧ W.heap.size = w.heap.size + 1 ∧ Blk W w.heap.size t CS := by
  have hk := Blk.new w t Z
  have ht : (w.alloc (.cells Z t)).there w.heap.size 0 CS.size := fun j hj => by
    rw [Nat.zero_add]
    refine ⟨?_, hk.frozen j⟩
    rw [hk.cell j, Array.getElem?_eq_getElem (by omega)]
    rfl
  refine ⟨_, run_storeAt_mid _ w.heap.size 0 t CS ht hi h1, ?_, ?_, ?_⟩
  · exact Below.setCells_ w.heap.size CS.toList 0 ((Below.refl w.heap.size w).alloc (Nat.le_refl _) _) (Nat.le_refl _)
  · rw [size_setCells_]; simp
  · rw [setCells_all]
    have := hk.fill CS.toList (by rw [Array.length_toList]; exact hz)
    simpa using this
theorem NodesOwn.gb2 {w w' : World} {base : Nat} {v : Value} {l : List NodeP} {row : Option Nat} (h : NodesOwn w base v l) (hg : w.grownBy w' row) (hr : ∀ g, row = some g → ∃ C t fr, w.heap[g]? = some (.cells C t fr) ∧ t ≠ 29 ∧ t ≠ 5) : NodesOwn w' base v l := by
  obtain ⟨xs, h0, ⟨h1, h2⟩, h3⟩ := h
  refine ⟨xs, h0, ⟨h1, ?_⟩, fun x hx => (h3 x hx).kept (U8Kept.grown hg (fun k e => by obtain ⟨C, t, fr, a, b, c⟩ := hr k e; exact ⟨C, t, fr, a, c⟩))⟩
  rcases h2 with h | ⟨k, cap, cur, hv, hb, hg2, r⟩
  · exact .inl h
  · refine .inr ⟨k, cap, cur, hv, hb, ?_, r⟩
    have hlt : k < w.heap.size := by
      rcases Nat.lt_or_ge k w.heap.size with h | h
      · exact h
      · rw [Array.getElem?_eq_none h] at hg2; cases hg2
    rw [hg.block k hlt ?_]
    · exact hg2
    · intro e
      obtain ⟨C, t, fr, a, b, -⟩ := hr k e.symm
      rw [hg2] at a
      injection a with a
      injection a with _ ht
      exact b ht.symm
theorem DeskAt.gb2 {w w' : World} {g : Nat} {tv : Value} {t : List NodeP} {row : Option Nat} (h : DeskAt w g tv t) (hg : w.grownBy w' row) (hne : some g ≠ row) (hr : ∀ g, row = some g → ∃ C t fr, w.heap[g]? = some (.cells C t fr) ∧ t ≠ 29 ∧ t ≠ 5) : DeskAt w' g tv t :=
  ⟨h.blk.grown hg hne, h.own.gb2 hg hr, h.ok⟩
theorem DeskAt.below {w w' : World} {g : Nat} {tv : Value} {t : List NodeP} (h : DeskAt w g tv t) (hb : Below w.heap.size w w') : DeskAt w' g tv t := ⟨h.blk.below hb h.blk.lt, h.own.below hb, h.ok⟩
def repL (C : Nat → Int) (k : Nat) : List Value := (List.range k).flatMap fun i => (repC (C i)).toList
theorem repL_succ (C : Nat → Int) (k : Nat) : repL C (k + 1) = repL C k ++ [.int .i64 (C k), .int .i64 0, .int .i64 0] := by
  unfold repL
  rw [List.range_succ, List.flatMap_append]
  rfl
structure DkSt (w : World) (g : Nat) (T : Nat → List NodeP) (C : Nat → Int) (k : Nat) (rv : Value) (W : World) : Prop where
  below : Below w.heap.size w W
  desk : ∃ tv, DeskAt W g tv (T k)
  reps : W.ownsRow (g + 1) 50 3 rv k (repL C k)
set_option maxRecDepth 100000 in
set_option maxHeartbeats 8000000 in
theorem Run_any (v : Value) (l : List StepP) (T : Nat → List NodeP) (C : Nat → Int) (w : World) (hm : ML w) (hl : StepsAt w v l) (hn : l.length ≤ 60) (h0 : T 0 = []) (hst : ∀ i (hi : i < l.length), StepTo (T i) l[i] (C i) (T (i + 1))) :
    Calls Tryz.prog 11 #[v] w fun e w' => ∃ rv tv, e = .returned (.tuple #[rv, tv, .int .i64 0]) ∧ w'.ownsRow w.heap.size 50 3 rv l.length (repL C l.length) ∧ NodesOwn w' w.heap.size tv (T l.length) ∧ Below w.heap.size w w' := by
  have HML : Hid (∀ W, Below w.heap.size w W → ML W) := Lib.hid (fun W hb => hm.below hb)
  have HL := Lib.hid hl
  have HST := Lib.hid hst
  obtain ⟨i9, hi9, hy0, hy1, hy2⟩ := info_parts repinfo
  obtain ⟨_, A, c, -, rfl, hc1, hc2, -⟩ := hl
  unfold maxLen at hc2
  have hbz : ¬ (60 : Int) < (l.length : Int) := by omega
  obtain ⟨W1, hW1⟩ : ∃ W1, W1 = w.alloc (.cells (deskC (.slice none 0 0)) 99) := ⟨_, rfl⟩
  obtain ⟨g, hg⟩ : ∃ g, g = w.heap.size := ⟨_, rfl⟩
  have hgw : w.heap.size ≤ g := by omega
  have H0 : Hid (DkSt w g T C 0 (.slice none 0 0) W1) := Lib.hid ⟨by rw [hW1]; exact (Below.refl _ _).alloc (Nat.le_refl _) _, ⟨.slice none 0 0, by rw [hW1, hg]; exact Blk.new _ _ _, by rw [h0]; exact ⟨[], rfl, World.ownsRow_nil _ _ _ _, by simp⟩, by rw [h0]; exact ⟨by simp, by simp, by simp, by simp, by simp⟩⟩, World.ownsRow_nil _ _ _ _⟩
  have HW1 := Lib.hid hW1
  clear hm hst h0 hW1
  unfold deskC at HW1
  have hW1 := HW1.out
  clear HW1
  go_enter Tryz.func11, Tryz.ntmps11
  go_upto_region 4 with fail
  rw [← hW1, ← hg]
  clear hW1 hg
  go_wp2_with fail
  go_loopg [6, 8, 16] l.length (fun gg s6 s8 s16 wr => ∃ k : Nat, k ≤ l.length ∧ l.length - k ≤ gg ∧ s16 = .int .i64 k ∧ Hid (DkSt w g T C k s6 wr))
  case atStart => exact ⟨0, Nat.zero_le _, by omega, rfl, H0⟩
  case round =>
    obtain ⟨k, hk, hg, rfl, HS⟩ := hrel
    clear H0
    by_cases hlt : k < l.length
    · have hltz : (k : Int) < (l.length : Int) := by omega
      obtain ⟨A6, c6, h6e, hc61, hc62, -⟩ := ownsRow_read HS.out.reps
      subst h6e
      unfold maxLen at hc62
      obtain ⟨ad, Ax, cx, rfl, hb, hdx, hld⟩ := (HL.out.below HS.out.below).load hlt
      have hto := HST.out k hlt
      generalize l[k] = s at *
      have hone := step_one s Ax s.node.data.length cx
      obtain ⟨W2, hst2, b2, hsz2, hk2⟩ := store_blk wr 45 stepZ (stepC s (.slice Ax s.node.data.length cx)).toArray rfl stepinfo hone
      have hld2 := load_blk hk2 Tryz.underlying45 rfl stepinfo
      unfold stepZ at hst2
      obtain ⟨tv, hdk⟩ := HS.out.desk
      have hgs2 : g < wr.heap.size := hdk.blk.lt
      have hd2 := hdk.below b2
      have hr2 := ownsRow_below HS.out.reps b2
      have hbw2 := HS.out.below.trans (b2.mono HS.out.below.size)
      have HSTEP := Lib.hid (Step_any g s (.slice Ax s.node.data.length cx) _ _ _ tv W2 (HML.out _ hbw2) hd2 hto (hdx.below b2))
      have HD2 := Lib.hid hd2
      have HR2 := Lib.hid hr2
      have HB2 := Lib.hid hbw2
      generalize (stepC s (.slice Ax s.node.data.length cx)).toArray = CS at *
      generalize s.kind = sk at *
      clear b2 hdk hd2 hr2 hbw2 hdx hto HS hone hsz2 hk2
      go_wp2_with (first | (refine wpList_load_run rfl _ _ rfl _ _ rfl hld ?_) | (refine wpList_store_run rfl _ _ _ rfl _ _ rfl rfl hst2 ?_) | (refine wpList_load_run rfl _ _ rfl _ _ rfl hld2 ?_))
      refine HSTEP.out.mono ?_
      rintro e w3 ⟨rfl, ⟨tv3, hd3⟩, g3⟩
      have hown3 : w3.ownsRow (g + 1) 50 3 (.slice A6 k c6) k (repL C k) := World.ownsRow.kept HR2.out g3 (.inr (own_blk_ne HR2.out HD2.out.blk (by decide)))
      have hb3 : Below w.heap.size w w3 := HB2.out.grown g3 HB2.out.size (fun k hk => by injection hk with hk; omega)
      have hg3s : g < w3.heap.size := hd3.blk.lt
      have HO3 := Lib.hid hown3
      have HB3 := Lib.hid hb3
      have HD3 := Lib.hid hd3
      clear hown3 hb3 hd3 g3 HSTEP HR2 HD2 HB2
      unfold repC
      go_wp2_with (at_builtin; refine wpList_append_any _ rfl (.tmp 20) (.tmp 24) _ rfl (g + 1) 50 i9 _ 3 24 Tryz.underlying46 hi9 hy0 hy1 hy2 rfl (by omega) _ k (repL C k) rfl (ownsRow_below HO3.out ((Below.refl _ _).alloc (Nat.le_refl _) _)) (w3.heap.size + 1) (some ⟨w3.heap.size, 0, none⟩) 1 1 [.int .i64 (C k), .int .i64 0, .int .i64 0] rfl (new_row w3 50 [.int .i64 (C k), .int .i64 0, .int .i64 0] 1 3 rfl) (by simp [Value.oneCell']) (by simp only [maxLen]; omega) (by omega) (by simp; omega) ?_; intro v9 w9 hown9 hg9 hat9; obtain ⟨A9, c9, hv9, -⟩ := ownsRow_read hown9; subst hv9; have HO9 := Lib.hid hown9; have HG9 := Lib.hid hg9; clear hown9 hg9 hat9)
      go_roundg (l.length - (k + 1))
      case measure => omega
      case rel =>
        have bA := (Below.refl w3.heap.size w3).alloc (Nat.le_refl _) (.cells #[.int .i64 (C k), .int .i64 0, .int .i64 0] 50)
        have hrA := ownsRow_below HO3.out bA
        have hdA := HD3.out.below bA
        refine ⟨k + 1, by omega, by omega, by go_num, Lib.hid ⟨(HB3.out.trans (bA.mono HB3.out.size)).grown HG9.out (Nat.le_trans HB3.out.size bA.size) (fun j hj => by have := (own_typed hrA hj).1; omega), ⟨tv3, hdA.gb2 HG9.out (fun e => own_blk_ne hrA hdA.blk (by decide) e.symm) (fun j hj => by obtain ⟨_, C', fr, h⟩ := own_typed hrA hj; exact ⟨C', _, fr, h, by decide, by decide⟩)⟩, ?_⟩⟩
        rw [repL_succ]
        exact HO9.out
    · obtain rfl : k = l.length := by omega
      obtain ⟨tv, hdk⟩ := HS.out.desk
      have c0 := hdk.blk.cell 0
      unfold deskC at c0
      simp only [List.getElem?_toArray, List.getElem?_cons_zero] at c0
      have HDK := Lib.hid hdk
      obtain ⟨A6, c6, h6e, hc61, hc62, -⟩ := ownsRow_read HS.out.reps
      subst h6e
      obtain ⟨_, At, ct, -, hte, -⟩ := hdk.own.at_
      subst hte
      have HRZ := Lib.hid (ownsRow_mono HS.out.reps (show w.heap.size ≤ g + 1 by omega))
      have HNZ := Lib.hid (hdk.own.mono (show w.heap.size ≤ g + 1 by omega))
      have HBZ := Lib.hid HS.out.below
      clear hdk HS HDK
      go_upto_region 10 with fail
      go_quiet (fail)
      go_wp2_with fail
      go_ret3
      exact ⟨_, _, rfl, ownsRow_below HRZ.out (below_drewN (Below.refl _ _) nq), HNZ.out.below (below_drewN (Below.refl _ _) nq), below_drewN HBZ.out nq⟩
end Go.Proofs.YtphmhmdcaafmdaaGreatDoor
