/-
  Maps keyed by strings, as they lie in memory: what a look-up finds, what a store leaves. No condition.
-/
import Derived.Test.YtjbpoijefkbllaaGreatDoorWords
import Derived.Maps.OwnOps
import Derived.Laws.StructEq
namespace Go.Proofs.YtjbpoijefkbllaaGreatDoor
open Go.RowKit Go.ChangeMaps Go.MapKept

theorem bs_inj {a b : List UInt8} (h : bs a = bs b) : a = b := by rw [← bs_data a, ← bs_data b, h]
theorem bs_eqB (a b : List UInt8) : (bs a == bs b) = (a == b) := by rw [Go.beq_toListBytes, bs_toList, bs_toList]
def smapGet (M : List (List UInt8 × Value)) (s : List UInt8) : Option Value := (M.find? (fun p => p.1 == s)).map (·.2)
def smapPut : List (List UInt8 × Value) → List UInt8 → Value → List (List UInt8 × Value)
  | [], s, v => [(s, v)]
  | p :: r, s, v => if p.1 = s then (s, v) :: r else p :: smapPut r s v
theorem smapGet_put (M : List (List UInt8 × Value)) (s : List UInt8) (v : Value) (t : List UInt8) : smapGet (smapPut M s v) t = if t = s then some v else smapGet M t := by
  induction M with
  | nil =>
    unfold smapPut smapGet
    by_cases h : t = s
    · subst h; simp
    · rw [if_neg h]
      have : (s == t) = false := by simp; exact fun e => h e.symm
      simp [this]
  | cons p r ih =>
    unfold smapPut
    by_cases hp : p.1 = s
    · rw [if_pos hp]
      unfold smapGet
      by_cases h : t = s
      · subst h; simp
      · rw [if_neg h]
        have e1 : (s == t) = false := by simp; exact fun e => h e.symm
        have e2 : (p.1 == t) = false := by rw [hp]; exact e1
        simp [e1, e2]
    · rw [if_neg hp]
      unfold smapGet at ih ⊢
      by_cases h : p.1 = t
      · have : ¬ t = s := fun e => hp (h.trans e)
        simp [h, this]
      · have e2 : (p.1 == t) = false := by simp; exact h
        simp only [List.find?_cons, e2]
        exact ih
theorem smapPut_length (M : List (List UInt8 × Value)) (s : List UInt8) (v : Value) : (smapPut M s v).length ≤ M.length + 1 := by
  induction M with
  | nil => simp [smapPut]
  | cons p r ih => unfold smapPut; split <;> simp; omega

def SMap (w : World) (b : Nat) (M : List (List UInt8 × Value)) : Prop :=
  ∃ (es : Array MapEntry) (clock : Nat), w.heap[b]? = some (.map es clock) ∧ es.toList.map (fun e => (e.key, e.val)) = M.map (fun p => (Value.string (bs p.1), p.2))
section
variable {w w' : World} {b : Nat} {M : List (List UInt8 × Value)}
theorem SMap.lt (h : SMap w b M) : b < w.heap.size := by
  obtain ⟨es, clock, hb, _⟩ := h
  exact (Array.getElem?_eq_some_iff.1 hb).1
theorem SMap.new (w : World) : SMap (w.alloc (.map #[] 0)) w.heap.size [] := ⟨#[], 0, (MapKept.heap_alloc w _).1, rfl⟩
theorem SMap.below (h : SMap w b M) (hb : Below w.heap.size w w') : SMap w' b M := by
  have hl := h.lt
  obtain ⟨es, clock, h1, h2⟩ := h
  exact ⟨es, clock, (hb.block b hl).trans h1, h2⟩
theorem SMap.grown {row : Option Nat} (h : SMap w b M) (hg : w.grownBy w' row) (hne : some b ≠ row) : SMap w' b M := by
  have hl := h.lt
  obtain ⟨es, clock, h1, h2⟩ := h
  exact ⟨es, clock, (hg.block b hl hne).trans h1, h2⟩
theorem findNow_str (s : List UInt8) : ∀ (es : List MapEntry) (M : List (List UInt8 × Value)) (i : Nat), es.map (fun e => (e.key, e.val)) = M.map (fun p => (Value.string (bs p.1), p.2)) →
    (Instr.findNow .string (.string (bs s)) es i = some none ∧ smapGet M s = none ∧ ∀ v, smapPut M s v = M ++ [(s, v)]) ∨
    ∃ j v e, Instr.findNow .string (.string (bs s)) es i = some (some (i + j, v)) ∧ smapGet M s = some v ∧ es[j]? = some e ∧ e.key = .string (bs s) ∧
      ∀ u, (es.modify j fun e => { e with key := .string (bs s), val := u }).map (fun e => (e.key, e.val)) = (smapPut M s u).map (fun p => (Value.string (bs p.1), p.2))
  | [], M, i, h => by
    obtain rfl : M = [] := by cases M with | nil => rfl | cons => simp at h
    exact .inl ⟨rfl, rfl, fun _ => rfl⟩
  | e :: es, M, i, h => by
    match M, h with
    | [], h => simp at h
    | p :: M, h =>
      simp only [List.map_cons, List.cons.injEq, Prod.mk.injEq] at h
      obtain ⟨⟨h1, h2⟩, h3⟩ := h
      by_cases hp : p.1 = s
      · refine .inr ⟨0, p.2, e, ?_, ?_, rfl, by rw [h1, hp], fun u => ?_⟩
        · simp [Instr.findNow, Instr.sameNow, bs_eqB, h1, hp, h2]
        · simp [smapGet, hp]
        · simp [smapPut, hp, h3]
      · have hs : Instr.sameNow .string (.string (bs s)) e.key = some false := by
          rw [h1]; simp [Instr.sameNow, bs_eqB]; exact fun e => hp e.symm
        have hb : (p.1 == s) = false := by simp [hp]
        rcases findNow_str s es M (i + 1) h3 with ⟨a1, a2, a3⟩ | ⟨j, v, e', a1, a2, a3, a4, a5⟩
        · refine .inl ⟨by simp [Instr.findNow, hs, a1], ?_, fun v => ?_⟩
          · simp only [smapGet, List.find?_cons, hb]; exact a2
          · rw [smapPut, if_neg hp, a3]; rfl
        · refine .inr ⟨j + 1, v, e', ?_, ?_, by simpa using a3, a4, fun u => ?_⟩
          · simp [Instr.findNow, hs, a1]; omega
          · simp only [smapGet, List.find?_cons, hb]; exact a2
          · rw [smapPut, if_neg hp]
            simp only [List.modify_succ_cons, List.map_cons, h1, h2]
            rw [a5 u]
variable {P : Program} {t k e : TypeId}
/-- what a look-up with 'ok' answers -/
theorem SMap.look (h : SMap w b M) (ht : P.underlying t = some (.map k e)) (hk : P.underlying k = some .string) {z : Value} (hz : (zeroValue e).run P w = .ok z w) (s : List UInt8) :
    (Instr.lookup t (.map (some b)) (.string (bs s)) true).run P w = .ok (.tuple #[(smapGet M s).getD z, .bool (smapGet M s).isSome]) w := by
  obtain ⟨es, clock, hb, hM⟩ := h
  have hck : ∀ em, (Instr.checkKey em (9999 + 1) k (.string (bs s))).run P w = .ok () w := fun em => MapKept.run_checkKey hk (by simp [MapKept.IsKey]) em 9999
  unfold Instr.lookup
  rcases findNow_str s es.toList M 0 hM with ⟨a1, a2, _⟩ | ⟨j, v, e', a1, a2, _⟩
  · have hf := MapKept.run_findKey (w := w) hk a1
    simp [run_underlying ht, Result.andThen, MapKept.run_getObj_map hb, hck, hf, hz, a2]
  · have hf := MapKept.run_findKey (w := w) hk a1
    simp [run_underlying ht, Result.andThen, MapKept.run_getObj_map hb, hck, hf, a2]
/-- .. and without -/
theorem SMap.get (h : SMap w b M) (ht : P.underlying t = some (.map k e)) (hk : P.underlying k = some .string) {z : Value} (hz : (zeroValue e).run P w = .ok z w) (s : List UInt8) :
    (Instr.lookup t (.map (some b)) (.string (bs s)) false).run P w = .ok ((smapGet M s).getD z) w := by
  obtain ⟨es, clock, hb, hM⟩ := h
  have hck : ∀ em, (Instr.checkKey em (9999 + 1) k (.string (bs s))).run P w = .ok () w := fun em => MapKept.run_checkKey hk (by simp [MapKept.IsKey]) em 9999
  unfold Instr.lookup
  rcases findNow_str s es.toList M 0 hM with ⟨a1, a2, _⟩ | ⟨j, v, e', a1, a2, _⟩
  · have hf := MapKept.run_findKey (w := w) hk a1
    simp [run_underlying ht, Result.andThen, MapKept.run_getObj_map hb, hck, hf, hz, a2]
  · have hf := MapKept.run_findKey (w := w) hk a1
    simp [run_underlying ht, Result.andThen, MapKept.run_getObj_map hb, hck, hf, a2]
/-- a store -/
theorem SMap.put (h : SMap w b M) (ht : P.underlying t = some (.map k e)) (hk : P.underlying k = some .string) (s : List UInt8) (u : Value) :
    ∃ w', (Instr.mapUpdate t (.map (some b)) (.string (bs s)) u).run P w = .ok () w' ∧ SMap w' b (smapPut M s u) ∧ w.grownBy w' (some b) := by
  obtain ⟨es, clock, hb, hM⟩ := h
  have hck : ∀ em, (Instr.checkKey em (9999 + 1) k (.string (bs s))).run P w = .ok () w := fun em => MapKept.run_checkKey hk (by simp [MapKept.IsKey]) em 9999
  have grow : ∀ o, w.grownBy (setBlock w b o) (some b) := fun o => ⟨rfl, rfl, rfl, by simp [setBlock], fun i _ hi => heap_setBlock_other hb _ (fun e => hi (by rw [e]))⟩
  rcases findNow_str s es.toList M 0 hM with ⟨a1, a2, a3⟩ | ⟨j, v, e', a1, a2, a3, a4, a5⟩
  · have hf := MapKept.run_findKey (w := w) hk a1
    refine ⟨setBlock w b (.map (es.push { key := .string (bs s), val := u, born := clock }) (clock + 1)), ?_, ⟨_, _, heap_setBlock_same hb _, ?_⟩, grow _⟩
    · unfold Instr.mapUpdate
      simp [run_underlying ht, Result.andThen, MapKept.run_getObj_map hb, hck, hf, MapKept.run_setObj_map _ hb, setBlock]
    · rw [a3]; simp [hM]
  · have hf := MapKept.run_findKey (w := w) hk a1
    rw [Nat.zero_add] at hf
    have hkt : (Instr.keyThatStays (((es[j]?).map (·.key)).getD (.string (bs s))) (.string (bs s))).run P w = .ok (.string (bs s)) w := by
      have : es[j]? = some e' := by simpa using a3
      rw [this]
      simp [Instr.keyThatStays, a4, Instr.sameBits, bs_eqB]
    refine ⟨setBlock w b (.map (es.modify j fun e => { e with key := .string (bs s), val := u }) clock), ?_, ⟨_, _, heap_setBlock_same hb _, ?_⟩, grow _⟩
    · unfold Instr.mapUpdate
      simp only [Sem.run_bind, run_underlying ht, Result.andThen_ok, MapKept.run_getObj_map hb, hck, hf, hkt, MapKept.run_setObj_map _ hb, setBlock]
    · rw [← a5 u]; simp
end
theorem wp_put_sm {P : Program} {w : World} {o : Oper} {a : Act} {K : Act → World → Prop} {Q : Exit → Act → World → Prop} (m x v : Operand) (t : TypeId) (hop : o.op = Op.mapUpdate t m x v)
    (k e : TypeId) (ht : P.underlying t = some (.map k e)) (hk : P.underlying k = some .string) (b : Nat) (M : List (List UInt8 × Value)) (hm : a.eval m = .map (some b)) (hown : SMap w b M) (s : List UInt8) (u : Value) (hx : a.eval x = .string (bs s)) (hv : a.eval v = u)
    (hK : ∀ w', SMap w' b (smapPut M s u) → w.grownBy w' (some b) → K (a.put o.dst undef) w') : o.wp P a w K Q := by
  obtain ⟨w', hrun, r1, r2⟩ := hown.put ht hk s u
  unfold Oper.wp
  simp [execOp, hop, hm, hx, hv, hrun, Result.andThen]
  exact hK w' r1 r2
theorem wpList_put_sm {P : Program} (w : World) {ops : Array Oper} {rest : List Oper} {o : Oper} {a : Act} {Q : Exit → Act → World → Prop} (hg : o.guard = none) (m x v : Operand) (t : TypeId) (hop : o.op = Op.mapUpdate t m x v)
    (k e : TypeId) (ht : P.underlying t = some (.map k e)) (hk : P.underlying k = some .string) (b : Nat) (M : List (List UInt8 × Value)) (hm : a.eval m = .map (some b)) (hown : SMap w b M) (s : List UInt8) (u : Value) (hx : a.eval x = .string (bs s)) (hv : a.eval v = u)
    (hK : ∀ w', SMap w' b (smapPut M s u) → w.grownBy w' (some b) → wpList P ops Q rest (a.put o.dst undef) w') : wpList P ops Q (o :: rest) a w :=
  wpList_plain hg fun _ hK' => wp_put_sm m x v t hop k e ht hk b M hm hown s u hx hv fun w' r1 r2 => hK' _ _ (hK w' r1 r2)
theorem wp_look_sm {P : Program} {w : World} {o : Oper} {a : Act} {K : Act → World → Prop} {Q : Exit → Act → World → Prop} (m x : Operand) (t : TypeId) (hop : o.op = Op.lookup t m x true)
    (k e : TypeId) (ht : P.underlying t = some (.map k e)) (hk : P.underlying k = some .string) (z : Value) (hz : (zeroValue e).run P w = .ok z w) (b : Nat) (M : List (List UInt8 × Value)) (hm : a.eval m = .map (some b)) (hown : SMap w b M) (s : List UInt8) (hx : a.eval x = .string (bs s))
    (hK : K (a.put o.dst (.tuple #[(smapGet M s).getD z, .bool (smapGet M s).isSome])) w) : o.wp P a w K Q := by
  have hrun := hown.look ht hk hz s
  unfold Oper.wp
  simp [execOp, hop, hm, hx, hrun, Result.andThen]
  exact hK
theorem wpList_look_sm {P : Program} (w : World) {ops : Array Oper} {rest : List Oper} {o : Oper} {a : Act} {Q : Exit → Act → World → Prop} (hg : o.guard = none) (m x : Operand) (t : TypeId) (hop : o.op = Op.lookup t m x true)
    (k e : TypeId) (ht : P.underlying t = some (.map k e)) (hk : P.underlying k = some .string) (z : Value) (hz : (zeroValue e).run P w = .ok z w) (b : Nat) (M : List (List UInt8 × Value)) (hm : a.eval m = .map (some b)) (hown : SMap w b M) (s : List UInt8) (hx : a.eval x = .string (bs s))
    (hK : wpList P ops Q rest (a.put o.dst (.tuple #[(smapGet M s).getD z, .bool (smapGet M s).isSome])) w) : wpList P ops Q (o :: rest) a w :=
  wpList_plain hg fun _ hK' => wp_look_sm m x t hop k e ht hk z hz b M hm hown s hx (hK' _ _ hK)
theorem wpList_get_sm {P : Program} (w : World) {ops : Array Oper} {rest : List Oper} {o : Oper} {a : Act} {Q : Exit → Act → World → Prop} (hg : o.guard = none) (m x : Operand) (t : TypeId) (hop : o.op = Op.lookup t m x false)
    (k e : TypeId) (ht : P.underlying t = some (.map k e)) (hk : P.underlying k = some .string) (z : Value) (hz : (zeroValue e).run P w = .ok z w) (b : Nat) (M : List (List UInt8 × Value)) (hm : a.eval m = .map (some b)) (hown : SMap w b M) (s : List UInt8) (hx : a.eval x = .string (bs s))
    (hK : wpList P ops Q rest (a.put o.dst ((smapGet M s).getD z)) w) : wpList P ops Q (o :: rest) a w := by
  refine wpList_plain hg fun _ hK' => ?_
  have hrun := hown.get ht hk hz s
  unfold Oper.wp
  simp [execOp, hop, hm, hx, hrun, Result.andThen]
  exact hK' _ _ hK
end Go.Proofs.YtjbpoijefkbllaaGreatDoor
