/-
  head.pen: its Builder's copyCheck where the Builder lies at the head of a pen. No condition.
-/
import Derived.Test.YtnbggojmbdgkmaaDoorField
import Derived.Lib.Builder
import Derived.Lib.AppendStr
import Derived.Lib.UnsafeStr
import Derived.Shelf.RegionOpenPlain
namespace Go.Proofs.YtnbggojmbdgkmaaDoor
open Go.RowKit

theorem pen_lies : liesAt Tryd.prog Tryd.prog.depth 91 (3 / Tryd.prog.cellsOf 91) 0 89 1 = true := by kernel_rfl
theorem builder_size : (Tryd.prog.info? 89).map (·.size) = some 2 := by kernel_rfl
set_option maxRecDepth 100000 in
set_option maxHeartbeats 400000 in
theorem penCheck_used (g : Nat) (s e : Value) (w : World) (h : Blk w g 91 #[.pointer (some ⟨g, 0, none⟩), s, e]) :
    Calls Tryd.prog 110 #[.pointer (some ⟨g, 0, none⟩)] w fun x w' => x = .returned (.tuple #[]) ∧ w' = w := by
  obtain ⟨j, hj, hjs⟩ := Option.map_eq_some_iff.1 builder_size
  have c0 := h.cell 0
  have t0 := Tryd.underlying87
  have u0 := run_underlying Tryd.underlying87
  go_enter Tryd.func110, Tryd.ntmps110
  go_wp2
  rw [Lib.run_neq_ptr_same w _ t0 hj]
  simp only [Result.andThen]
  try rw [Oper.upon_value]
  go_wp2
  go_end0
  exact ⟨rfl, rfl⟩
set_option maxRecDepth 100000 in
set_option maxHeartbeats 1000000 in
theorem penCheck_fresh (g : Nat) (s e : Value) (w : World) (h : Blk w g 91 #[.pointer none, s, e]) :
    Calls Tryd.prog 110 #[.pointer (some ⟨g, 0, none⟩)] w fun x w' => x = .returned (.tuple #[]) ∧ w' = w.setCell ⟨g, 0, none⟩ (.pointer (some ⟨g, 0, none⟩)) := by
  obtain ⟨j, hj, hjs⟩ := Option.map_eq_some_iff.1 builder_size
  have c0 := h.cell 0
  have z0 := h.frozen 0
  have hsh : w.shape? g = some (91, 3) := by unfold Blk at h; simp [World.shape?, h]
  have t0 := Tryd.underlying87
  have u0 := run_underlying Tryd.underlying87
  go_enter Tryd.func110, Tryd.ntmps110
  go_wp2
  rw [Lib.run_to_unsafe w ⟨g, 0, none⟩ t0 Tryd.underlying170 hj (by rw [hjs]; decide) hsh (Nat.zero_lt_succ 2)]
  simp only [Result.andThen]
  rw [Oper.upon_value]
  go_wp2
  rw [run_callFunc_extern Tryd.func131 (by kernel_rfl) (by kernel_rfl) (e := Extern.AbiNoEscape.same) (by kernel_rfl)]
  rw [Lib.run_noEscape]
  simp only [Result.andThen]
  rw [Oper.upon_value]
  go_wp2
  rw [Lib.run_from_unsafe w ⟨g, 0, none⟩ Tryd.underlying170 t0 hj hsh pen_lies]
  simp only [Result.andThen]
  rw [Oper.upon_value]
  go_wp2
  go_end0
  exact ⟨rfl, rfl⟩
  all_goals kernel_rfl

/-- a pen of the call's own that has written l -/
def PenAt (w : World) (base g : Nat) (l : List UInt8) : Prop :=
  base ≤ g ∧ ∃ p v, Blk w g 91 #[.pointer p, v, .int .i64 0] ∧ (p = none ∨ p = some ⟨g, 0, none⟩) ∧ w.ownsRow base 5 1 v l.length (Lib.byteCells l)
theorem PenAt.below {w w' : World} {base g : Nat} {l : List UInt8} (h : PenAt w base g l) (hb : Below w.heap.size w w') : PenAt w' base g l := by
  obtain ⟨h1, p, v, h2, h3, h4⟩ := h
  refine ⟨h1, p, v, h2.below hb h2.lt, h3, ?_⟩
  refine h4.kept (row := none) ⟨hb.os, hb.tape, hb.output, hb.size, fun k hk _ => hb.block k hk⟩ ?_
  rcases hv : v.ownBlock with _ | b
  · exact .inl rfl
  · exact .inr (by simp)
theorem pen_ne : 5 ≠ 91 := by decide
theorem PenAt.lt {w : World} {base g : Nat} {l : List UInt8} (h : PenAt w base g l) : base ≤ w.heap.size := by
  obtain ⟨h1, p, v, h2, _⟩ := h
  have := h2.lt
  omega
theorem pen_kept {w : World} {base g : Nat} {v : Value} {n : Nat} {xs : List Value} {cs : Array Value} (hown : w.ownsRow base 5 1 v n xs) (hg : Blk w g 91 cs) (i : Nat) (u : Value) : (w.setCell ⟨g, i, none⟩ u).ownsRow base 5 1 v n xs :=
  hown.kept (row := some g) ⟨rfl, rfl, rfl, by simp [World.setCell], fun k _ hk => Below.heap_setCell _ _ _ _ (fun e => hk (by simp [e]))⟩ (.inr (own_blk_ne hown hg pen_ne))
set_option maxRecDepth 100000 in
theorem penCheck_any (base g : Nat) (l : List UInt8) (w : World) (h : PenAt w base g l) :
    Calls Tryd.prog 110 #[.pointer (some ⟨g, 0, none⟩)] w fun x w' => x = .returned (.tuple #[]) ∧ (∃ v, Blk w' g 91 #[.pointer (some ⟨g, 0, none⟩), v, .int .i64 0] ∧ w'.ownsRow base 5 1 v l.length (Lib.byteCells l)) ∧ Below base w w' := by
  obtain ⟨h1, p, v, h2, h3, h4⟩ := h
  rcases h3 with rfl | rfl
  · refine (penCheck_fresh g v (.int .i64 0) w h2).mono ?_
    rintro x w' ⟨rfl, rfl⟩
    refine ⟨rfl, ⟨v, ?_, pen_kept h4 h2 0 _⟩, (Below.refl _ _).setCell (p := ⟨g, 0, none⟩) h1 _⟩
    have := Blk.set_ h2 0 (.pointer (some ⟨g, 0, none⟩))
    simpa using this
  · refine (penCheck_used g v (.int .i64 0) w h2).mono ?_
    rintro x w' ⟨rfl, rfl⟩
    exact ⟨rfl, ⟨v, h2, h4⟩, Below.refl _ _⟩
set_option maxRecDepth 100000 in
set_option maxHeartbeats 1000000 in
theorem penWrite_any (base g : Nat) (l s : List UInt8) (w : World) (h : PenAt w base g l) (hlen : l.length + s.length ≤ 1000000) :
    Calls Tryd.prog 75 #[.pointer (some ⟨g, 0, none⟩), .string (bs s)] w fun x w' => x = .returned (.tuple #[.int .i64 s.length, .nilIface]) ∧ PenAt w' base g (l ++ s) ∧ Below base w w' := by
  obtain ⟨i0, hi, hz0, hz1, hz2⟩ := info_parts u8_info
  have hz := bs_size s
  have hbl := h.lt
  have hbg := h.1
  have hC := Lib.hid (penCheck_any base g l w h)
  have hbc := Lib.hid (show Lib.strCells (bs s) = Lib.byteCells s by rw [Lib.strCells_eq, bs_data])
  generalize bs s = S at *
  clear h
  go_enter Tryd.func75, Tryd.ntmps75
  go_wp2_with fail
  refine hC.out.mono ?_
  rintro x w1 ⟨rfl, ⟨v, hbk, hown⟩, hb1⟩
  have c0 := hbk.cell 0
  have c1 := hbk.cell 1
  go_wp2_with (at_builtin; refine Lib.wpList_append_own_string _ rfl _ _ 30 9 rfl base 5 i0 Tryd.underlying30 Tryd.underlying9 hi hz0 hz1 hz2 _ _ _ rfl hown S rfl ?c3 ?c4 ?c5 ?_)
  case c3 => unfold maxLen; omega
  case c4 => omega
  case c5 => have := hb1.size; omega
  intro v' w2 hown' hgrow _
  have hne : v.ownBlock ≠ some g := own_blk_ne hown hbk pen_ne
  have hb2 : Blk w2 g 91 #[.pointer (some ⟨g, 0, none⟩), v, .int .i64 0] := hbk.grown hgrow (fun e => hne e.symm)
  have d0 := hb2.cell 0
  have d1 := hb2.cell 1
  have f1 := hb2.frozen 1
  obtain ⟨ao, n', cap, rfl⟩ : ∃ ao n' cap, v' = .slice ao n' cap := by
    rcases hown'.2 with ⟨hv, _⟩ | ⟨g, cap, cur, hv, _⟩
    · exact ⟨_, _, _, hv⟩
    · exact ⟨_, _, _, hv⟩
  go_wp2
  go_ret2
  refine ⟨rfl, ⟨hbg, some ⟨g, 0, none⟩, .slice ao n' cap, ?_, .inr rfl, ?_⟩, ?_⟩
  · have := Blk.set_ hb2 1 (.slice ao n' cap)
    simpa using this
  · have := pen_kept hown' hb2 1 (.slice ao n' cap)
    rw [hbc.out] at this
    rw [Lib.byteCells_append, List.length_append]
    exact this
  · exact (hb1.grown hgrow (by have := hb1.size; omega) (fun k hk => (hown.lt k hk).1)).setCell (p := ⟨g, 1, none⟩) hbg _
set_option maxRecDepth 100000 in
set_option maxHeartbeats 400000 in
theorem put_ok (base g : Nat) (l s : List UInt8) (w : World) (h : PenAt w base g l) (hlen : l.length + s.length ≤ 1000000) :
    Calls Tryd.prog 47 #[.pointer (some ⟨g, 0, none⟩), .string (bs s), .int .i64 0] w fun x w' => x = .returned (.tuple #[]) ∧ PenAt w' base g (l ++ s) ∧ Below base w w' := by
  have h' := h
  obtain ⟨h1, p, v, h2, h3, h4⟩ := h
  have c0 := h2.cell 0
  have c2 := h2.cell 2
  have f2 := h2.frozen 2
  have hP : PenAt (w.setCell ⟨g, 2, none⟩ (.int .i64 0)) base g l := ⟨h1, p, v, by have := Blk.set_ h2 2 (.int .i64 0); simpa using this, h3, pen_kept h4 h2 2 _⟩
  have hC := Lib.hid (penWrite_any base g l s _ hP hlen)
  have hB := Lib.hid ((Below.refl base w).setCell (p := ⟨g, 2, none⟩) h1 (.int .i64 0))
  clear h2 h3 h4 hP h'
  generalize bs s = S at *
  go_enter Tryd.func47, Tryd.ntmps47
  go_wp2_with fail
  refine hC.out.mono ?_
  rintro x w1 ⟨rfl, hp, hb⟩
  go_wp2_with fail
  refine bodyPost_end (results_none rfl _ _ _) rfl ?_
  exact ⟨rfl, hp, hB.out.trans hb⟩
end Go.Proofs.YtnbggojmbdgkmaaDoor
