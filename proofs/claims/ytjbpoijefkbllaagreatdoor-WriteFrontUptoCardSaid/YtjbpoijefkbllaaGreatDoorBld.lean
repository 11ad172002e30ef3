/-
  strings.Builder as a variable of the call's own: copyCheck, WriteString, String. No condition.
-/
import Derived.Test.YtjbpoijefkbllaaGreatDoorFields
import Derived.Lib.Builder
import Derived.Lib.AppendStr
import Derived.Lib.UnsafeStr
import Derived.Shelf.RegionOpenPlain
import Derived.Deep.QuietTactic
import Derived.BigQuiet
namespace Go.Proofs.YtjbpoijefkbllaaGreatDoor
open Go.RowKit

theorem bld_lies : liesAt Tryz.prog Tryz.prog.depth 122 (2 / Tryz.prog.cellsOf 122) 0 122 1 = true := by kernel_rfl
theorem bld_size : (Tryz.prog.info? 122).map (·.size) = some 2 := by kernel_rfl
set_option maxRecDepth 100000 in
set_option maxHeartbeats 400000 in
theorem bldCheck_used (g : Nat) (s : Value) (w : World) (h : Blk w g 122 #[.pointer (some ⟨g, 0, none⟩), s]) :
    Calls Tryz.prog 116 #[.pointer (some ⟨g, 0, none⟩)] w fun x w' => x = .returned (.tuple #[]) ∧ w' = w := by
  obtain ⟨j, hj, hjs⟩ := Option.map_eq_some_iff.1 bld_size
  have c0 := h.cell 0
  have t0 := Tryz.underlying120
  have u0 := run_underlying Tryz.underlying120
  go_enter Tryz.func116, Tryz.ntmps116
  go_wp2
  rw [Lib.run_neq_ptr_same w _ t0 hj]
  simp only [Result.andThen]
  try rw [Oper.upon_value]
  go_wp2
  go_end0
  exact ⟨rfl, rfl⟩
set_option maxRecDepth 100000 in
set_option maxHeartbeats 1000000 in
theorem bldCheck_fresh (g : Nat) (s : Value) (w : World) (h : Blk w g 122 #[.pointer none, s]) :
    Calls Tryz.prog 116 #[.pointer (some ⟨g, 0, none⟩)] w fun x w' => x = .returned (.tuple #[]) ∧ w' = w.setCell ⟨g, 0, none⟩ (.pointer (some ⟨g, 0, none⟩)) := by
  obtain ⟨j, hj, hjs⟩ := Option.map_eq_some_iff.1 bld_size
  have c0 := h.cell 0
  have z0 := h.frozen 0
  have hsh : w.shape? g = some (122, 2) := by unfold Blk at h; simp [World.shape?, h]
  have t0 := Tryz.underlying120
  have u0 := run_underlying Tryz.underlying120
  go_enter Tryz.func116, Tryz.ntmps116
  go_wp2
  rw [Lib.run_to_unsafe w ⟨g, 0, none⟩ t0 Tryz.underlying230 hj (by rw [hjs]; decide) hsh (Nat.zero_lt_succ 1)]
  simp only [Result.andThen]
  rw [Oper.upon_value]
  go_wp2
  rw [run_callFunc_extern Tryz.func161 (by kernel_rfl) (by kernel_rfl) (e := Extern.AbiNoEscape.same) (by kernel_rfl)]
  rw [Lib.run_noEscape]
  simp only [Result.andThen]
  rw [Oper.upon_value]
  go_wp2
  rw [Lib.run_from_unsafe w ⟨g, 0, none⟩ Tryz.underlying230 t0 hj hsh bld_lies]
  simp only [Result.andThen]
  rw [Oper.upon_value]
  go_wp2
  go_end0
  exact ⟨rfl, rfl⟩
  all_goals kernel_rfl

/-- a builder of the call's own that has written l -/
def BldAt (w : World) (base g : Nat) (l : List UInt8) : Prop :=
  base ≤ g ∧ ∃ p v, Blk w g 122 #[.pointer p, v] ∧ (p = none ∨ p = some ⟨g, 0, none⟩) ∧ w.ownsRow base 5 1 v l.length (Lib.byteCells l)
theorem BldAt.below {w w' : World} {base g : Nat} {l : List UInt8} (h : BldAt w base g l) (hb : Below w.heap.size w w') : BldAt w' base g l := by
  obtain ⟨h1, p, v, h2, h3, h4⟩ := h
  refine ⟨h1, p, v, h2.below hb h2.lt, h3, ?_⟩
  refine h4.kept (row := none) ⟨hb.os, hb.tape, hb.output, hb.size, fun k hk _ => hb.block k hk⟩ ?_
  rcases hv : v.ownBlock with _ | b
  · exact .inl rfl
  · exact .inr (by simp)
theorem bld_ne : 5 ≠ 122 := by decide
theorem BldAt.lt {w : World} {base g : Nat} {l : List UInt8} (h : BldAt w base g l) : base ≤ w.heap.size := by
  obtain ⟨h1, p, v, h2, _⟩ := h
  have := h2.lt
  omega
theorem bld_kept {w : World} {base g : Nat} {v : Value} {n : Nat} {xs : List Value} {cs : Array Value} (hown : w.ownsRow base 5 1 v n xs) (hg : Blk w g 122 cs) (i : Nat) (u : Value) : (w.setCell ⟨g, i, none⟩ u).ownsRow base 5 1 v n xs :=
  hown.kept (row := some g) ⟨rfl, rfl, rfl, by simp [World.setCell], fun k _ hk => Below.heap_setCell _ _ _ _ (fun e => hk (by simp [e]))⟩ (.inr (own_blk_ne hown hg bld_ne))
set_option maxRecDepth 100000 in
theorem bldCheck_any (base g : Nat) (l : List UInt8) (w : World) (h : BldAt w base g l) :
    Calls Tryz.prog 116 #[.pointer (some ⟨g, 0, none⟩)] w fun x w' => x = .returned (.tuple #[]) ∧ (∃ v, Blk w' g 122 #[.pointer (some ⟨g, 0, none⟩), v] ∧ w'.ownsRow base 5 1 v l.length (Lib.byteCells l)) ∧ Below base w w' := by
  obtain ⟨h1, p, v, h2, h3, h4⟩ := h
  rcases h3 with rfl | rfl
  · refine (bldCheck_fresh g v w h2).mono ?_
    rintro x w' ⟨rfl, rfl⟩
    refine ⟨rfl, ⟨v, ?_, bld_kept h4 h2 0 _⟩, (Below.refl _ _).setCell (p := ⟨g, 0, none⟩) h1 _⟩
    have := Blk.set_ h2 0 (.pointer (some ⟨g, 0, none⟩))
    simpa using this
  · refine (bldCheck_used g v w h2).mono ?_
    rintro x w' ⟨rfl, rfl⟩
    exact ⟨rfl, ⟨v, h2, h4⟩, Below.refl _ _⟩
set_option maxRecDepth 100000 in
set_option maxHeartbeats 1000000 in
theorem bldWrite_any (base g : Nat) (l s : List UInt8) (w : World) (h : BldAt w base g l) (hlen : l.length + s.length ≤ 1000000) :
    Calls Tryz.prog 70 #[.pointer (some ⟨g, 0, none⟩), .string (bs s)] w fun x w' => x = .returned (.tuple #[.int .i64 s.length, .nilIface]) ∧ BldAt w' base g (l ++ s) ∧ Below base w w' := by
  obtain ⟨i0, hi, hz0, hz1, hz2⟩ := info_parts u8_info
  have hz := bs_size s
  have hbl := h.lt
  have hbg := h.1
  have hC := Lib.hid (bldCheck_any base g l w h)
  have hbc := Lib.hid (show Lib.strCells (bs s) = Lib.byteCells s by rw [Lib.strCells_eq, bs_data])
  generalize bs s = S at *
  clear h
  go_enter Tryz.func70, Tryz.ntmps70
  go_wp2_with fail
  refine hC.out.mono ?_
  rintro x w1 ⟨rfl, ⟨v, hbk, hown⟩, hb1⟩
  have c0 := hbk.cell 0
  have c1 := hbk.cell 1
  go_wp2_with (at_builtin; refine Lib.wpList_append_own_string _ rfl _ _ 38 9 rfl base 5 i0 Tryz.underlying38 Tryz.underlying9 hi hz0 hz1 hz2 _ _ _ rfl hown S rfl ?c3 ?c4 ?c5 ?_)
  case c3 => unfold maxLen; omega
  case c4 => omega
  case c5 => have := hb1.size; omega
  intro v' w2 hown' hgrow _
  have hne : v.ownBlock ≠ some g := own_blk_ne hown hbk bld_ne
  have hb2 : Blk w2 g 122 #[.pointer (some ⟨g, 0, none⟩), v] := hbk.grown hgrow (fun e => hne e.symm)
  have d0 := hb2.cell 0
  have d1 := hb2.cell 1
  have f1 := hb2.frozen 1
  obtain ⟨ao, n', cap, rfl⟩ : ∃ ao n' cap, v' = .slice ao n' cap := by
    rcases hown'.2 with ⟨hv, _⟩ | ⟨g, cap, cur, hv, _⟩
    · exact ⟨_, _, _, hv⟩
    · exact ⟨_, _, _, hv⟩
  go_wp2
  go_ret2
  refine ⟨rfl, ⟨hbg, some ⟨g, 0, none⟩, .slice ao n' cap, ?_, .inr rfl, ?_⟩, ?_⟩
  · have := Blk.set_ hb2 1 (.slice ao n' cap)
    simpa using this
  · have := bld_kept hown' hb2 1 (.slice ao n' cap)
    rw [hbc.out] at this
    rw [Lib.byteCells_append, List.length_append]
    exact this
  · exact (hb1.grown hgrow (by have := hb1.size; omega) (fun k hk => (hown.lt k hk).1)).setCell (p := ⟨g, 1, none⟩) hbg _
set_option maxRecDepth 100000 in
set_option maxHeartbeats 1000000 in
theorem bld_string (base g : Nat) (l : List UInt8) (h0 : l ≠ []) (hl : l.length ≤ 1000000) (w : World) (h : BldAt w base g l) :
    Calls Tryz.prog 72 #[.pointer (some ⟨g, 0, none⟩)] w fun e w' => e = .returned (.string (bs l)) ∧ Below base w w' := by
  obtain ⟨h1, p, v, hbk, _, hown⟩ := h
  have hl0 : l.length ≠ 0 := by simpa using h0
  obtain ⟨r, cap, cur, rfl, hbg, hg, hnc, hcm, hcs, htake⟩ : ∃ r cap cur, v = .slice (some ⟨r, 0, none⟩) l.length cap ∧ base ≤ r ∧ w.heap[r]? = some (.cells cur 5 (0, 0)) ∧ l.length ≤ cap ∧ cap ≤ maxLen ∧ cur.size = cap * 1 ∧ cur.toList.take (l.length * 1) = Lib.byteCells l := by
    rcases hown.2 with ⟨_, hz⟩ | ⟨g, cap, cur, hv, q⟩
    · exact absurd hz hl0
    · exact ⟨g, cap, cur, hv, q⟩
  have c1 := hbk.cell 1
  have c1' := hbk.drew.cell 1
  have hSD : (Builtin.unsafeSliceData_ #[38] 189 #[.slice (some ⟨r, 0, none⟩) l.length cap]).run Tryz.prog w.drew = .ok (.pointer (some ⟨r, 0, none⟩)) w.drew :=
    Lib.run_unsafeSliceData_row _ _ _ _ _ _ (by omega)
  have hUS : (Builtin.unsafeString_ #[189, 3] 9 #[.pointer (some ⟨r, 0, none⟩), .int .i64 l.length]).run Tryz.prog w.drew = .ok (.string (bs l)) (w.drew.freeze ⟨r, 0, none⟩ l.length) := by
    refine Lib.run_unsafeString_row w.drew 189 3 9 5 Tryz.underlying189 (by kernel_rfl) r cur.size (by have hg' : w.drew.heap[r]? = some (.cells cur 5 (0, 0)) := hg; simp [World.shape?, hg']) l h0 (by omega) (by unfold maxLen at hcm; omega) ?_
    intro j x hx
    have := hown.cells (g := r) rfl j (.int .u8 x.toNat) (by simp [Lib.byteCells, hx])
    exact this
  have HF := Lib.hid (Lib.below_freeze (Below.drew (Below.refl base w)) (p := ⟨r, 0, none⟩) hbg l.length)
  clear hown htake hg
  generalize bs l = L at *
  go_enter Tryz.func72, Tryz.ntmps72
  go_wp2_with fail
  go_region
  all_goals (go_wp2; go_ret; exact ⟨rfl, HF.out⟩)

theorem BldAt.new (w : World) (B : Nat) (hB : B ≤ w.heap.size) : BldAt (w.alloc (.cells #[.pointer none, .slice none 0 0] 122)) B w.heap.size [] :=
  ⟨hB, none, .slice none 0 0, Blk.new _ _ _, .inl rfl, World.ownsRow_nil _ _ _ _⟩
end Go.Proofs.YtjbpoijefkbllaaGreatDoor
