/-
  desk.keep and desk.step at a desk that has packed nothing. No condition but the tree's own.
-/
import Derived.Test.YtphmhmdcaafmdaaGreatDoorDeskP
import Derived.Test.YtphmhmdcaafmdaaGreatDoorMapsT
namespace Go.Proofs.YtphmhmdcaafmdaaGreatDoor
set_option linter.all false
open Go.RowKit
def deskC (tv : Value) : Array Value := #[tv, .slice none 0 0, .int .i64 0, .string ⟨#[]⟩, .int .i64 0, .bool false]
structure DeskAt (W : World) (g : Nat) (tv : Value) (t : List NodeP) : Prop where
  blk : Blk W g 99 (deskC tv)
  own : NodesOwn W (g + 1) tv t
  ok : TreeOk t
theorem gb_trans {a w w' : World} {row : Option Nat} (h : a.grownBy w row) (k : w.grownBy w' row) : a.grownBy w' row :=
  ⟨k.os.trans h.os, k.tape.trans h.tape, k.output.trans h.output, Nat.le_trans h.size k.size, fun i hi hr => (k.block i (Nat.lt_of_lt_of_le hi h.size) hr).trans (h.block i hi hr)⟩
theorem gb_below {a w : World} (h : Below a.heap.size a w) (row : Option Nat) : a.grownBy w row := ⟨h.os, h.tape, h.output, h.size, fun i hi _ => h.block i hi⟩
theorem gb_set (w : World) (g i : Nat) (u : Value) : w.grownBy (w.setCell ⟨g, i, none⟩ u) (some g) :=
  ⟨rfl, rfl, rfl, by simp [World.setCell], fun k _ hk => Below.heap_setCell w ⟨g, i, none⟩ u k (fun e => hk (congrArg some e))⟩
theorem gb_drew {w w' : World} {row : Option Nat} (h : w.grownBy w' row) : w.grownBy w'.drew row := ⟨h.os, h.tape, h.output, h.size, h.block⟩
def repC (c : Int) : Array Value := #[.int .i64 c, .int .i64 0, .int .i64 0]
set_option maxHeartbeats 1000000 in
theorem Keep_put (g : Nat) (tv0 : Value) (A : Option Addr) (n c : Nat) (W : World) (hk : Blk W g 99 (deskC tv0)) :
    Calls Tryz.prog 83 #[.pointer (some ⟨g, 0, none⟩), .slice A n c, .int .i64 0] W fun e w' => e = .returned (.agg (repC 0)) ∧ Blk w' g 99 (deskC (.slice A n c)) ∧ W.grownBy w' (some g) := by
  have hk1 := hk.alloc (.cells (repC 0) 50)
  have hr := Blk.new W 50 (repC 0)
  have hlt := hk.lt
  have c0 := hk1.cell 0
  have f0 := hk1.frozen 0
  unfold deskC at c0
  simp only [List.getElem?_toArray, List.getElem?_cons_zero] at c0
  obtain ⟨r, hrr⟩ : ∃ r, r = W.heap.size := ⟨_, rfl⟩
  have hgr : g ≠ r := by omega
  have hrg : r ≠ g := by omega
  have hk5 : Blk ((W.alloc (.cells (repC 0) 50)).setCell ⟨g, 0, none⟩ (.slice A n c)) g 99 (deskC (.slice A n c)) := hk1.set_ 0 (.slice A n c)
  have hr5 : Blk ((W.alloc (.cells (repC 0) 50)).setCell ⟨g, 0, none⟩ (.slice A n c)) r 50 (repC 0) := by rw [hrr]; exact hr.far (p := ⟨g, 0, none⟩) (show W.heap.size ≠ g by omega) _
  have hg5 : W.grownBy ((W.alloc (.cells (repC 0) 50)).setCell ⟨g, 0, none⟩ (.slice A n c)) (some g) := gb_trans (gb_below ((Below.refl _ _).alloc (Nat.le_refl _) _) _) (gb_set _ _ _ _)
  have HK5 := Lib.hid hk5
  have HR5 := Lib.hid hr5
  have HG5 := Lib.hid hg5
  have HRR := Lib.hid (show W.heap.size ≤ r by omega)
  unfold repC at hk5 c0 f0 HR5 HK5 HG5 ⊢
  clear hk hk1 hr hlt hk5 hr5 hg5
  go_enter Tryz.func83, Tryz.ntmps83
  go_upto_region 3 with fail
  rw [← hrr]
  generalize (W.alloc (.cells #[.int .i64 0, .int .i64 0, .int .i64 0] 50)).setCell ⟨g, 0, none⟩ (.slice A n c) = W5 at *
  clear hrr c0 f0
  have hr6 := ((HR5.out.set_ 0 (.int .i64 0)).set_ 1 (.int .i64 0)).set_ 2 (.int .i64 0)
  have hk6 := ((HK5.out.far (p := ⟨r, 0, none⟩) hgr (.int .i64 0)).far (p := ⟨r, 1, none⟩) hgr (.int .i64 0)).far (p := ⟨r, 2, none⟩) hgr (.int .i64 0)
  have hg6 : W.grownBy (((W5.setCell ⟨r, 0, none⟩ (.int .i64 0)).setCell ⟨r, 1, none⟩ (.int .i64 0)).setCell ⟨r, 2, none⟩ (.int .i64 0)) (some g) := by
    refine ⟨HG5.out.os, HG5.out.tape, HG5.out.output, ?_, fun k hk hkg => ?_⟩
    · simpa [World.setCell] using HG5.out.size
    · have hne : k ≠ r := by have := HRR.out; omega
      rw [Below.heap_setCell _ ⟨r, 2, none⟩ _ k hne, Below.heap_setCell _ ⟨r, 1, none⟩ _ k hne, Below.heap_setCell _ ⟨r, 0, none⟩ _ k hne]
      exact HG5.out.block k hk hkg
  have HK6 := Lib.hid hk6
  have HR6 := Lib.hid hr6
  have HG6 := Lib.hid hg6
  have c0 := HR5.out.cell 0
  have c1 := HR5.out.cell 1
  have c2 := HR5.out.cell 2
  have f0 := HR5.out.frozen 0
  have f1 := HR5.out.frozen 1
  have f2 := HR5.out.frozen 2
  simp only [List.getElem?_toArray, List.getElem?_cons_zero, List.getElem?_cons_succ] at c0 c1 c2
  have cc1 : (W5.setCell ⟨r, 0, none⟩ (.int .i64 0)).cell? ⟨r, 1, none⟩ = some (.int .i64 0) := (HR5.out.set_ 0 (.int .i64 0)).cell 1
  have cf1 : (W5.setCell ⟨r, 0, none⟩ (.int .i64 0)).frozen? ⟨r, 1, none⟩ = false := (HR5.out.set_ 0 (.int .i64 0)).frozen 1
  have cc2 : ((W5.setCell ⟨r, 0, none⟩ (.int .i64 0)).setCell ⟨r, 1, none⟩ (.int .i64 0)).cell? ⟨r, 2, none⟩ = some (.int .i64 0) := ((HR5.out.set_ 0 (.int .i64 0)).set_ 1 (.int .i64 0)).cell 2
  have cf2 : ((W5.setCell ⟨r, 0, none⟩ (.int .i64 0)).setCell ⟨r, 1, none⟩ (.int .i64 0)).frozen? ⟨r, 2, none⟩ = false := ((HR5.out.set_ 0 (.int .i64 0)).set_ 1 (.int .i64 0)).frozen 2
  clear hk6 hr6 hg6
  go_wp2_with fail
  refine bodyPost_ret (results_cell_row rfl _ _ r 50 _ (0, 0) _ rfl HR6.out Tryz.underlying50 rfl (by kernel_rfl)) rfl ?_
  exact ⟨rfl, HK6.out, HG6.out⟩
set_option maxHeartbeats 1000000 in
theorem Keep_no (g : Nat) (A : Option Addr) (n c : Nat) (cc : Int) (hc : cc ≠ 0) (W : World) :
    Calls Tryz.prog 83 #[.pointer (some ⟨g, 0, none⟩), .slice A n c, .int .i64 cc] W fun e w' => e = .returned (.agg (repC cc)) ∧ Below W.heap.size W w' := by
  have hr3 := Blk.new W 50 (repC cc)
  have hb3 : Below W.heap.size W (W.alloc (.cells (repC cc) 50)) := (Below.refl _ _).alloc (Nat.le_refl _) _
  have q1 : (cc == 0) = false := by simpa using hc
  have HR3 := Lib.hid hr3
  have HB3 := Lib.hid hb3
  unfold repC at HR3 HB3 ⊢
  clear hb3 hr3 hc
  go_enter Tryz.func83, Tryz.ntmps83
  go_wp2_with fail
  refine bodyPost_ret (results_cell_row rfl _ _ W.heap.size 50 _ (0, 0) _ rfl HR3.out Tryz.underlying50 rfl (by kernel_rfl)) rfl ?_
  exact ⟨rfl, HB3.out⟩
end Go.Proofs.YtphmhmdcaafmdaaGreatDoor
