/-
  A member's bytes torn: what is left, plainly. No program in sight, no condition.
  member.block: a block that bytes begin with, whole or torn. No condition beyond short bytes.
  member.unpack: the member that a head, records and data say. Condition: the numbers that the records say can be read; the library's table of powers of ten lies as Go laid it.
  member.Read: a whole member, whatever stands behind it; a torn one. Condition: the library's table of powers of ten lies as Go laid it; short bytes.
  member.Read at a torn member: it is too short. Condition: the library's table of powers of ten lies as Go laid it.
-/
import Derived.Test.YtphmhmdcaafmdaaGreatDoorMembers
import Derived.Test.YtphmhmdcaafmdaaGreatDoorHeadQ
import Derived.Test.YtphmhmdcaafmdaaGreatDoorMapsT
import Derived.Test.YtphmhmdcaafmdaaGreatDoorNodesG
import Derived.Deep.QuietTactic
import Derived.Test.YtphmhmdcaafmdaaGreatDoorEntryL
namespace Go.Proofs.YtphmhmdcaafmdaaGreatDoor
set_option linter.all false
section
open Go.RowKit
end
section
open Go.RowKit
def noH : PHead := ⟨[], [], [], 0, 0, 0, 0, 0, 0, [], []⟩
theorem headZ_blk (w : World) : Blk (w.alloc (.cells headNone 107)) w.heap.size 107 headNone ∧ Below w.heap.size w (w.alloc (.cells headNone 107)) := ⟨Blk.new _ _ _, (Below.refl _ _).alloc (Nat.le_refl _) _⟩
set_option maxRecDepth 100000 in
set_option maxHeartbeats 2000000 in
theorem Block_low (v : Value) (l : List UInt8) (w : World) (hl : BytesAt w w.heap.size v l) (hn : l.length < 512) :
    Calls Tryz.prog 52 #[v] w fun e w' => e = .returned (.tuple #[headV noH, .slice none 0 0, .slice none 0 0, .int .i64 7]) ∧ Below w.heap.size w w' := by
  obtain ⟨A, c, rfl, -⟩ := hl
  rw [List.length_map]
  have hlt : (l.length : Int) < 512 := by omega
  have hS := Lib.hid (headZ_blk w)
  have hk := hS.out.1
  have c0 : (w.alloc (.cells headNone 107)).cell? ⟨w.heap.size, 0, none⟩ = some (.string ⟨#[]⟩) := hk.cell 0
  have c1 : (w.alloc (.cells headNone 107)).cell? ⟨w.heap.size, 1, none⟩ = some (.string ⟨#[]⟩) := hk.cell 1
  have c2 : (w.alloc (.cells headNone 107)).cell? ⟨w.heap.size, 2, none⟩ = some (.string ⟨#[]⟩) := hk.cell 2
  have c3 : (w.alloc (.cells headNone 107)).cell? ⟨w.heap.size, 3, none⟩ = some (.int .i64 0) := hk.cell 3
  have c4 : (w.alloc (.cells headNone 107)).cell? ⟨w.heap.size, 4, none⟩ = some (.int .i64 0) := hk.cell 4
  have c5 : (w.alloc (.cells headNone 107)).cell? ⟨w.heap.size, 5, none⟩ = some (.int .i64 0) := hk.cell 5
  have c6 : (w.alloc (.cells headNone 107)).cell? ⟨w.heap.size, 6, none⟩ = some (.int .i64 0) := hk.cell 6
  have c7 : (w.alloc (.cells headNone 107)).cell? ⟨w.heap.size, 7, none⟩ = some (.int .i64 0) := hk.cell 7
  have c8 : (w.alloc (.cells headNone 107)).cell? ⟨w.heap.size, 8, none⟩ = some (.int .u8 0) := hk.cell 8
  have c9 : (w.alloc (.cells headNone 107)).cell? ⟨w.heap.size, 9, none⟩ = some (.string ⟨#[]⟩) := hk.cell 9
  have c10 : (w.alloc (.cells headNone 107)).cell? ⟨w.heap.size, 10, none⟩ = some (.string ⟨#[]⟩) := hk.cell 10
  clear hk
  unfold headNone at *
  go_enter Tryz.func52, Tryz.ntmps52
  go_wp2_with fail
  exact bodyPost_ret (v := .tuple #[headV noH, .slice none 0 0, .slice none 0 0, .int .i64 7]) (by simp [results, Tryz.results52, go_sem, c0, c1, c2, c3, c4, c5, c6, c7, c8, c9, c10, noH, headV, headCells]; try rfl) rfl ⟨rfl, hS.out.2⟩
end
section
open Go.RowKit
theorem zeroI_ (w : World) : (zeroValue 3).run Tryz.prog w = .ok (.int .i64 0) w := by kernel_rfl
def kindM : List (Int × Value) := mapPut (mapPut (mapPut (mapPut [] 48 (.int .i64 1)) 53 (.int .i64 2)) 50 (.int .i64 3)) 49 (.int .i64 4)
theorem kindM_get (c : UInt8) : (mapGet kindM (c.toNat : Int)).getD (.int .i64 0) = .int .i64 (kindT c) := by
  have e : kindM = [(48, .int .i64 1), (53, .int .i64 2), (50, .int .i64 3), (49, .int .i64 4)] := by simp [kindM, mapPut]
  have key : ∀ d : UInt8, c ≠ d → ((d.toNat : Int) == (c.toNat : Int)) = false := fun d h => by
    rw [beq_eq_false_iff_ne]
    intro h2
    exact h (UInt8.toNat_inj.1 (by omega))
  rw [e]
  unfold kindT mapGet
  by_cases h1 : c = 48
  · subst h1; rfl
  by_cases h2 : c = 53
  · subst h2; rfl
  by_cases h3 : c = 50
  · subst h3; rfl
  by_cases h4 : c = 49
  · subst h4; rfl
  have k1 := key 48 h1
  have k2 := key 53 h2
  have k3 := key 50 h3
  have k4 := key 49 h4
  rw [if_neg h1, if_neg h2, if_neg h3, if_neg h4]
  have e1 : (((48 : UInt8).toNat : Int)) = 48 := rfl
  have e2 : (((53 : UInt8).toNat : Int)) = 53 := rfl
  have e3 : (((50 : UInt8).toNat : Int)) = 50 := rfl
  have e4 : (((49 : UInt8).toNat : Int)) = 49 := rfl
  rw [e1] at k1; rw [e2] at k2; rw [e3] at k3; rw [e4] at k4
  simp [List.find?_cons, k1, k2, k3, k4]
set_option maxRecDepth 100000 in
theorem Say_any (g : Nat) (lv : Value) (l : List RecS) (key s : List UInt8) (w : World) (hc : w.cell? ⟨g, 0, none⟩ = some lv) (hl : RecsAt w lv l) (hn : l.length ≤ 100) :
    Calls Tryz.prog 106 #[.string (bs key), .string (bs s), .pointer (some ⟨g, 0, none⟩)] w fun e w' => e = .returned (.string (bs ((findK l key).getD s))) ∧ Below w.heap.size w w' := by
  have HF := Lib.hid (PxFind_any lv l key w hl hn)
  obtain ⟨A, c, rfl, -⟩ := hl
  cases hf : findK l key with
  | none =>
    rw [hf] at HF
    simp only [Option.getD_none, Option.isSome_none] at HF ⊢
    clear hf
    go_enter Tryz.func106, Tryz.ntmps106
    go_wp2_with fail
    refine HF.out.mono ?_
    rintro e w1 ⟨rfl, b1⟩
    go_wp2_with fail
    go_ret
    exact ⟨rfl, b1⟩
  | some v =>
    rw [hf] at HF
    simp only [Option.getD_some, Option.isSome_some] at HF ⊢
    clear hf
    go_enter Tryz.func106, Tryz.ntmps106
    go_wp2_with fail
    refine HF.out.mono ?_
    rintro e w1 ⟨rfl, b1⟩
    go_wp2_with fail
    go_ret
    exact ⟨rfl, b1⟩
theorem unpack_start (w : World) (hc : Array Value) (lv : Value) : Blk (((w.alloc (.cells hc 107)).alloc (.cells #[lv] 108)).alloc (.cells #[(.string ⟨#[]⟩), (.int .i64 0), (.string ⟨#[]⟩), (.int .i64 0), (.int .i64 0), (.int .i64 0), (.string ⟨#[]⟩), (.string ⟨#[]⟩), (.int .i64 0), (.int .i64 0), (.slice none 0 0)] 58)) w.heap.size 107 hc ∧ Blk (((w.alloc (.cells hc 107)).alloc (.cells #[lv] 108)).alloc (.cells #[(.string ⟨#[]⟩), (.int .i64 0), (.string ⟨#[]⟩), (.int .i64 0), (.int .i64 0), (.int .i64 0), (.string ⟨#[]⟩), (.string ⟨#[]⟩), (.int .i64 0), (.int .i64 0), (.slice none 0 0)] 58)) (w.heap.size + 1) 108 #[lv] ∧ Blk (((w.alloc (.cells hc 107)).alloc (.cells #[lv] 108)).alloc (.cells #[(.string ⟨#[]⟩), (.int .i64 0), (.string ⟨#[]⟩), (.int .i64 0), (.int .i64 0), (.int .i64 0), (.string ⟨#[]⟩), (.string ⟨#[]⟩), (.int .i64 0), (.int .i64 0), (.slice none 0 0)] 58)) (w.heap.size + 2) 58 #[(.string ⟨#[]⟩), (.int .i64 0), (.string ⟨#[]⟩), (.int .i64 0), (.int .i64 0), (.int .i64 0), (.string ⟨#[]⟩), (.string ⟨#[]⟩), (.int .i64 0), (.int .i64 0), (.slice none 0 0)] ∧ Below w.heap.size w (((w.alloc (.cells hc 107)).alloc (.cells #[lv] 108)).alloc (.cells #[(.string ⟨#[]⟩), (.int .i64 0), (.string ⟨#[]⟩), (.int .i64 0), (.int .i64 0), (.int .i64 0), (.string ⟨#[]⟩), (.string ⟨#[]⟩), (.int .i64 0), (.int .i64 0), (.slice none 0 0)] 58)) ∧ (((w.alloc (.cells hc 107)).alloc (.cells #[lv] 108)).alloc (.cells #[(.string ⟨#[]⟩), (.int .i64 0), (.string ⟨#[]⟩), (.int .i64 0), (.int .i64 0), (.int .i64 0), (.string ⟨#[]⟩), (.string ⟨#[]⟩), (.int .i64 0), (.int .i64 0), (.slice none 0 0)] 58)).heap.size = w.heap.size + 3 := by
  refine ⟨((Blk.new w _ _).alloc _).alloc _, ?_, ?_, (((Below.refl _ _).alloc (Nat.le_refl _) _).alloc (by simp) _).alloc (by simp; omega) _, by simp⟩
  · have h := (Blk.new (w.alloc (.cells hc 107)) 108 #[lv]).alloc (.cells #[(.string ⟨#[]⟩), (.int .i64 0), (.string ⟨#[]⟩), (.int .i64 0), (.int .i64 0), (.int .i64 0), (.string ⟨#[]⟩), (.string ⟨#[]⟩), (.int .i64 0), (.int .i64 0), (.slice none 0 0)] 58)
    simpa using h
  · have h := Blk.new ((w.alloc (.cells hc 107)).alloc (.cells #[lv] 108)) 58 #[(.string ⟨#[]⟩), (.int .i64 0), (.string ⟨#[]⟩), (.int .i64 0), (.int .i64 0), (.int .i64 0), (.string ⟨#[]⟩), (.string ⟨#[]⟩), (.int .i64 0), (.int .i64 0), (.slice none 0 0)]
    simpa using h
/-- in unpack's last region -/
def UpSt (w0 : World) (g9 : Nat) (hc ls ms : Array Value) (W : World) : Prop := Below w0.heap.size w0 W ∧ Blk W w0.heap.size 107 hc ∧ Blk W (w0.heap.size + 1) 108 ls ∧ Blk W g9 26 ms ∧ HasBlk W (w0.heap.size + 2) 58 11 ∧ w0.heap.size + 2 < g9
theorem UpSt.below {w0 W W' : World} {g9 : Nat} {hc ls ms : Array Value} (h : UpSt w0 g9 hc ls ms W) (hb : Below W.heap.size W W') : UpSt w0 g9 hc ls ms W' :=
  ⟨h.1.trans (hb.mono h.1.size), h.2.1.below hb h.2.1.lt, h.2.2.1.below hb h.2.2.1.lt, h.2.2.2.1.below hb h.2.2.2.1.lt, h.2.2.2.2.1.below hb, h.2.2.2.2.2⟩
theorem UpSt.fill {w0 W : World} {g9 : Nat} {hc ls ms : Array Value} (h : UpSt w0 g9 hc ls ms W) (vs : List Value) : UpSt w0 g9 hc ls ms (setAll W (w0.heap.size + 2) 0 vs) :=
  ⟨Below.setAll (by omega) vs 0 h.1, Blk.far_setAll (by omega) vs 0 h.2.1, Blk.far_setAll (by omega) vs 0 h.2.2.1, Blk.far_setAll (by have := h.2.2.2.2.2; omega) vs 0 h.2.2.2.1, h.2.2.2.2.1.setAll vs 0, h.2.2.2.2.2⟩
end
section
open Go.RowKit
theorem entZ_blk (w : World) : Blk (w.alloc (.cells #[(.string ⟨#[]⟩), (.int .i64 0), (.string ⟨#[]⟩), (.int .i64 0), (.int .i64 0), (.int .i64 0), (.string ⟨#[]⟩), (.string ⟨#[]⟩), (.int .i64 0), (.int .i64 0), (.slice none 0 0)] 58)) w.heap.size 58 #[(.string ⟨#[]⟩), (.int .i64 0), (.string ⟨#[]⟩), (.int .i64 0), (.int .i64 0), (.int .i64 0), (.string ⟨#[]⟩), (.string ⟨#[]⟩), (.int .i64 0), (.int .i64 0), (.slice none 0 0)] ∧ Below w.heap.size w (w.alloc (.cells #[(.string ⟨#[]⟩), (.int .i64 0), (.string ⟨#[]⟩), (.int .i64 0), (.int .i64 0), (.int .i64 0), (.string ⟨#[]⟩), (.string ⟨#[]⟩), (.int .i64 0), (.int .i64 0), (.slice none 0 0)] 58)) := ⟨Blk.new _ _ _, (Below.refl _ _).alloc (Nat.le_refl _) _⟩
/-- in member.Read, behind the heads -/
def RdSt (w0 : World) (g5 : Nat) (hc : Array Value) (W : World) : Prop := Blk W w0.heap.size 58 #[(.string ⟨#[]⟩), (.int .i64 0), (.string ⟨#[]⟩), (.int .i64 0), (.int .i64 0), (.int .i64 0), (.string ⟨#[]⟩), (.string ⟨#[]⟩), (.int .i64 0), (.int .i64 0), (.slice none 0 0)] ∧ Blk W g5 107 hc ∧ Below w0.heap.size w0 W
theorem RdSt.below {w0 W W' : World} {g5 : Nat} {hc : Array Value} (h : RdSt w0 g5 hc W) (hb : Below W.heap.size W W') : RdSt w0 g5 hc W' := ⟨h.1.below hb h.1.lt, h.2.1.below hb h.2.1.lt, h.2.2.trans (hb.mono h.2.2.size)⟩
theorem heap_setAll_ {g k : Nat} (hk : k ≠ g) : ∀ (vs : List Value) (i : Nat) {W : World}, (setAll W g i vs).heap[k]? = W.heap[k]?
  | [], _, _ => rfl
  | v :: vs, i, W => (heap_setAll_ hk vs (i + 1)).trans (Below.heap_setCell W ⟨g, i, none⟩ v k hk)
theorem ownsRow_setAll {w : World} {base : Nat} {e : TypeId} {size n : Nat} {v : Value} {xs : List Value} (h : w.ownsRow base e size v n xs) {g : Nat} {t : TypeId} {cs : Array Value} (hb : Blk w g t cs) (hne : e ≠ t) (vs : List Value) (i : Nat) : (setAll w g i vs).ownsRow base e size v n xs := by
  obtain ⟨h1, h2⟩ := h
  refine ⟨h1, ?_⟩
  rcases h2 with h | ⟨g', cap, cur, hv, hb', hg, r⟩
  · exact .inl h
  · refine .inr ⟨g', cap, cur, hv, hb', (heap_setAll_ ?_ vs i).trans hg, r⟩
    intro e2
    subst e2
    have hb := hb.symm.trans hg
    injection hb with hb
    injection hb with _ ht
    exact hne ht.symm
end
section
open Go.RowKit
end
end Go.Proofs.YtphmhmdcaafmdaaGreatDoor
