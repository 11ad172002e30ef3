/-
  What is told of a raw thing may be: plainly; meta.Check says so. No condition.
-/
import Derived.Test.YtjglenhhgbokbaaGreatDoorMetaOf
import Derived.Test.YtjglenhhgbokbaaGreatDoorStamps
namespace Go.Proofs.YtjglenhhgbokbaaGreatDoor
open Go.RowKit

structure MetaOk (m : MetaP) : Prop where
  mode : 0 ≤ m.mode ∧ m.mode ≤ 4095
  uid : 0 ≤ m.uid ∧ m.uid ≤ 1125899906842624
  gid : 0 ≤ m.gid ∧ m.gid ≤ 1125899906842624
  user : m.user.length ≤ 60 ∧ (0 : UInt8) ∉ m.user
  group : m.group.length ≤ 60 ∧ (0 : UInt8) ∉ m.group
  time : timeOk m.second m.nano
theorem metaOf_ok (r : RawS) : MetaOk (metaOf r) := by
  have b1 := pick_bd r.a 4096 (by omega)
  have b2 := pick_bd r.b 3000 (by omega)
  have b3 := pick_bd r.a 3000 (by omega)
  have b4 := pick_bd r.b 17179869184 (by omega)
  have b5 := pick_bd r.a 1000000000 (by omega)
  have b6 := pick_bd r.b 1125899906842625 (by omega)
  have b7 := pick_bd r.a 1125899906842625 (by omega)
  have b8 := pick_bd r.a 61 (by omega)
  have c1 := cleanS_length r.text 40
  have c2 := cleanS_no r.text 40
  have s1 : (0 : UInt8) ∉ staffS := by decide
  have s2 : staffS.length = 5 := rfl
  have hB : MetaOk (metaBase r) := ⟨⟨by show 0 ≤ pick r.a 4096; omega, by show pick r.a 4096 ≤ _; omega⟩, ⟨by show 0 ≤ pick r.b 3000; omega, by show pick r.b 3000 ≤ _; omega⟩, ⟨by show 0 ≤ pick r.a 3000; omega, by show pick r.a 3000 ≤ _; omega⟩, ⟨by show (cleanS r.text 40).length ≤ _; omega, c2⟩, ⟨by show staffS.length ≤ _; omega, s1⟩,
    ⟨by show _ ≤ pick r.b 17179869184; omega, by show pick r.b 17179869184 ≤ _; omega, by show (0 : Int) ≤ 0; omega, by show (0 : Int) ≤ _; omega⟩⟩
  unfold metaOf
  generalize (pick r.kind 9).toNat = k
  unfold metaPick
  split
  · exact { hB with time := ⟨hB.time.1, hB.time.2.1, b5.1, by show pick r.a 1000000000 ≤ _; omega⟩ }
  · exact { hB with time := ⟨by show _ ≤ -pick r.b 17179869184 - 1; omega, by show -pick r.b 17179869184 - 1 ≤ _; omega, hB.time.2.2.1, hB.time.2.2.2⟩ }
  · exact { hB with uid := ⟨b6.1, by show pick r.b 1125899906842625 ≤ _; omega⟩ }
  · exact { hB with gid := ⟨b7.1, by show pick r.a 1125899906842625 ≤ _; omega⟩ }
  · exact { hB with group := ⟨by show (List.replicate _ (103 : UInt8)).length ≤ _; rw [List.length_replicate]; omega, by show (0 : UInt8) ∉ List.replicate _ (103 : UInt8); rw [List.mem_replicate]; simp⟩ }
  · exact hB

set_option maxHeartbeats 1000000 in
theorem MCheck_ok (m : MetaP) (h : MetaOk m) (w : World) :
    Calls Tryz.prog 59 #[.agg (metaCells m).toArray] w fun e w' => e = .returned (.int .i64 0) ∧ Below w.heap.size w w' := by
  obtain ⟨md, ud, gd, us, gr, sc, nn⟩ := m
  obtain ⟨⟨h1, h2⟩, ⟨h3, h4⟩, ⟨h5, h6⟩, ⟨h7, h8⟩, ⟨h9, h10⟩, h11⟩ := h
  simp only at h1 h2 h3 h4 h5 h6 h7 h8 h9 h10 h11
  have hS := Lib.hid (fun w => SCheck_ok sc nn h11 w)
  have hix : Lib.indexByte (us ++ gr) 0 = -1 := indexByte_not (by rw [List.mem_append]; exact fun h => h.elim h8 h10)
  have hI := Lib.hid (fun w => IndexByte_nul (us ++ gr) w)
  rw [hix] at hI
  have hap := bs_append us gr
  have z1 := bs_size us
  have z2 := bs_size gr
  rw [← hap] at hI
  clear hix h8 h10 h11 hap
  unfold metaCells
  simp only
  generalize bs us = bu at *
  generalize bs gr = bg at *
  go_enter Tryz.func59, Tryz.ntmps59
  go_wp2_with fail
  refine (hI.out _).mono ?_
  rintro e w' ⟨rfl, rfl⟩
  go_wp2_with fail
  refine (hS.out _).mono ?_
  rintro e w' ⟨rfl, rfl⟩
  go_wp2_with fail
  go_ret
  exact ⟨rfl, (Below.refl _ _).alloc (Nat.le_refl _) _⟩
end Go.Proofs.YtjglenhhgbokbaaGreatDoor
