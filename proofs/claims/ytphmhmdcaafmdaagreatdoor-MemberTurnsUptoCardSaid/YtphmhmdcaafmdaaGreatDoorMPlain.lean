/-
  The law MemberPlain: what it computes is true. Condition: a raw thing of the second form's bound; the library's table of powers of ten lies as Go laid it.
-/
import Derived.Test.YtphmhmdcaafmdaaGreatDoorEntryL
import Derived.Test.YtphmhmdcaafmdaaGreatDoorEntry
import Derived.Deep.QuietTactic
namespace Go.Proofs.YtphmhmdcaafmdaaGreatDoor
set_option linter.all false
open Go.RowKit
theorem BytesOwn.row {w : World} {base : Nat} {v : Value} {l : List UInt8} (h : BytesOwn w base v l) (h0 : 0 < l.length) : ∃ g c, v = .slice (some ⟨g, 0, none⟩) l.length c ∧ l.length ≤ c ∧ c ≤ maxLen ∧ ∀ j b, l[j]? = some b → w.cell? ⟨g, j, none⟩ = some (.int .u8 (ofB b)) := by
  obtain ⟨A, c, hv, h1, h2, -, hr⟩ := h.at_
  rw [List.length_map] at hv h1 hr
  obtain ⟨ad, rfl, hb, hc⟩ := hr.2 h0
  obtain ⟨g, c2, hv2, -⟩ := World.ownsRow.form h h0
  rw [hv] at hv2
  obtain ⟨e1, -, -⟩ := Value.slice.inj hv2
  injection e1 with e1
  subst e1
  refine ⟨g, c, hv, h1, h2, fun j b hj => ?_⟩
  have := hc j (.int .u8 (ofB b)) (by rw [List.getElem?_map, List.getElem?_map, hj]; rfl)
  rwa [add_flat, Nat.zero_add] at this
theorem new_rowF (w : World) (t : TypeId) (vs : List Value) (fr : Nat × Nat) (n size : Nat) (h : vs.length = n * size) : Reads (w.alloc (.cells vs.toArray t fr)) (w.heap.size + 1) size (some ⟨w.heap.size, 0, none⟩) n vs :=
  ⟨h, fun _ => ⟨_, rfl, Nat.lt_succ_self _, fun j u hu => by
    rw [add_flat, Nat.zero_add, World.cell?_alloc_mark]
    simpa using hu⟩⟩
set_option maxRecDepth 100000 in
set_option maxHeartbeats 4000000 in
theorem Written_any (w : World) (hm : ML w) (h10 : P10 w) :
    Calls Tryz.prog 17 #[] w fun e w' => e = .returned (.bool true) ∧ Below w.heap.size w w' := by
  obtain ⟨W1, hW1⟩ : ∃ W1, W1 = w.alloc (.cells #[.int .u8 120] 5 (1, 2)) := ⟨_, rfl⟩
  have b1 : Below w.heap.size w W1 := by rw [hW1]; exact (Below.refl _ _).alloc (Nat.le_refl _) _
  have hd : BytesAt W1 W1.heap.size (.slice (some ⟨w.heap.size, 0, none⟩) 1 1) [120] := by
    refine ⟨_, 1, rfl, by simp, by simp [maxLen], (fun h => by cases h), ?_⟩
    have h := new_rowF w 5 [.int .u8 120] (1, 2) 1 1 rfl
    rw [show w.heap.size + 1 = W1.heap.size by rw [hW1]; simp, ← hW1] at h
    exact h
  have HW : Hid (Calls Tryz.prog 13 #[.agg #[.string ⟨#[97]⟩, .int .i64 1, .string ⟨#[]⟩, .int .i64 0, .int .i64 0, .int .i64 0, .string ⟨#[]⟩, .string ⟨#[]⟩, .int .i64 0, .int .i64 0, .slice (some ⟨w.heap.size, 0, none⟩) 1 1]] W1 fun e w' => ∃ v, e = .returned (.tuple #[v, .int .i64 0]) ∧ BytesOwn w' W1.heap.size v (memB wrE) ∧ Below W1.heap.size W1 w') :=
    Lib.hid (MWrite_ok wrE wrE_ok (some ⟨w.heap.size, 0, none⟩) 1 W1 (hm.below b1) (h10.below b1) hd)
  obtain ⟨k1, k2, k3⟩ := wrE_bytes
  generalize memB wrE = M at *
  have HB1 := Lib.hid b1
  clear b1 hd hm h10
  have kc := fun (w : World) (C : Array Value) (n c : Nat) => Lib.run_convert_bytes_const (P := Tryz.prog) w 27 5 C n c Tryz.underlying27 Tryz.underlying5
  go_enter Tryz.func17, Tryz.ntmps17
  go_wp2_with fail
  rw [← hW1]
  refine HW.out.mono ?_
  rintro e w2 ⟨v, rfl, hv, b2⟩
  obtain ⟨g, c, rfl, c1, c2, hc⟩ := hv.row (by omega)
  have e0 := hc 0 _ k2
  have e1 := hc 512 _ k3
  have HB2 := Lib.hid (HB1.out.trans (b2.mono HB1.out.size))
  rw [k1] at c1 ⊢
  have e0 : w2.cell? ⟨g, 0, none⟩ = some (.int .u8 97) := e0
  have e1 : w2.cell? ⟨g, 512, none⟩ = some (.int .u8 120) := e1
  clear hv b2 hW1 HW k1 k2 k3 hc
  go_wp2_with fail
  go_ret
  exact ⟨rfl, HB2.out⟩
end Go.Proofs.YtphmhmdcaafmdaaGreatDoor
