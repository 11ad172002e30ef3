/-
  fault.Check: faults that may be are let pass. No condition but short paths.
-/
import Derived.Test.YtpanjldionaaiaaGreatDoorFaultQ
import Derived.Test.YtpanjldionaaiaaGreatDoorPathW
import Derived.Test.YtpanjldionaaiaaGreatDoorMapsT
namespace Go.Proofs.YtpanjldionaaiaaGreatDoor
set_option linter.all false
open Go.RowKit
structure FltOk (l : List FltP) : Prop where
  len : l.length ≤ 12
  path : ∀ f ∈ l, checkS f.path = 0 ∧ f.path.length ≤ 400
  code : ∀ f ∈ l, 1 ≤ f.code
  one : ∀ k (hk : k < l.length), idxP (l.take k) l[k].path = -1
theorem FltsAt.take_ {w : World} {ad : Addr} {n c : Nat} {l : List FltP} (h : FltsAt w (.slice (some ad) n c) l) (k : Nat) (hk : k ≤ n) : FltsAt w (.slice (some ad) k c) (l.take k) := by
  obtain ⟨A, c', h1, h2, h3, h4, h5, h6⟩ := h
  injection h1 with e1 e2 e3
  subst e1 e2 e3
  have hkl : (l.take k).length = k := by rw [List.length_take]; omega
  refine ⟨some ad, c, by rw [hkl], by rw [hkl]; omega, h3, (fun h => by cases h), ?_⟩
  rw [hkl]
  have e : (l.take k).flatMap fltC = (l.flatMap fltC).take (k * 2) := by
    have h9 : l.flatMap fltC = (l.take k).flatMap fltC ++ (l.drop k).flatMap fltC := by rw [← List.flatMap_append, List.take_append_drop]
    rw [h9, List.take_left']
    rw [flat_length fltC_length, hkl]
  rw [e]
  refine ⟨by rw [List.length_take, h5]; omega, fun hn => ?_⟩
  obtain ⟨ad', e1, hb, hc⟩ := h6 (by omega)
  refine ⟨ad', e1, hb, fun j u hu => hc j u ?_⟩
  rw [List.getElem?_take] at hu
  split at hu
  · exact hu
  · cases hu
set_option maxRecDepth 100000 in
set_option maxHeartbeats 2000000 in
theorem FCk_ok (v : Value) (l : List FltP) (w : World) (hm : ∀ W, Below w.heap.size w W → ML W) (hl : FltsAt w v l) (hok : FltOk l) :
    Calls Tryz.prog 53 #[v] w fun e w' => e = .returned (.int .i64 0) ∧ Below w.heap.size w w' := by
  have HLV := Lib.hid hl
  have hlen := hok.len
  obtain ⟨A, c, rfl, hlc, hc, hA, hr⟩ := hl
  unfold maxLen at hc
  have HR := Lib.hid hr
  have HOK := Lib.hid hok
  have HML := Lib.hid hm
  clear hr hok hm
  go_enter Tryz.func53, Tryz.ntmps53
  go_wp2_with fail
  go_loopg [3, 4, 5, 11] l.length (fun gg s3 s4 s5 s11 wr => ∃ k : Nat, k ≤ l.length ∧ l.length - k ≤ gg ∧ s11 = .int .i64 k ∧ Hid (Below w.heap.size w wr))
  case atStart => exact ⟨0, Nat.zero_le _, by omega, rfl, Lib.hid (Below.refl _ w)⟩
  case round =>
    obtain ⟨k, hk, hg, rfl, HB⟩ := hrel
    by_cases hlt : k < l.length
    · have hltz : (k : Int) < (l.length : Int) := by omega
      obtain ⟨ad, rfl, had, e0, e1⟩ := (HR.out.below HB.out).flt_at hlt
      have hp := HOK.out.path _ (List.getElem_mem hlt)
      have hcd := HOK.out.code _ (List.getElem_mem hlt)
      have HCK := Lib.hid (fun W (hb : Below w.heap.size w W) => Check_any l[k].path W (by omega) (HML.out W hb))
      rw [hp.1] at HCK
      have HIX := Lib.hid (fun W (hb : Below w.heap.size w W) => FIndex_any (.slice (some ad) k c) (l.take k) l[k].path W ((HLV.out.below hb).take_ k hk))
      rw [HOK.out.one k hlt] at HIX
      clear hp
      generalize bs l[k].path = bx at *
      generalize l[k].code = cx at *
      obtain ⟨W1, hW1⟩ : ∃ W1, W1 = wr.alloc (.cells #[.string bx, .int .i64 cx] 32) := ⟨_, rfl⟩
      obtain ⟨g4, hg4⟩ : ∃ g4, g4 = wr.heap.size := ⟨_, rfl⟩
      have hk1 : Blk W1 g4 32 #[.string bx, .int .i64 cx] := by rw [hW1, hg4]; exact Blk.new _ _ _
      have hb1 : Below wr.heap.size wr W1 := by rw [hW1]; exact (Below.refl _ _).alloc (Nat.le_refl _) _
      have HB1 := Lib.hid (HB.out.trans (hb1.mono HB.out.size))
      have HK1 := Lib.hid hk1
      clear hk1 hb1 HB
      go_upto_region 6 with fail
      rw [← hW1, ← hg4]
      clear hW1 hg4
      have e2 := HK1.out.cell 0
      have j1 : ¬ (cx < 1) := by omega
      have j2 : decide (cx < 1) = false := decide_eq_false j1
      go_wp2_with fail
      refine (HCK.out _ HB1.out).mono ?_
      rintro e w2 ⟨rfl, b2⟩
      have HB2 := Lib.hid (HB1.out.trans (b2.mono HB1.out.size))
      have hk2 := HK1.out.below b2 HK1.out.lt
      have HK2 := Lib.hid hk2
      have e3 : w2.cell? ⟨g4, 1, none⟩ = some (.int .i64 cx) := hk2.cell 1
      clear b2 hk2 e2 HCK HB1 HK1 e0 e1
      go_upto_region 11 with fail
      have i1 : (0 : Int) ≤ (k : Int) := by omega
      have i2 : (k : Int) ≤ (c : Int) := by omega
      have i3 : k ≤ c := by omega
      have HCC : Hid (∀ W W' : World, Below w2.heap.size w2 W → Below W.heap.size W W' → Below w2.heap.size w2 W') := Lib.hid (fun W W' h1 h2 => h1.trans (h2.mono h1.size))
      refine wp_region_G (S := fun W => Below w2.heap.size w2 W) (by kernel_rfl) (Below.refl _ _).drew ?_
      refine wpG_take (i := 0) (v := ?vf1) rfl (by kernel_rfl) (by kernel_rfl) (by kernel_rfl) (fun _ _ _ h => h) (Or.inl ⟨by rfl, ?hyf1⟩) ?restf1
      case hyf1 => (intro W hSw; left; (try dsimp only at hSw); go_simp; try with_reducible rfl)
      simp only [Act.put, List.setIfInBounds_toArray, List.set_cons_zero, List.set_cons_succ, List.getElem_toArray, List.getElem_cons_zero, List.getElem_cons_succ]
      refine wpG_take (i := 1) (v := ?vf2) rfl (by kernel_rfl) (by kernel_rfl) (by kernel_rfl) (fun _ _ _ h => h) (Or.inl ⟨by rfl, ?hyf2⟩) ?restf2
      case hyf2 => (intro W hSw; left; (try dsimp only at hSw); go_simp; try with_reducible rfl)
      simp only [Act.put, List.setIfInBounds_toArray, List.set_cons_zero, List.set_cons_succ, List.getElem_toArray, List.getElem_cons_zero, List.getElem_cons_succ]
      refine wpG_take (i := 2) (v := ?vf3) rfl (by kernel_rfl) (by kernel_rfl) (by kernel_rfl) (fun _ _ _ h => h) (Or.inl ⟨by rfl, ?hyf3⟩) ?restf3
      case hyf3 => (intro W hSw; left; (try dsimp only at hSw); go_simp; try with_reducible rfl)
      simp only [Act.put, List.setIfInBounds_toArray, List.set_cons_zero, List.set_cons_succ, List.getElem_toArray, List.getElem_cons_zero, List.getElem_cons_succ]
      refine wpG_take (i := 3) (v := ?vf4) rfl (by kernel_rfl) (by kernel_rfl) (by kernel_rfl) (fun _ _ _ h => h) (Or.inl ⟨by rfl, ?hyf4⟩) ?restf4
      case hyf4 => (intro W hSw; left; (try dsimp only at hSw); go_simp; try with_reducible rfl)
      simp only [Act.put, List.setIfInBounds_toArray, List.set_cons_zero, List.set_cons_succ, List.getElem_toArray, List.getElem_cons_zero, List.getElem_cons_succ]
      refine wpG_take (i := 4) (v := ?vf5) rfl (by kernel_rfl) (by kernel_rfl) (by kernel_rfl) (fun _ _ _ h => h) (Or.inl ⟨by rfl, ?hyf5⟩) ?restf5
      case hyf5 => (intro W hSw; left; (try dsimp only at hSw); have c4 : W.cell? ⟨g4, 0, none⟩ = some (.string bx) := (HK2.out.below hSw HK2.out.lt).cell 0; go_simp; try with_reducible rfl)
      simp only [Act.put, List.setIfInBounds_toArray, List.set_cons_zero, List.set_cons_succ, List.getElem_toArray, List.getElem_cons_zero, List.getElem_cons_succ]
      refine wpG_take (i := 5) (v := (.int .i64 (-1))) rfl (by kernel_rfl) (by kernel_rfl) (by kernel_rfl) (fun _ _ _ h => h) (Or.inl ⟨by rfl, ?hyf6⟩) ?restf6
      case hyf6 => (intro W hSw; right; (try dsimp only at hSw); refine ⟨_, _, (by go_simp; try with_reducible rfl), (HIX.out W (HB2.out.trans (hSw.mono HB2.out.size))).mono ?_⟩; rintro e w' ⟨rfl, hb⟩; exact ⟨rfl, HCC.out _ _ hSw hb, hb⟩)
      simp only [Act.put, List.setIfInBounds_toArray, List.set_cons_zero, List.set_cons_succ, List.getElem_toArray, List.getElem_cons_zero, List.getElem_cons_succ]
      refine wpG_take (i := 6) (v := ?vf7) rfl (by kernel_rfl) (by kernel_rfl) (by kernel_rfl) (fun _ _ _ h => h) (Or.inl ⟨by rfl, ?hyf7⟩) ?restf7
      case hyf7 => (intro W hSw; left; (try dsimp only at hSw); go_simp; try with_reducible rfl)
      simp only [Act.put, List.setIfInBounds_toArray, List.set_cons_zero, List.set_cons_succ, List.getElem_toArray, List.getElem_cons_zero, List.getElem_cons_succ]
      refine wpG_done (by kernel_rfl) (fun w3 hb3 hS3 => ?_) _
      have HB3 := Lib.hid (HB2.out.trans (hS3.mono HB2.out.size))
      clear hb3 hS3 HB2 HCC HIX HK2
      go_wp2_with fail
      go_roundg (l.length - (k + 1))
      case measure => omega
      case rel => exact ⟨k + 1, by omega, by omega, by go_num, HB3⟩
    · obtain rfl : k = l.length := by omega
      go_wp2_with fail
      go_ret
      exact ⟨rfl, HB.out⟩
end Go.Proofs.YtpanjldionaaiaaGreatDoor
