/-
  pax.Write at no records, and the law PaxBack: what it computes is true. Condition: raw things of the second form's bound; the library's table of powers of ten lies as Go laid it.
-/
import Derived.Test.YtmioinfhggbfkaaDoorRecsOf
import Derived.Test.YtmioinfhggbfkaaDoorRecG
import Derived.Test.YtmioinfhggbfkaaDoorSameE
import Derived.Test.YtmioinfhggbfkaaDoorMapsT
namespace Go.Proofs.YtmioinfhggbfkaaDoor
set_option linter.all false
open Go.RowKit

set_option maxRecDepth 100000 in
set_option maxHeartbeats 1000000 in
theorem bld_string_nil (g : Nat) (w : World) (h : Blk w g 75 #[.pointer none, .slice none 0 0]) :
    Calls Tryd.prog 36 #[.pointer (some ⟨g, 0, none⟩)] w fun e w' => e = .returned (.string ⟨#[]⟩) ∧ Below w.heap.size w w' := by
  have c1 := h.cell 1
  have c1' := h.drew.cell 1
  have hSD : ∀ w, (Builtin.unsafeSliceData_ #[26] 109 #[.slice none 0 0]).run Tryd.prog w = .ok (.pointer none) w := fun w => Lib.run_unsafeSliceData_nil _ _ _ _ _
  have hUS : ∀ w, (Builtin.unsafeString_ #[109, 3] 9 #[.pointer none, .int .i64 0]).run Tryd.prog w = .ok (.string ⟨#[]⟩) w := fun w => Lib.run_unsafeString_none _ _ _ _ _
  have HF := Lib.hid (Below.drew (Below.refl w.heap.size w))
  go_enter Tryd.func36, Tryd.ntmps36
  go_wp2_with fail
  go_region
  all_goals (go_wp2; go_ret; exact ⟨rfl, HF.out⟩)
set_option maxRecDepth 100000 in
set_option maxHeartbeats 4000000 in
theorem PxWrite_nil (v : Value) (w : World) (hl : RecsAt w v []) :
    Calls Tryd.prog 16 #[v] w fun e w' => e = .returned (.tuple #[.string ⟨#[]⟩, .int .i64 0]) ∧ Below w.heap.size w w' := by
  have HC := Lib.hid (PxCheck_any v [] w hl (fun r h => by cases h) (by simp))
  obtain ⟨A, c, rfl, hc1, hc2, hA, hr⟩ := hl
  clear hr hA
  unfold maxLen at hc2
  simp only [List.length_nil] at *
  go_enter Tryd.func16, Tryd.ntmps16
  go_wp2_with fail
  refine HC.out.mono ?_
  rintro e w1 ⟨c1, rfl, hc, b1⟩
  obtain rfl : c1 = 0 := by
    rcases hc with ⟨h, _⟩ | ⟨_, h⟩
    · exact h
    · exact absurd (fun i hi => by simp at hi) h
  have HB1 := Lib.hid b1
  clear hc b1 HC
  obtain ⟨W2, hW2⟩ : ∃ W2, W2 = w1.alloc (.cells #[.pointer none, .slice none 0 0] 75) := ⟨_, rfl⟩
  obtain ⟨g, hg⟩ : ∃ g, g = w1.heap.size := ⟨_, rfl⟩
  have HK : Hid (Blk W2 g 75 #[.pointer none, .slice none 0 0]) := Lib.hid (by rw [hW2, hg]; exact Blk.new _ _ _)
  have HB2 : Hid (Below w.heap.size w W2) := Lib.hid (by rw [hW2]; exact HB1.out.alloc HB1.out.size _)
  go_upto_region 5 with fail
  rw [← hW2, ← hg]
  clear hW2 hg
  have HST := Lib.hid (bld_string_nil g W2 HK.out)
  go_wp2_with fail
  go_loopg [17] 0 (fun gg s17 wr => s17 = .int .i64 0 ∧ wr = W2)
  case atStart => exact ⟨rfl, rfl⟩
  case round =>
    obtain ⟨rfl, rfl⟩ := hrel
    go_wp2_with fail
    refine HST.out.mono ?_
    rintro e w6 ⟨rfl, b6⟩
    go_wp2_with fail
    go_ret2
    exact ⟨rfl, HB2.out.trans (b6.mono HB2.out.size)⟩
--WALK
theorem PxWrite_all (v : Value) (l : List RecS) (w : World) (h10 : P10 w) (hl : RecsAt w v l) (hok : ∀ r ∈ l, RecOk r) (hn : l.length ≤ 12) (ha : Asc l) :
    Calls Tryd.prog 16 #[v] w fun e w' => e = .returned (.tuple #[.string (bs (paxT l)), .int .i64 0]) ∧ Below w.heap.size w w' := by
  by_cases h : l = []
  · subst h
    exact PxWrite_nil v w hl
  · exact PxWrite_any v l w h10 hl hok hn ha h
def recA : RecS := ⟨[97], []⟩
theorem recA_ok : RecOk recA := ⟨by decide, by decide, by decide, by decide, by decide, by decide, by decide⟩
theorem recA_t : paxT [recA] = [53, 32, 97, 61, 10] := by
  unfold paxT recT recA
  simp only [List.map_cons, List.map_nil, List.flatten_cons, List.flatten_nil, List.append_nil]
  rw [show recN (restR ⟨[97], []⟩).length = 5 from rfl, dec_small (by omega)]
  rfl
theorem recA_asc : Asc [recA] := fun i hi => by simp at hi
set_option maxRecDepth 100000 in
set_option maxHeartbeats 4000000 in
theorem PaxBack_walk (w : World) (hsh : w.ShapedOpen Tryd.prog) (h10 : P10 w) (v : Value) (l : List RawS) (hl : RawsAt w w.heap.size v l) (hok : ∀ x ∈ l, RawOk x) (hn : l.length ≤ 1048576) (v2 : Value) (l2 : List RawS) (hl2 : RawsAt w w.heap.size v2 l2) (hok2 : ∀ x ∈ l2, RawOk x) (hn2 : l2.length ≤ 1048576) :
    Calls Tryd.prog 5 #[v, v2] w fun e w' => e = .returned (.bool true) ∧ Below w.heap.size w w' := by
  have hm := ML.of_shaped hsh
  clear hsh
  have HML : Hid (∀ W, Below w.heap.size w W → ML W) := Lib.hid (fun W hb => hm.below hb)
  have HP10 : Hid (∀ W, Below w.heap.size w W → P10 W) := Lib.hid (fun W hb => h10.below hb)
  have HR1 := Lib.hid (recordsOf_any l v 97 (.inl rfl) w hm h10 hl hok (by omega))
  have HR2 := Lib.hid (fun W (hb : Below w.heap.size w W) => recordsOf_any l2 v2 98 (.inr rfl) W (HML.out W hb) (HP10.out W hb) ((hl2.below hb).more hb.size) hok2 (by omega))
  have hx6 : (recsP 97 l).length ≤ 6 := by rw [recsP_len]; omega
  have hy6 : (recsP 98 l2).length ≤ 6 := by rw [recsP_len]; omega
  have HA1 := Lib.hid (recsP_asc l)
  have HA2 := Lib.hid (recsP_asc98 l2)
  have HA := Lib.hid (recsP_two l l2)
  have HOK1 := Lib.hid (recsP_ok (c := 97) (.inl rfl) l)
  have HOK2 := Lib.hid (recsP_ok (c := 98) (.inr rfl) l2)
  obtain ⟨Av, nv, rfl, -⟩ := hl
  obtain ⟨Av2, nv2, rfl, -⟩ := hl2
  clear hm h10 hok hok2
  have hb97 : bs [97] = ⟨#[97]⟩ := rfl
  have hb98 : bs [98] = ⟨#[98]⟩ := rfl
  rw [hb97] at HR1
  rw [hb98] at HR2
  clear hb97 hb98
  generalize recsP 97 l = x at *
  generalize recsP 98 l2 = y at *
  go_enter Tryd.func5, Tryd.ntmps5
  go_wp2_with fail
  refine HR1.out.mono ?_
  rintro e w1 ⟨xv, rfl, hown, b1⟩
  obtain ⟨A1, c1, rfl, g1, g2, -⟩ := hown.at_
  unfold maxLen at g2
  have HX1 := Lib.hid hown.at_
  have HB1 := Lib.hid b1
  clear hown b1 HR1
  go_wp2_with fail
  refine (HR2.out _ HB1.out).mono ?_
  rintro e w2 ⟨yv, rfl, hown, b2⟩
  obtain ⟨A2, c2, rfl, g3, g4, -⟩ := hown.at_
  unfold maxLen at g4
  have HY2 := Lib.hid hown.at_
  have HX2 := Lib.hid (HX1.out.below (b2.mono (Nat.le_refl _)))
  have HB2 := Lib.hid (HB1.out.trans (b2.mono HB1.out.size))
  clear hown b2 HR2 HX1 HB1
  have HW := Lib.hid (PxWrite_all _ x w2 (HP10.out _ HB2.out) HX2.out HOK1.out (by omega) HA1.out)
  go_wp2_with fail
  refine HW.out.mono ?_
  rintro e w3 ⟨rfl, b3⟩
  have HB3 := Lib.hid (HB2.out.trans (b3.mono HB2.out.size))
  have HX3 := Lib.hid (HX2.out.below b3)
  have HY3 := Lib.hid (HY2.out.below b3)
  clear b3 HW HB2 HX2 HY2
  have HW := Lib.hid (PxWrite_all _ y w3 (HP10.out _ HB3.out) HY3.out HOK2.out (by omega) HA2.out)
  have z1 := bs_size (paxT x)
  have z2 := bs_size (paxT y)
  have z3 := paxT_len HOK1.out
  have z4 := paxT_len HOK2.out
  have z5 : x.length * 703 ≤ 6 * 703 := Nat.mul_le_mul_right _ hx6
  have z6 : y.length * 703 ≤ 6 * 703 := Nat.mul_le_mul_right _ hy6
  have z7 : (bs (paxT x)).size ≤ 5000 := by omega
  have z8 : (bs (paxT y)).size ≤ 5000 := by omega
  have hcat : bs (paxT x) ++ bs (paxT y) = bs (paxT (x ++ y)) := by rw [bs_append, paxT_append]
  have HPR := Lib.hid (fun W (hb : Below w.heap.size w W) => PxRead_any (x ++ y) W (HML.out W hb) (HP10.out W hb) (fun r hr => by
    rcases List.mem_append.1 hr with hr | hr
    · exact HOK1.out r hr
    · exact HOK2.out r hr) (by rw [List.length_append]; omega))
  have HPA := Lib.hid (fun W (hb : Below w.heap.size w W) => PxRead_any [recA] W (HML.out W hb) (HP10.out W hb) (fun r hr => by rw [List.mem_singleton] at hr; subst hr; exact recA_ok) (by simp))
  rw [recA_t, show bs [53, 32, 97, 61, 10] = (⟨#[53, 32, 97, 61, 10]⟩ : ByteArray) from rfl] at HPA
  clear z1 z2 z3 z4 z5 z6
  have HCAT := Lib.hid hcat
  clear hcat
  generalize bs (paxT (x ++ y)) = bP at *
  generalize bs (paxT x) = bx at *
  generalize bs (paxT y) = byy at *
  go_wp2_with fail
  refine HW.out.mono ?_
  rintro e w4 ⟨rfl, b4⟩
  have HB4 := Lib.hid (HB3.out.trans (b4.mono HB3.out.size))
  have HX4 := Lib.hid (HX3.out.below b4)
  have HY4 := Lib.hid (HY3.out.below b4)
  clear b4 HW HB3 HX3 HY3
  have hcat := HCAT.out
  go_wp2_with fail
  refine (HPR.out _ HB4.out).mono ?_
  rintro e w5 ⟨pv, pc, rfl, hpc, b5⟩
  obtain ⟨rfl, hpo⟩ : pc = 0 ∧ RecsOwn w5 w4.heap.size pv (x ++ y) := by
    rcases hpc with ⟨h, _, h2⟩ | ⟨_, h, _⟩
    · exact ⟨h, h2⟩
    · exact absurd HA.out h
  obtain ⟨A5, c5, rfl, g5, g6, -⟩ := hpo.at_
  unfold maxLen at g6
  have HP5 := Lib.hid hpo.at_
  have HB5 := Lib.hid (HB4.out.trans (b5.mono HB4.out.size))
  have HX5 := Lib.hid (HX4.out.below b5)
  have HY5 := Lib.hid (HY4.out.below b5)
  clear hpc hpo b5 HB4 HX4 HY4 hcat
  go_wp2_with fail
  refine (HPA.out _ HB5.out).mono ?_
  rintro e w6 ⟨qv, qc, rfl, hpc, b6⟩
  obtain ⟨rfl, hpo⟩ : qc = 0 ∧ RecsOwn w6 w5.heap.size qv [recA] := by
    rcases hpc with ⟨h, _, h2⟩ | ⟨_, h, _⟩
    · exact ⟨h, h2⟩
    · exact absurd recA_asc h
  obtain ⟨A6, c6, rfl, g7, g8, -⟩ := hpo.at_
  have HB6 := Lib.hid (HB5.out.trans (b6.mono HB5.out.size))
  have HX6 := Lib.hid (HX5.out.below b6)
  have HY6 := Lib.hid (HY5.out.below b6)
  have HP6 := Lib.hid (HP5.out.below b6)
  clear hpc hpo b6 HB5 HX5 HY5 HP5 g7 g8
  simp only [List.length_singleton, List.length_append] at *
  go_wp2_with fail
  obtain ⟨W7, hW7⟩ : ∃ W7, W7 = w6.alloc (.cells #[.slice A1 x.length c1, .slice A2 y.length c2] 35) := ⟨_, rfl⟩
  obtain ⟨g7, hg7⟩ : ∃ g7, g7 = w6.heap.size := ⟨_, rfl⟩
  have hb7 : Below w6.heap.size w6 W7 := by rw [hW7]; exact (Below.refl _ _).alloc (Nat.le_refl _) _
  have hk7 : Blk W7 g7 35 #[.slice A1 x.length c1, .slice A2 y.length c2] := by rw [hW7, hg7]; exact Blk.new _ _ _
  rw [← hW7, ← hg7]
  have HB7 := Lib.hid (HB6.out.trans (hb7.mono HB6.out.size))
  have HX7 := Lib.hid (HX6.out.below hb7)
  have HY7 := Lib.hid (HY6.out.below hb7)
  have HP7 := Lib.hid (HP6.out.below hb7)
  have HCC := Lib.hid (RConcat_any g7 [.slice A1 x.length c1, .slice A2 y.length c2] [x, y] W7 hk7.lt (fun j u h => by
    match j, h with
    | 0, h => cases h; exact hk7.cell 0
    | 1, h => cases h; exact hk7.cell 1) rfl (fun j v l h1 h2 => by
    match j, h1, h2 with
    | 0, h1, h2 => cases h1; cases h2; exact HX7.out
    | 1, h1, h2 => cases h1; cases h2; exact HY7.out) (by simp) (by simp; omega))
  clear hW7 hg7 hb7 hk7 HB6 HX6 HY6 HP6
  refine HCC.out.mono ?_
  rintro e w8 ⟨zv, rfl, hown, b8⟩
  obtain ⟨A8, c8, rfl, g9, g10, -⟩ := hown.at_
  unfold maxLen at g10
  have HZ8 : Hid (RecsAt w8 (.slice A8 ([x, y].flatten).length c8) (x ++ y)) := Lib.hid (by have := hown.at_; simpa using this)
  have HP8 : Hid (RecsAt w8 (.slice A5 (x.length + y.length) c5) (x ++ y)) := Lib.hid (HP7.out.below b8)
  have HB8 := Lib.hid (HB7.out.trans (b8.mono HB7.out.size))
  have HEQ := Lib.hid (EqualR_any _ _ (x ++ y) (x ++ y) w8 HP8.out HZ8.out (by rw [List.length_append]; omega) (by rw [List.length_append]; omega))
  rw [eqR_true rfl] at HEQ
  clear hown b8 HCC HB7 HX7 HY7 HP7
  generalize ([x, y].flatten).length = n8 at *
  go_wp2_with fail
  refine HEQ.out.mono ?_
  rintro e w9 ⟨rfl, b9⟩
  have HB9 := Lib.hid (HB8.out.trans (b9.mono HB8.out.size))
  clear b9
  go_wp2_with fail
  go_ret
  exact ⟨rfl, HB9.out⟩
end Go.Proofs.YtmioinfhggbfkaaDoor
