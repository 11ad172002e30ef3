/-
  The law WriteFront: what it computes is true. Condition: raw things of the second form's bound; the library's table of powers of ten lies as Go laid it.
-/
import Derived.Test.YtjbpoijefkbllaaGreatDoorWriteL
namespace Go.Proofs.YtjbpoijefkbllaaGreatDoor
open Go.RowKit

theorem EntsAt.front {w : World} {A : Option Addr} {n c : Nat} {l : List EntP} {xs : List EntV} (h : EntsAt w (.slice A n c) l xs) {k : Nat} (hk : k ≤ l.length) :
    EntsAt w (.slice A k c) (l.take k) (xs.take k) := by
  obtain ⟨A', c', h0, h1, h2, h3, h5, h6⟩ := h
  obtain ⟨rfl, rfl, rfl⟩ := Value.slice.inj h1
  have hl : (l.take k).length = k := by rw [List.length_take]; omega
  have hx : xs.length = l.length := by rw [← h0, List.length_map]
  refine ⟨A, c, by rw [← h0, List.map_take], by rw [hl], by rw [hl]; omega, h3, ?_, fun x hx => h6 x (List.mem_of_mem_take hx)⟩
  rw [hl]
  have hsum : ∀ ys : List EntV, (ys.flatMap entV).length = ys.length * 11 := fun ys => by
    induction ys with
    | nil => rfl
    | cons y ys ih => rw [List.flatMap_cons, List.length_append, ih, List.length_cons, show (entV y).length = 11 from rfl]; omega
  refine ⟨by rw [hsum, List.length_take]; rw [Nat.min_eq_left (by omega)], fun hk0 => ?_⟩
  obtain ⟨ad, e, hb, hc⟩ := h5.2 (by omega)
  refine ⟨ad, e, hb, fun j u hu => hc j u ?_⟩
  have e2 : xs.flatMap entV = (xs.take k).flatMap entV ++ (xs.drop k).flatMap entV := by rw [← List.flatMap_append, List.take_append_drop]
  rw [e2, List.getElem?_append_left (List.getElem?_eq_some_iff.1 hu).1]
  exact hu
theorem EntsOk.front {l : List EntP} (h : EntsOk l) (k : Nat) : EntsOk (l.take k) where
  len := by have := h.len; rw [List.length_take]; omega
  ent := fun x hx => h.ent x (List.mem_of_mem_take hx)
  sorted := h.sorted.sublist (List.take_sublist k l)
  up := fun i hi => by
    have hi2 : i < l.length := by rw [List.length_take] at hi; omega
    have hi3 : i < k := by rw [List.length_take] at hi; omega
    rw [List.getElem_take]
    rcases h.up i hi2 with h1 | ⟨j, hj, h1, h2⟩
    · exact .inl h1
    · exact .inr ⟨j, hj, by rw [List.getElem_take]; exact h1, by rw [List.getElem_take]; exact h2⟩
  link := fun i hi => by
    have hi2 : i < l.length := by rw [List.length_take] at hi; omega
    rw [List.getElem_take]
    intro hk
    obtain ⟨j, hj, h1, h2, h3⟩ := h.link i hi2 hk
    exact ⟨j, hj, by rw [List.getElem_take]; exact h1, by rw [List.getElem_take]; exact h2, by rw [List.getElem_take]; exact h3⟩
theorem arcB_split (l : List EntP) (k : Nat) : arcB l = arcB (l.take k) ++ arcB (l.drop k) := by
  unfold arcB
  rw [← List.flatten_append, ← List.map_append, List.take_append_drop]

set_option maxRecDepth 100000 in
set_option maxHeartbeats 4000000 in
theorem WriteFront_walk (w : World) (hsh : w.ShapedOpen Tryz.prog) (h10 : P10 w) (v : Value) (l : List RawS) (hl : RawsAt w w.heap.size v l) (hok : ∀ x ∈ l, RawOk x) (hn : l.length ≤ 1048576) (cut : Int) (hcut : I64 cut) :
    Calls Tryz.prog 7 #[v, .int .i64 cut] w fun e w' => e = .returned (.bool true) ∧ Below w.heap.size w w' := by
  have hm := ML.of_shaped hsh
  clear hsh
  have HML : Hid (∀ W, Below w.heap.size w W → ML W) := Lib.hid (fun W hb => hm.below hb)
  have HP10 : Hid (∀ W, Below w.heap.size w W → P10 W) := Lib.hid (fun W hb => h10.below hb)
  have HE := Lib.hid (entriesOf_any l v 20 w hm hl hok hn (by omega))
  have hpl : (planP (treeP l 20)).length ≤ 20 := by rw [planP_length]; exact treeP_length l 20
  have hoks := plan_ok (treeP_ok l 20 (by omega))
  obtain ⟨Al, cl, rfl, -⟩ := hl
  clear hm h10 hok hn
  generalize planP (treeP l 20) = x at *
  have HOK := Lib.hid hoks
  obtain ⟨k, hkp, hkn⟩ := pick_q cut x.length (by omega)
  have hkn : k ≤ x.length := by omega
  have HPK := Lib.hid (fun W => picked_any cut ((x.length : Int) + 1) hcut (by omega) (by omega) W)
  rw [hkp] at HPK
  have hal := arcB_take_len hoks.ent hoks.len x.length
  rw [List.take_length] at hal
  have HPA := Lib.hid (plK_at x x.length k (by omega))
  have HPL := Lib.hid (plK_len x x.length)
  have htl : (x.take k).length = k := by rw [List.length_take]; omega
  have HSP := Lib.hid (arcB_split x k)
  clear hoks hcut hkp
  go_enter Tryz.func7, Tryz.ntmps7
  go_wp2_with fail
  refine HE.out.mono ?_
  rintro e w1 ⟨ev, rfl, hev, b1⟩
  obtain ⟨xs, hat⟩ := hev.at_
  have HAT := Lib.hid hat
  have HB1 := Lib.hid b1
  obtain ⟨Ax, cx, rfl, hcx, -⟩ := hev.slice
  have HAF := Lib.hid (hat.front hkn)
  clear b1 hev hat HE
  go_wp2_with fail
  refine (HPK.out _).mono ?_
  rintro e w2 ⟨rfl, rfl⟩
  clear HPK
  have hkc : k ≤ cx := by omega
  have HWA := Lib.hid (WArchive_ok _ _ _ w1 (fun W hb => HML.out W (HB1.out.trans (hb.mono HB1.out.size))) (fun W hb => HP10.out W (HB1.out.trans (hb.mono HB1.out.size))) HAF.out (HOK.out.front k))
  go_wp2_with fail
  refine HWA.out.mono ?_
  rintro e w3 ⟨av, rfl, hav, b3⟩
  have HB3 := Lib.hid (HB1.out.trans (b3.mono HB1.out.size))
  have HAT3 := Lib.hid (HAT.out.below b3)
  have hLa : (arcB (x.take k) ++ endB).length = (arcB (x.take k)).length + 1024 := by rw [List.length_append]; rfl
  obtain ⟨ga, ca, rfl, -, -⟩ := World.ownsRow.form hav (by omega)
  have HAV := Lib.hid hav
  have HWB := Lib.hid (WArchive_ok _ x xs w3 (fun W hb => HML.out W (HB3.out.trans (hb.mono HB3.out.size))) (fun W hb => HP10.out W (HB3.out.trans (hb.mono HB3.out.size))) HAT3.out HOK.out)
  clear hav b3 HWA HAF HAT
  rw [hLa]
  go_wp2_with fail
  refine HWB.out.mono ?_
  rintro e w4 ⟨bv, rfl, hbv, b4⟩
  have HB4 := Lib.hid (HB3.out.trans (b4.mono HB3.out.size))
  have HAT4 := Lib.hid (HAT3.out.below b4)
  have HAV4 := Lib.hid (HAV.out.below b4)
  have hLb : (arcB x ++ endB).length = (arcB x).length + 1024 := by rw [List.length_append]; rfl
  obtain ⟨gb, cb, rfl, -, -⟩ := World.ownsRow.form hbv (by omega)
  have HBV := Lib.hid hbv
  have HWP := Lib.hid (WPlaces_ok _ x xs w4 (fun W hb => HML.out W (HB4.out.trans (hb.mono HB4.out.size))) (fun W hb => HP10.out W (HB4.out.trans (hb.mono HB4.out.size))) HAT4.out HOK.out)
  clear hbv b4 HWB HAT3 HAV
  rw [hLb]
  go_wp2_with fail
  refine HWP.out.mono ?_
  rintro e w5 ⟨pv, rfl, hpv, b5⟩
  have HB5 := Lib.hid (HB4.out.trans (b5.mono HB4.out.size))
  have hat5 := (HAV4.out.below b5).at_
  have hbt5 := (HBV.out.below b5).at_
  have hmn : (arcB (x.take k)).length ≤ (arcB x).length := by rw [HSP.out, List.length_append]; omega
  have hap := hat5.part 0 (arcB (x.take k)).length (by omega) (by omega)
  have hbp := hbt5.part 0 (arcB (x.take k)).length (by omega) (by omega)
  obtain ⟨_, _, hve, hca1, hca2, -⟩ := id hat5
  have hca3 : (arcB (x.take k)).length + 1024 ≤ ca ∧ ca ≤ 9223372036854775807 := by
    obtain ⟨-, -, rfl⟩ := Value.slice.inj hve
    rw [List.length_map, hLa] at hca1
    unfold maxLen at hca2
    omega
  obtain ⟨_, _, hve2, hcb1, hcb2, -⟩ := id hbt5
  have hcb3 : (arcB x).length + 1024 ≤ cb ∧ cb ≤ 9223372036854775807 := by
    obtain ⟨-, -, rfl⟩ := Value.slice.inj hve2
    rw [List.length_map, hLb] at hcb1
    unfold maxLen at hcb2
    omega
  have fa : ((arcB (x.take k) ++ endB).drop 0).take ((arcB (x.take k)).length - 0) = arcB (x.take k) := by rw [Nat.sub_zero, List.drop_zero, List.take_left]
  have fb : ((arcB x ++ endB).drop 0).take ((arcB (x.take k)).length - 0) = arcB (x.take k) := by rw [Nat.sub_zero, List.drop_zero, HSP.out, List.append_assoc, List.take_left]
  rw [fa, if_neg (by omega), Nat.sub_zero, Nat.sub_zero, add_flat, Nat.zero_add] at hap
  rw [fb, if_neg (by omega), Nat.sub_zero, Nat.sub_zero, add_flat, Nat.zero_add] at hbp
  have hcva : ∀ n, (convert 38 9 (.slice (some ⟨ga, 0, none⟩) (arcB (x.take k)).length ca)).run Tryz.prog (w5.drewN n) = .ok (.string (bs (arcB (x.take k)))) (w5.drewN n) := fun n => conv_str (hap.below (below_drewN (Below.refl _ _) n))
  have hcvb : ∀ n, (convert 38 9 (.slice (some ⟨gb, 0, none⟩) (arcB (x.take k)).length cb)).run Tryz.prog (w5.drewN n) = .ok (.string (bs (arcB (x.take k)))) (w5.drewN n) := fun n => conv_str (hbp.below (below_drewN (Below.refl _ _) n))
  have hpi := IntsAt.of_own (base := w4.heap.size) (e := 3) hpv
  obtain ⟨ad, u, hpe, had, hu, hpc⟩ : ∃ ad u, (∃ cp, pv = .slice (some ad) (plK x x.length).length cp) ∧ ad.block < w5.heap.size ∧ ((plK x x.length).map (Value.int .i64))[k]? = some u ∧ w5.cell? (ad.add k) = some u := by
    obtain ⟨A, c, rfl, -, -, -, hr⟩ := hpi
    obtain ⟨ad, u, rfl, h1, h2, h3⟩ := hr.at_ (show k < (plK x x.length).length by rw [HPL.out]; omega)
    exact ⟨ad, u, ⟨c, rfl⟩, h1, h2, h3⟩
  obtain ⟨cp, rfl⟩ := hpe
  rw [List.getElem?_map, List.getElem?_eq_getElem (by rw [HPL.out]; omega), HPA.out] at hu
  obtain rfl : Value.int .i64 ((arcB (x.take k)).length : Int) = u := by simpa using hu
  rw [HPL.out]
  clear hve hve2 hca1 hca2 hcb1 hcb2 hat5 hbt5 hap hbp hpi hu hpv hLa hLb HBV HAV4 HWP HPA HPL HSP b5 HOK HAT4 fa fb htl
  obtain ⟨hca3, hca4⟩ := hca3
  obtain ⟨hcb3, hcb4⟩ := hcb3
  generalize plK x x.length = PL at *
  generalize bs (arcB (x.take k)) = bT at *
  generalize (arcB (x.take k)).length = a at *
  generalize (arcB x).length = b at *
  generalize x.length = n at *
  have t5 : ((n : Int) + 1 == (n : Int) + 1) = true := beq_self_eq_true _
  have t6 : ((a : Int) + 1024 == (a : Int) + 1024) = true := beq_self_eq_true _
  have t7 : decide ((b : Int) + 1024 ≥ (a : Int)) = true := decide_eq_true (by omega)
  have hk1 : k < n + 1 := by omega
  go_wp2_with fail
  go_quiet (fail)
  go_wp2_with fail
  go_ret
  exact ⟨rfl, below_drewN HB5.out _⟩
end Go.Proofs.YtjbpoijefkbllaaGreatDoor
