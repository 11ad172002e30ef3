/-
  The law ReadFound: what it computes is true. Condition: raw things of the second form's bound; the library's table of powers of ten lies as Go laid it.
-/
import Derived.Test.YtmioinfhggbfkaaGreatDoorFind
namespace Go.Proofs.YtmioinfhggbfkaaGreatDoor
set_option linter.all false
open Go.RowKit
theorem none_path {t : List NodeP} (ht : ∀ x ∈ t, PartsOk x.path) : (planP t).find? (fun y => y.path == [110, 111, 110, 101]) = none := by
  rw [List.find?_eq_none]
  intro y hy
  obtain ⟨k, hk, rfl⟩ := List.getElem_of_mem hy
  rw [planP_length] at hk
  rw [planP_at hk]
  have e : (entAt t k).path = t[k].path := by unfold entAt; simp only [List.getD_eq_getElem?_getD, List.getElem?_eq_getElem hk, Option.getD_some]; split <;> rfl
  rw [e]
  intro h
  have h := (ht t[k] (List.getElem_mem hk)).2 [110, 111, 110, 101] (by rw [beq_iff_eq.1 h]; decide)
  exact absurd h (by decide)
theorem found_at {x : List EntP} (hok : EntsOk x) {k : Nat} (hk : k < x.length) : x.find? (fun y => y.path == x[k].path) = some x[k] :=
  find_first hk (fun j hj h e => by have := hok.nodup hj hk e; omega) rfl
set_option maxRecDepth 100000 in
set_option maxHeartbeats 8000000 in
theorem ReadFound_walk (w : World) (hsh : w.ShapedOpen Tryz.prog) (h10 : P10 w) (v : Value) (l : List RawS) (hl : RawsAt w w.heap.size v l) (hok : ∀ x ∈ l, RawOk x) (hn : l.length ≤ 1048576) (cut : Int) (hcut : I64 cut) :
    Calls Tryz.prog 10 #[v, .int .i64 cut] w fun e w' => e = .returned (.bool true) ∧ Below w.heap.size w w' := by
  have hm := ML.of_shaped hsh
  clear hsh
  have HML : Hid (∀ W, Below w.heap.size w W → ML W) := Lib.hid (fun W hb => hm.below hb)
  have HP10 : Hid (∀ W, Below w.heap.size w W → P10 W) := Lib.hid (fun W hb => h10.below hb)
  have HE := Lib.hid (entriesOf_any l v 12 w hm hl hok hn (by omega))
  have hoks := plan_ok (treeP_ok l 12 (by omega))
  have hnone := none_path (fun x hx => (treeP_parts l 12 x hx).1)
  obtain ⟨Al, cl, rfl, -⟩ := hl
  clear hm h10 hok hn
  generalize planP (treeP l 12) = x at *
  have HWA := Lib.hid (fun W (hb : Below w.heap.size w W) v (h : EntsOwn W w.heap.size v x) => (show Calls Tryz.prog 28 #[v] W fun e w' => ∃ bv, e = .returned (.tuple #[bv, .int .i64 0]) ∧ BytesOwn w' W.heap.size bv (arcB x ++ endB) ∧ Below W.heap.size W w' by
    obtain ⟨xs, hx⟩ := EntsRow.at_ h
    exact WArchive_ok v x xs W (fun W' hb' => HML.out W' (hb.trans (hb'.mono hb.size))) (fun W' hb' => HP10.out W' (hb.trans (hb'.mono hb.size))) hx hoks))
  have HSO := Lib.hid (fun W v (hb : Below w.heap.size w W) hv => Some_any x hoks.ent hoks.len endB 0 tail_end (by rw [endB_len]; omega) v W (fun W' hb' => HML.out W' (hb.trans (hb'.mono hb.size))) (fun W' hb' => HP10.out W' (hb.trans (hb'.mono hb.size))) hv)
  have HFN : Hid (∀ W v (_ : Below w.heap.size w W) (_ : BytesAt W W.heap.size v (arcB x ++ endB)), Calls Tryz.prog 31 #[v, .string ⟨#[110, 111, 110, 101]⟩] W fun e w' => e = .returned (.tuple #[.agg entZA, .int .i64 5]) ∧ Below W.heap.size W w') := Lib.hid (fun W v hb hv =>
    (Find_arc x hoks [110, 111, 110, 101] v W (fun W' hb' => HML.out W' (hb.trans (hb'.mono hb.size))) (fun W' hb' => HP10.out W' (hb.trans (hb'.mono hb.size))) hv).mono fun e w' ⟨h1, h2⟩ => by rw [hnone] at h2; exact ⟨h2, h1⟩)
  have HFK : Hid (∀ k (hk : k < x.length) W v (_ : Below w.heap.size w W) (_ : BytesAt W W.heap.size v (arcB x ++ endB)), Calls Tryz.prog 31 #[v, .string (bs x[k].path)] W fun e w' => ∃ A c, e = .returned (.tuple #[.agg (entC x[k] (.slice A x[k].data.length c)).toArray, .int .i64 0]) ∧ DataAt w' W.heap.size (.slice A x[k].data.length c) x[k].data ∧ Below W.heap.size W w') := Lib.hid (fun k hk W v hb hv =>
    (Find_arc x hoks x[k].path v W (fun W' hb' => HML.out W' (hb.trans (hb'.mono hb.size))) (fun W' hb' => HP10.out W' (hb.trans (hb'.mono hb.size))) hv).mono fun e w' ⟨h1, h2⟩ => by rw [found_at hoks hk] at h2; obtain ⟨A, c, h3, h4⟩ := h2; exact ⟨A, c, h3, h4, h1⟩)
  have HEF := Lib.hid (fun W v1 v2 (b1 b2 : Nat) (h1 : EntsOwn W b1 v1 x) (h2 : EntsOwn W b2 v2 x) => (show Calls Tryz.prog 30 #[v1, v2, .func (.func 25) #[] #[]] W fun e w' => e = .returned (.bool true) ∧ Below W.heap.size W w' by
    obtain ⟨xs, hx⟩ := EntsRow.at_ h1
    obtain ⟨ys, hy⟩ := EntsRow.at_ h2
    exact EqE_any v1 v2 x xs ys W hx hy))
  have hal := arcB_take_len hoks.ent hoks.len x.length
  rw [List.take_length] at hal
  have hxl := hoks.len
  have hLn : (arcB x ++ endB).length = (arcB x).length + 1024 := by rw [List.length_append, endB_len]
  have HPK : Hid (∀ (hx0 : 0 < x.length), ∃ k : Nat, k < x.length ∧ ∀ W, Calls Tryz.prog 26 #[.int .i64 cut, .int .i64 x.length] W fun e w' => e = .returned (.int .i64 k) ∧ W = w') := Lib.hid (fun hx0 => by
    obtain ⟨k, hk, bk⟩ := pick_nat cut x.length hx0
    have hk : pick cut (x.length : Int) = (k : Int) := hk
    refine ⟨k, bk, fun W => ?_⟩
    have h := picked_any cut x.length hcut (by omega) (by omega) W
    rw [hk] at h
    exact h)
  clear hoks HML HP10 hnone hcut
  obtain ⟨lb, hlb⟩ : ∃ lb, lb = (arcB x ++ endB).length := ⟨_, rfl⟩
  obtain ⟨la, hla⟩ : ∃ la, la = (arcB x).length := ⟨_, rfl⟩
  rw [← hla] at HSO hal
  rw [← hlb, ← hla] at hLn
  have HLB := Lib.hid hlb
  clear hlb hla
  generalize arcB x ++ endB = M at *
  have e1 : ((lb : Int) - 1024) = (la : Int) := by omega
  have e2 : IntKind.i64.wrap (la : Int) = (la : Int) := IntWalk.i64_in _ ⟨by omega, by omega⟩
  have hlbb : lb ≤ 400000 := by omega
  clear hLn
  unfold entZA at HFN
  go_enter Tryz.func10, Tryz.ntmps10
  go_wp2_with fail
  refine HE.out.mono ?_
  rintro e w1 ⟨ev, rfl, hev, b1⟩
  have HB1 := Lib.hid b1
  have HV1 := Lib.hid hev
  obtain ⟨Ae, ce, rfl, hce1, hce2⟩ := hev.slice
  unfold maxLen at hce2
  clear hev b1 HE
  go_wp2_with fail
  refine (HWA.out _ HB1.out _ HV1.out).mono ?_
  rintro e w2 ⟨bv, rfl, hbv, b2⟩
  have HB2 := Lib.hid (HB1.out.trans (b2.mono HB1.out.size))
  have HV2 := Lib.hid (HV1.out.below b2)
  have hat := hbv.at_
  obtain ⟨Ab, cb, evb, -⟩ := id hat
  rw [List.length_map, ← HLB.out] at evb
  subst evb
  have HAT := Lib.hid (fun W (hb : Below w2.heap.size w2 W) => (hat.below hb).more hb.size)
  clear hbv b2 hat HWA HV1 HB1
  go_wp2_with fail
  refine (HFN.out _ _ HB2.out (HAT.out _ (Below.refl _ _))).mono ?_
  rintro e w3 ⟨rfl, b3⟩
  obtain ⟨W3, hW3⟩ : ∃ W3, W3 = w3.alloc (.cells #[(.string ⟨#[]⟩), (.int .i64 0), (.string ⟨#[]⟩), (.int .i64 0), (.int .i64 0), (.int .i64 0), (.string ⟨#[]⟩), (.string ⟨#[]⟩), (.int .i64 0), (.int .i64 0), (.slice none 0 0)] 40) := ⟨_, rfl⟩
  have hb3 : Below w2.heap.size w2 W3 := by rw [hW3]; exact b3.alloc b3.size _
  have HC3 := Lib.hid hb3
  have HB3 := Lib.hid (HB2.out.trans (hb3.mono HB2.out.size))
  have HV3 := Lib.hid (HV2.out.below hb3)
  clear b3 hb3 HFN HB2 HV2
  go_upto_region 6 with fail
  rw [← hW3]
  clear hW3
  go_wp2_with fail
  refine (HSO.out _ _ HB3.out (HAT.out _ HC3.out)).mono ?_
  rintro e w4 ⟨yv, rfl, hyv, b4⟩
  have HC4 := Lib.hid (HC3.out.trans (b4.mono HC3.out.size))
  have HB4 := Lib.hid (HB3.out.trans (b4.mono HB3.out.size))
  have HV4 := Lib.hid (HV3.out.below b4)
  have HY4 := Lib.hid hyv
  obtain ⟨Ay, cy, rfl, -⟩ := hyv.slice
  clear hyv b4 HSO HC3 HB3 HV3
  go_wp2_with fail
  refine (HEF.out _ _ _ _ _ HV4.out HY4.out).mono ?_
  rintro e w5 ⟨rfl, b5⟩
  have HC5 := Lib.hid (HC4.out.trans (b5.mono HC4.out.size))
  have HB5 := Lib.hid (HB4.out.trans (b5.mono HB4.out.size))
  have HV5 := Lib.hid (HV4.out.below b5)
  clear b5 HEF HY4 HC4 HB4 HV4
  by_cases hx0 : x.length = 0
  · have t1 : ((x.length : Int) == 0) = true := by rw [beq_iff_eq]; omega
    go_wp2_with fail
    go_ret
    exact ⟨rfl, HB5.out⟩
  · have t1 : ((x.length : Int) == 0) = false := by rw [beq_eq_false_iff_ne]; omega
    have t2 : (x.length == 0) = false := by rw [beq_eq_false_iff_ne]; omega
    obtain ⟨k, bk, hpk⟩ := HPK.out (by omega)
    have HPK2 := Lib.hid hpk
    have HFK2 := Lib.hid (HFK.out k bk)
    obtain ⟨xs, hxs⟩ := EntsRow.at_ HV5.out
    obtain ⟨ad, -, Ax, cx, hA, hb, -, hdx, e0, e1', e2', e3, e4, e5, e6, e7, e8, e9, e10⟩ := hxs.read bk
    subst hA
    have i1 : (0 : Int) ≤ (k : Int) := by omega
    have i2 : (k : Int) < (x.length : Int) := by omega
    have HDX := Lib.hid hdx
    clear hpk HPK HFK hxs hdx hx0 HV5
    generalize x[k] = y at *
    obtain ⟨xp, xk, xt, ⟨m1, m2, m3, m4, m5, m6, m7⟩, xd⟩ := y
    unfold entC at HFK2
    simp only at HFK2 HDX e0 e1' e2' e3 e4 e5 e6 e7 e8 e9 e10
    go_wp2_with fail
    refine (HPK2.out _).mono ?_
    rintro e w6 ⟨rfl, rfl⟩
    go_wp2_with fail
    refine (HFK2.out _ _ HB5.out (HAT.out _ HC5.out)).mono ?_
    rintro e w7 ⟨A', c', rfl, hd', b7⟩
    obtain ⟨W7, hW7⟩ : ∃ W7, W7 = w7.alloc (.cells #[(.string (bs xp)), (.int .i64 xk), (.string (bs xt)), (.int .i64 m1), (.int .i64 m2), (.int .i64 m3), (.string (bs m4)), (.string (bs m5)), (.int .i64 m6), (.int .i64 m7), (.slice A' xd.length c')] 40) := ⟨_, rfl⟩
    obtain ⟨gz, hgz⟩ : ∃ gz, gz = w7.heap.size := ⟨_, rfl⟩
    have hkz : Blk W7 gz 40 #[(.string (bs xp)), (.int .i64 xk), (.string (bs xt)), (.int .i64 m1), (.int .i64 m2), (.int .i64 m3), (.string (bs m4)), (.string (bs m5)), (.int .i64 m6), (.int .i64 m7), (.slice A' xd.length c')] := by rw [hW7, hgz]; exact Blk.new _ _ _
    have hb7 : Below w7.heap.size w7 W7 := by rw [hW7]; exact (Below.refl _ _).alloc (Nat.le_refl _) _
    have hb8 : Below w5.heap.size w5 W7 := b7.trans (hb7.mono b7.size)
    have HB7 := Lib.hid (HB5.out.trans (hb8.mono HB5.out.size))
    have HDZ := Lib.hid (hd'.below hb7)
    have HD7 := Lib.hid (HDX.out.below hb8)
    have HKZ := Lib.hid hkz
    have j0 : (ad.add (k * 11)).block < w5.heap.size := by rw [block_of_add]; exact hb
    have HR0 : Hid (∀ W, Below W7.heap.size W7 W → W.cell? (ad.add (k * 11)) = some (.string (bs xp))) := Lib.hid (fun W hW => ((hb8.trans (hW.mono hb8.size)).cell j0).trans e0)
    have HR1 : Hid (∀ W, Below W7.heap.size W7 W → W.cell? ⟨(ad.add (k * 11)).block, (ad.add (k * 11)).off + 1, none⟩ = some (.int .i64 xk)) := Lib.hid (fun W hW => ((hb8.trans (hW.mono hb8.size)).cell (p := ⟨(ad.add (k * 11)).block, (ad.add (k * 11)).off + 1, none⟩) j0).trans e1')
    have HR2 : Hid (∀ W, Below W7.heap.size W7 W → W.cell? ⟨(ad.add (k * 11)).block, (ad.add (k * 11)).off + 2, none⟩ = some (.string (bs xt))) := Lib.hid (fun W hW => ((hb8.trans (hW.mono hb8.size)).cell (p := ⟨(ad.add (k * 11)).block, (ad.add (k * 11)).off + 2, none⟩) j0).trans e2')
    have HR3 : Hid (∀ W, Below W7.heap.size W7 W → W.cell? ⟨(ad.add (k * 11)).block, (ad.add (k * 11)).off + 3, none⟩ = some (.int .i64 m1)) := Lib.hid (fun W hW => ((hb8.trans (hW.mono hb8.size)).cell (p := ⟨(ad.add (k * 11)).block, (ad.add (k * 11)).off + 3, none⟩) j0).trans e3)
    have HR4 : Hid (∀ W, Below W7.heap.size W7 W → W.cell? ⟨(ad.add (k * 11)).block, (ad.add (k * 11)).off + 4, none⟩ = some (.int .i64 m2)) := Lib.hid (fun W hW => ((hb8.trans (hW.mono hb8.size)).cell (p := ⟨(ad.add (k * 11)).block, (ad.add (k * 11)).off + 4, none⟩) j0).trans e4)
    have HR5 : Hid (∀ W, Below W7.heap.size W7 W → W.cell? ⟨(ad.add (k * 11)).block, (ad.add (k * 11)).off + 5, none⟩ = some (.int .i64 m3)) := Lib.hid (fun W hW => ((hb8.trans (hW.mono hb8.size)).cell (p := ⟨(ad.add (k * 11)).block, (ad.add (k * 11)).off + 5, none⟩) j0).trans e5)
    have HR6 : Hid (∀ W, Below W7.heap.size W7 W → W.cell? ⟨(ad.add (k * 11)).block, (ad.add (k * 11)).off + 6, none⟩ = some (.string (bs m4))) := Lib.hid (fun W hW => ((hb8.trans (hW.mono hb8.size)).cell (p := ⟨(ad.add (k * 11)).block, (ad.add (k * 11)).off + 6, none⟩) j0).trans e6)
    have HR7 : Hid (∀ W, Below W7.heap.size W7 W → W.cell? ⟨(ad.add (k * 11)).block, (ad.add (k * 11)).off + 7, none⟩ = some (.string (bs m5))) := Lib.hid (fun W hW => ((hb8.trans (hW.mono hb8.size)).cell (p := ⟨(ad.add (k * 11)).block, (ad.add (k * 11)).off + 7, none⟩) j0).trans e7)
    have HR8 : Hid (∀ W, Below W7.heap.size W7 W → W.cell? ⟨(ad.add (k * 11)).block, (ad.add (k * 11)).off + 8, none⟩ = some (.int .i64 m6)) := Lib.hid (fun W hW => ((hb8.trans (hW.mono hb8.size)).cell (p := ⟨(ad.add (k * 11)).block, (ad.add (k * 11)).off + 8, none⟩) j0).trans e8)
    have HR9 : Hid (∀ W, Below W7.heap.size W7 W → W.cell? ⟨(ad.add (k * 11)).block, (ad.add (k * 11)).off + 9, none⟩ = some (.int .i64 m7)) := Lib.hid (fun W hW => ((hb8.trans (hW.mono hb8.size)).cell (p := ⟨(ad.add (k * 11)).block, (ad.add (k * 11)).off + 9, none⟩) j0).trans e9)
    have HR10 : Hid (∀ W, Below W7.heap.size W7 W → W.cell? ⟨(ad.add (k * 11)).block, (ad.add (k * 11)).off + 10, none⟩ = some (.slice Ax xd.length cx)) := Lib.hid (fun W hW => ((hb8.trans (hW.mono hb8.size)).cell (p := ⟨(ad.add (k * 11)).block, (ad.add (k * 11)).off + 10, none⟩) j0).trans e10)
    have HZ0 : Hid (∀ W, Below W7.heap.size W7 W → W.cell? ⟨gz, 0, none⟩ = some (.string (bs xp))) := Lib.hid (fun W hW => (HKZ.out.below hW HKZ.out.lt).cell 0)
    have HZ1 : Hid (∀ W, Below W7.heap.size W7 W → W.cell? ⟨gz, 1, none⟩ = some (.int .i64 xk)) := Lib.hid (fun W hW => (HKZ.out.below hW HKZ.out.lt).cell 1)
    have HZ2 : Hid (∀ W, Below W7.heap.size W7 W → W.cell? ⟨gz, 2, none⟩ = some (.string (bs xt))) := Lib.hid (fun W hW => (HKZ.out.below hW HKZ.out.lt).cell 2)
    have HZ3 : Hid (∀ W, Below W7.heap.size W7 W → W.cell? ⟨gz, 3, none⟩ = some (.int .i64 m1)) := Lib.hid (fun W hW => (HKZ.out.below hW HKZ.out.lt).cell 3)
    have HZ4 : Hid (∀ W, Below W7.heap.size W7 W → W.cell? ⟨gz, 4, none⟩ = some (.int .i64 m2)) := Lib.hid (fun W hW => (HKZ.out.below hW HKZ.out.lt).cell 4)
    have HZ5 : Hid (∀ W, Below W7.heap.size W7 W → W.cell? ⟨gz, 5, none⟩ = some (.int .i64 m3)) := Lib.hid (fun W hW => (HKZ.out.below hW HKZ.out.lt).cell 5)
    have HZ6 : Hid (∀ W, Below W7.heap.size W7 W → W.cell? ⟨gz, 6, none⟩ = some (.string (bs m4))) := Lib.hid (fun W hW => (HKZ.out.below hW HKZ.out.lt).cell 6)
    have HZ7 : Hid (∀ W, Below W7.heap.size W7 W → W.cell? ⟨gz, 7, none⟩ = some (.string (bs m5))) := Lib.hid (fun W hW => (HKZ.out.below hW HKZ.out.lt).cell 7)
    have HZ8 : Hid (∀ W, Below W7.heap.size W7 W → W.cell? ⟨gz, 8, none⟩ = some (.int .i64 m6)) := Lib.hid (fun W hW => (HKZ.out.below hW HKZ.out.lt).cell 8)
    have HZ9 : Hid (∀ W, Below W7.heap.size W7 W → W.cell? ⟨gz, 9, none⟩ = some (.int .i64 m7)) := Lib.hid (fun W hW => (HKZ.out.below hW HKZ.out.lt).cell 9)
    have HZ10 : Hid (∀ W, Below W7.heap.size W7 W → W.cell? ⟨gz, 10, none⟩ = some (.slice A' xd.length c')) := Lib.hid (fun W hW => (HKZ.out.below hW HKZ.out.lt).cell 10)
    have HSE := Lib.hid (fun W (hW : Below W7.heap.size W7 W) => SameEntry_any ⟨xp, xk, xt, ⟨m1, m2, m3, m4, m5, m6, m7⟩, xd⟩ ⟨xp, xk, xt, ⟨m1, m2, m3, m4, m5, m6, m7⟩, xd⟩ _ _ W ((HDZ.out.below hW).mono (Nat.zero_le _)) (HD7.out.below hW))
    rw [(sameE_iff _ _).2 rfl] at HSE
    unfold entC at HSE
    simp only at HSE
    have HCC : Hid (∀ W W', Below W7.heap.size W7 W → Below W.heap.size W W' → Below W7.heap.size W7 W') := Lib.hid (fun W W' h1 h2 => h1.trans (h2.mono h1.size))
    clear b7 hd' hkz hb7 hb8 HDZ HD7 HKZ HFK2 HPK2 HDX HB5 HC5 HAT e0 e1' e2' e3 e4 e5 e6 e7 e8 e9 e10
    go_upto_region 13 with fail
    rw [← hW7, ← hgz]
    clear hW7 hgz
    refine wp_region_G (S := fun W => Below W7.heap.size W7 W) (by kernel_rfl) (Below.refl _ _).drew ?_
    refine wpG_take (i := 0) (v := ?vf1) rfl (by kernel_rfl) (by kernel_rfl) (by kernel_rfl) (fun _ _ _ h => h) (Or.inl ⟨by rfl, ?hyf1⟩) ?restf1
    case hyf1 => (intro W hSw; left; (try dsimp only at hSw); go_simp; try with_reducible rfl)
    simp only [Act.put, List.setIfInBounds_toArray, List.set_cons_zero, List.set_cons_succ, List.getElem_toArray, List.getElem_cons_zero, List.getElem_cons_succ]
    refine wpG_take (i := 1) (v := ?vf2) rfl (by kernel_rfl) (by kernel_rfl) (by kernel_rfl) (fun _ _ _ h => h) (Or.inl ⟨by rfl, ?hyf2⟩) ?restf2
    case hyf2 => (intro W hSw; left; (try dsimp only at hSw); go_simp; try with_reducible rfl)
    simp only [Act.put, List.setIfInBounds_toArray, List.set_cons_zero, List.set_cons_succ, List.getElem_toArray, List.getElem_cons_zero, List.getElem_cons_succ]
    refine wpG_take (i := 2) (v := ?vf3) rfl (by kernel_rfl) (by kernel_rfl) (by kernel_rfl) (fun _ _ _ h => h) (Or.inl ⟨by rfl, ?hyf3⟩) ?restf3
    case hyf3 => (intro W hSw; left; (try dsimp only at hSw); go_simp; try with_reducible rfl)
    simp only [Act.put, List.setIfInBounds_toArray, List.set_cons_zero, List.set_cons_succ, List.getElem_toArray, List.getElem_cons_zero, List.getElem_cons_succ]
    refine wpG_take (i := 3) (v := ?vf4) rfl (by kernel_rfl) (by kernel_rfl) (by kernel_rfl) (fun _ _ _ h => h) (Or.inl ⟨by rfl, ?hyf4⟩) ?restf4
    case hyf4 => (intro W hSw; left; (try dsimp only at hSw); have cz0 := HZ0.out _ hSw; have cz1 := HZ1.out _ hSw; have cz2 := HZ2.out _ hSw; have cz3 := HZ3.out _ hSw; have cz4 := HZ4.out _ hSw; have cz5 := HZ5.out _ hSw; have cz6 := HZ6.out _ hSw; have cz7 := HZ7.out _ hSw; have cz8 := HZ8.out _ hSw; have cz9 := HZ9.out _ hSw; have cz10 := HZ10.out _ hSw; go_simp; try with_reducible rfl)
    simp only [Act.put, List.setIfInBounds_toArray, List.set_cons_zero, List.set_cons_succ, List.getElem_toArray, List.getElem_cons_zero, List.getElem_cons_succ]
    refine wpG_take (i := 4) (v := ?vf5) rfl (by kernel_rfl) (by kernel_rfl) (by kernel_rfl) (fun _ _ _ h => h) (Or.inl ⟨by rfl, ?hyf5⟩) ?restf5
    case hyf5 => (intro W hSw; left; (try dsimp only at hSw); go_simp; try with_reducible rfl)
    simp only [Act.put, List.setIfInBounds_toArray, List.set_cons_zero, List.set_cons_succ, List.getElem_toArray, List.getElem_cons_zero, List.getElem_cons_succ]
    refine wpG_take (i := 5) (v := ?vf6) rfl (by kernel_rfl) (by kernel_rfl) (by kernel_rfl) (fun _ _ _ h => h) (Or.inl ⟨by rfl, ?hyf6⟩) ?restf6
    case hyf6 => (intro W hSw; left; (try dsimp only at hSw); go_simp; try with_reducible rfl)
    simp only [Act.put, List.setIfInBounds_toArray, List.set_cons_zero, List.set_cons_succ, List.getElem_toArray, List.getElem_cons_zero, List.getElem_cons_succ]
    refine wpG_take (i := 6) (v := ?vf7) rfl (by kernel_rfl) (by kernel_rfl) (by kernel_rfl) (fun _ _ _ h => h) (Or.inl ⟨by rfl, ?hyf7⟩) ?restf7
    case hyf7 => (intro W hSw; left; (try dsimp only at hSw); go_simp; try with_reducible rfl)
    simp only [Act.put, List.setIfInBounds_toArray, List.set_cons_zero, List.set_cons_succ, List.getElem_toArray, List.getElem_cons_zero, List.getElem_cons_succ]
    refine wpG_take (i := 7) (v := ?vf8) rfl (by kernel_rfl) (by kernel_rfl) (by kernel_rfl) (fun _ _ _ h => h) (Or.inl ⟨by rfl, ?hyf8⟩) ?restf8
    case hyf8 => (intro W hSw; left; (try dsimp only at hSw); have cr0 := HR0.out _ hSw; have cr1 := HR1.out _ hSw; have cr2 := HR2.out _ hSw; have cr3 := HR3.out _ hSw; have cr4 := HR4.out _ hSw; have cr5 := HR5.out _ hSw; have cr6 := HR6.out _ hSw; have cr7 := HR7.out _ hSw; have cr8 := HR8.out _ hSw; have cr9 := HR9.out _ hSw; have cr10 := HR10.out _ hSw; go_simp; try with_reducible rfl)
    simp only [Act.put, List.setIfInBounds_toArray, List.set_cons_zero, List.set_cons_succ, List.getElem_toArray, List.getElem_cons_zero, List.getElem_cons_succ]
    refine wpG_take (i := 8) (v := (.bool true)) rfl (by kernel_rfl) (by kernel_rfl) (by kernel_rfl) (fun _ _ _ h => h) (Or.inl ⟨by rfl, ?hyf9⟩) ?restf9
    case hyf9 => (intro W hSw; right; (try dsimp only at hSw); refine ⟨_, _, (by go_simp; try with_reducible rfl), (HSE.out W hSw).mono ?_⟩; rintro e w' ⟨rfl, hb⟩; exact ⟨rfl, HCC.out _ _ hSw hb, hb⟩)
    simp only [Act.put, List.setIfInBounds_toArray, List.set_cons_zero, List.set_cons_succ, List.getElem_toArray, List.getElem_cons_zero, List.getElem_cons_succ]
    refine wpG_take (i := 9) (v := ?vf10) rfl (by kernel_rfl) (by kernel_rfl) (by kernel_rfl) (fun _ _ _ h => h) (Or.inl ⟨by rfl, ?hyf10⟩) ?restf10
    case hyf10 => (intro W hSw; left; (try dsimp only at hSw); go_simp; try with_reducible rfl)
    simp only [Act.put, List.setIfInBounds_toArray, List.set_cons_zero, List.set_cons_succ, List.getElem_toArray, List.getElem_cons_zero, List.getElem_cons_succ]
    refine wpG_take (i := 10) (v := ?vf11) rfl (by kernel_rfl) (by kernel_rfl) (by kernel_rfl) (fun _ _ _ h => h) (Or.inl ⟨by rfl, ?hyf11⟩) ?restf11
    case hyf11 => (intro W hSw; left; (try dsimp only at hSw); go_simp; try with_reducible rfl)
    simp only [Act.put, List.setIfInBounds_toArray, List.set_cons_zero, List.set_cons_succ, List.getElem_toArray, List.getElem_cons_zero, List.getElem_cons_succ]
    refine wpG_done (by kernel_rfl) (fun w8 hb hS => ?_) _
    have HB8 := Lib.hid (HB7.out.trans (hS.mono HB7.out.size))
    clear hb hS
    go_wp2_with fail
    go_ret
    exact ⟨rfl, HB8.out⟩
end Go.Proofs.YtmioinfhggbfkaaGreatDoor

