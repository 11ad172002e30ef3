/-
  The law MemberBack: what it computes is true. Condition: raw things and bytes of the second form's bound; the library's table of powers of ten lies as Go laid it.
-/
import Derived.Test.YtmioinfhggbfkaaGreatDoorMemT
import Derived.Test.YtmioinfhggbfkaaGreatDoorSameE
namespace Go.Proofs.YtmioinfhggbfkaaGreatDoor
set_option linter.all false
open Go.RowKit

set_option maxRecDepth 100000 in
set_option maxHeartbeats 4000000 in
theorem MemberBack_walk (w : World) (hsh : w.ShapedOpen Tryz.prog) (h10 : P10 w) (r : RawS) (h : RawOk r) (v2 : Value) (mi : List Int) (o2 : IntsAt .u8 w w.heap.size v2 mi) (hu2 : ∀ n ∈ mi, U8 n) (hs2 : mi.length ≤ 1048576) :
    Calls Tryz.prog 4 #[rawV r, v2] w fun e w' => e = .returned (.bool true) ∧ Below w.heap.size w w' := by
  have hm := ML.of_shaped hsh
  clear hsh
  obtain ⟨m, rfl⟩ := of_u8 mi hu2
  rw [List.length_map] at hs2
  have HOM := Lib.hid (show BytesAt w w.heap.size v2 m from o2)
  obtain ⟨Am, cm, rfl, -⟩ := o2
  rw [List.length_map] at HOM ⊢
  have hok := entP_ok h
  have HML : Hid (∀ W, Below w.heap.size w W → ML W) := Lib.hid (fun W hb => hm.below hb)
  have HP10 : Hid (∀ W, Below w.heap.size w W → P10 W) := Lib.hid (fun W hb => h10.below hb)
  have HEn := Lib.hid (fun W (hb : Below w.heap.size w W) => Entry_any r h W (HML.out W hb))
  have HWn := Lib.hid (fun W (hb : Below w.heap.size w W) => Written_any W (HML.out W hb) (HP10.out W hb))
  have hhi := (memB_blocks hok).2.2.2
  clear h hm h10 hu2
  generalize entP r = x at *
  have HWr := Lib.hid (fun W (hb : Below w.heap.size w W) A c hd => MWrite_ok x hok A c W (HML.out W hb) (HP10.out W hb) hd)
  have HRD := Lib.hid (fun W (hb : Below w.heap.size w W) v hv => MRead_good x hok m (by omega) v W (fun W' hb' => HML.out W' (hb.trans (hb'.mono hb.size))) (fun W' hb' => HP10.out W' (hb.trans (hb'.mono hb.size))) hv)
  have HSE := Lib.hid (fun W dv dv' h1 h2 => SameEntry_any x x dv dv' W h1 h2)
  rw [(sameE_iff x x).2 rfl] at HSE
  clear hok HML HP10
  obtain ⟨lb, hlb⟩ : ∃ lb, lb = (memB x).length := ⟨_, rfl⟩
  rw [← hlb] at hhi HRD
  have HLB := Lib.hid hlb
  clear hlb
  generalize memB x = M at *
  obtain ⟨xp, xk, xt, ⟨m1, m2, m3, m4, m5, m6, m7⟩, xd⟩ := x
  unfold entC at HEn HWr HRD HSE
  simp only at HEn HWr HRD HSE
  obtain ⟨W0, hW0⟩ : ∃ W0, W0 = w.alloc (.cells #[.int .i64 r.kind, .int .i64 r.a, .int .i64 r.b, .string (bs r.text)] 47) := ⟨_, rfl⟩
  have hS := raw_blk w #[.int .i64 r.kind, .int .i64 r.a, .int .i64 r.b, .string (bs r.text)]
  rw [← hW0] at hS
  have HB0 := Lib.hid hS.2
  have q0 := hS.1.cell 0
  have q1 := hS.1.cell 1
  have q2 := hS.1.cell 2
  have q3 := hS.1.cell 3
  clear hS
  unfold rawV at HEn ⊢
  go_enter Tryz.func4, Tryz.ntmps4
  go_upto_region 1 with fail
  rw [← hW0]
  clear hW0
  go_wp2_with fail
  refine (HEn.out _ HB0.out).mono ?_
  rintro e w1 ⟨A, c, rfl, hd, b1⟩
  obtain ⟨W1, hW1⟩ : ∃ W1, W1 = w1.alloc (.cells #[(.string (bs xp)), (.int .i64 xk), (.string (bs xt)), (.int .i64 m1), (.int .i64 m2), (.int .i64 m3), (.string (bs m4)), (.string (bs m5)), (.int .i64 m6), (.int .i64 m7), (.slice A xd.length c)] 40) := ⟨_, rfl⟩
  obtain ⟨ge, hge⟩ : ∃ ge, ge = w1.heap.size := ⟨_, rfl⟩
  have hk1 : Blk W1 ge 40 #[(.string (bs xp)), (.int .i64 xk), (.string (bs xt)), (.int .i64 m1), (.int .i64 m2), (.int .i64 m3), (.string (bs m4)), (.string (bs m5)), (.int .i64 m6), (.int .i64 m7), (.slice A xd.length c)] := by rw [hW1, hge]; exact Blk.new _ _ _
  have hb1 : Below w1.heap.size w1 W1 := by rw [hW1]; exact (Below.refl _ _).alloc (Nat.le_refl _) _
  have HB1 := Lib.hid (HB0.out.trans ((b1.trans (hb1.mono b1.size)).mono HB0.out.size))
  have HD1 := Lib.hid (hd.below hb1)
  have HK1 := Lib.hid hk1
  clear b1 hb1 hk1 hd q0 q1 q2 q3 HEn HB0
  go_upto_region 2 with fail
  rw [← hW1, ← hge]
  clear hW1 hge
  have p0 : W1.cell? ⟨ge, 0, none⟩ = some (.string (bs xp)) := HK1.out.cell 0
  have p1 : W1.cell? ⟨ge, 1, none⟩ = some (.int .i64 xk) := HK1.out.cell 1
  have p2 : W1.cell? ⟨ge, 2, none⟩ = some (.string (bs xt)) := HK1.out.cell 2
  have p3 : W1.cell? ⟨ge, 3, none⟩ = some (.int .i64 m1) := HK1.out.cell 3
  have p4 : W1.cell? ⟨ge, 4, none⟩ = some (.int .i64 m2) := HK1.out.cell 4
  have p5 : W1.cell? ⟨ge, 5, none⟩ = some (.int .i64 m3) := HK1.out.cell 5
  have p6 : W1.cell? ⟨ge, 6, none⟩ = some (.string (bs m4)) := HK1.out.cell 6
  have p7 : W1.cell? ⟨ge, 7, none⟩ = some (.string (bs m5)) := HK1.out.cell 7
  have p8 : W1.cell? ⟨ge, 8, none⟩ = some (.int .i64 m6) := HK1.out.cell 8
  have p9 : W1.cell? ⟨ge, 9, none⟩ = some (.int .i64 m7) := HK1.out.cell 9
  have p10 : W1.cell? ⟨ge, 10, none⟩ = some (.slice A xd.length c) := HK1.out.cell 10
  go_wp2_with fail
  refine (HWr.out _ HB1.out _ _ HD1.out.bytes).mono ?_
  rintro e w2 ⟨bv, rfl, hbv, b2⟩
  have HB2 := Lib.hid (HB1.out.trans (b2.mono HB1.out.size))
  have HAT := Lib.hid hbv.at_
  obtain ⟨Ab, cb, rfl, -⟩ := hbv.at_
  rw [List.length_map, ← HLB.out] at HAT ⊢
  have HK2 := Lib.hid (HK1.out.below b2 HK1.out.lt)
  have HD2 := Lib.hid (HD1.out.below b2)
  have HM2 := Lib.hid (HOM.out.below HB2.out)
  clear hbv b2 HD1 HK1 HB1 HWr p0 p1 p2 p3 p4 p5 p6 p7 p8 p9 p10
  have HCC : Hid (Calls Tryz.prog 23 #[.slice (some ⟨w2.heap.size, 0, none⟩) 2 2] (w2.alloc (.cells #[.slice Ab lb cb, .slice Am m.length cm] 38)) fun e w' => ∃ v', e = .returned v' ∧ BytesAt w' w'.heap.size v' (M ++ m) ∧ Below w2.heap.size w2 w') := Lib.hid (by
    have hsz2 := HB2.out.size
    have hC := Concat_any w2.heap.size [.slice Ab lb cb, .slice Am m.length cm] [M.map ofB, m.map ofB] w2.heap.size (w2.alloc (.cells #[.slice Ab lb cb, .slice Am m.length cm] 38)) (by simp)
      (fun j u hu => by
        have hB := Blk.new w2 38 #[.slice Ab lb cb, .slice Am m.length cm]
        rw [hB.cell j, ← hu]; simp) rfl
      (fun j v x hv hx => by
        rcases j with _ | _ | j
        · simp only [List.getElem?_cons_zero, Option.some.injEq] at hv hx
          subst hv hx
          exact IntsAt.below HAT.out ((Below.refl _ _).alloc (Nat.le_refl _) _)
        · simp only [List.getElem?_cons_succ, List.getElem?_cons_zero, Option.some.injEq] at hv hx
          subst hv hx
          exact (IntsAt.below HM2.out ((Below.refl _ w2).mono hsz2 |>.alloc hsz2 _)).more hsz2
        · simp at hv) (by simp) (by simp) (by have := HLB.out; simp; omega)
    rw [show [M.map ofB, m.map ofB].flatten = (M ++ m).map ofB by simp, List.length_map] at hC
    exact hC.mono fun e w' ⟨v', h1, h2, h3⟩ => ⟨v', h1, ownL h2, ((Below.refl _ w2).alloc (Nat.le_refl _) _).trans (h3.mono (by simp))⟩)
  clear HAT HM2
  go_wp2_with fail
  refine HCC.out.mono ?_
  rintro e w3 ⟨v3, rfl, h3, b3⟩
  have HB3 := Lib.hid (HB2.out.trans (b3.mono HB2.out.size))
  have HK3 := Lib.hid (HK2.out.below b3 HK2.out.lt)
  have HD3 := Lib.hid (HD2.out.below b3)
  have H3 := Lib.hid h3
  obtain ⟨A3, c3, e3, -⟩ := h3
  rw [List.length_map, List.length_append] at e3
  subst e3
  clear b3 HCC HB2 HK2 HD2
  go_wp2_with fail
  refine (HRD.out _ HB3.out _ H3.out).mono ?_
  rintro e w4 ⟨A', c', rfl, hd', b4⟩
  obtain ⟨W4, hW4⟩ : ∃ W4, W4 = w4.alloc (.cells #[(.string (bs xp)), (.int .i64 xk), (.string (bs xt)), (.int .i64 m1), (.int .i64 m2), (.int .i64 m3), (.string (bs m4)), (.string (bs m5)), (.int .i64 m6), (.int .i64 m7), (.slice A' xd.length c')] 40) := ⟨_, rfl⟩
  obtain ⟨g8, hg8⟩ : ∃ g8, g8 = w4.heap.size := ⟨_, rfl⟩
  have hk4 : Blk W4 g8 40 #[(.string (bs xp)), (.int .i64 xk), (.string (bs xt)), (.int .i64 m1), (.int .i64 m2), (.int .i64 m3), (.string (bs m4)), (.string (bs m5)), (.int .i64 m6), (.int .i64 m7), (.slice A' xd.length c')] := by rw [hW4, hg8]; exact Blk.new _ _ _
  have hb4 : Below w4.heap.size w4 W4 := by rw [hW4]; exact (Below.refl _ _).alloc (Nat.le_refl _) _
  have hb3 : Below w3.heap.size w3 W4 := b4.trans (hb4.mono b4.size)
  have HB4 := Lib.hid (HB3.out.trans (hb3.mono HB3.out.size))
  have HK4 := Lib.hid (HK3.out.below hb3 HK3.out.lt)
  have HD4 := Lib.hid (HD3.out.below hb3)
  have HD5 := Lib.hid (hd'.below hb4)
  have HK5 := Lib.hid hk4
  clear b4 hb4 hb3 hk4 hd' HB3 HK3 HD3 H3 HRD
  go_upto_region 4 with fail
  rw [← hW4, ← hg8]
  clear hW4 hg8
  go_wp2_with fail
  refine (HWn.out _ HB4.out).mono ?_
  rintro e w5 ⟨rfl, b5⟩
  have HB5 := Lib.hid (HB4.out.trans (b5.mono HB4.out.size))
  have HS5 := Lib.hid (HSE.out w5 _ _ ((HD4.out.below b5).mono (Nat.zero_le _)) ((HD5.out.below b5).mono (Nat.zero_le _)))
  have hk5 := HK4.out.below b5 HK4.out.lt
  have hk6 := HK5.out.below b5 HK5.out.lt
  clear b5 HB4 HK4 HK5 HD4 HD5 HWn HSE
  have p0 : w5.cell? ⟨ge, 0, none⟩ = some (.string (bs xp)) := hk5.cell 0
  have p1 : w5.cell? ⟨ge, 1, none⟩ = some (.int .i64 xk) := hk5.cell 1
  have p2 : w5.cell? ⟨ge, 2, none⟩ = some (.string (bs xt)) := hk5.cell 2
  have p3 : w5.cell? ⟨ge, 3, none⟩ = some (.int .i64 m1) := hk5.cell 3
  have p4 : w5.cell? ⟨ge, 4, none⟩ = some (.int .i64 m2) := hk5.cell 4
  have p5 : w5.cell? ⟨ge, 5, none⟩ = some (.int .i64 m3) := hk5.cell 5
  have p6 : w5.cell? ⟨ge, 6, none⟩ = some (.string (bs m4)) := hk5.cell 6
  have p7 : w5.cell? ⟨ge, 7, none⟩ = some (.string (bs m5)) := hk5.cell 7
  have p8 : w5.cell? ⟨ge, 8, none⟩ = some (.int .i64 m6) := hk5.cell 8
  have p9 : w5.cell? ⟨ge, 9, none⟩ = some (.int .i64 m7) := hk5.cell 9
  have p10 : w5.cell? ⟨ge, 10, none⟩ = some (.slice A xd.length c) := hk5.cell 10
  have j0 : w5.cell? ⟨g8, 0, none⟩ = some (.string (bs xp)) := hk6.cell 0
  have j1 : w5.cell? ⟨g8, 1, none⟩ = some (.int .i64 xk) := hk6.cell 1
  have j2 : w5.cell? ⟨g8, 2, none⟩ = some (.string (bs xt)) := hk6.cell 2
  have j3 : w5.cell? ⟨g8, 3, none⟩ = some (.int .i64 m1) := hk6.cell 3
  have j4 : w5.cell? ⟨g8, 4, none⟩ = some (.int .i64 m2) := hk6.cell 4
  have j5 : w5.cell? ⟨g8, 5, none⟩ = some (.int .i64 m3) := hk6.cell 5
  have j6 : w5.cell? ⟨g8, 6, none⟩ = some (.string (bs m4)) := hk6.cell 6
  have j7 : w5.cell? ⟨g8, 7, none⟩ = some (.string (bs m5)) := hk6.cell 7
  have j8 : w5.cell? ⟨g8, 8, none⟩ = some (.int .i64 m6) := hk6.cell 8
  have j9 : w5.cell? ⟨g8, 9, none⟩ = some (.int .i64 m7) := hk6.cell 9
  have j10 : w5.cell? ⟨g8, 10, none⟩ = some (.slice A' xd.length c') := hk6.cell 10
  clear hk5 hk6
  go_wp2_with fail
  refine HS5.out.mono ?_
  rintro e w6 ⟨rfl, b6⟩
  have HB6 := Lib.hid (HB5.out.trans (b6.mono HB5.out.size))
  clear b6 HS5
  go_wp2_with fail
  go_ret
  exact ⟨rfl, HB6.out⟩
end Go.Proofs.YtmioinfhggbfkaaGreatDoor
