/-
  The law MemberTurns: what it computes is true. Condition: raw things of the second form's bound; the library's two errors and its table of powers of ten lie as Go laid them.
-/
import Derived.Test.YtphmhmdcaafmdaaGreatDoorMReadA
import Derived.Test.YtphmhmdcaafmdaaGreatDoorSameE
import Derived.Test.YtphmhmdcaafmdaaGreatDoorMPlain
import Derived.Test.YtphmhmdcaafmdaaGreatDoorSum
import Derived.Test.YtphmhmdcaafmdaaGreatDoorEntry
namespace Go.Proofs.YtphmhmdcaafmdaaGreatDoor
set_option linter.all false
open Go.RowKit
theorem memB_small {x : EntP} (h : EntOk x) : (memB x).length ≤ 9728 := by
  have h1 := padB_length x.data
  have h2 := headW_length (packH_ok h)
  have h3 := padB_length (paxT (packR x))
  have h5 := paxT_len (packR_ok h)
  have h6 : (packR x).length * 703 ≤ 7 * 703 := Nat.mul_le_mul_right _ (packR_len x)
  have h4 := headW_length (paxH_ok (paxT (packR x)).length (by omega))
  have hd := h.data.1
  have e1 : (memB x).length = (memR (packR x)).length + (512 + kN x.data.length * 512) := by
    unfold memB
    rw [List.length_append, List.length_append, h2, h1]
  rw [e1]
  unfold kN at *
  clear h2 h1 e1
  by_cases he : packR x = []
  · have e2 : (memR (packR x)).length = 0 := by unfold memR; rw [if_pos he]; rfl
    rw [e2]
    generalize x.data.length = d at *
    clear h3 h4 h5 h6
    omega
  · have e2 : (memR (packR x)).length = 512 + (padB (paxT (packR x))).length := by unfold memR; rw [if_neg he, List.length_append, h4]
    rw [e2, h3]
    clear h3 h4 e2
    generalize (paxT (packR x)).length = p at *
    generalize x.data.length = d at *
    omega
theorem memB_pos {x : EntP} (h : EntOk x) : 1 ≤ (memB x).length := by
  obtain ⟨F0, F1, F2, F3⟩ := memB_blocks h
  by_cases he : packR x = []
  · have := F0 he; omega
  · have := F1 he; omega
theorem raw_blk (w : World) (cs : Array Value) : Blk (w.alloc (.cells cs 55)) w.heap.size 55 cs ∧ Below w.heap.size w (w.alloc (.cells cs 55)) := ⟨Blk.new _ _ _, (Below.refl _ _).alloc (Nat.le_refl _) _⟩
def entZ : EntP := ⟨[], 0, [], ⟨0, 0, 0, [], [], 0, 0⟩, []⟩
set_option maxRecDepth 100000 in
set_option maxHeartbeats 8000000 in
theorem MemberTurns_walk (w : World) (hsh : w.ShapedOpen Tryz.prog) (h10 : P10 w) (hse : Sent w) (r : RawS) (h : RawOk r) (a : Int) (ha : I64 a) (c : Int) (hc : U8 c) :
    Calls Tryz.prog 5 #[rawV r, .int .i64 a, .int .u8 c] w fun e w' => e = .returned (.bool true) ∧ Below w.heap.size w w' := by
  have hm := ML.of_shaped hsh
  clear hsh
  have hok := entP_ok h
  have HML : Hid (∀ W, Below w.heap.size w W → ML W) := Lib.hid (fun W hb => hm.below hb)
  have HP10 : Hid (∀ W, Below w.heap.size w W → P10 W) := Lib.hid (fun W hb => h10.below hb)
  have HSN : Hid (∀ W, Below w.heap.size w W → Sent W) := Lib.hid (fun W hb => hse.below hb)
  have HEn := Lib.hid (fun W (hb : Below w.heap.size w W) => Entry_any r h W (HML.out W hb))
  have HWn := Lib.hid (fun W (hb : Below w.heap.size w W) => Written_any W (HML.out W hb) (HP10.out W hb))
  have hhi := memB_small hok
  clear h hm h10 hse
  generalize entP r = x at *
  have HWr := Lib.hid (fun W (hb : Below w.heap.size w W) A c hd => MWrite_ok x hok A c W (HML.out W hb) (HP10.out W hb) hd)
  have HWA := Lib.hid (fun W (hb : Below w.heap.size w W) y (hy : EntOk y) A c hd => MWrite_ok y hy A c W (HML.out W hb) (HP10.out W hb) hd)
  have HRA := Lib.hid (fun W (hb : Below w.heap.size w W) v d hv (hd : d.length ≤ 80000) => MRead_all v d W (fun W' hb' => HML.out W' (hb.trans (hb'.mono hb.size))) (fun W' hb' => HP10.out W' (hb.trans (hb'.mono hb.size))) (fun W' hb' => HSN.out W' (hb.trans (hb'.mono hb.size))) hv hd)
  have hub := ofB_u8 (memB x)
  obtain ⟨C, hC⟩ := of_u8 (turnL ((memB x).map ofB) a c) (turnL_bd _ _ _ hub hc)
  have hCl : C.length ≤ 80000 := by
    have := turnL_length ((memB x).map ofB) a c
    rw [hC, List.length_map, List.length_map] at this
    omega
  have hrb : 9728 ≤ reachBytes := by decide
  have HTU := Lib.hid (fun W v (hv : BytesAt W W.heap.size v (memB x)) => Turned_any v ((memB x).map ofB) a c W hv hub (by rw [List.length_map]; omega) ha hc)
  rw [hC] at HTU
  have HSE := Lib.hid (fun W => SameEntry_any entZ entZ (.slice none 0 0) (.slice none 0 0) W (DataAt.nil _ _) (DataAt.nil _ _))
  rw [(sameE_iff entZ entZ).2 rfl] at HSE
  clear hok HML HP10 HSN hub hC hhi hrb
  generalize memB x = M at *
  obtain ⟨yp, yk, yt, ⟨b1, b2, b3, b4, b5, b6, b7⟩, yd⟩ := x
  unfold entC at HEn HWr
  simp only at HEn HWr
  obtain ⟨W0, hW0⟩ : ∃ W0, W0 = w.alloc (.cells #[.int .i64 r.kind, .int .i64 r.a, .int .i64 r.b, .string (bs r.text)] 55) := ⟨_, rfl⟩
  have hS := raw_blk w #[.int .i64 r.kind, .int .i64 r.a, .int .i64 r.b, .string (bs r.text)]
  rw [← hW0] at hS
  have HB0 := Lib.hid hS.2
  have q0 := hS.1.cell 0
  have q1 := hS.1.cell 1
  have q2 := hS.1.cell 2
  have q3 := hS.1.cell 3
  clear hS
  unfold rawV at HEn ⊢
  go_enter Tryz.func5, Tryz.ntmps5
  go_upto_region 1 with fail
  rw [← hW0]
  clear hW0
  go_wp2_with fail
  refine (HEn.out _ HB0.out).mono ?_
  rintro e w1 ⟨A, cA, rfl, hd, b1'⟩
  have HB1 := Lib.hid (HB0.out.trans (b1'.mono HB0.out.size))
  have HD1 := Lib.hid hd
  clear b1' hd q0 q1 q2 q3 HEn HB0
  go_wp2_with fail
  refine (HWr.out _ HB1.out _ _ HD1.out.bytes).mono ?_
  rintro e w2 ⟨bv, rfl, hbv, b2'⟩
  have HB2 := Lib.hid (HB1.out.trans (b2'.mono HB1.out.size))
  have HAT := Lib.hid hbv.at_
  obtain ⟨Ab, cb, rfl, -⟩ := hbv.at_
  rw [List.length_map] at HAT
  clear hbv b2' HD1 HB1 HWr
  go_wp2_with fail
  refine (HTU.out _ _ HAT.out).mono ?_
  rintro e w3 ⟨cv, rfl, hcv, b3'⟩
  have HB3 := Lib.hid (HB2.out.trans (b3'.mono HB2.out.size))
  have HC3 := Lib.hid (show BytesAt w3 w3.heap.size cv C from hcv)
  obtain ⟨Ac, cc, rfl, hcc1, -, hcc3, -⟩ := hcv
  rw [List.length_map] at HC3 hcc1 ⊢
  clear b3' HTU HAT HB2
  go_wp2_with fail
  refine (HRA.out _ HB3.out _ _ HC3.out hCl).mono ?_
  rintro e w4 ⟨b4', hres⟩
  have HB4 := Lib.hid (HB3.out.trans (b4'.mono HB3.out.size))
  have HC4 := Lib.hid ((HC3.out.below b4').more b4'.size)
  clear b4' HB3 HC3 HRA
  rcases hres with ⟨q, hq, rfl⟩ | ⟨⟨xp, xk, xt, ⟨m1, m2, m3, m4, m5, m6, m7⟩, xd⟩, A1, c1, n, hxok, hn, hmn, hdx, rfl⟩
  · have hq1 : (q == 0) = false := beq_eq_false_iff_ne.2 hq
    have hq2 : (q != 0) = true := by simp [hq]
    clear hq HWA
    unfold entNone
    obtain ⟨W4, hW4⟩ : ∃ W4, W4 = w4.alloc (.cells #[(.string ⟨#[]⟩), (.int .i64 0), (.string ⟨#[]⟩), (.int .i64 0), (.int .i64 0), (.int .i64 0), (.string ⟨#[]⟩), (.string ⟨#[]⟩), (.int .i64 0), (.int .i64 0), (.slice none 0 0)] 58) := ⟨_, rfl⟩
    obtain ⟨g8, hg8⟩ : ∃ g8, g8 = w4.heap.size := ⟨_, rfl⟩
    have hk4 : Blk W4 g8 58 #[(.string ⟨#[]⟩), (.int .i64 0), (.string ⟨#[]⟩), (.int .i64 0), (.int .i64 0), (.int .i64 0), (.string ⟨#[]⟩), (.string ⟨#[]⟩), (.int .i64 0), (.int .i64 0), (.slice none 0 0)] := by rw [hW4, hg8]; exact Blk.new _ _ _
    have hb4 : Below w4.heap.size w4 W4 := by rw [hW4]; exact (Below.refl _ _).alloc (Nat.le_refl _) _
    have HB5 := Lib.hid (HB4.out.trans (hb4.mono HB4.out.size))
    have HK4 := Lib.hid hk4
    clear hb4 hk4 HB4 HC4
    go_upto_region 4 with fail
    rw [← hW4, ← hg8]
    clear hW4 hg8
    go_wp2_with fail
    refine (HWn.out _ HB5.out).mono ?_
    rintro e w5 ⟨rfl, b5'⟩
    have HB6 := Lib.hid (HB5.out.trans (b5'.mono HB5.out.size))
    have hk5 := HK4.out.below b5' HK4.out.lt
    have HS5 := Lib.hid (HSE.out w5)
    unfold entC entZ at HS5
    rw [show bs [] = ⟨#[]⟩ from rfl] at HS5
    clear b5' HB5 HK4 HWn HSE
    have p0 : w5.cell? ⟨g8, 0, none⟩ = some (.string ⟨#[]⟩) := hk5.cell 0
    have p1 : w5.cell? ⟨g8, 1, none⟩ = some (.int .i64 0) := hk5.cell 1
    have p2 : w5.cell? ⟨g8, 2, none⟩ = some (.string ⟨#[]⟩) := hk5.cell 2
    have p3 : w5.cell? ⟨g8, 3, none⟩ = some (.int .i64 0) := hk5.cell 3
    have p4 : w5.cell? ⟨g8, 4, none⟩ = some (.int .i64 0) := hk5.cell 4
    have p5 : w5.cell? ⟨g8, 5, none⟩ = some (.int .i64 0) := hk5.cell 5
    have p6 : w5.cell? ⟨g8, 6, none⟩ = some (.string ⟨#[]⟩) := hk5.cell 6
    have p7 : w5.cell? ⟨g8, 7, none⟩ = some (.string ⟨#[]⟩) := hk5.cell 7
    have p8 : w5.cell? ⟨g8, 8, none⟩ = some (.int .i64 0) := hk5.cell 8
    have p9 : w5.cell? ⟨g8, 9, none⟩ = some (.int .i64 0) := hk5.cell 9
    have p10 : w5.cell? ⟨g8, 10, none⟩ = some (.slice none 0 0) := hk5.cell 10
    clear hk5
    go_wp2_with fail
    refine HS5.out.mono ?_
    rintro e w6 ⟨rfl, b6'⟩
    have HB7 := Lib.hid (HB6.out.trans (b6'.mono HB6.out.size))
    clear b6' HS5
    go_wp2_with fail
    go_ret
    exact ⟨rfl, HB7.out⟩
  · unfold entC
    simp only at hdx ⊢
    obtain ⟨W4, hW4⟩ : ∃ W4, W4 = w4.alloc (.cells #[(.string (bs xp)), (.int .i64 xk), (.string (bs xt)), (.int .i64 m1), (.int .i64 m2), (.int .i64 m3), (.string (bs m4)), (.string (bs m5)), (.int .i64 m6), (.int .i64 m7), (.slice A1 xd.length c1)] 58) := ⟨_, rfl⟩
    obtain ⟨g8, hg8⟩ : ∃ g8, g8 = w4.heap.size := ⟨_, rfl⟩
    have hk4 : Blk W4 g8 58 #[(.string (bs xp)), (.int .i64 xk), (.string (bs xt)), (.int .i64 m1), (.int .i64 m2), (.int .i64 m3), (.string (bs m4)), (.string (bs m5)), (.int .i64 m6), (.int .i64 m7), (.slice A1 xd.length c1)] := by rw [hW4, hg8]; exact Blk.new _ _ _
    have hb4 : Below w4.heap.size w4 W4 := by rw [hW4]; exact (Below.refl _ _).alloc (Nat.le_refl _) _
    have HB5 := Lib.hid (HB4.out.trans (hb4.mono HB4.out.size))
    have HK4 := Lib.hid hk4
    have HD4 := Lib.hid (hdx.below hb4)
    have HC5 := Lib.hid ((HC4.out.below (hb4.mono (Nat.le_refl _))).more hb4.size)
    have HWX := Lib.hid (fun W hb hd => HWA.out W hb ⟨xp, xk, xt, ⟨m1, m2, m3, m4, m5, m6, m7⟩, xd⟩ hxok A1 c1 hd)
    have HMN := Lib.hid hmn
    have HPO := Lib.hid (memB_pos hxok)
    have HLN : Hid ((memB ⟨xp, xk, xt, ⟨m1, m2, m3, m4, m5, m6, m7⟩, xd⟩).length = n) := Lib.hid (by rw [hmn, List.length_take]; omega)
    unfold entC at HWX
    simp only at HWX
    clear hb4 hk4 HB4 HC4 hdx hxok hmn HWA HSE
    go_upto_region 4 with fail
    rw [← hW4, ← hg8]
    clear hW4 hg8
    go_wp2_with fail
    refine (HWn.out _ HB5.out).mono ?_
    rintro e w5 ⟨rfl, b5'⟩
    have HB6 := Lib.hid (HB5.out.trans (b5'.mono HB5.out.size))
    have hk5 := HK4.out.below b5' HK4.out.lt
    have HD5 := Lib.hid (HD4.out.below b5')
    have HC6 := Lib.hid ((HC5.out.below b5').more b5'.size)
    clear b5' HB5 HK4 HWn HD4 HC5
    have p0 : w5.cell? ⟨g8, 0, none⟩ = some (.string (bs xp)) := hk5.cell 0
    have p1 : w5.cell? ⟨g8, 1, none⟩ = some (.int .i64 xk) := hk5.cell 1
    have p2 : w5.cell? ⟨g8, 2, none⟩ = some (.string (bs xt)) := hk5.cell 2
    have p3 : w5.cell? ⟨g8, 3, none⟩ = some (.int .i64 m1) := hk5.cell 3
    have p4 : w5.cell? ⟨g8, 4, none⟩ = some (.int .i64 m2) := hk5.cell 4
    have p5 : w5.cell? ⟨g8, 5, none⟩ = some (.int .i64 m3) := hk5.cell 5
    have p6 : w5.cell? ⟨g8, 6, none⟩ = some (.string (bs m4)) := hk5.cell 6
    have p7 : w5.cell? ⟨g8, 7, none⟩ = some (.string (bs m5)) := hk5.cell 7
    have p8 : w5.cell? ⟨g8, 8, none⟩ = some (.int .i64 m6) := hk5.cell 8
    have p9 : w5.cell? ⟨g8, 9, none⟩ = some (.int .i64 m7) := hk5.cell 9
    have p10 : w5.cell? ⟨g8, 10, none⟩ = some (.slice A1 xd.length c1) := hk5.cell 10
    clear hk5
    go_wp2_with fail
    refine (HWX.out _ HB6.out HD5.out.bytes).mono ?_
    rintro e w6 ⟨dv, rfl, hdv, b6'⟩
    have HB7 := Lib.hid (HB6.out.trans (b6'.mono HB6.out.size))
    have HDV := Lib.hid hdv.at_
    obtain ⟨Ad, cd, rfl, -⟩ := hdv.at_
    have HC7 := Lib.hid ((HC6.out.below b6').more b6'.size)
    rw [HLN.out] at HPO
    rw [List.length_map, HLN.out] at HDV ⊢
    obtain ⟨ad, rfl⟩ : ∃ ad, Ac = some ad := by
      cases Ac with
      | some ad => exact ⟨ad, rfl⟩
      | none =>
        exfalso
        have h0 := hcc3 rfl
        have h1 := HPO.out
        omega
    rw [HMN.out] at HDV
    have HCF := Lib.hid (fun W (hb : Below w6.heap.size w6 W) => conv_str (BytesAt.front (HC7.out.below hb) n hn))
    have HCM := Lib.hid (fun W (hb : Below w6.heap.size w6 W) => conv_str (HDV.out.below hb))
    clear HDV HC7 hdv b6' HB6 HC6 HD5 HWX HMN p0 p1 p2 p3 p4 p5 p6 p7 p8 p9 p10
    generalize bs (C.take n) = MM at *
    go_upto_region 9 with fail
    refine wp_region_G (S := fun W => Below w6.heap.size w6 W) (by kernel_rfl) (Below.refl _ _).drew ?_
    refine wpG_take (i := 0) (v := ?vf1) rfl (by kernel_rfl) (by kernel_rfl) (by kernel_rfl) (fun _ _ _ h => h) (Or.inl ⟨by rfl, ?hyf1⟩) ?restf1
    case hyf1 => (intro W hSw; left; (try dsimp only at hSw); go_simp; try with_reducible rfl)
    simp only [Act.put, List.setIfInBounds_toArray, List.set_cons_zero, List.set_cons_succ, List.getElem_toArray, List.getElem_cons_zero, List.getElem_cons_succ]
    refine wpG_take (i := 1) (v := ?vf2) rfl (by kernel_rfl) (by kernel_rfl) (by kernel_rfl) (fun _ _ _ h => h) (Or.inl ⟨by rfl, ?hyf2⟩) ?restf2
    case hyf2 => (intro W hSw; left; (try dsimp only at hSw); go_simp; try with_reducible rfl)
    simp only [Act.put, List.setIfInBounds_toArray, List.set_cons_zero, List.set_cons_succ, List.getElem_toArray, List.getElem_cons_zero, List.getElem_cons_succ]
    refine wpG_take (i := 2) (v := ?vf3) rfl (by kernel_rfl) (by kernel_rfl) (by kernel_rfl) (fun _ _ _ h => h) (Or.inl ⟨by rfl, ?hyf3⟩) ?restf3
    case hyf3 => (intro W hSw; left; (try dsimp only at hSw); go_simp; try with_reducible rfl)
    simp only [Act.put, List.setIfInBounds_toArray, List.set_cons_zero, List.set_cons_succ, List.getElem_toArray, List.getElem_cons_zero, List.getElem_cons_succ]
    refine wpG_take (i := 3) (v := ?vf4) rfl (by kernel_rfl) (by kernel_rfl) (by kernel_rfl) (fun _ _ _ h => h) (Or.inl ⟨by rfl, ?hyf4⟩) ?restf4
    case hyf4 => (intro W hSw; left; (try dsimp only at hSw); go_simp; try with_reducible rfl)
    simp only [Act.put, List.setIfInBounds_toArray, List.set_cons_zero, List.set_cons_succ, List.getElem_toArray, List.getElem_cons_zero, List.getElem_cons_succ]
    refine wpG_take (i := 4) (v := ?vf5) rfl (by kernel_rfl) (by kernel_rfl) (by kernel_rfl) (fun _ _ _ h => h) (Or.inl ⟨by rfl, ?hyf5⟩) ?restf5
    case hyf5 => (intro W hSw; left; (try dsimp only at hSw); go_simp; try with_reducible rfl)
    simp only [Act.put, List.setIfInBounds_toArray, List.set_cons_zero, List.set_cons_succ, List.getElem_toArray, List.getElem_cons_zero, List.getElem_cons_succ]
    refine wpG_take (i := 5) (v := ?vf6) rfl (by kernel_rfl) (by kernel_rfl) (by kernel_rfl) (fun _ _ _ h => h) (Or.inl ⟨by rfl, ?hyf6⟩) ?restf6
    case hyf6 => (intro W hSw; left; (try dsimp only at hSw); go_simp; try with_reducible rfl)
    simp only [Act.put, List.setIfInBounds_toArray, List.set_cons_zero, List.set_cons_succ, List.getElem_toArray, List.getElem_cons_zero, List.getElem_cons_succ]
    refine wpG_take (i := 6) (v := .bool true) rfl (by kernel_rfl) (by kernel_rfl) (by kernel_rfl) (fun _ _ _ h => h) (Or.inl ⟨by rfl, ?hyf7⟩) ?restf7
    case hyf7 => (intro W hSw; left; (try dsimp only at hSw); go_simp; try with_reducible rfl)
    simp only [Act.put, List.setIfInBounds_toArray, List.set_cons_zero, List.set_cons_succ, List.getElem_toArray, List.getElem_cons_zero, List.getElem_cons_succ]
    refine wpG_take (i := 7) (v := .bool true) rfl (by kernel_rfl) (by kernel_rfl) (by kernel_rfl) (fun _ _ _ h => h) (Or.inl ⟨by rfl, ?hyf8⟩) ?restf8
    case hyf8 => (intro W hSw; left; (try dsimp only at hSw); go_simp; try with_reducible rfl)
    simp only [Act.put, List.setIfInBounds_toArray, List.set_cons_zero, List.set_cons_succ, List.getElem_toArray, List.getElem_cons_zero, List.getElem_cons_succ]
    refine wpG_take (i := 8) (v := ?vf9) rfl (by kernel_rfl) (by kernel_rfl) (by kernel_rfl) (fun _ _ _ h => h) (Or.inl ⟨by rfl, ?hyf9⟩) ?restf9
    case hyf9 => (intro W hSw; left; (try dsimp only at hSw); go_simp; try with_reducible rfl)
    simp only [Act.put, List.setIfInBounds_toArray, List.set_cons_zero, List.set_cons_succ, List.getElem_toArray, List.getElem_cons_zero, List.getElem_cons_succ]
    refine wpG_take (i := 9) (v := ?vf10) rfl (by kernel_rfl) (by kernel_rfl) (by kernel_rfl) (fun _ _ _ h => h) (Or.inl ⟨by rfl, ?hyf10⟩) ?restf10
    case hyf10 => (intro W hSw; left; (try dsimp only at hSw); go_simp; try with_reducible rfl)
    simp only [Act.put, List.setIfInBounds_toArray, List.set_cons_zero, List.set_cons_succ, List.getElem_toArray, List.getElem_cons_zero, List.getElem_cons_succ]
    refine wpG_take (i := 10) (v := ?vf11) rfl (by kernel_rfl) (by kernel_rfl) (by kernel_rfl) (fun _ _ _ h => h) (Or.inl ⟨by rfl, ?hyf11⟩) ?restf11
    case hyf11 => (intro W hSw; left; (try dsimp only at hSw); have hcA := HCM.out _ hSw; go_simp; try with_reducible rfl)
    simp only [Act.put, List.setIfInBounds_toArray, List.set_cons_zero, List.set_cons_succ, List.getElem_toArray, List.getElem_cons_zero, List.getElem_cons_succ]
    refine wpG_take (i := 11) (v := ?vf12) rfl (by kernel_rfl) (by kernel_rfl) (by kernel_rfl) (fun _ _ _ h => h) (Or.inl ⟨by rfl, ?hyf12⟩) ?restf12
    case hyf12 => (intro W hSw; left; (try dsimp only at hSw); go_simp; try with_reducible rfl)
    simp only [Act.put, List.setIfInBounds_toArray, List.set_cons_zero, List.set_cons_succ, List.getElem_toArray, List.getElem_cons_zero, List.getElem_cons_succ]
    refine wpG_take (i := 12) (v := ?vf13) rfl (by kernel_rfl) (by kernel_rfl) (by kernel_rfl) (fun _ _ _ h => h) (Or.inl ⟨by rfl, ?hyf13⟩) ?restf13
    case hyf13 => (intro W hSw; left; (try dsimp only at hSw); go_simp; try with_reducible rfl)
    simp only [Act.put, List.setIfInBounds_toArray, List.set_cons_zero, List.set_cons_succ, List.getElem_toArray, List.getElem_cons_zero, List.getElem_cons_succ]
    refine wpG_take (i := 13) (v := ?vf14) rfl (by kernel_rfl) (by kernel_rfl) (by kernel_rfl) (fun _ _ _ h => h) (Or.inl ⟨by rfl, ?hyf14⟩) ?restf14
    case hyf14 => (intro W hSw; left; (try dsimp only at hSw); have hnc : n ≤ cc := Nat.le_trans hn hcc1; go_simp; try with_reducible rfl)
    simp only [Act.put, List.setIfInBounds_toArray, List.set_cons_zero, List.set_cons_succ, List.getElem_toArray, List.getElem_cons_zero, List.getElem_cons_succ]
    refine wpG_take (i := 14) (v := ?vf15) rfl (by kernel_rfl) (by kernel_rfl) (by kernel_rfl) (fun _ _ _ h => h) (Or.inl ⟨by rfl, ?hyf15⟩) ?restf15
    case hyf15 => (intro W hSw; left; (try dsimp only at hSw); have hcF := HCF.out _ hSw; go_simp; try with_reducible rfl)
    simp only [Act.put, List.setIfInBounds_toArray, List.set_cons_zero, List.set_cons_succ, List.getElem_toArray, List.getElem_cons_zero, List.getElem_cons_succ]
    refine wpG_take (i := 15) (v := .bool true) rfl (by kernel_rfl) (by kernel_rfl) (by kernel_rfl) (fun _ _ _ h => h) (Or.inl ⟨by rfl, ?hyf16⟩) ?restf16
    case hyf16 => (intro W hSw; left; (try dsimp only at hSw); go_simp; try with_reducible rfl)
    simp only [Act.put, List.setIfInBounds_toArray, List.set_cons_zero, List.set_cons_succ, List.getElem_toArray, List.getElem_cons_zero, List.getElem_cons_succ]
    refine wpG_take (i := 16) (v := .bool true) rfl (by kernel_rfl) (by kernel_rfl) (by kernel_rfl) (fun _ _ _ h => h) (Or.inl ⟨by rfl, ?hyf17⟩) ?restf17
    case hyf17 => (intro W hSw; left; (try dsimp only at hSw); go_simp; try with_reducible rfl)
    simp only [Act.put, List.setIfInBounds_toArray, List.set_cons_zero, List.set_cons_succ, List.getElem_toArray, List.getElem_cons_zero, List.getElem_cons_succ]
    refine wpG_take (i := 17) (v := ?vf18) rfl (by kernel_rfl) (by kernel_rfl) (by kernel_rfl) (fun _ _ _ h => h) (Or.inl ⟨by rfl, ?hyf18⟩) ?restf18
    case hyf18 => (intro W hSw; left; (try dsimp only at hSw); go_simp; try with_reducible rfl)
    simp only [Act.put, List.setIfInBounds_toArray, List.set_cons_zero, List.set_cons_succ, List.getElem_toArray, List.getElem_cons_zero, List.getElem_cons_succ]
    refine wpG_done (by kernel_rfl) (fun w8 hb hS => ?_) _
    have HB8 := Lib.hid (HB7.out.trans (hS.mono HB7.out.size))
    clear hb hS HCF HCM
    go_wp2_with fail
    go_ret
    exact ⟨rfl, HB8.out⟩
end Go.Proofs.YtphmhmdcaafmdaaGreatDoor
