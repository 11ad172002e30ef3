/-
  list.Line over entries that may be: how it begins, and how it ends. Condition: the library's table of powers of ten lies as Go laid it.
-/
import Derived.Test.YtmioinfhggbfkaaDoorLineC
import Derived.Test.YtmioinfhggbfkaaDoorMapsT
import Derived.Deep.RegionHeld3
import Derived.IntWalk
import Derived.Deep.DeepCutAuto
namespace Go.Proofs.YtmioinfhggbfkaaDoor
set_option linter.all false
open Go.RowKit

theorem line_bytes (c : UInt8) (M a1 a2 a3 a4 a5 a6 a7 a8 P : List UInt8) : bs [c] ++ bs M ++ bs [32] ++ bs a1 ++ bs [47] ++ bs a2 ++ bs [32] ++ bs a3 ++ bs [32] ++ bs a4 ++ bs [45] ++ bs a5 ++ bs [45] ++ bs a6 ++ bs [32] ++ bs a7 ++ bs [58] ++ bs a8 ++ bs [32] ++ bs P = bs (c :: M ++ (32 :: (a1 ++ (47 :: (a2 ++ (32 :: (a3 ++ (32 :: (a4 ++ (45 :: (a5 ++ (45 :: (a6 ++ (32 :: (a7 ++ (58 :: a8))))))))))))))) ++ 32 :: P) := by
  simp only [bs_append]
  exact congrArg bs (by simp only [List.cons_append, List.append_assoc, List.nil_append])

def kc (k : Nat) : UInt8 := [63, 45, 100, 108, 104].getD k 0
def endL (x : EntP) : List UInt8 := 32 :: x.path ++ (if x.kind = 3 then [32, 45, 62, 32] ++ x.target else if x.kind = 4 then [32, 108, 105, 110, 107, 32, 116, 111, 32] ++ x.target else [])
def LSt (w0 : World) (G : Nat) (cs : Array Value) (w : World) : Prop := Blk w G 28 cs ∧ Below w0.heap.size w0 w ∧ P10 w
theorem LSt.below {w0 w w' : World} {G : Nat} {cs : Array Value} (h : LSt w0 G cs w) (hb : Below w.heap.size w w') : LSt w0 G cs w' := ⟨h.1.below hb h.1.lt, h.2.1.trans (hb.mono h.2.1.size), h.2.2.below hb⟩
abbrev SLt (w0 : World) (G : Nat) (cs : Array Value) (P : ByteArray) (k : Nat) (ud gd : Int) (bu bg : ByteArray) (A : Option Addr) (n c : Nat) (w : World) : Prop := w.cell? ⟨G, 0, none⟩ = some (.string P) ∧ w.cell? ⟨G, 1, none⟩ = some (.int .i64 k) ∧ w.cell? ⟨G, 4, none⟩ = some (.int .i64 ud) ∧ w.cell? ⟨G, 5, none⟩ = some (.int .i64 gd) ∧ w.cell? ⟨G, 6, none⟩ = some (.string bu) ∧ w.cell? ⟨G, 7, none⟩ = some (.string bg) ∧ w.cell? ⟨G, 10, none⟩ = some (.slice A n c) ∧ LSt w0 G cs w
set_option maxRecDepth 100000 in
set_option maxHeartbeats 4000000 in
theorem Line_ok (x : EntP) (h : EntOk x) (A : Option Addr) (c : Nat) (w : World) (hm : ML w) (hp : P10 w) :
    Calls Tryd.prog 12 #[.agg (entC x (.slice A x.data.length c)).toArray] w fun e w' => ∃ mid : List UInt8, e = .returned (.tuple #[.string (bs (kc x.kind.toNat :: textS x.mt.mode.toNat ++ mid ++ endL x)), .int .i64 0]) ∧ mid.length ≤ 1000 ∧ Below w.heap.size w w' := by
  have HR := Lib.hid (fun w hm => PRight_ok x h A c w hm)
  obtain ⟨path, kind, target, ⟨md, ud, gd, us, gr, sc, nn⟩, data⟩ := x
  obtain ⟨⟨-, p2⟩, ⟨⟨h1, h2⟩, ⟨h3, h4⟩, ⟨h5, h6⟩, ⟨h7, -⟩, ⟨h9, -⟩, ⟨h11, h12, -, -⟩⟩, hk, ⟨d1, -⟩, -, ⟨t1, -⟩⟩ := h
  simp only at p2 h1 h2 h3 h4 h5 h6 h7 h9 h11 h12 hk d1 t1
  obtain ⟨m, rfl⟩ := Int.eq_ofNat_of_zero_le h1
  obtain ⟨k, rfl⟩ := Int.eq_ofNat_of_zero_le (show 0 ≤ kind by omega)
  have HT := Lib.hid (fun w => MText_ok m (by omega) w)
  have HD := Lib.hid (fun w => Day_ok sc (by omega) (by omega) w)
  obtain ⟨⟨y1, y2⟩, m1, m2, q1, q2⟩ := dayI_bd sc h11 h12
  obtain ⟨mo, hmo⟩ := Int.eq_ofNat_of_zero_le (show 0 ≤ (dayI sc).2.1 by omega)
  obtain ⟨dy, hdy⟩ := Int.eq_ofNat_of_zero_le (show 0 ≤ (dayI sc).2.2 by omega)
  rw [hmo, hdy] at HD
  rw [hmo] at m1 m2
  rw [hdy] at q1 q2
  generalize (dayI sc).1 = yr at *
  have HWu := Lib.hid (fun w hp => who_at us ud h3 h4 w hp)
  have zWu := whoT_few us ud h7 h3 h4
  have HWg := Lib.hid (fun w hp => who_at gr gd h5 h6 w hp)
  have zWg := whoT_few gr gd h9 h5 h6
  have HId := Lib.hid (fun w hp => Itoa_at (data.length : Int) (by omega) (by omega) w hp)
  have zId := itoa_few (data.length : Int) (by omega) (by omega)
  have HIy := Lib.hid (fun w hp => Itoa_at yr (by omega) (by omega) w hp)
  have zIy := itoa_few yr (by omega) (by omega)
  have HTm := Lib.hid (fun w hp => two_at mo (by omega) w hp)
  have zTm := twoT_few mo (by omega)
  have HTd := Lib.hid (fun w hp => two_at dy (by omega) w hp)
  have zTd := twoT_few dy (by omega)
  have HML : Hid (∀ w', Below w.heap.size w w' → ML w') := Lib.hid (fun w' hb => hm.below hb)
  unfold entC at HR ⊢
  simp only at HR ⊢
  have zp := bs_size path
  have zt := bs_size target
  generalize whoT us ud = sWu at *
  generalize whoT gr gd = sWg at *
  generalize Lib.itoa (data.length : Int) = sId at *
  generalize Lib.itoa yr = sIy at *
  generalize twoT mo = sTm at *
  generalize twoT dy = sTd at *
  generalize hbu : bs us = bu at *
  generalize hbg : bs gr = bg at *
  clear hbu hbg
  obtain ⟨n, hn⟩ : ∃ n, n = data.length := ⟨_, rfl⟩
  rw [← hn] at HId d1 HR ⊢
  clear hn
  obtain ⟨G, hG⟩ : ∃ G, G = w.heap.size := ⟨_, rfl⟩
  obtain ⟨cs, hcs⟩ : ∃ cs : Array Value, cs = #[.string (bs path), .int .i64 k, .string (bs target), .int .i64 m, .int .i64 ud, .int .i64 gd, .string bu, .string bg, .int .i64 sc, .int .i64 nn, .slice A n c] := ⟨_, rfl⟩
  obtain ⟨W0, hW0⟩ : ∃ W0, W0 = w.alloc (.cells cs 28) := ⟨_, rfl⟩
  have H0 : LSt w G cs W0 := by rw [hW0, hG]; exact ⟨Blk.new w _ _, (Below.refl _ w).alloc (Nat.le_refl _) _, hp.below ((Below.refl _ w).alloc (Nat.le_refl _) _)⟩
  have HS := Lib.hid (fun (_ : Unit) => H0)
  have HK : Hid (∀ w1 w2, LSt w G cs w1 → Below w1.heap.size w1 w2 → LSt w G cs w2) := Lib.hid (fun w1 w2 h hb => h.below hb)
  have HB : Hid (∀ w1, LSt w G cs w1 → Blk w1 G 28 cs) := Lib.hid (fun w1 h => h.1)
  clear H0 hp hm
  go_enter Tryd.func12, Tryd.ntmps12
  go_upto_region 1 with fail
  rw [← hG, ← hcs, ← hW0]
  have HW0 := Lib.hid hW0
  have HG := Lib.hid hG
  clear hW0 hG
  have hB := HB.out _ (HS.out ())
  rw [hcs] at hB
  have e0 := hB.cell 0
  have z0 := hB.frozen 0
  have e1 := hB.cell 1
  have z1 := hB.frozen 1
  have e2 := hB.cell 2
  have z2 := hB.frozen 2
  have e3 := hB.cell 3
  have z3 := hB.frozen 3
  have e4 := hB.cell 4
  have z4 := hB.frozen 4
  have e5 := hB.cell 5
  have z5 := hB.frozen 5
  have e6 := hB.cell 6
  have z6 := hB.frozen 6
  have e7 := hB.cell 7
  have z7 := hB.frozen 7
  have e8 := hB.cell 8
  have z8 := hB.frozen 8
  have e9 := hB.cell 9
  have z9 := hB.frozen 9
  have e10 := hB.cell 10
  have z10 := hB.frozen 10
  simp only [List.getElem?_toArray, List.getElem?_cons_zero, List.getElem?_cons_succ] at e0 e1 e2 e3 e4 e5 e6 e7 e8 e9 e10
  go_wp2_with fail
  refine (HR.out _ (HML.out _ (HS.out ()).2.1)).mono ?_
  rintro e w1 ⟨rfl, hb1⟩
  have HS1 := Lib.hid (HK.out _ _ (HS.out ()) hb1)
  clear e0 e1 e2 e3 e4 e5 e6 e7 e8 e9 e10 z0 z1 z2 z3 z4 z5 z6 z7 z8 z9 z10 hB
  clear hb1
  have hB := HB.out _ HS1.out
  rw [hcs] at hB
  have e0 := hB.cell 0
  have z0 := hB.frozen 0
  have e1 := hB.cell 1
  have z1 := hB.frozen 1
  have e2 := hB.cell 2
  have z2 := hB.frozen 2
  have e3 := hB.cell 3
  have z3 := hB.frozen 3
  have e4 := hB.cell 4
  have z4 := hB.frozen 4
  have e5 := hB.cell 5
  have z5 := hB.frozen 5
  have e6 := hB.cell 6
  have z6 := hB.frozen 6
  have e7 := hB.cell 7
  have z7 := hB.frozen 7
  have e8 := hB.cell 8
  have z8 := hB.frozen 8
  have e9 := hB.cell 9
  have z9 := hB.frozen 9
  have e10 := hB.cell 10
  have z10 := hB.frozen 10
  simp only [List.getElem?_toArray, List.getElem?_cons_zero, List.getElem?_cons_succ] at e0 e1 e2 e3 e4 e5 e6 e7 e8 e9 e10
  go_wp2_with fail
  refine (HT.out _).mono ?_
  rintro e w2 ⟨rfl, hb1⟩
  have HS2 := Lib.hid (HK.out _ _ HS1.out hb1)
  clear e0 e1 e2 e3 e4 e5 e6 e7 e8 e9 e10 z0 z1 z2 z3 z4 z5 z6 z7 z8 z9 z10 hB
  clear hb1
  have hB := HB.out _ HS2.out
  rw [hcs] at hB
  have e0 := hB.cell 0
  have z0 := hB.frozen 0
  have e1 := hB.cell 1
  have z1 := hB.frozen 1
  have e2 := hB.cell 2
  have z2 := hB.frozen 2
  have e3 := hB.cell 3
  have z3 := hB.frozen 3
  have e4 := hB.cell 4
  have z4 := hB.frozen 4
  have e5 := hB.cell 5
  have z5 := hB.frozen 5
  have e6 := hB.cell 6
  have z6 := hB.frozen 6
  have e7 := hB.cell 7
  have z7 := hB.frozen 7
  have e8 := hB.cell 8
  have z8 := hB.frozen 8
  have e9 := hB.cell 9
  have z9 := hB.frozen 9
  have e10 := hB.cell 10
  have z10 := hB.frozen 10
  simp only [List.getElem?_toArray, List.getElem?_cons_zero, List.getElem?_cons_succ] at e0 e1 e2 e3 e4 e5 e6 e7 e8 e9 e10
  go_wp2_with fail
  refine (HD.out _).mono ?_
  rintro e w3 ⟨rfl, rfl⟩
  go_upto_if 40 with fail
  have hX : -86400 < sc.tmod 86400 ∧ sc.tmod 86400 < 86400 := by
    by_cases h0 : 0 ≤ sc
    · rw [Int.tmod_eq_emod_of_nonneg h0]; omega
    · rw [show sc = -(-sc) by omega, Int.neg_tmod, Int.tmod_eq_emod_of_nonneg (by omega)]; omega
  obtain ⟨hX1, hX2⟩ := hX
  generalize sc.tmod 86400 = X at *
  have HS3 := Lib.hid HS2.out
  clear e0 e1 e2 e3 e4 e5 e6 e7 e8 e9 e10 z0 z1 z2 z3 z4 z5 z6 z7 z8 z9 z10 hB
  go_cut [11, 41, 42] (fun s11 s41 s42 wx => (∃ L : Nat, L < 86400 ∧ s11 = .int .i64 L) ∧ wx = w2)
  case first =>
    by_cases hn : X < 0
    · obtain ⟨L, hL⟩ := Int.eq_ofNat_of_zero_le (show 0 ≤ X + 86400 by omega)
      go_wp2_with fail
      go_meet
      exact ⟨⟨L, by omega, rfl⟩, rfl⟩
    · obtain ⟨L, hL⟩ := Int.eq_ofNat_of_zero_le (show 0 ≤ X by omega)
      go_wp2_with fail
      go_meet
      exact ⟨⟨L, by omega, rfl⟩, rfl⟩
  case rest =>
    obtain ⟨⟨L, hL, rfl⟩, rfl⟩ := hcut
    clear hX1 hX2
    go_upto_region 10 with fail
    have hk1 : 1 ≤ k := by omega
    have hk2 : k ≤ 4 := by omega
    clear hk
    have HTh := Lib.hid (fun w hp => two_at (L / 3600) (by omega) w hp)
    have zTh := twoT_few (L / 3600) (by omega)
    have HTi := Lib.hid (fun w hp => two_at (L / 60 % 60) (by omega) w hp)
    have zTi := twoT_few (L / 60 % 60) (by omega)
    generalize twoT (L / 3600) = sTh at *
    generalize twoT (L / 60 % 60) = sTi at *
    rw [show ((L / 3600 : Nat) : Int) = (L : Int) / 3600 by omega] at HTh
    rw [show ((L / 60 % 60 : Nat) : Int) = ((L : Int) / 60).tmod 60 by rw [Int.tmod_eq_emod_of_nonneg (by omega)]; omega] at HTi
    have zm : (bs (textS m)).size = 9 := by rw [bs_size]; exact txt2_length m 3
    have hTx : (⟨(textS m).toArray⟩ : ByteArray) = bs (textS m) := rfl
    rw [hTx]
    clear hTx
    have yWu := bs_size sWu
    have yWg := bs_size sWg
    have yId := bs_size sId
    have yIy := bs_size sIy
    have yTm := bs_size sTm
    have yTd := bs_size sTd
    have yTh := bs_size sTh
    have yTi := bs_size sTi
    obtain ⟨PB, hPB⟩ : ∃ PB, PB = bs path := ⟨_, rfl⟩
    obtain ⟨MB, hMB⟩ : ∃ MB, MB = bs (textS m) := ⟨_, rfl⟩
    have HPB := Lib.hid hPB
    have HMB := Lib.hid hMB
    rw [← hMB] at zm ⊢
    rw [← hPB] at zp
    obtain ⟨bWu, hWu⟩ : ∃ b, b = bs sWu := ⟨_, rfl⟩
    rw [← hWu] at HWu yWu
    have BWu := Lib.hid hWu
    clear hWu
    obtain ⟨bWg, hWg⟩ : ∃ b, b = bs sWg := ⟨_, rfl⟩
    rw [← hWg] at HWg yWg
    have BWg := Lib.hid hWg
    clear hWg
    obtain ⟨bId, hId⟩ : ∃ b, b = bs sId := ⟨_, rfl⟩
    rw [← hId] at HId yId
    have BId := Lib.hid hId
    clear hId
    obtain ⟨bIy, hIy⟩ : ∃ b, b = bs sIy := ⟨_, rfl⟩
    rw [← hIy] at HIy yIy
    have BIy := Lib.hid hIy
    clear hIy
    obtain ⟨bTm, hTm⟩ : ∃ b, b = bs sTm := ⟨_, rfl⟩
    rw [← hTm] at HTm yTm
    have BTm := Lib.hid hTm
    clear hTm
    obtain ⟨bTd, hTd⟩ : ∃ b, b = bs sTd := ⟨_, rfl⟩
    rw [← hTd] at HTd yTd
    have BTd := Lib.hid hTd
    clear hTd
    obtain ⟨bTh, hTh⟩ : ∃ b, b = bs sTh := ⟨_, rfl⟩
    rw [← hTh] at HTh yTh
    have BTh := Lib.hid hTh
    clear hTh
    obtain ⟨bTi, hTi⟩ : ∃ b, b = bs sTi := ⟨_, rfl⟩
    rw [← hTi] at HTi yTi
    have BTi := Lib.hid hTi
    clear hTi
    clear hPB hMB HR HT HD HML
    have HC0 : Hid (∀ W, LSt w G cs W → W.cell? ⟨G, 0, none⟩ = some (.string PB)) := Lib.hid (fun W h => by have hB := h.1; rw [hcs] at hB; rw [HPB.out]; exact hB.cell 0)
    have HC1 : Hid (∀ W, LSt w G cs W → W.cell? ⟨G, 1, none⟩ = some (.int .i64 k)) := Lib.hid (fun W h => by have hB := h.1; rw [hcs] at hB; exact hB.cell 1)
    have HC2 : Hid (∀ W, LSt w G cs W → W.cell? ⟨G, 2, none⟩ = some (.string (bs target))) := Lib.hid (fun W h => by have hB := h.1; rw [hcs] at hB; exact hB.cell 2)
    have HC4 : Hid (∀ W, LSt w G cs W → W.cell? ⟨G, 4, none⟩ = some (.int .i64 ud)) := Lib.hid (fun W h => by have hB := h.1; rw [hcs] at hB; exact hB.cell 4)
    have HC5 : Hid (∀ W, LSt w G cs W → W.cell? ⟨G, 5, none⟩ = some (.int .i64 gd)) := Lib.hid (fun W h => by have hB := h.1; rw [hcs] at hB; exact hB.cell 5)
    have HC6 : Hid (∀ W, LSt w G cs W → W.cell? ⟨G, 6, none⟩ = some (.string bu)) := Lib.hid (fun W h => by have hB := h.1; rw [hcs] at hB; exact hB.cell 6)
    have HC7 : Hid (∀ W, LSt w G cs W → W.cell? ⟨G, 7, none⟩ = some (.string bg)) := Lib.hid (fun W h => by have hB := h.1; rw [hcs] at hB; exact hB.cell 7)
    have HC10 : Hid (∀ W, LSt w G cs W → W.cell? ⟨G, 10, none⟩ = some (.slice A n c)) := Lib.hid (fun W h => by have hB := h.1; rw [hcs] at hB; exact hB.cell 10)
    have HP10 : Hid (∀ W, LSt w G cs W → P10 W) := Lib.hid (fun W h => h.2.2)
    have HKK : Hid (∀ W W', LSt w G cs W → Below W.heap.size W W' → LSt w G cs W') := Lib.hid (fun W W' h hb => h.below hb)
    have hs1 : IntKind.i64.wrap ((k : Int) + 1) = (k : Int) + 1 := IntWalk.i64_in _ ⟨by omega, by omega⟩
    have hs2 : 0 ≤ (k : Int) + 1 := by omega
    have hs3 : ((k : Int) + 1).toNat = k + 1 := by omega
    have hs4 : (0 : Int) ≤ (k : Int) := by omega
    have hw1 : IntKind.i64.wrap ((L : Int) / 3600) = (L : Int) / 3600 := IntWalk.i64_in _ ⟨by omega, by omega⟩
    have hw2 : IntKind.i64.wrap ((L : Int) / 60) = (L : Int) / 60 := IntWalk.i64_in _ ⟨by omega, by omega⟩
    have hs6 : (k : Int) ≤ (k : Int) + 1 := by omega
    have hs5 : (k : Int) + 1 ≤ 5 := by omega
    clear hcs HB HK HS HS1 HS2
    try simp only [List.append]
    obtain ⟨BB, hBB⟩ : ∃ BB : ByteArray, BB = ((((((((((((((((((((⟨#[63, 45, 100, 108, 104]⟩ : ByteArray).extract k (k + 1) ++ MB) ++ ⟨#[32]⟩) ++ bWu) ++ ⟨#[47]⟩) ++ bWg) ++ ⟨#[32]⟩) ++ bId) ++ ⟨#[32]⟩) ++ bIy) ++ ⟨#[45]⟩) ++ bTm) ++ ⟨#[45]⟩) ++ bTd) ++ ⟨#[32]⟩) ++ bTh) ++ ⟨#[58]⟩) ++ bTi) ++ ⟨#[32]⟩) ++ PB) := ⟨_, rfl⟩
    have HBB := Lib.hid hBB
    clear hBB
    go_cut [13] from 43 to 104 (fun s13 wx => s13 = .string BB ∧ Hid (LSt w G cs wx))
    case first =>
--[reg
      refine wp_region_G (S := LSt w G cs) (by kernel_rfl) (HKK.out _ _ HS3.out (Below.refl _ _).drew) ?_
      refine wpG_take (i := 0) (v := ?vl1) rfl (by kernel_rfl) (by kernel_rfl) (by kernel_rfl) (fun _ _ _ h => h) (Or.inl ⟨by rfl, ?hyl1⟩) ?restl1
      case hyl1 => (intro W hSw; left; (try dsimp only at hSw); go_simp; try (first | with_reducible rfl | (refine (if_neg (by omega)).trans ?_; with_reducible rfl)))
      simp only [Act.put, List.setIfInBounds_toArray, List.set_cons_zero, List.set_cons_succ, List.getElem_toArray, List.getElem_cons_zero, List.getElem_cons_succ]
      refine wpG_take (i := 1) (v := ?vl2) rfl (by kernel_rfl) (by kernel_rfl) (by kernel_rfl) (fun _ _ _ h => h) (Or.inl ⟨by rfl, ?hyl2⟩) ?restl2
      case hyl2 => (intro W hSw; left; (try dsimp only at hSw); have cf1 := HC1.out _ hSw; go_simp; try (first | with_reducible rfl | (refine (if_neg (by omega)).trans ?_; with_reducible rfl)))
      simp only [Act.put, List.setIfInBounds_toArray, List.set_cons_zero, List.set_cons_succ, List.getElem_toArray, List.getElem_cons_zero, List.getElem_cons_succ]
      refine wpG_take (i := 2) (v := ?vl3) rfl (by kernel_rfl) (by kernel_rfl) (by kernel_rfl) (fun _ _ _ h => h) (Or.inl ⟨by rfl, ?hyl3⟩) ?restl3
      case hyl3 => (intro W hSw; left; (try dsimp only at hSw); go_simp; try (first | with_reducible rfl | (refine (if_neg (by omega)).trans ?_; with_reducible rfl)))
      simp only [Act.put, List.setIfInBounds_toArray, List.set_cons_zero, List.set_cons_succ, List.getElem_toArray, List.getElem_cons_zero, List.getElem_cons_succ]
      refine wpG_take (i := 3) (v := ?vl4) rfl (by kernel_rfl) (by kernel_rfl) (by kernel_rfl) (fun _ _ _ h => h) (Or.inl ⟨by rfl, ?hyl4⟩) ?restl4
      case hyl4 => (intro W hSw; left; (try dsimp only at hSw); have cf1 := HC1.out _ hSw; go_simp; try (first | with_reducible rfl | (refine (if_neg (by omega)).trans ?_; with_reducible rfl)))
      simp only [Act.put, List.setIfInBounds_toArray, List.set_cons_zero, List.set_cons_succ, List.getElem_toArray, List.getElem_cons_zero, List.getElem_cons_succ]
      refine wpG_take (i := 4) (v := ?vl5) rfl (by kernel_rfl) (by kernel_rfl) (by kernel_rfl) (fun _ _ _ h => h) (Or.inl ⟨by rfl, ?hyl5⟩) ?restl5
      case hyl5 => (intro W hSw; left; (try dsimp only at hSw); go_simp; try (first | with_reducible rfl | (refine (if_neg (by omega)).trans ?_; with_reducible rfl)))
      simp only [Act.put, List.setIfInBounds_toArray, List.set_cons_zero, List.set_cons_succ, List.getElem_toArray, List.getElem_cons_zero, List.getElem_cons_succ]
      refine wpG_take (i := 5) (v := ?vl6) rfl (by kernel_rfl) (by kernel_rfl) (by kernel_rfl) (fun _ _ _ h => h) (Or.inl ⟨by rfl, ?hyl6⟩) ?restl6
      case hyl6 => (intro W hSw; left; (try dsimp only at hSw); go_simp; try (first | with_reducible rfl | (refine (if_neg (by omega)).trans ?_; with_reducible rfl)))
      simp only [Act.put, List.setIfInBounds_toArray, List.set_cons_zero, List.set_cons_succ, List.getElem_toArray, List.getElem_cons_zero, List.getElem_cons_succ]
      refine wpG_take (i := 6) (v := ?vl7) rfl (by kernel_rfl) (by kernel_rfl) (by kernel_rfl) (fun _ _ _ h => h) (Or.inl ⟨by rfl, ?hyl7⟩) ?restl7
      case hyl7 => (intro W hSw; left; (try dsimp only at hSw); go_simp; try (first | with_reducible rfl | (refine (if_neg (by omega)).trans ?_; with_reducible rfl)))
      simp only [Act.put, List.setIfInBounds_toArray, List.set_cons_zero, List.set_cons_succ, List.getElem_toArray, List.getElem_cons_zero, List.getElem_cons_succ]
      refine wpG_take (i := 7) (v := ?vl8) rfl (by kernel_rfl) (by kernel_rfl) (by kernel_rfl) (fun _ _ _ h => h) (Or.inl ⟨by rfl, ?hyl8⟩) ?restl8
      case hyl8 => (intro W hSw; left; (try dsimp only at hSw); go_simp; try (first | with_reducible rfl | (refine (if_neg (by omega)).trans ?_; with_reducible rfl)))
      simp only [Act.put, List.setIfInBounds_toArray, List.set_cons_zero, List.set_cons_succ, List.getElem_toArray, List.getElem_cons_zero, List.getElem_cons_succ]
      refine wpG_take (i := 8) (v := ?vl9) rfl (by kernel_rfl) (by kernel_rfl) (by kernel_rfl) (fun _ _ _ h => h) (Or.inl ⟨by rfl, ?hyl9⟩) ?restl9
      case hyl9 => (intro W hSw; left; (try dsimp only at hSw); go_simp; try (first | with_reducible rfl | (refine (if_neg (by omega)).trans ?_; with_reducible rfl)))
      simp only [Act.put, List.setIfInBounds_toArray, List.set_cons_zero, List.set_cons_succ, List.getElem_toArray, List.getElem_cons_zero, List.getElem_cons_succ]
      refine wpG_take (i := 9) (v := ?vl10) rfl (by kernel_rfl) (by kernel_rfl) (by kernel_rfl) (fun _ _ _ h => h) (Or.inl ⟨by rfl, ?hyl10⟩) ?restl10
      case hyl10 => (intro W hSw; left; (try dsimp only at hSw); go_simp; try (first | with_reducible rfl | (refine (if_neg (by omega)).trans ?_; with_reducible rfl)))
      simp only [Act.put, List.setIfInBounds_toArray, List.set_cons_zero, List.set_cons_succ, List.getElem_toArray, List.getElem_cons_zero, List.getElem_cons_succ]
      refine wpG_take (i := 10) (v := ?vl11) rfl (by kernel_rfl) (by kernel_rfl) (by kernel_rfl) (fun _ _ _ h => h) (Or.inl ⟨by rfl, ?hyl11⟩) ?restl11
      case hyl11 => (intro W hSw; left; (try dsimp only at hSw); go_simp; try (first | with_reducible rfl | (refine (if_neg (by omega)).trans ?_; with_reducible rfl)))
      simp only [Act.put, List.setIfInBounds_toArray, List.set_cons_zero, List.set_cons_succ, List.getElem_toArray, List.getElem_cons_zero, List.getElem_cons_succ]
      refine wpG_take (i := 11) (v := ?vl12) rfl (by kernel_rfl) (by kernel_rfl) (by kernel_rfl) (fun _ _ _ h => h) (Or.inl ⟨by rfl, ?hyl12⟩) ?restl12
      case hyl12 => (intro W hSw; left; (try dsimp only at hSw); go_simp; try (first | with_reducible rfl | (refine (if_neg (by omega)).trans ?_; with_reducible rfl)))
      simp only [Act.put, List.setIfInBounds_toArray, List.set_cons_zero, List.set_cons_succ, List.getElem_toArray, List.getElem_cons_zero, List.getElem_cons_succ]
      refine wpG_take (i := 12) (v := ?vl13) rfl (by kernel_rfl) (by kernel_rfl) (by kernel_rfl) (fun _ _ _ h => h) (Or.inl ⟨by rfl, ?hyl13⟩) ?restl13
      case hyl13 => (intro W hSw; left; (try dsimp only at hSw); have cf6 := HC6.out _ hSw; go_simp; try (first | with_reducible rfl | (refine (if_neg (by omega)).trans ?_; with_reducible rfl)))
      simp only [Act.put, List.setIfInBounds_toArray, List.set_cons_zero, List.set_cons_succ, List.getElem_toArray, List.getElem_cons_zero, List.getElem_cons_succ]
      refine wpG_take (i := 13) (v := ?vl14) rfl (by kernel_rfl) (by kernel_rfl) (by kernel_rfl) (fun _ _ _ h => h) (Or.inl ⟨by rfl, ?hyl14⟩) ?restl14
      case hyl14 => (intro W hSw; left; (try dsimp only at hSw); go_simp; try (first | with_reducible rfl | (refine (if_neg (by omega)).trans ?_; with_reducible rfl)))
      simp only [Act.put, List.setIfInBounds_toArray, List.set_cons_zero, List.set_cons_succ, List.getElem_toArray, List.getElem_cons_zero, List.getElem_cons_succ]
      refine wpG_take (i := 14) (v := ?vl15) rfl (by kernel_rfl) (by kernel_rfl) (by kernel_rfl) (fun _ _ _ h => h) (Or.inl ⟨by rfl, ?hyl15⟩) ?restl15
      case hyl15 => (intro W hSw; left; (try dsimp only at hSw); go_simp; try (first | with_reducible rfl | (refine (if_neg (by omega)).trans ?_; with_reducible rfl)))
      simp only [Act.put, List.setIfInBounds_toArray, List.set_cons_zero, List.set_cons_succ, List.getElem_toArray, List.getElem_cons_zero, List.getElem_cons_succ]
      refine wpG_take (i := 15) (v := ?vl16) rfl (by kernel_rfl) (by kernel_rfl) (by kernel_rfl) (fun _ _ _ h => h) (Or.inl ⟨by rfl, ?hyl16⟩) ?restl16
      case hyl16 => (intro W hSw; left; (try dsimp only at hSw); have cf4 := HC4.out _ hSw; go_simp; try (first | with_reducible rfl | (refine (if_neg (by omega)).trans ?_; with_reducible rfl)))
      simp only [Act.put, List.setIfInBounds_toArray, List.set_cons_zero, List.set_cons_succ, List.getElem_toArray, List.getElem_cons_zero, List.getElem_cons_succ]
      refine wpG_take (i := 16) (v := (.string bWu)) rfl (by kernel_rfl) (by kernel_rfl) (by kernel_rfl) (fun _ _ _ h => h) (Or.inl ⟨by rfl, ?hyl17⟩) ?restl17
      case hyl17 => (intro W hSw; right; (try dsimp only at hSw); refine ⟨_, _, (by go_simp; try with_reducible rfl), (HWu.out W (HP10.out _ hSw)).mono ?_⟩; rintro e w' ⟨rfl, hb⟩; exact ⟨rfl, HKK.out _ _ hSw hb, hb⟩)
      simp only [Act.put, List.setIfInBounds_toArray, List.set_cons_zero, List.set_cons_succ, List.getElem_toArray, List.getElem_cons_zero, List.getElem_cons_succ]
      refine wpG_take (i := 17) (v := ?vl18) rfl (by kernel_rfl) (by kernel_rfl) (by kernel_rfl) (fun _ _ _ h => h) (Or.inl ⟨by rfl, ?hyl18⟩) ?restl18
      case hyl18 => (intro W hSw; left; (try dsimp only at hSw); go_simp; try (first | with_reducible rfl | (refine (if_neg (by omega)).trans ?_; with_reducible rfl)))
      simp only [Act.put, List.setIfInBounds_toArray, List.set_cons_zero, List.set_cons_succ, List.getElem_toArray, List.getElem_cons_zero, List.getElem_cons_succ]
      refine wpG_take (i := 18) (v := ?vl19) rfl (by kernel_rfl) (by kernel_rfl) (by kernel_rfl) (fun _ _ _ h => h) (Or.inl ⟨by rfl, ?hyl19⟩) ?restl19
      case hyl19 => (intro W hSw; left; (try dsimp only at hSw); go_simp; try (first | with_reducible rfl | (refine (if_neg (by omega)).trans ?_; with_reducible rfl)))
      simp only [Act.put, List.setIfInBounds_toArray, List.set_cons_zero, List.set_cons_succ, List.getElem_toArray, List.getElem_cons_zero, List.getElem_cons_succ]
      refine wpG_take (i := 19) (v := ?vl20) rfl (by kernel_rfl) (by kernel_rfl) (by kernel_rfl) (fun _ _ _ h => h) (Or.inl ⟨by rfl, ?hyl20⟩) ?restl20
      case hyl20 => (intro W hSw; left; (try dsimp only at hSw); go_simp; try (first | with_reducible rfl | (refine (if_neg (by omega)).trans ?_; with_reducible rfl)))
      simp only [Act.put, List.setIfInBounds_toArray, List.set_cons_zero, List.set_cons_succ, List.getElem_toArray, List.getElem_cons_zero, List.getElem_cons_succ]
      refine wpG_take (i := 20) (v := ?vl21) rfl (by kernel_rfl) (by kernel_rfl) (by kernel_rfl) (fun _ _ _ h => h) (Or.inl ⟨by rfl, ?hyl21⟩) ?restl21
      case hyl21 => (intro W hSw; left; (try dsimp only at hSw); go_simp; try (first | with_reducible rfl | (refine (if_neg (by omega)).trans ?_; with_reducible rfl)))
      simp only [Act.put, List.setIfInBounds_toArray, List.set_cons_zero, List.set_cons_succ, List.getElem_toArray, List.getElem_cons_zero, List.getElem_cons_succ]
      refine wpG_take (i := 21) (v := ?vl22) rfl (by kernel_rfl) (by kernel_rfl) (by kernel_rfl) (fun _ _ _ h => h) (Or.inl ⟨by rfl, ?hyl22⟩) ?restl22
      case hyl22 => (intro W hSw; left; (try dsimp only at hSw); go_simp; try (first | with_reducible rfl | (refine (if_neg (by omega)).trans ?_; with_reducible rfl)))
      simp only [Act.put, List.setIfInBounds_toArray, List.set_cons_zero, List.set_cons_succ, List.getElem_toArray, List.getElem_cons_zero, List.getElem_cons_succ]
      refine wpG_take (i := 22) (v := ?vl23) rfl (by kernel_rfl) (by kernel_rfl) (by kernel_rfl) (fun _ _ _ h => h) (Or.inl ⟨by rfl, ?hyl23⟩) ?restl23
      case hyl23 => (intro W hSw; left; (try dsimp only at hSw); have cf7 := HC7.out _ hSw; go_simp; try (first | with_reducible rfl | (refine (if_neg (by omega)).trans ?_; with_reducible rfl)))
      simp only [Act.put, List.setIfInBounds_toArray, List.set_cons_zero, List.set_cons_succ, List.getElem_toArray, List.getElem_cons_zero, List.getElem_cons_succ]
      refine wpG_take (i := 23) (v := ?vl24) rfl (by kernel_rfl) (by kernel_rfl) (by kernel_rfl) (fun _ _ _ h => h) (Or.inl ⟨by rfl, ?hyl24⟩) ?restl24
      case hyl24 => (intro W hSw; left; (try dsimp only at hSw); go_simp; try (first | with_reducible rfl | (refine (if_neg (by omega)).trans ?_; with_reducible rfl)))
      simp only [Act.put, List.setIfInBounds_toArray, List.set_cons_zero, List.set_cons_succ, List.getElem_toArray, List.getElem_cons_zero, List.getElem_cons_succ]
      refine wpG_take (i := 24) (v := ?vl25) rfl (by kernel_rfl) (by kernel_rfl) (by kernel_rfl) (fun _ _ _ h => h) (Or.inl ⟨by rfl, ?hyl25⟩) ?restl25
      case hyl25 => (intro W hSw; left; (try dsimp only at hSw); go_simp; try (first | with_reducible rfl | (refine (if_neg (by omega)).trans ?_; with_reducible rfl)))
      simp only [Act.put, List.setIfInBounds_toArray, List.set_cons_zero, List.set_cons_succ, List.getElem_toArray, List.getElem_cons_zero, List.getElem_cons_succ]
      refine wpG_take (i := 25) (v := ?vl26) rfl (by kernel_rfl) (by kernel_rfl) (by kernel_rfl) (fun _ _ _ h => h) (Or.inl ⟨by rfl, ?hyl26⟩) ?restl26
      case hyl26 => (intro W hSw; left; (try dsimp only at hSw); have cf5 := HC5.out _ hSw; go_simp; try (first | with_reducible rfl | (refine (if_neg (by omega)).trans ?_; with_reducible rfl)))
      simp only [Act.put, List.setIfInBounds_toArray, List.set_cons_zero, List.set_cons_succ, List.getElem_toArray, List.getElem_cons_zero, List.getElem_cons_succ]
      refine wpG_take (i := 26) (v := (.string bWg)) rfl (by kernel_rfl) (by kernel_rfl) (by kernel_rfl) (fun _ _ _ h => h) (Or.inl ⟨by rfl, ?hyl27⟩) ?restl27
      case hyl27 => (intro W hSw; right; (try dsimp only at hSw); refine ⟨_, _, (by go_simp; try with_reducible rfl), (HWg.out W (HP10.out _ hSw)).mono ?_⟩; rintro e w' ⟨rfl, hb⟩; exact ⟨rfl, HKK.out _ _ hSw hb, hb⟩)
      simp only [Act.put, List.setIfInBounds_toArray, List.set_cons_zero, List.set_cons_succ, List.getElem_toArray, List.getElem_cons_zero, List.getElem_cons_succ]
      refine wpG_take (i := 27) (v := ?vl28) rfl (by kernel_rfl) (by kernel_rfl) (by kernel_rfl) (fun _ _ _ h => h) (Or.inl ⟨by rfl, ?hyl28⟩) ?restl28
      case hyl28 => (intro W hSw; left; (try dsimp only at hSw); go_simp; try (first | with_reducible rfl | (refine (if_neg (by omega)).trans ?_; with_reducible rfl)))
      simp only [Act.put, List.setIfInBounds_toArray, List.set_cons_zero, List.set_cons_succ, List.getElem_toArray, List.getElem_cons_zero, List.getElem_cons_succ]
      refine wpG_take (i := 28) (v := ?vl29) rfl (by kernel_rfl) (by kernel_rfl) (by kernel_rfl) (fun _ _ _ h => h) (Or.inl ⟨by rfl, ?hyl29⟩) ?restl29
      case hyl29 => (intro W hSw; left; (try dsimp only at hSw); go_simp; try (first | with_reducible rfl | (refine (if_neg (by omega)).trans ?_; with_reducible rfl)))
      simp only [Act.put, List.setIfInBounds_toArray, List.set_cons_zero, List.set_cons_succ, List.getElem_toArray, List.getElem_cons_zero, List.getElem_cons_succ]
      refine wpG_take (i := 29) (v := ?vl30) rfl (by kernel_rfl) (by kernel_rfl) (by kernel_rfl) (fun _ _ _ h => h) (Or.inl ⟨by rfl, ?hyl30⟩) ?restl30
      case hyl30 => (intro W hSw; left; (try dsimp only at hSw); go_simp; try (first | with_reducible rfl | (refine (if_neg (by omega)).trans ?_; with_reducible rfl)))
      simp only [Act.put, List.setIfInBounds_toArray, List.set_cons_zero, List.set_cons_succ, List.getElem_toArray, List.getElem_cons_zero, List.getElem_cons_succ]
      refine wpG_take (i := 30) (v := ?vl31) rfl (by kernel_rfl) (by kernel_rfl) (by kernel_rfl) (fun _ _ _ h => h) (Or.inl ⟨by rfl, ?hyl31⟩) ?restl31
      case hyl31 => (intro W hSw; left; (try dsimp only at hSw); have cf10 := HC10.out _ hSw; go_simp; try (first | with_reducible rfl | (refine (if_neg (by omega)).trans ?_; with_reducible rfl)))
      simp only [Act.put, List.setIfInBounds_toArray, List.set_cons_zero, List.set_cons_succ, List.getElem_toArray, List.getElem_cons_zero, List.getElem_cons_succ]
      refine wpG_take (i := 31) (v := ?vl32) rfl (by kernel_rfl) (by kernel_rfl) (by kernel_rfl) (fun _ _ _ h => h) (Or.inl ⟨by rfl, ?hyl32⟩) ?restl32
      case hyl32 => (intro W hSw; left; (try dsimp only at hSw); go_simp; try (first | with_reducible rfl | (refine (if_neg (by omega)).trans ?_; with_reducible rfl)))
      simp only [Act.put, List.setIfInBounds_toArray, List.set_cons_zero, List.set_cons_succ, List.getElem_toArray, List.getElem_cons_zero, List.getElem_cons_succ]
      refine wpG_take (i := 32) (v := (.string bId)) rfl (by kernel_rfl) (by kernel_rfl) (by kernel_rfl) (fun _ _ _ h => h) (Or.inl ⟨by rfl, ?hyl33⟩) ?restl33
      case hyl33 => (intro W hSw; right; (try dsimp only at hSw); refine ⟨_, _, (by go_simp; try with_reducible rfl), (HId.out W (HP10.out _ hSw)).mono ?_⟩; rintro e w' ⟨rfl, hb⟩; exact ⟨rfl, HKK.out _ _ hSw hb, hb⟩)
      simp only [Act.put, List.setIfInBounds_toArray, List.set_cons_zero, List.set_cons_succ, List.getElem_toArray, List.getElem_cons_zero, List.getElem_cons_succ]
      refine wpG_take (i := 33) (v := ?vl34) rfl (by kernel_rfl) (by kernel_rfl) (by kernel_rfl) (fun _ _ _ h => h) (Or.inl ⟨by rfl, ?hyl34⟩) ?restl34
      case hyl34 => (intro W hSw; left; (try dsimp only at hSw); go_simp; try (first | with_reducible rfl | (refine (if_neg (by omega)).trans ?_; with_reducible rfl)))
      simp only [Act.put, List.setIfInBounds_toArray, List.set_cons_zero, List.set_cons_succ, List.getElem_toArray, List.getElem_cons_zero, List.getElem_cons_succ]
      refine wpG_take (i := 34) (v := ?vl35) rfl (by kernel_rfl) (by kernel_rfl) (by kernel_rfl) (fun _ _ _ h => h) (Or.inl ⟨by rfl, ?hyl35⟩) ?restl35
      case hyl35 => (intro W hSw; left; (try dsimp only at hSw); go_simp; try (first | with_reducible rfl | (refine (if_neg (by omega)).trans ?_; with_reducible rfl)))
      simp only [Act.put, List.setIfInBounds_toArray, List.set_cons_zero, List.set_cons_succ, List.getElem_toArray, List.getElem_cons_zero, List.getElem_cons_succ]
      refine wpG_take (i := 35) (v := ?vl36) rfl (by kernel_rfl) (by kernel_rfl) (by kernel_rfl) (fun _ _ _ h => h) (Or.inl ⟨by rfl, ?hyl36⟩) ?restl36
      case hyl36 => (intro W hSw; left; (try dsimp only at hSw); go_simp; try (first | with_reducible rfl | (refine (if_neg (by omega)).trans ?_; with_reducible rfl)))
      simp only [Act.put, List.setIfInBounds_toArray, List.set_cons_zero, List.set_cons_succ, List.getElem_toArray, List.getElem_cons_zero, List.getElem_cons_succ]
      refine wpG_take (i := 36) (v := (.string bIy)) rfl (by kernel_rfl) (by kernel_rfl) (by kernel_rfl) (fun _ _ _ h => h) (Or.inl ⟨by rfl, ?hyl37⟩) ?restl37
      case hyl37 => (intro W hSw; right; (try dsimp only at hSw); refine ⟨_, _, (by go_simp; try with_reducible rfl), (HIy.out W (HP10.out _ hSw)).mono ?_⟩; rintro e w' ⟨rfl, hb⟩; exact ⟨rfl, HKK.out _ _ hSw hb, hb⟩)
      simp only [Act.put, List.setIfInBounds_toArray, List.set_cons_zero, List.set_cons_succ, List.getElem_toArray, List.getElem_cons_zero, List.getElem_cons_succ]
      refine wpG_take (i := 37) (v := ?vl38) rfl (by kernel_rfl) (by kernel_rfl) (by kernel_rfl) (fun _ _ _ h => h) (Or.inl ⟨by rfl, ?hyl38⟩) ?restl38
      case hyl38 => (intro W hSw; left; (try dsimp only at hSw); go_simp; try (first | with_reducible rfl | (refine (if_neg (by omega)).trans ?_; with_reducible rfl)))
      simp only [Act.put, List.setIfInBounds_toArray, List.set_cons_zero, List.set_cons_succ, List.getElem_toArray, List.getElem_cons_zero, List.getElem_cons_succ]
      refine wpG_take (i := 38) (v := ?vl39) rfl (by kernel_rfl) (by kernel_rfl) (by kernel_rfl) (fun _ _ _ h => h) (Or.inl ⟨by rfl, ?hyl39⟩) ?restl39
      case hyl39 => (intro W hSw; left; (try dsimp only at hSw); go_simp; try (first | with_reducible rfl | (refine (if_neg (by omega)).trans ?_; with_reducible rfl)))
      simp only [Act.put, List.setIfInBounds_toArray, List.set_cons_zero, List.set_cons_succ, List.getElem_toArray, List.getElem_cons_zero, List.getElem_cons_succ]
      refine wpG_take (i := 39) (v := ?vl40) rfl (by kernel_rfl) (by kernel_rfl) (by kernel_rfl) (fun _ _ _ h => h) (Or.inl ⟨by rfl, ?hyl40⟩) ?restl40
      case hyl40 => (intro W hSw; left; (try dsimp only at hSw); go_simp; try (first | with_reducible rfl | (refine (if_neg (by omega)).trans ?_; with_reducible rfl)))
      simp only [Act.put, List.setIfInBounds_toArray, List.set_cons_zero, List.set_cons_succ, List.getElem_toArray, List.getElem_cons_zero, List.getElem_cons_succ]
      refine wpG_take (i := 40) (v := (.string bTm)) rfl (by kernel_rfl) (by kernel_rfl) (by kernel_rfl) (fun _ _ _ h => h) (Or.inl ⟨by rfl, ?hyl41⟩) ?restl41
      case hyl41 => (intro W hSw; right; (try dsimp only at hSw); refine ⟨_, _, (by go_simp; try with_reducible rfl), (HTm.out W (HP10.out _ hSw)).mono ?_⟩; rintro e w' ⟨rfl, hb⟩; exact ⟨rfl, HKK.out _ _ hSw hb, hb⟩)
      simp only [Act.put, List.setIfInBounds_toArray, List.set_cons_zero, List.set_cons_succ, List.getElem_toArray, List.getElem_cons_zero, List.getElem_cons_succ]
      refine wpG_take (i := 41) (v := ?vl42) rfl (by kernel_rfl) (by kernel_rfl) (by kernel_rfl) (fun _ _ _ h => h) (Or.inl ⟨by rfl, ?hyl42⟩) ?restl42
      case hyl42 => (intro W hSw; left; (try dsimp only at hSw); go_simp; try (first | with_reducible rfl | (refine (if_neg (by omega)).trans ?_; with_reducible rfl)))
      simp only [Act.put, List.setIfInBounds_toArray, List.set_cons_zero, List.set_cons_succ, List.getElem_toArray, List.getElem_cons_zero, List.getElem_cons_succ]
      refine wpG_take (i := 42) (v := ?vl43) rfl (by kernel_rfl) (by kernel_rfl) (by kernel_rfl) (fun _ _ _ h => h) (Or.inl ⟨by rfl, ?hyl43⟩) ?restl43
      case hyl43 => (intro W hSw; left; (try dsimp only at hSw); go_simp; try (first | with_reducible rfl | (refine (if_neg (by omega)).trans ?_; with_reducible rfl)))
      simp only [Act.put, List.setIfInBounds_toArray, List.set_cons_zero, List.set_cons_succ, List.getElem_toArray, List.getElem_cons_zero, List.getElem_cons_succ]
      refine wpG_take (i := 43) (v := ?vl44) rfl (by kernel_rfl) (by kernel_rfl) (by kernel_rfl) (fun _ _ _ h => h) (Or.inl ⟨by rfl, ?hyl44⟩) ?restl44
      case hyl44 => (intro W hSw; left; (try dsimp only at hSw); go_simp; try (first | with_reducible rfl | (refine (if_neg (by omega)).trans ?_; with_reducible rfl)))
      simp only [Act.put, List.setIfInBounds_toArray, List.set_cons_zero, List.set_cons_succ, List.getElem_toArray, List.getElem_cons_zero, List.getElem_cons_succ]
      refine wpG_take (i := 44) (v := (.string bTd)) rfl (by kernel_rfl) (by kernel_rfl) (by kernel_rfl) (fun _ _ _ h => h) (Or.inl ⟨by rfl, ?hyl45⟩) ?restl45
      case hyl45 => (intro W hSw; right; (try dsimp only at hSw); refine ⟨_, _, (by go_simp; try with_reducible rfl), (HTd.out W (HP10.out _ hSw)).mono ?_⟩; rintro e w' ⟨rfl, hb⟩; exact ⟨rfl, HKK.out _ _ hSw hb, hb⟩)
      simp only [Act.put, List.setIfInBounds_toArray, List.set_cons_zero, List.set_cons_succ, List.getElem_toArray, List.getElem_cons_zero, List.getElem_cons_succ]
      refine wpG_take (i := 45) (v := ?vl46) rfl (by kernel_rfl) (by kernel_rfl) (by kernel_rfl) (fun _ _ _ h => h) (Or.inl ⟨by rfl, ?hyl46⟩) ?restl46
      case hyl46 => (intro W hSw; left; (try dsimp only at hSw); go_simp; try (first | with_reducible rfl | (refine (if_neg (by omega)).trans ?_; with_reducible rfl)))
      simp only [Act.put, List.setIfInBounds_toArray, List.set_cons_zero, List.set_cons_succ, List.getElem_toArray, List.getElem_cons_zero, List.getElem_cons_succ]
      refine wpG_take (i := 46) (v := ?vl47) rfl (by kernel_rfl) (by kernel_rfl) (by kernel_rfl) (fun _ _ _ h => h) (Or.inl ⟨by rfl, ?hyl47⟩) ?restl47
      case hyl47 => (intro W hSw; left; (try dsimp only at hSw); go_simp; try (first | with_reducible rfl | (refine (if_neg (by omega)).trans ?_; with_reducible rfl)))
      simp only [Act.put, List.setIfInBounds_toArray, List.set_cons_zero, List.set_cons_succ, List.getElem_toArray, List.getElem_cons_zero, List.getElem_cons_succ]
      refine wpG_take (i := 47) (v := ?vl48) rfl (by kernel_rfl) (by kernel_rfl) (by kernel_rfl) (fun _ _ _ h => h) (Or.inl ⟨by rfl, ?hyl48⟩) ?restl48
      case hyl48 => (intro W hSw; left; (try dsimp only at hSw); go_simp; try (first | with_reducible rfl | (refine (if_neg (by omega)).trans ?_; with_reducible rfl)))
      simp only [Act.put, List.setIfInBounds_toArray, List.set_cons_zero, List.set_cons_succ, List.getElem_toArray, List.getElem_cons_zero, List.getElem_cons_succ]
      refine wpG_take (i := 48) (v := ?vl49) rfl (by kernel_rfl) (by kernel_rfl) (by kernel_rfl) (fun _ _ _ h => h) (Or.inl ⟨by rfl, ?hyl49⟩) ?restl49
      case hyl49 => (intro W hSw; left; (try dsimp only at hSw); go_simp; try (first | with_reducible rfl | (refine (if_neg (by omega)).trans ?_; with_reducible rfl)))
      simp only [Act.put, List.setIfInBounds_toArray, List.set_cons_zero, List.set_cons_succ, List.getElem_toArray, List.getElem_cons_zero, List.getElem_cons_succ]
      refine wpG_take (i := 49) (v := (.string bTh)) rfl (by kernel_rfl) (by kernel_rfl) (by kernel_rfl) (fun _ _ _ h => h) (Or.inl ⟨by rfl, ?hyl50⟩) ?restl50
      case hyl50 => (intro W hSw; right; (try dsimp only at hSw); refine ⟨_, _, (by go_simp; try with_reducible rfl), (HTh.out W (HP10.out _ hSw)).mono ?_⟩; rintro e w' ⟨rfl, hb⟩; exact ⟨rfl, HKK.out _ _ hSw hb, hb⟩)
      simp only [Act.put, List.setIfInBounds_toArray, List.set_cons_zero, List.set_cons_succ, List.getElem_toArray, List.getElem_cons_zero, List.getElem_cons_succ]
      refine wpG_take (i := 50) (v := ?vl51) rfl (by kernel_rfl) (by kernel_rfl) (by kernel_rfl) (fun _ _ _ h => h) (Or.inl ⟨by rfl, ?hyl51⟩) ?restl51
      case hyl51 => (intro W hSw; left; (try dsimp only at hSw); go_simp; try (first | with_reducible rfl | (refine (if_neg (by omega)).trans ?_; with_reducible rfl)))
      simp only [Act.put, List.setIfInBounds_toArray, List.set_cons_zero, List.set_cons_succ, List.getElem_toArray, List.getElem_cons_zero, List.getElem_cons_succ]
      refine wpG_take (i := 51) (v := ?vl52) rfl (by kernel_rfl) (by kernel_rfl) (by kernel_rfl) (fun _ _ _ h => h) (Or.inl ⟨by rfl, ?hyl52⟩) ?restl52
      case hyl52 => (intro W hSw; left; (try dsimp only at hSw); go_simp; try (first | with_reducible rfl | (refine (if_neg (by omega)).trans ?_; with_reducible rfl)))
      simp only [Act.put, List.setIfInBounds_toArray, List.set_cons_zero, List.set_cons_succ, List.getElem_toArray, List.getElem_cons_zero, List.getElem_cons_succ]
      refine wpG_take (i := 52) (v := ?vl53) rfl (by kernel_rfl) (by kernel_rfl) (by kernel_rfl) (fun _ _ _ h => h) (Or.inl ⟨by rfl, ?hyl53⟩) ?restl53
      case hyl53 => (intro W hSw; left; (try dsimp only at hSw); go_simp; try (first | with_reducible rfl | (refine (if_neg (by omega)).trans ?_; with_reducible rfl)))
      simp only [Act.put, List.setIfInBounds_toArray, List.set_cons_zero, List.set_cons_succ, List.getElem_toArray, List.getElem_cons_zero, List.getElem_cons_succ]
      refine wpG_take (i := 53) (v := ?vl54) rfl (by kernel_rfl) (by kernel_rfl) (by kernel_rfl) (fun _ _ _ h => h) (Or.inl ⟨by rfl, ?hyl54⟩) ?restl54
      case hyl54 => (intro W hSw; left; (try dsimp only at hSw); go_simp; try (first | with_reducible rfl | (refine (if_neg (by omega)).trans ?_; with_reducible rfl)))
      simp only [Act.put, List.setIfInBounds_toArray, List.set_cons_zero, List.set_cons_succ, List.getElem_toArray, List.getElem_cons_zero, List.getElem_cons_succ]
      refine wpG_take (i := 54) (v := ?vl55) rfl (by kernel_rfl) (by kernel_rfl) (by kernel_rfl) (fun _ _ _ h => h) (Or.inl ⟨by rfl, ?hyl55⟩) ?restl55
      case hyl55 => (intro W hSw; left; (try dsimp only at hSw); go_simp; try (first | with_reducible rfl | (refine (if_neg (by omega)).trans ?_; with_reducible rfl)))
      simp only [Act.put, List.setIfInBounds_toArray, List.set_cons_zero, List.set_cons_succ, List.getElem_toArray, List.getElem_cons_zero, List.getElem_cons_succ]
      refine wpG_take (i := 55) (v := (.string bTi)) rfl (by kernel_rfl) (by kernel_rfl) (by kernel_rfl) (fun _ _ _ h => h) (Or.inl ⟨by rfl, ?hyl56⟩) ?restl56
      case hyl56 => (intro W hSw; right; (try dsimp only at hSw); refine ⟨_, _, (by go_simp; try with_reducible rfl), (HTi.out W (HP10.out _ hSw)).mono ?_⟩; rintro e w' ⟨rfl, hb⟩; exact ⟨rfl, HKK.out _ _ hSw hb, hb⟩)
      simp only [Act.put, List.setIfInBounds_toArray, List.set_cons_zero, List.set_cons_succ, List.getElem_toArray, List.getElem_cons_zero, List.getElem_cons_succ]
      refine wpG_take (i := 56) (v := ?vl57) rfl (by kernel_rfl) (by kernel_rfl) (by kernel_rfl) (fun _ _ _ h => h) (Or.inl ⟨by rfl, ?hyl57⟩) ?restl57
      case hyl57 => (intro W hSw; left; (try dsimp only at hSw); go_simp; try (first | with_reducible rfl | (refine (if_neg (by omega)).trans ?_; with_reducible rfl)))
      simp only [Act.put, List.setIfInBounds_toArray, List.set_cons_zero, List.set_cons_succ, List.getElem_toArray, List.getElem_cons_zero, List.getElem_cons_succ]
      refine wpG_take (i := 57) (v := ?vl58) rfl (by kernel_rfl) (by kernel_rfl) (by kernel_rfl) (fun _ _ _ h => h) (Or.inl ⟨by rfl, ?hyl58⟩) ?restl58
      case hyl58 => (intro W hSw; left; (try dsimp only at hSw); go_simp; try (first | with_reducible rfl | (refine (if_neg (by omega)).trans ?_; with_reducible rfl)))
      simp only [Act.put, List.setIfInBounds_toArray, List.set_cons_zero, List.set_cons_succ, List.getElem_toArray, List.getElem_cons_zero, List.getElem_cons_succ]
      refine wpG_take (i := 58) (v := ?vl59) rfl (by kernel_rfl) (by kernel_rfl) (by kernel_rfl) (fun _ _ _ h => h) (Or.inl ⟨by rfl, ?hyl59⟩) ?restl59
      case hyl59 => (intro W hSw; left; (try dsimp only at hSw); go_simp; try (first | with_reducible rfl | (refine (if_neg (by omega)).trans ?_; with_reducible rfl)))
      simp only [Act.put, List.setIfInBounds_toArray, List.set_cons_zero, List.set_cons_succ, List.getElem_toArray, List.getElem_cons_zero, List.getElem_cons_succ]
      refine wpG_take (i := 59) (v := ?vl60) rfl (by kernel_rfl) (by kernel_rfl) (by kernel_rfl) (fun _ _ _ h => h) (Or.inl ⟨by rfl, ?hyl60⟩) ?restl60
      case hyl60 => (intro W hSw; left; (try dsimp only at hSw); have cf0 := HC0.out _ hSw; go_simp; try (first | with_reducible rfl | (refine (if_neg (by omega)).trans ?_; with_reducible rfl)))
      simp only [Act.put, List.setIfInBounds_toArray, List.set_cons_zero, List.set_cons_succ, List.getElem_toArray, List.getElem_cons_zero, List.getElem_cons_succ]
      refine wpG_take (i := 60) (v := ?vl61) rfl (by kernel_rfl) (by kernel_rfl) (by kernel_rfl) (fun _ _ _ h => h) (Or.inl ⟨by rfl, ?hyl61⟩) ?restl61
      case hyl61 => (intro W hSw; left; (try dsimp only at hSw); go_simp; try (first | with_reducible rfl | (refine (if_neg (by omega)).trans ?_; with_reducible rfl)))
      simp only [Act.put, List.setIfInBounds_toArray, List.set_cons_zero, List.set_cons_succ, List.getElem_toArray, List.getElem_cons_zero, List.getElem_cons_succ]
      refine wpG_take (i := 61) (v := ?vl62) rfl (by kernel_rfl) (by kernel_rfl) (by kernel_rfl) (fun _ _ _ h => h) (Or.inl ⟨by rfl, ?hyl62⟩) ?restl62
      case hyl62 => (intro W hSw; left; (try dsimp only at hSw); go_simp; try (first | with_reducible rfl | (refine (if_neg (by omega)).trans ?_; with_reducible rfl)))
      simp only [Act.put, List.setIfInBounds_toArray, List.set_cons_zero, List.set_cons_succ, List.getElem_toArray, List.getElem_cons_zero, List.getElem_cons_succ]
      refine wpG_done (by kernel_rfl) (fun w' hb hS => ?_) _
      have HF := Lib.hid hS
      clear hb hS
      go_wp2_with fail
      go_meet
      case rel => exact ⟨by rw [HBB.out], HF⟩
--]reg
    case rest =>
      obtain ⟨rfl, HF⟩ := hcut
      obtain ⟨MD, hMD⟩ : ∃ MD : List UInt8, MD = 32 :: (sWu ++ (47 :: (sWg ++ (32 :: (sId ++ (32 :: (sIy ++ (45 :: (sTm ++ (45 :: (sTd ++ (32 :: (sTh ++ (58 :: sTi)))))))))))))) := ⟨_, rfl⟩
      have hml : MD.length ≤ 1000 := by rw [hMD]; simp only [List.length_cons, List.length_append]; omega
      have HEQ : Hid (∀ c, (⟨#[63, 45, 100, 108, 104]⟩ : ByteArray).extract k (k + 1) = bs [c] → BB = bs (c :: textS m ++ MD ++ 32 :: path)) := Lib.hid (fun c hc => by
        rw [HBB.out, hc, HMB.out, HPB.out, BWu.out, BWg.out, BId.out, BIy.out, BTm.out, BTd.out, BTh.out, BTi.out, hMD]
        exact line_bytes c (textS m) sWu sWg sId sIy sTm sTd sTh sTi path)
      have hbz : BB.size ≤ 3000 := by
        rw [HBB.out]
        simp only [ByteArray.size_append, ByteArray.size_extract]
        have e1 : (⟨#[32]⟩ : ByteArray).size = 1 := rfl
        have e2 : (⟨#[47]⟩ : ByteArray).size = 1 := rfl
        have e3 : (⟨#[45]⟩ : ByteArray).size = 1 := rfl
        have e4 : (⟨#[58]⟩ : ByteArray).size = 1 := rfl
        have e5 : (⟨#[63, 45, 100, 108, 104]⟩ : ByteArray).size = 5 := rfl
        omega
      have HF2 := Lib.hid HF.out.2.1
      have c1 := HC1.out _ HF.out
      have c2 := HC2.out _ HF.out
      clear HBB HMB HPB BWu BWg BId BIy BTm BTd BTh BTi HC0 HC1 HC2 HC4 HC5 HC6 HC7 HC10 HWu HWg HId HIy HTm HTd HTh HTi hMD HF
      rcases (show k = 1 ∨ k = 2 ∨ k = 3 ∨ k = 4 by omega) with rfl | rfl | rfl | rfl
      · have hE := Lib.hid (HEQ.out 45 (by rfl))
        clear HEQ
        go_wp2_with fail
        go_ret2
        exact ⟨MD, by rw [hE.out]; simp [kc, endL], hml, HF2.out⟩
      · have hE := Lib.hid (HEQ.out 100 (by rfl))
        clear HEQ
        go_wp2_with fail
        go_ret2
        exact ⟨MD, by rw [hE.out]; simp [kc, endL], hml, HF2.out⟩
      · have hE := Lib.hid (HEQ.out 108 (by rfl))
        clear HEQ
        go_wp2_with fail
        go_ret2
        exact ⟨MD, by rw [hE.out]; simp only [show (⟨#[32, 45, 62, 32]⟩ : ByteArray) = bs [32, 45, 62, 32] from rfl, bs_append]; simp [kc, endL], hml, HF2.out⟩
      · have hE := Lib.hid (HEQ.out 104 (by rfl))
        clear HEQ
        go_wp2_with fail
        go_ret2
        exact ⟨MD, by rw [hE.out]; simp only [show (⟨#[32, 108, 105, 110, 107, 32, 116, 111, 32]⟩ : ByteArray) = bs [32, 108, 105, 110, 107, 32, 116, 111, 32] from rfl, bs_append]; simp [kc, endL], hml, HF2.out⟩
end Go.Proofs.YtmioinfhggbfkaaDoor
