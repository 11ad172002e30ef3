/-
  The law ListSays: what it computes is true. Condition: raw things of the second form's bound; the library's table of powers of ten lies as Go laid it.
-/
import Derived.Test.YtmioinfhggbfkaaDoorLine
import Derived.Test.YtmioinfhggbfkaaDoorMPlain
namespace Go.Proofs.YtmioinfhggbfkaaDoor
set_option linter.all false
open Go.RowKit

theorem suffix_app (a b : List UInt8) : Lib.hasSuffix (a ++ b) b = true := by
  unfold Lib.hasSuffix
  simp
theorem HasSuffix_yes (a b : List UInt8) (hl : a.length + b.length ≤ 100000) (w : World) :
    Calls Tryd.prog 14 #[.string (bs (a ++ b)), .string (bs b)] w fun e w' => e = .returned (.bool true) ∧ w = w' :=
  (Tryd.strings_HasSuffix (bs (a ++ b)) (bs b) w (by rw [bs_size, List.length_append]; omega)).mono fun e w' ⟨h1, h2⟩ => ⟨by rw [h1, bs_data, bs_data, suffix_app], h2.symm⟩
theorem raw_blk_ (w : World) (cs : Array Value) : Blk (w.alloc (.cells cs 23)) w.heap.size 23 cs ∧ Below w.heap.size w (w.alloc (.cells cs 23)) := ⟨Blk.new _ _ _, (Below.refl _ _).alloc (Nat.le_refl _) _⟩
theorem bs_head (b : ByteArray) (c : UInt8) (l : List UInt8) (h : b = bs (c :: l)) (hz : 0 < b.size) : b[0]'hz = c := by subst h; rfl
set_option maxRecDepth 100000 in
set_option maxHeartbeats 8000000 in
theorem ListSays_walk (w : World) (hsh : w.ShapedOpen Tryd.prog) (h10 : P10 w) (r : RawS) (h : RawOk r) :
    Calls Tryd.prog 4 #[rawV r] w fun e w' => e = .returned (.bool true) ∧ Below w.heap.size w w' := by
  have hm := ML.of_shaped hsh
  clear hsh
  have hok := entP_ok h
  have HML : Hid (∀ W, Below w.heap.size w W → ML W) := Lib.hid (fun W hb => hm.below hb)
  have HP10 : Hid (∀ W, Below w.heap.size w W → P10 W) := Lib.hid (fun W hb => h10.below hb)
  have HEn := Lib.hid (fun W (hb : Below w.heap.size w W) => Entry_any r h W (HML.out W hb))
  clear h hm h10
  generalize entP r = x at *
  have HLn := Lib.hid (fun W (hb : Below w.heap.size w W) A c => Line_ok x hok A c W (HML.out W hb) (HP10.out W hb))
  obtain ⟨hp, hmt, hkind, -, -, ht⟩ := hok
  obtain ⟨h1, h2⟩ := hmt.mode
  have hpl := hp.2
  have htl := ht.1
  obtain ⟨xp, xk, xt, ⟨m1, m2, m3, m4, m5, m6, m7⟩, xd⟩ := x
  simp only at h1 h2 hkind hpl htl
  obtain ⟨md, rfl⟩ := Int.eq_ofNat_of_zero_le h1
  have HTx := Lib.hid (fun W => MText_ok md (by omega) W)
  unfold entC at HEn HLn
  simp only [Int.toNat_natCast] at HEn HLn
  clear HML HP10 hp hmt ht h1
  have zm : (textS md).length = 9 := txt2_length md 3
  have hTx : (⟨(textS md).toArray⟩ : ByteArray) = bs (textS md) := rfl
  rw [hTx] at HTx
  clear hTx
  obtain ⟨W0, hW0⟩ : ∃ W0, W0 = w.alloc (.cells #[.int .i64 r.kind, .int .i64 r.a, .int .i64 r.b, .string (bs r.text)] 23) := ⟨_, rfl⟩
  have hS := raw_blk_ w #[.int .i64 r.kind, .int .i64 r.a, .int .i64 r.b, .string (bs r.text)]
  rw [← hW0] at hS
  have HB0 := Lib.hid hS.2
  have q0 := hS.1.cell 0
  have q1 := hS.1.cell 1
  have q2 := hS.1.cell 2
  have q3 := hS.1.cell 3
  clear hS
  unfold rawV at HEn ⊢
  go_enter Tryd.func4, Tryd.ntmps4
  go_upto_region 1 with fail
  rw [← hW0]
  clear hW0
  go_wp2_with fail
  refine (HEn.out _ HB0.out).mono ?_
  rintro e w1 ⟨A, c, rfl, hd, b1⟩
  obtain ⟨W1, hW1⟩ : ∃ W1, W1 = w1.alloc (.cells #[(.string (bs xp)), (.int .i64 xk), (.string (bs xt)), (.int .i64 md), (.int .i64 m2), (.int .i64 m3), (.string (bs m4)), (.string (bs m5)), (.int .i64 m6), (.int .i64 m7), (.slice A xd.length c)] 28) := ⟨_, rfl⟩
  obtain ⟨g3, hg3⟩ : ∃ g3, g3 = w1.heap.size := ⟨_, rfl⟩
  have hk1 : Blk W1 g3 28 #[(.string (bs xp)), (.int .i64 xk), (.string (bs xt)), (.int .i64 md), (.int .i64 m2), (.int .i64 m3), (.string (bs m4)), (.string (bs m5)), (.int .i64 m6), (.int .i64 m7), (.slice A xd.length c)] := by rw [hW1, hg3]; exact Blk.new _ _ _
  have hb1 : Below w1.heap.size w1 W1 := by rw [hW1]; exact (Below.refl _ _).alloc (Nat.le_refl _) _
  have HB1 := Lib.hid (HB0.out.trans ((b1.trans (hb1.mono b1.size)).mono HB0.out.size))
  have HK1 := Lib.hid hk1
  clear b1 hb1 hk1 hd q0 q1 q2 q3 HEn HB0
  go_upto_region 2 with fail
  rw [← hW1, ← hg3]
  clear hW1 hg3
  have p0 : W1.cell? ⟨g3, 0, none⟩ = some (.string (bs xp)) := HK1.out.cell 0
  have p1 : W1.cell? ⟨g3, 1, none⟩ = some (.int .i64 xk) := HK1.out.cell 1
  have p2 : W1.cell? ⟨g3, 2, none⟩ = some (.string (bs xt)) := HK1.out.cell 2
  have p3 : W1.cell? ⟨g3, 3, none⟩ = some (.int .i64 md) := HK1.out.cell 3
  have p4 : W1.cell? ⟨g3, 4, none⟩ = some (.int .i64 m2) := HK1.out.cell 4
  have p5 : W1.cell? ⟨g3, 5, none⟩ = some (.int .i64 m3) := HK1.out.cell 5
  have p6 : W1.cell? ⟨g3, 6, none⟩ = some (.string (bs m4)) := HK1.out.cell 6
  have p7 : W1.cell? ⟨g3, 7, none⟩ = some (.string (bs m5)) := HK1.out.cell 7
  have p8 : W1.cell? ⟨g3, 8, none⟩ = some (.int .i64 m6) := HK1.out.cell 8
  have p9 : W1.cell? ⟨g3, 9, none⟩ = some (.int .i64 m7) := HK1.out.cell 9
  have p10 : W1.cell? ⟨g3, 10, none⟩ = some (.slice A xd.length c) := HK1.out.cell 10
  go_wp2_with fail
  refine (HLn.out _ HB1.out _ _).mono ?_
  rintro e w2 ⟨mid, rfl, hmid, b2⟩
  have HB2 := Lib.hid (HB1.out.trans (b2.mono HB1.out.size))
  have HK2 := Lib.hid (HK1.out.below b2 HK1.out.lt)
  clear b2 HLn HB1 HK1 p0 p1 p2 p3 p4 p5 p6 p7 p8 p9 p10
  have p3 : w2.cell? ⟨g3, 3, none⟩ = some (.int .i64 md) := HK2.out.cell 3
  obtain ⟨SL, hSL⟩ : ∃ SL, SL = kc xk.toNat :: textS md ++ mid ++ endL ⟨xp, xk, xt, ⟨md, m2, m3, m4, m5, m6, m7⟩, xd⟩ := ⟨_, rfl⟩
  rw [← hSL]
  obtain ⟨SB, hSB⟩ : ∃ SB, SB = bs SL := ⟨_, rfl⟩
  rw [← hSB]
  have HSL := Lib.hid hSL
  have HSB := Lib.hid hSB
  obtain ⟨MB, hMB⟩ : ∃ MB, MB = bs (textS md) := ⟨_, rfl⟩
  rw [← hMB] at HTx
  have HMB := Lib.hid hMB
  clear hSL hSB hMB
  go_wp2_with fail
  refine (HTx.out _).mono ?_
  rintro e w3 ⟨rfl, b3⟩
  have HB3 := Lib.hid (HB2.out.trans (b3.mono HB2.out.size))
  have HK3 := Lib.hid (HK2.out.below b3 HK2.out.lt)
  clear b3 HTx HB2 HK2 p3
  have zxp := bs_size xp
  have zxt := bs_size xt

  obtain ⟨tl, htl2⟩ : ∃ tl : List UInt8, tl = xp ++ (if xk = 3 then [32, 45, 62, 32] ++ xt else if xk = 4 then [32, 108, 105, 110, 107, 32, 116, 111, 32] ++ xt else []) := ⟨_, rfl⟩
  have hSL2 : SL = kc xk.toNat :: textS md ++ mid ++ 32 :: tl := by rw [HSL.out, htl2]; rfl
  have hLL : tl.length ≤ 900 := by rw [htl2, List.length_append]; split <;> (try split) <;> simp only [List.length_append, List.length_cons, List.length_nil] <;> omega
  have hSz : SL.length = 11 + mid.length + tl.length := by rw [hSL2]; simp only [List.length_append, List.length_cons, zm]; omega
  obtain ⟨ET, hET⟩ : ∃ ET, ET = bs tl := ⟨_, rfl⟩
  have hEs : ET.size ≤ 900 := by rw [hET, bs_size]; exact hLL
  have hSBs : SB.size ≤ 3000 ∧ 10 < SB.size := by rw [HSB.out, bs_size]; omega
  have hEx : SB.extract 1 10 = MB := by
    rw [HSB.out, HMB.out, hSL2]
    apply ByteArray.ext
    apply Array.ext'
    simp only [ByteArray.data_extract, bs, Array.toList_extract, List.extract_eq_drop_take]
    simp [List.take_append, zm]
  have HAT : Hid (∀ h : 0 < SB.size, SB[0]'h = kc xk.toNat) := Lib.hid (fun h => bs_head SB _ (textS md ++ mid ++ 32 :: tl) (HSB.out.trans (congrArg bs hSL2)) h)
  have HHS := Lib.hid (fun W => show Calls Tryd.prog 14 #[.string SB, .string ((⟨#[32]⟩ : ByteArray) ++ ET)] W (fun e w' => e = .returned (.bool true) ∧ Below W.heap.size W w') by
    rw [HSB.out, hET, hSL2, show (⟨#[32]⟩ : ByteArray) = bs [32] from rfl, ← bs_append]
    exact (HasSuffix_yes (kc xk.toNat :: textS md ++ mid) (32 :: tl) (by simp only [List.length_append, List.length_cons, zm]; omega) W).mono fun e w' ⟨h1, h2⟩ => ⟨h1, h2 ▸ Below.refl _ _⟩)
  have HEE : Hid (∀ X : ByteArray, X = bs (xp ++ (if xk = 3 then [32, 45, 62, 32] ++ xt else if xk = 4 then [32, 108, 105, 110, 107, 32, 116, 111, 32] ++ xt else [])) → X = ET) := Lib.hid (fun X h => by rw [h, hET, htl2])
  clear hSL2 hSz HSL hET htl2 HMB hLL hmid HSB
  go_upto_region 4 with fail
  have p0 : w3.cell? ⟨g3, 0, none⟩ = some (.string (bs xp)) := HK3.out.cell 0
  have p1 : w3.cell? ⟨g3, 1, none⟩ = some (.int .i64 xk) := HK3.out.cell 1
  have p2 : w3.cell? ⟨g3, 2, none⟩ = some (.string (bs xt)) := HK3.out.cell 2
  have HCC : Hid (∀ W W', Below w3.heap.size w3 W → Below W.heap.size W W' → Below w3.heap.size w3 W') := Lib.hid (fun W W' h hb => h.trans (hb.mono h.size))
  have HC1 : Hid (∀ W, Below w3.heap.size w3 W → W.cell? ⟨g3, 1, none⟩ = some (.int .i64 xk)) := Lib.hid (fun W h => (HK3.out.below h HK3.out.lt).cell 1)
  rcases hkind with rfl | rfl | rfl | rfl
  ·
    have hX := Lib.hid (HEE.out (bs xp) (by simp))
    clear HEE
    go_upto_region 10 with fail
    rw [hX.out]
    clear p0 p1 p2 hX
    refine wp_region_G (S := fun W => Below w3.heap.size w3 W) (by kernel_rfl) (Below.refl _ _).drew ?_
    refine wpG_take (i := 0) (v := ?vk1o1) rfl (by kernel_rfl) (by kernel_rfl) (by kernel_rfl) (fun _ _ _ h => h) (Or.inl ⟨by rfl, ?hyk1o1⟩) ?restk1o1
    case hyk1o1 => (intro W hSw; left; (try dsimp only at hSw); go_simp; try (first | with_reducible rfl | (refine (if_neg (by omega)).trans ?_; with_reducible rfl)))
    simp only [Act.put, List.setIfInBounds_toArray, List.set_cons_zero, List.set_cons_succ, List.getElem_toArray, List.getElem_cons_zero, List.getElem_cons_succ]
    refine wpG_take (i := 1) (v := ?vk1o2) rfl (by kernel_rfl) (by kernel_rfl) (by kernel_rfl) (fun _ _ _ h => h) (Or.inl ⟨by rfl, ?hyk1o2⟩) ?restk1o2
    case hyk1o2 => (intro W hSw; left; (try dsimp only at hSw); go_simp; try (first | with_reducible rfl | (refine (if_neg (by omega)).trans ?_; with_reducible rfl)))
    simp only [Act.put, List.setIfInBounds_toArray, List.set_cons_zero, List.set_cons_succ, List.getElem_toArray, List.getElem_cons_zero, List.getElem_cons_succ]
    refine wpG_take (i := 2) (v := ?vk1o3) rfl (by kernel_rfl) (by kernel_rfl) (by kernel_rfl) (fun _ _ _ h => h) (Or.inl ⟨by rfl, ?hyk1o3⟩) ?restk1o3
    case hyk1o3 => (intro W hSw; left; (try dsimp only at hSw); go_simp; try (first | with_reducible rfl | (refine (if_neg (by omega)).trans ?_; with_reducible rfl)))
    simp only [Act.put, List.setIfInBounds_toArray, List.set_cons_zero, List.set_cons_succ, List.getElem_toArray, List.getElem_cons_zero, List.getElem_cons_succ]
    refine wpG_take (i := 3) (v := ?vk1o4) rfl (by kernel_rfl) (by kernel_rfl) (by kernel_rfl) (fun _ _ _ h => h) (Or.inl ⟨by rfl, ?hyk1o4⟩) ?restk1o4
    case hyk1o4 => (intro W hSw; left; (try dsimp only at hSw); go_simp; try (first | with_reducible rfl | (refine (if_neg (by omega)).trans ?_; with_reducible rfl)))
    simp only [Act.put, List.setIfInBounds_toArray, List.set_cons_zero, List.set_cons_succ, List.getElem_toArray, List.getElem_cons_zero, List.getElem_cons_succ]
    refine wpG_take (i := 4) (v := ?vk1o5) rfl (by kernel_rfl) (by kernel_rfl) (by kernel_rfl) (fun _ _ _ h => h) (Or.inl ⟨by rfl, ?hyk1o5⟩) ?restk1o5
    case hyk1o5 => (intro W hSw; left; (try dsimp only at hSw); go_simp; try (first | with_reducible rfl | (refine (if_neg (by omega)).trans ?_; with_reducible rfl)))
    simp only [Act.put, List.setIfInBounds_toArray, List.set_cons_zero, List.set_cons_succ, List.getElem_toArray, List.getElem_cons_zero, List.getElem_cons_succ]
    refine wpG_take (i := 5) (v := ?vk1o6) rfl (by kernel_rfl) (by kernel_rfl) (by kernel_rfl) (fun _ _ _ h => h) (Or.inl ⟨by rfl, ?hyk1o6⟩) ?restk1o6
    case hyk1o6 => (intro W hSw; left; (try dsimp only at hSw); go_simp; try (first | with_reducible rfl | (refine (if_neg (by omega)).trans ?_; with_reducible rfl)))
    simp only [Act.put, List.setIfInBounds_toArray, List.set_cons_zero, List.set_cons_succ, List.getElem_toArray, List.getElem_cons_zero, List.getElem_cons_succ]
    refine wpG_take (i := 6) (v := ?vk1o7) rfl (by kernel_rfl) (by kernel_rfl) (by kernel_rfl) (fun _ _ _ h => h) (Or.inl ⟨by rfl, ?hyk1o7⟩) ?restk1o7
    case hyk1o7 => (intro W hSw; left; (try dsimp only at hSw); go_simp; try (first | with_reducible rfl | (refine (if_neg (by omega)).trans ?_; with_reducible rfl)))
    simp only [Act.put, List.setIfInBounds_toArray, List.set_cons_zero, List.set_cons_succ, List.getElem_toArray, List.getElem_cons_zero, List.getElem_cons_succ]
    refine wpG_take (i := 7) (v := ?vk1o8) rfl (by kernel_rfl) (by kernel_rfl) (by kernel_rfl) (fun _ _ _ h => h) (Or.inl ⟨by rfl, ?hyk1o8⟩) ?restk1o8
    case hyk1o8 => (intro W hSw; left; (try dsimp only at hSw); go_simp; try (first | with_reducible rfl | (refine (if_neg (by omega)).trans ?_; with_reducible rfl)))
    simp only [Act.put, List.setIfInBounds_toArray, List.set_cons_zero, List.set_cons_succ, List.getElem_toArray, List.getElem_cons_zero, List.getElem_cons_succ]
    refine wpG_take (i := 8) (v := ?vk1o9) rfl (by kernel_rfl) (by kernel_rfl) (by kernel_rfl) (fun _ _ _ h => h) (Or.inl ⟨by rfl, ?hyk1o9⟩) ?restk1o9
    case hyk1o9 => (intro W hSw; left; (try dsimp only at hSw); go_simp; try (first | with_reducible rfl | (refine (if_neg (by omega)).trans ?_; with_reducible rfl)))
    simp only [Act.put, List.setIfInBounds_toArray, List.set_cons_zero, List.set_cons_succ, List.getElem_toArray, List.getElem_cons_zero, List.getElem_cons_succ]
    refine wpG_take (i := 9) (v := (.bool true)) rfl (by kernel_rfl) (by kernel_rfl) (by kernel_rfl) (fun _ _ _ h => h) (Or.inl ⟨by rfl, ?hyk1o10⟩) ?restk1o10
    case hyk1o10 => (intro W hSw; left; (try dsimp only at hSw); have cz := hSBs.2; go_simp; try (first | with_reducible rfl | (refine (if_neg (by omega)).trans ?_; with_reducible rfl) | omega))
    simp only [Act.put, List.setIfInBounds_toArray, List.set_cons_zero, List.set_cons_succ, List.getElem_toArray, List.getElem_cons_zero, List.getElem_cons_succ]
    refine wpG_take (i := 10) (v := ?vk1o11) rfl (by kernel_rfl) (by kernel_rfl) (by kernel_rfl) (fun _ _ _ h => h) (Or.inl ⟨by rfl, ?hyk1o11⟩) ?restk1o11
    case hyk1o11 => (intro W hSw; left; (try dsimp only at hSw); go_simp; try (first | with_reducible rfl | (refine (if_neg (by omega)).trans ?_; with_reducible rfl)))
    simp only [Act.put, List.setIfInBounds_toArray, List.set_cons_zero, List.set_cons_succ, List.getElem_toArray, List.getElem_cons_zero, List.getElem_cons_succ]
    refine wpG_take (i := 11) (v := ?vk1o12) rfl (by kernel_rfl) (by kernel_rfl) (by kernel_rfl) (fun _ _ _ h => h) (Or.inl ⟨by rfl, ?hyk1o12⟩) ?restk1o12
    case hyk1o12 => (intro W hSw; left; (try dsimp only at hSw); go_simp; try (first | with_reducible rfl | (refine (if_neg (by omega)).trans ?_; with_reducible rfl)))
    simp only [Act.put, List.setIfInBounds_toArray, List.set_cons_zero, List.set_cons_succ, List.getElem_toArray, List.getElem_cons_zero, List.getElem_cons_succ]
    refine wpG_take (i := 12) (v := ?vk1o13) rfl (by kernel_rfl) (by kernel_rfl) (by kernel_rfl) (fun _ _ _ h => h) (Or.inl ⟨by rfl, ?hyk1o13⟩) ?restk1o13
    case hyk1o13 => (intro W hSw; left; (try dsimp only at hSw); go_simp; try (first | with_reducible rfl | (refine (if_neg (by omega)).trans ?_; with_reducible rfl)))
    simp only [Act.put, List.setIfInBounds_toArray, List.set_cons_zero, List.set_cons_succ, List.getElem_toArray, List.getElem_cons_zero, List.getElem_cons_succ]
    refine wpG_take (i := 13) (v := (.string MB)) rfl (by kernel_rfl) (by kernel_rfl) (by kernel_rfl) (fun _ _ _ h => h) (Or.inl ⟨by rfl, ?hyk1o14⟩) ?restk1o14
    case hyk1o14 => (intro W hSw; left; (try dsimp only at hSw); have cz := hSBs.2; go_simp; try (first | with_reducible rfl | (refine (if_neg (by omega)).trans ?_; with_reducible rfl) | (intro hq; omega)))
    simp only [Act.put, List.setIfInBounds_toArray, List.set_cons_zero, List.set_cons_succ, List.getElem_toArray, List.getElem_cons_zero, List.getElem_cons_succ]
    refine wpG_take (i := 14) (v := ?vk1o15) rfl (by kernel_rfl) (by kernel_rfl) (by kernel_rfl) (fun _ _ _ h => h) (Or.inl ⟨by rfl, ?hyk1o15⟩) ?restk1o15
    case hyk1o15 => (intro W hSw; left; (try dsimp only at hSw); go_simp; try (first | with_reducible rfl | (refine (if_neg (by omega)).trans ?_; with_reducible rfl)))
    simp only [Act.put, List.setIfInBounds_toArray, List.set_cons_zero, List.set_cons_succ, List.getElem_toArray, List.getElem_cons_zero, List.getElem_cons_succ]
    refine wpG_take (i := 15) (v := ?vk1o16) rfl (by kernel_rfl) (by kernel_rfl) (by kernel_rfl) (fun _ _ _ h => h) (Or.inl ⟨by rfl, ?hyk1o16⟩) ?restk1o16
    case hyk1o16 => (intro W hSw; left; (try dsimp only at hSw); go_simp; try (first | with_reducible rfl | (refine (if_neg (by omega)).trans ?_; with_reducible rfl)))
    simp only [Act.put, List.setIfInBounds_toArray, List.set_cons_zero, List.set_cons_succ, List.getElem_toArray, List.getElem_cons_zero, List.getElem_cons_succ]
    refine wpG_take (i := 16) (v := ?vk1o17) rfl (by kernel_rfl) (by kernel_rfl) (by kernel_rfl) (fun _ _ _ h => h) (Or.inl ⟨by rfl, ?hyk1o17⟩) ?restk1o17
    case hyk1o17 => (intro W hSw; left; (try dsimp only at hSw); go_simp; try (first | with_reducible rfl | (refine (if_neg (by omega)).trans ?_; with_reducible rfl)))
    simp only [Act.put, List.setIfInBounds_toArray, List.set_cons_zero, List.set_cons_succ, List.getElem_toArray, List.getElem_cons_zero, List.getElem_cons_succ]
    refine wpG_take (i := 17) (v := ?vk1o18) rfl (by kernel_rfl) (by kernel_rfl) (by kernel_rfl) (fun _ _ _ h => h) (Or.inl ⟨by rfl, ?hyk1o18⟩) ?restk1o18
    case hyk1o18 => (intro W hSw; left; (try dsimp only at hSw); go_simp; try (first | with_reducible rfl | (refine (if_neg (by omega)).trans ?_; with_reducible rfl)))
    simp only [Act.put, List.setIfInBounds_toArray, List.set_cons_zero, List.set_cons_succ, List.getElem_toArray, List.getElem_cons_zero, List.getElem_cons_succ]
    refine wpG_take (i := 18) (v := ?vk1o19) rfl (by kernel_rfl) (by kernel_rfl) (by kernel_rfl) (fun _ _ _ h => h) (Or.inl ⟨by rfl, ?hyk1o19⟩) ?restk1o19
    case hyk1o19 => (intro W hSw; left; (try dsimp only at hSw); go_simp; try (first | with_reducible rfl | (refine (if_neg (by omega)).trans ?_; with_reducible rfl)))
    simp only [Act.put, List.setIfInBounds_toArray, List.set_cons_zero, List.set_cons_succ, List.getElem_toArray, List.getElem_cons_zero, List.getElem_cons_succ]
    refine wpG_take (i := 19) (v := ?vk1o20) rfl (by kernel_rfl) (by kernel_rfl) (by kernel_rfl) (fun _ _ _ h => h) (Or.inl ⟨by rfl, ?hyk1o20⟩) ?restk1o20
    case hyk1o20 => (intro W hSw; left; (try dsimp only at hSw); go_simp; try (first | with_reducible rfl | (refine (if_neg (by omega)).trans ?_; with_reducible rfl)))
    simp only [Act.put, List.setIfInBounds_toArray, List.set_cons_zero, List.set_cons_succ, List.getElem_toArray, List.getElem_cons_zero, List.getElem_cons_succ]
    refine wpG_take (i := 20) (v := ?vk1o21) rfl (by kernel_rfl) (by kernel_rfl) (by kernel_rfl) (fun _ _ _ h => h) (Or.inl ⟨by rfl, ?hyk1o21⟩) ?restk1o21
    case hyk1o21 => (intro W hSw; left; (try dsimp only at hSw); go_simp; try (first | with_reducible rfl | (refine (if_neg (by omega)).trans ?_; with_reducible rfl)))
    simp only [Act.put, List.setIfInBounds_toArray, List.set_cons_zero, List.set_cons_succ, List.getElem_toArray, List.getElem_cons_zero, List.getElem_cons_succ]
    refine wpG_take (i := 21) (v := (.bool true)) rfl (by kernel_rfl) (by kernel_rfl) (by kernel_rfl) (fun _ _ _ h => h) (Or.inl ⟨by rfl, ?hyk1o22⟩) ?restk1o22
    case hyk1o22 => (intro W hSw; right; (try dsimp only at hSw); refine ⟨_, _, (by go_simp; try with_reducible rfl), (HHS.out W).mono ?_⟩; rintro e w' ⟨rfl, hb⟩; exact ⟨rfl, HCC.out _ _ hSw hb, hb⟩)
    simp only [Act.put, List.setIfInBounds_toArray, List.set_cons_zero, List.set_cons_succ, List.getElem_toArray, List.getElem_cons_zero, List.getElem_cons_succ]
    refine wpG_take (i := 22) (v := ?vk1o23) rfl (by kernel_rfl) (by kernel_rfl) (by kernel_rfl) (fun _ _ _ h => h) (Or.inl ⟨by rfl, ?hyk1o23⟩) ?restk1o23
    case hyk1o23 => (intro W hSw; left; (try dsimp only at hSw); go_simp; try (first | with_reducible rfl | (refine (if_neg (by omega)).trans ?_; with_reducible rfl)))
    simp only [Act.put, List.setIfInBounds_toArray, List.set_cons_zero, List.set_cons_succ, List.getElem_toArray, List.getElem_cons_zero, List.getElem_cons_succ]
    refine wpG_take (i := 23) (v := ?vk1o24) rfl (by kernel_rfl) (by kernel_rfl) (by kernel_rfl) (fun _ _ _ h => h) (Or.inl ⟨by rfl, ?hyk1o24⟩) ?restk1o24
    case hyk1o24 => (intro W hSw; left; (try dsimp only at hSw); go_simp; try (first | with_reducible rfl | (refine (if_neg (by omega)).trans ?_; with_reducible rfl)))
    simp only [Act.put, List.setIfInBounds_toArray, List.set_cons_zero, List.set_cons_succ, List.getElem_toArray, List.getElem_cons_zero, List.getElem_cons_succ]
    refine wpG_take (i := 24) (v := ?vk1o25) rfl (by kernel_rfl) (by kernel_rfl) (by kernel_rfl) (fun _ _ _ h => h) (Or.inl ⟨by rfl, ?hyk1o25⟩) ?restk1o25
    case hyk1o25 => (intro W hSw; left; (try dsimp only at hSw); go_simp; try (first | with_reducible rfl | (refine (if_neg (by omega)).trans ?_; with_reducible rfl)))
    simp only [Act.put, List.setIfInBounds_toArray, List.set_cons_zero, List.set_cons_succ, List.getElem_toArray, List.getElem_cons_zero, List.getElem_cons_succ]
    refine wpG_take (i := 25) (v := (.int .u8 45)) rfl (by kernel_rfl) (by kernel_rfl) (by kernel_rfl) (fun _ _ _ h => h) (Or.inl ⟨by rfl, ?hyk1o26⟩) ?restk1o26
    case hyk1o26 => (intro W hSw; left; (try dsimp only at hSw); have cz := hSBs.2; go_simp; try (first | with_reducible rfl | (refine (if_neg (by omega)).trans ?_; with_reducible rfl) | (rw [dif_pos (show 0 < SB.size by omega), HAT.out]; rfl)))
    simp only [Act.put, List.setIfInBounds_toArray, List.set_cons_zero, List.set_cons_succ, List.getElem_toArray, List.getElem_cons_zero, List.getElem_cons_succ]
    refine wpG_take (i := 26) (v := ?vk1o27) rfl (by kernel_rfl) (by kernel_rfl) (by kernel_rfl) (fun _ _ _ h => h) (Or.inl ⟨by rfl, ?hyk1o27⟩) ?restk1o27
    case hyk1o27 => (intro W hSw; left; (try dsimp only at hSw); go_simp; try (first | with_reducible rfl | (refine (if_neg (by omega)).trans ?_; with_reducible rfl)))
    simp only [Act.put, List.setIfInBounds_toArray, List.set_cons_zero, List.set_cons_succ, List.getElem_toArray, List.getElem_cons_zero, List.getElem_cons_succ]
    refine wpG_take (i := 27) (v := ?vk1o28) rfl (by kernel_rfl) (by kernel_rfl) (by kernel_rfl) (fun _ _ _ h => h) (Or.inl ⟨by rfl, ?hyk1o28⟩) ?restk1o28
    case hyk1o28 => (intro W hSw; left; (try dsimp only at hSw); have cf := HC1.out _ hSw; go_simp; try (first | with_reducible rfl | (refine (if_neg (by omega)).trans ?_; with_reducible rfl)))
    simp only [Act.put, List.setIfInBounds_toArray, List.set_cons_zero, List.set_cons_succ, List.getElem_toArray, List.getElem_cons_zero, List.getElem_cons_succ]
    refine wpG_take (i := 28) (v := ?vk1o29) rfl (by kernel_rfl) (by kernel_rfl) (by kernel_rfl) (fun _ _ _ h => h) (Or.inl ⟨by rfl, ?hyk1o29⟩) ?restk1o29
    case hyk1o29 => (intro W hSw; left; (try dsimp only at hSw); go_simp; try (first | with_reducible rfl | (refine (if_neg (by omega)).trans ?_; with_reducible rfl)))
    simp only [Act.put, List.setIfInBounds_toArray, List.set_cons_zero, List.set_cons_succ, List.getElem_toArray, List.getElem_cons_zero, List.getElem_cons_succ]
    refine wpG_take (i := 29) (v := ?vk1o30) rfl (by kernel_rfl) (by kernel_rfl) (by kernel_rfl) (fun _ _ _ h => h) (Or.inl ⟨by rfl, ?hyk1o30⟩) ?restk1o30
    case hyk1o30 => (intro W hSw; left; (try dsimp only at hSw); go_simp; try (first | with_reducible rfl | (refine (if_neg (by omega)).trans ?_; with_reducible rfl)))
    simp only [Act.put, List.setIfInBounds_toArray, List.set_cons_zero, List.set_cons_succ, List.getElem_toArray, List.getElem_cons_zero, List.getElem_cons_succ]
    refine wpG_take (i := 30) (v := ?vk1o31) rfl (by kernel_rfl) (by kernel_rfl) (by kernel_rfl) (fun _ _ _ h => h) (Or.inl ⟨by rfl, ?hyk1o31⟩) ?restk1o31
    case hyk1o31 => (intro W hSw; left; (try dsimp only at hSw); go_simp; try (first | with_reducible rfl | (refine (if_neg (by omega)).trans ?_; with_reducible rfl)))
    simp only [Act.put, List.setIfInBounds_toArray, List.set_cons_zero, List.set_cons_succ, List.getElem_toArray, List.getElem_cons_zero, List.getElem_cons_succ]
    refine wpG_take (i := 31) (v := ?vk1o32) rfl (by kernel_rfl) (by kernel_rfl) (by kernel_rfl) (fun _ _ _ h => h) (Or.inl ⟨by rfl, ?hyk1o32⟩) ?restk1o32
    case hyk1o32 => (intro W hSw; left; (try dsimp only at hSw); go_simp; try (first | with_reducible rfl | (refine (if_neg (by omega)).trans ?_; with_reducible rfl)))
    simp only [Act.put, List.setIfInBounds_toArray, List.set_cons_zero, List.set_cons_succ, List.getElem_toArray, List.getElem_cons_zero, List.getElem_cons_succ]
    refine wpG_done (by kernel_rfl) (fun w' hb hS => ?_) _
    go_wp2_with fail
    go_ret
    exact ⟨rfl, HB3.out.trans (hS.mono HB3.out.size)⟩
  ·
    have hX := Lib.hid (HEE.out (bs xp) (by simp))
    clear HEE
    go_upto_region 10 with fail
    rw [hX.out]
    clear p0 p1 p2 hX
    refine wp_region_G (S := fun W => Below w3.heap.size w3 W) (by kernel_rfl) (Below.refl _ _).drew ?_
    refine wpG_take (i := 0) (v := ?vk2o1) rfl (by kernel_rfl) (by kernel_rfl) (by kernel_rfl) (fun _ _ _ h => h) (Or.inl ⟨by rfl, ?hyk2o1⟩) ?restk2o1
    case hyk2o1 => (intro W hSw; left; (try dsimp only at hSw); go_simp; try (first | with_reducible rfl | (refine (if_neg (by omega)).trans ?_; with_reducible rfl)))
    simp only [Act.put, List.setIfInBounds_toArray, List.set_cons_zero, List.set_cons_succ, List.getElem_toArray, List.getElem_cons_zero, List.getElem_cons_succ]
    refine wpG_take (i := 1) (v := ?vk2o2) rfl (by kernel_rfl) (by kernel_rfl) (by kernel_rfl) (fun _ _ _ h => h) (Or.inl ⟨by rfl, ?hyk2o2⟩) ?restk2o2
    case hyk2o2 => (intro W hSw; left; (try dsimp only at hSw); go_simp; try (first | with_reducible rfl | (refine (if_neg (by omega)).trans ?_; with_reducible rfl)))
    simp only [Act.put, List.setIfInBounds_toArray, List.set_cons_zero, List.set_cons_succ, List.getElem_toArray, List.getElem_cons_zero, List.getElem_cons_succ]
    refine wpG_take (i := 2) (v := ?vk2o3) rfl (by kernel_rfl) (by kernel_rfl) (by kernel_rfl) (fun _ _ _ h => h) (Or.inl ⟨by rfl, ?hyk2o3⟩) ?restk2o3
    case hyk2o3 => (intro W hSw; left; (try dsimp only at hSw); go_simp; try (first | with_reducible rfl | (refine (if_neg (by omega)).trans ?_; with_reducible rfl)))
    simp only [Act.put, List.setIfInBounds_toArray, List.set_cons_zero, List.set_cons_succ, List.getElem_toArray, List.getElem_cons_zero, List.getElem_cons_succ]
    refine wpG_take (i := 3) (v := ?vk2o4) rfl (by kernel_rfl) (by kernel_rfl) (by kernel_rfl) (fun _ _ _ h => h) (Or.inl ⟨by rfl, ?hyk2o4⟩) ?restk2o4
    case hyk2o4 => (intro W hSw; left; (try dsimp only at hSw); go_simp; try (first | with_reducible rfl | (refine (if_neg (by omega)).trans ?_; with_reducible rfl)))
    simp only [Act.put, List.setIfInBounds_toArray, List.set_cons_zero, List.set_cons_succ, List.getElem_toArray, List.getElem_cons_zero, List.getElem_cons_succ]
    refine wpG_take (i := 4) (v := ?vk2o5) rfl (by kernel_rfl) (by kernel_rfl) (by kernel_rfl) (fun _ _ _ h => h) (Or.inl ⟨by rfl, ?hyk2o5⟩) ?restk2o5
    case hyk2o5 => (intro W hSw; left; (try dsimp only at hSw); go_simp; try (first | with_reducible rfl | (refine (if_neg (by omega)).trans ?_; with_reducible rfl)))
    simp only [Act.put, List.setIfInBounds_toArray, List.set_cons_zero, List.set_cons_succ, List.getElem_toArray, List.getElem_cons_zero, List.getElem_cons_succ]
    refine wpG_take (i := 5) (v := ?vk2o6) rfl (by kernel_rfl) (by kernel_rfl) (by kernel_rfl) (fun _ _ _ h => h) (Or.inl ⟨by rfl, ?hyk2o6⟩) ?restk2o6
    case hyk2o6 => (intro W hSw; left; (try dsimp only at hSw); go_simp; try (first | with_reducible rfl | (refine (if_neg (by omega)).trans ?_; with_reducible rfl)))
    simp only [Act.put, List.setIfInBounds_toArray, List.set_cons_zero, List.set_cons_succ, List.getElem_toArray, List.getElem_cons_zero, List.getElem_cons_succ]
    refine wpG_take (i := 6) (v := ?vk2o7) rfl (by kernel_rfl) (by kernel_rfl) (by kernel_rfl) (fun _ _ _ h => h) (Or.inl ⟨by rfl, ?hyk2o7⟩) ?restk2o7
    case hyk2o7 => (intro W hSw; left; (try dsimp only at hSw); go_simp; try (first | with_reducible rfl | (refine (if_neg (by omega)).trans ?_; with_reducible rfl)))
    simp only [Act.put, List.setIfInBounds_toArray, List.set_cons_zero, List.set_cons_succ, List.getElem_toArray, List.getElem_cons_zero, List.getElem_cons_succ]
    refine wpG_take (i := 7) (v := ?vk2o8) rfl (by kernel_rfl) (by kernel_rfl) (by kernel_rfl) (fun _ _ _ h => h) (Or.inl ⟨by rfl, ?hyk2o8⟩) ?restk2o8
    case hyk2o8 => (intro W hSw; left; (try dsimp only at hSw); go_simp; try (first | with_reducible rfl | (refine (if_neg (by omega)).trans ?_; with_reducible rfl)))
    simp only [Act.put, List.setIfInBounds_toArray, List.set_cons_zero, List.set_cons_succ, List.getElem_toArray, List.getElem_cons_zero, List.getElem_cons_succ]
    refine wpG_take (i := 8) (v := ?vk2o9) rfl (by kernel_rfl) (by kernel_rfl) (by kernel_rfl) (fun _ _ _ h => h) (Or.inl ⟨by rfl, ?hyk2o9⟩) ?restk2o9
    case hyk2o9 => (intro W hSw; left; (try dsimp only at hSw); go_simp; try (first | with_reducible rfl | (refine (if_neg (by omega)).trans ?_; with_reducible rfl)))
    simp only [Act.put, List.setIfInBounds_toArray, List.set_cons_zero, List.set_cons_succ, List.getElem_toArray, List.getElem_cons_zero, List.getElem_cons_succ]
    refine wpG_take (i := 9) (v := (.bool true)) rfl (by kernel_rfl) (by kernel_rfl) (by kernel_rfl) (fun _ _ _ h => h) (Or.inl ⟨by rfl, ?hyk2o10⟩) ?restk2o10
    case hyk2o10 => (intro W hSw; left; (try dsimp only at hSw); have cz := hSBs.2; go_simp; try (first | with_reducible rfl | (refine (if_neg (by omega)).trans ?_; with_reducible rfl) | omega))
    simp only [Act.put, List.setIfInBounds_toArray, List.set_cons_zero, List.set_cons_succ, List.getElem_toArray, List.getElem_cons_zero, List.getElem_cons_succ]
    refine wpG_take (i := 10) (v := ?vk2o11) rfl (by kernel_rfl) (by kernel_rfl) (by kernel_rfl) (fun _ _ _ h => h) (Or.inl ⟨by rfl, ?hyk2o11⟩) ?restk2o11
    case hyk2o11 => (intro W hSw; left; (try dsimp only at hSw); go_simp; try (first | with_reducible rfl | (refine (if_neg (by omega)).trans ?_; with_reducible rfl)))
    simp only [Act.put, List.setIfInBounds_toArray, List.set_cons_zero, List.set_cons_succ, List.getElem_toArray, List.getElem_cons_zero, List.getElem_cons_succ]
    refine wpG_take (i := 11) (v := ?vk2o12) rfl (by kernel_rfl) (by kernel_rfl) (by kernel_rfl) (fun _ _ _ h => h) (Or.inl ⟨by rfl, ?hyk2o12⟩) ?restk2o12
    case hyk2o12 => (intro W hSw; left; (try dsimp only at hSw); go_simp; try (first | with_reducible rfl | (refine (if_neg (by omega)).trans ?_; with_reducible rfl)))
    simp only [Act.put, List.setIfInBounds_toArray, List.set_cons_zero, List.set_cons_succ, List.getElem_toArray, List.getElem_cons_zero, List.getElem_cons_succ]
    refine wpG_take (i := 12) (v := ?vk2o13) rfl (by kernel_rfl) (by kernel_rfl) (by kernel_rfl) (fun _ _ _ h => h) (Or.inl ⟨by rfl, ?hyk2o13⟩) ?restk2o13
    case hyk2o13 => (intro W hSw; left; (try dsimp only at hSw); go_simp; try (first | with_reducible rfl | (refine (if_neg (by omega)).trans ?_; with_reducible rfl)))
    simp only [Act.put, List.setIfInBounds_toArray, List.set_cons_zero, List.set_cons_succ, List.getElem_toArray, List.getElem_cons_zero, List.getElem_cons_succ]
    refine wpG_take (i := 13) (v := (.string MB)) rfl (by kernel_rfl) (by kernel_rfl) (by kernel_rfl) (fun _ _ _ h => h) (Or.inl ⟨by rfl, ?hyk2o14⟩) ?restk2o14
    case hyk2o14 => (intro W hSw; left; (try dsimp only at hSw); have cz := hSBs.2; go_simp; try (first | with_reducible rfl | (refine (if_neg (by omega)).trans ?_; with_reducible rfl) | (intro hq; omega)))
    simp only [Act.put, List.setIfInBounds_toArray, List.set_cons_zero, List.set_cons_succ, List.getElem_toArray, List.getElem_cons_zero, List.getElem_cons_succ]
    refine wpG_take (i := 14) (v := ?vk2o15) rfl (by kernel_rfl) (by kernel_rfl) (by kernel_rfl) (fun _ _ _ h => h) (Or.inl ⟨by rfl, ?hyk2o15⟩) ?restk2o15
    case hyk2o15 => (intro W hSw; left; (try dsimp only at hSw); go_simp; try (first | with_reducible rfl | (refine (if_neg (by omega)).trans ?_; with_reducible rfl)))
    simp only [Act.put, List.setIfInBounds_toArray, List.set_cons_zero, List.set_cons_succ, List.getElem_toArray, List.getElem_cons_zero, List.getElem_cons_succ]
    refine wpG_take (i := 15) (v := ?vk2o16) rfl (by kernel_rfl) (by kernel_rfl) (by kernel_rfl) (fun _ _ _ h => h) (Or.inl ⟨by rfl, ?hyk2o16⟩) ?restk2o16
    case hyk2o16 => (intro W hSw; left; (try dsimp only at hSw); go_simp; try (first | with_reducible rfl | (refine (if_neg (by omega)).trans ?_; with_reducible rfl)))
    simp only [Act.put, List.setIfInBounds_toArray, List.set_cons_zero, List.set_cons_succ, List.getElem_toArray, List.getElem_cons_zero, List.getElem_cons_succ]
    refine wpG_take (i := 16) (v := ?vk2o17) rfl (by kernel_rfl) (by kernel_rfl) (by kernel_rfl) (fun _ _ _ h => h) (Or.inl ⟨by rfl, ?hyk2o17⟩) ?restk2o17
    case hyk2o17 => (intro W hSw; left; (try dsimp only at hSw); go_simp; try (first | with_reducible rfl | (refine (if_neg (by omega)).trans ?_; with_reducible rfl)))
    simp only [Act.put, List.setIfInBounds_toArray, List.set_cons_zero, List.set_cons_succ, List.getElem_toArray, List.getElem_cons_zero, List.getElem_cons_succ]
    refine wpG_take (i := 17) (v := ?vk2o18) rfl (by kernel_rfl) (by kernel_rfl) (by kernel_rfl) (fun _ _ _ h => h) (Or.inl ⟨by rfl, ?hyk2o18⟩) ?restk2o18
    case hyk2o18 => (intro W hSw; left; (try dsimp only at hSw); go_simp; try (first | with_reducible rfl | (refine (if_neg (by omega)).trans ?_; with_reducible rfl)))
    simp only [Act.put, List.setIfInBounds_toArray, List.set_cons_zero, List.set_cons_succ, List.getElem_toArray, List.getElem_cons_zero, List.getElem_cons_succ]
    refine wpG_take (i := 18) (v := ?vk2o19) rfl (by kernel_rfl) (by kernel_rfl) (by kernel_rfl) (fun _ _ _ h => h) (Or.inl ⟨by rfl, ?hyk2o19⟩) ?restk2o19
    case hyk2o19 => (intro W hSw; left; (try dsimp only at hSw); go_simp; try (first | with_reducible rfl | (refine (if_neg (by omega)).trans ?_; with_reducible rfl)))
    simp only [Act.put, List.setIfInBounds_toArray, List.set_cons_zero, List.set_cons_succ, List.getElem_toArray, List.getElem_cons_zero, List.getElem_cons_succ]
    refine wpG_take (i := 19) (v := ?vk2o20) rfl (by kernel_rfl) (by kernel_rfl) (by kernel_rfl) (fun _ _ _ h => h) (Or.inl ⟨by rfl, ?hyk2o20⟩) ?restk2o20
    case hyk2o20 => (intro W hSw; left; (try dsimp only at hSw); go_simp; try (first | with_reducible rfl | (refine (if_neg (by omega)).trans ?_; with_reducible rfl)))
    simp only [Act.put, List.setIfInBounds_toArray, List.set_cons_zero, List.set_cons_succ, List.getElem_toArray, List.getElem_cons_zero, List.getElem_cons_succ]
    refine wpG_take (i := 20) (v := ?vk2o21) rfl (by kernel_rfl) (by kernel_rfl) (by kernel_rfl) (fun _ _ _ h => h) (Or.inl ⟨by rfl, ?hyk2o21⟩) ?restk2o21
    case hyk2o21 => (intro W hSw; left; (try dsimp only at hSw); go_simp; try (first | with_reducible rfl | (refine (if_neg (by omega)).trans ?_; with_reducible rfl)))
    simp only [Act.put, List.setIfInBounds_toArray, List.set_cons_zero, List.set_cons_succ, List.getElem_toArray, List.getElem_cons_zero, List.getElem_cons_succ]
    refine wpG_take (i := 21) (v := (.bool true)) rfl (by kernel_rfl) (by kernel_rfl) (by kernel_rfl) (fun _ _ _ h => h) (Or.inl ⟨by rfl, ?hyk2o22⟩) ?restk2o22
    case hyk2o22 => (intro W hSw; right; (try dsimp only at hSw); refine ⟨_, _, (by go_simp; try with_reducible rfl), (HHS.out W).mono ?_⟩; rintro e w' ⟨rfl, hb⟩; exact ⟨rfl, HCC.out _ _ hSw hb, hb⟩)
    simp only [Act.put, List.setIfInBounds_toArray, List.set_cons_zero, List.set_cons_succ, List.getElem_toArray, List.getElem_cons_zero, List.getElem_cons_succ]
    refine wpG_take (i := 22) (v := ?vk2o23) rfl (by kernel_rfl) (by kernel_rfl) (by kernel_rfl) (fun _ _ _ h => h) (Or.inl ⟨by rfl, ?hyk2o23⟩) ?restk2o23
    case hyk2o23 => (intro W hSw; left; (try dsimp only at hSw); go_simp; try (first | with_reducible rfl | (refine (if_neg (by omega)).trans ?_; with_reducible rfl)))
    simp only [Act.put, List.setIfInBounds_toArray, List.set_cons_zero, List.set_cons_succ, List.getElem_toArray, List.getElem_cons_zero, List.getElem_cons_succ]
    refine wpG_take (i := 23) (v := ?vk2o24) rfl (by kernel_rfl) (by kernel_rfl) (by kernel_rfl) (fun _ _ _ h => h) (Or.inl ⟨by rfl, ?hyk2o24⟩) ?restk2o24
    case hyk2o24 => (intro W hSw; left; (try dsimp only at hSw); go_simp; try (first | with_reducible rfl | (refine (if_neg (by omega)).trans ?_; with_reducible rfl)))
    simp only [Act.put, List.setIfInBounds_toArray, List.set_cons_zero, List.set_cons_succ, List.getElem_toArray, List.getElem_cons_zero, List.getElem_cons_succ]
    refine wpG_take (i := 24) (v := ?vk2o25) rfl (by kernel_rfl) (by kernel_rfl) (by kernel_rfl) (fun _ _ _ h => h) (Or.inl ⟨by rfl, ?hyk2o25⟩) ?restk2o25
    case hyk2o25 => (intro W hSw; left; (try dsimp only at hSw); go_simp; try (first | with_reducible rfl | (refine (if_neg (by omega)).trans ?_; with_reducible rfl)))
    simp only [Act.put, List.setIfInBounds_toArray, List.set_cons_zero, List.set_cons_succ, List.getElem_toArray, List.getElem_cons_zero, List.getElem_cons_succ]
    refine wpG_take (i := 25) (v := (.int .u8 100)) rfl (by kernel_rfl) (by kernel_rfl) (by kernel_rfl) (fun _ _ _ h => h) (Or.inl ⟨by rfl, ?hyk2o26⟩) ?restk2o26
    case hyk2o26 => (intro W hSw; left; (try dsimp only at hSw); have cz := hSBs.2; go_simp; try (first | with_reducible rfl | (refine (if_neg (by omega)).trans ?_; with_reducible rfl) | (rw [dif_pos (show 0 < SB.size by omega), HAT.out]; rfl)))
    simp only [Act.put, List.setIfInBounds_toArray, List.set_cons_zero, List.set_cons_succ, List.getElem_toArray, List.getElem_cons_zero, List.getElem_cons_succ]
    refine wpG_take (i := 26) (v := ?vk2o27) rfl (by kernel_rfl) (by kernel_rfl) (by kernel_rfl) (fun _ _ _ h => h) (Or.inl ⟨by rfl, ?hyk2o27⟩) ?restk2o27
    case hyk2o27 => (intro W hSw; left; (try dsimp only at hSw); go_simp; try (first | with_reducible rfl | (refine (if_neg (by omega)).trans ?_; with_reducible rfl)))
    simp only [Act.put, List.setIfInBounds_toArray, List.set_cons_zero, List.set_cons_succ, List.getElem_toArray, List.getElem_cons_zero, List.getElem_cons_succ]
    refine wpG_take (i := 27) (v := ?vk2o28) rfl (by kernel_rfl) (by kernel_rfl) (by kernel_rfl) (fun _ _ _ h => h) (Or.inl ⟨by rfl, ?hyk2o28⟩) ?restk2o28
    case hyk2o28 => (intro W hSw; left; (try dsimp only at hSw); have cf := HC1.out _ hSw; go_simp; try (first | with_reducible rfl | (refine (if_neg (by omega)).trans ?_; with_reducible rfl)))
    simp only [Act.put, List.setIfInBounds_toArray, List.set_cons_zero, List.set_cons_succ, List.getElem_toArray, List.getElem_cons_zero, List.getElem_cons_succ]
    refine wpG_take (i := 28) (v := ?vk2o29) rfl (by kernel_rfl) (by kernel_rfl) (by kernel_rfl) (fun _ _ _ h => h) (Or.inl ⟨by rfl, ?hyk2o29⟩) ?restk2o29
    case hyk2o29 => (intro W hSw; left; (try dsimp only at hSw); go_simp; try (first | with_reducible rfl | (refine (if_neg (by omega)).trans ?_; with_reducible rfl)))
    simp only [Act.put, List.setIfInBounds_toArray, List.set_cons_zero, List.set_cons_succ, List.getElem_toArray, List.getElem_cons_zero, List.getElem_cons_succ]
    refine wpG_take (i := 29) (v := ?vk2o30) rfl (by kernel_rfl) (by kernel_rfl) (by kernel_rfl) (fun _ _ _ h => h) (Or.inl ⟨by rfl, ?hyk2o30⟩) ?restk2o30
    case hyk2o30 => (intro W hSw; left; (try dsimp only at hSw); go_simp; try (first | with_reducible rfl | (refine (if_neg (by omega)).trans ?_; with_reducible rfl)))
    simp only [Act.put, List.setIfInBounds_toArray, List.set_cons_zero, List.set_cons_succ, List.getElem_toArray, List.getElem_cons_zero, List.getElem_cons_succ]
    refine wpG_take (i := 30) (v := ?vk2o31) rfl (by kernel_rfl) (by kernel_rfl) (by kernel_rfl) (fun _ _ _ h => h) (Or.inl ⟨by rfl, ?hyk2o31⟩) ?restk2o31
    case hyk2o31 => (intro W hSw; left; (try dsimp only at hSw); go_simp; try (first | with_reducible rfl | (refine (if_neg (by omega)).trans ?_; with_reducible rfl)))
    simp only [Act.put, List.setIfInBounds_toArray, List.set_cons_zero, List.set_cons_succ, List.getElem_toArray, List.getElem_cons_zero, List.getElem_cons_succ]
    refine wpG_take (i := 31) (v := ?vk2o32) rfl (by kernel_rfl) (by kernel_rfl) (by kernel_rfl) (fun _ _ _ h => h) (Or.inl ⟨by rfl, ?hyk2o32⟩) ?restk2o32
    case hyk2o32 => (intro W hSw; left; (try dsimp only at hSw); go_simp; try (first | with_reducible rfl | (refine (if_neg (by omega)).trans ?_; with_reducible rfl)))
    simp only [Act.put, List.setIfInBounds_toArray, List.set_cons_zero, List.set_cons_succ, List.getElem_toArray, List.getElem_cons_zero, List.getElem_cons_succ]
    refine wpG_done (by kernel_rfl) (fun w' hb hS => ?_) _
    go_wp2_with fail
    go_ret
    exact ⟨rfl, HB3.out.trans (hS.mono HB3.out.size)⟩
  ·
    have hX := Lib.hid (HEE.out (bs xp ++ ((⟨#[32, 45, 62, 32]⟩ : ByteArray) ++ bs xt)) (by rw [show (⟨#[32, 45, 62, 32]⟩ : ByteArray) = bs [32, 45, 62, 32] from rfl, if_pos (rfl : (3 : Int) = 3), bs_append, bs_append]))
    clear HEE
    go_upto_region 10 with fail
    rw [hX.out]
    clear p0 p1 p2 hX
    refine wp_region_G (S := fun W => Below w3.heap.size w3 W) (by kernel_rfl) (Below.refl _ _).drew ?_
    refine wpG_take (i := 0) (v := ?vk3o1) rfl (by kernel_rfl) (by kernel_rfl) (by kernel_rfl) (fun _ _ _ h => h) (Or.inl ⟨by rfl, ?hyk3o1⟩) ?restk3o1
    case hyk3o1 => (intro W hSw; left; (try dsimp only at hSw); go_simp; try (first | with_reducible rfl | (refine (if_neg (by omega)).trans ?_; with_reducible rfl)))
    simp only [Act.put, List.setIfInBounds_toArray, List.set_cons_zero, List.set_cons_succ, List.getElem_toArray, List.getElem_cons_zero, List.getElem_cons_succ]
    refine wpG_take (i := 1) (v := ?vk3o2) rfl (by kernel_rfl) (by kernel_rfl) (by kernel_rfl) (fun _ _ _ h => h) (Or.inl ⟨by rfl, ?hyk3o2⟩) ?restk3o2
    case hyk3o2 => (intro W hSw; left; (try dsimp only at hSw); go_simp; try (first | with_reducible rfl | (refine (if_neg (by omega)).trans ?_; with_reducible rfl)))
    simp only [Act.put, List.setIfInBounds_toArray, List.set_cons_zero, List.set_cons_succ, List.getElem_toArray, List.getElem_cons_zero, List.getElem_cons_succ]
    refine wpG_take (i := 2) (v := ?vk3o3) rfl (by kernel_rfl) (by kernel_rfl) (by kernel_rfl) (fun _ _ _ h => h) (Or.inl ⟨by rfl, ?hyk3o3⟩) ?restk3o3
    case hyk3o3 => (intro W hSw; left; (try dsimp only at hSw); go_simp; try (first | with_reducible rfl | (refine (if_neg (by omega)).trans ?_; with_reducible rfl)))
    simp only [Act.put, List.setIfInBounds_toArray, List.set_cons_zero, List.set_cons_succ, List.getElem_toArray, List.getElem_cons_zero, List.getElem_cons_succ]
    refine wpG_take (i := 3) (v := ?vk3o4) rfl (by kernel_rfl) (by kernel_rfl) (by kernel_rfl) (fun _ _ _ h => h) (Or.inl ⟨by rfl, ?hyk3o4⟩) ?restk3o4
    case hyk3o4 => (intro W hSw; left; (try dsimp only at hSw); go_simp; try (first | with_reducible rfl | (refine (if_neg (by omega)).trans ?_; with_reducible rfl)))
    simp only [Act.put, List.setIfInBounds_toArray, List.set_cons_zero, List.set_cons_succ, List.getElem_toArray, List.getElem_cons_zero, List.getElem_cons_succ]
    refine wpG_take (i := 4) (v := ?vk3o5) rfl (by kernel_rfl) (by kernel_rfl) (by kernel_rfl) (fun _ _ _ h => h) (Or.inl ⟨by rfl, ?hyk3o5⟩) ?restk3o5
    case hyk3o5 => (intro W hSw; left; (try dsimp only at hSw); go_simp; try (first | with_reducible rfl | (refine (if_neg (by omega)).trans ?_; with_reducible rfl)))
    simp only [Act.put, List.setIfInBounds_toArray, List.set_cons_zero, List.set_cons_succ, List.getElem_toArray, List.getElem_cons_zero, List.getElem_cons_succ]
    refine wpG_take (i := 5) (v := ?vk3o6) rfl (by kernel_rfl) (by kernel_rfl) (by kernel_rfl) (fun _ _ _ h => h) (Or.inl ⟨by rfl, ?hyk3o6⟩) ?restk3o6
    case hyk3o6 => (intro W hSw; left; (try dsimp only at hSw); go_simp; try (first | with_reducible rfl | (refine (if_neg (by omega)).trans ?_; with_reducible rfl)))
    simp only [Act.put, List.setIfInBounds_toArray, List.set_cons_zero, List.set_cons_succ, List.getElem_toArray, List.getElem_cons_zero, List.getElem_cons_succ]
    refine wpG_take (i := 6) (v := ?vk3o7) rfl (by kernel_rfl) (by kernel_rfl) (by kernel_rfl) (fun _ _ _ h => h) (Or.inl ⟨by rfl, ?hyk3o7⟩) ?restk3o7
    case hyk3o7 => (intro W hSw; left; (try dsimp only at hSw); go_simp; try (first | with_reducible rfl | (refine (if_neg (by omega)).trans ?_; with_reducible rfl)))
    simp only [Act.put, List.setIfInBounds_toArray, List.set_cons_zero, List.set_cons_succ, List.getElem_toArray, List.getElem_cons_zero, List.getElem_cons_succ]
    refine wpG_take (i := 7) (v := ?vk3o8) rfl (by kernel_rfl) (by kernel_rfl) (by kernel_rfl) (fun _ _ _ h => h) (Or.inl ⟨by rfl, ?hyk3o8⟩) ?restk3o8
    case hyk3o8 => (intro W hSw; left; (try dsimp only at hSw); go_simp; try (first | with_reducible rfl | (refine (if_neg (by omega)).trans ?_; with_reducible rfl)))
    simp only [Act.put, List.setIfInBounds_toArray, List.set_cons_zero, List.set_cons_succ, List.getElem_toArray, List.getElem_cons_zero, List.getElem_cons_succ]
    refine wpG_take (i := 8) (v := ?vk3o9) rfl (by kernel_rfl) (by kernel_rfl) (by kernel_rfl) (fun _ _ _ h => h) (Or.inl ⟨by rfl, ?hyk3o9⟩) ?restk3o9
    case hyk3o9 => (intro W hSw; left; (try dsimp only at hSw); go_simp; try (first | with_reducible rfl | (refine (if_neg (by omega)).trans ?_; with_reducible rfl)))
    simp only [Act.put, List.setIfInBounds_toArray, List.set_cons_zero, List.set_cons_succ, List.getElem_toArray, List.getElem_cons_zero, List.getElem_cons_succ]
    refine wpG_take (i := 9) (v := (.bool true)) rfl (by kernel_rfl) (by kernel_rfl) (by kernel_rfl) (fun _ _ _ h => h) (Or.inl ⟨by rfl, ?hyk3o10⟩) ?restk3o10
    case hyk3o10 => (intro W hSw; left; (try dsimp only at hSw); have cz := hSBs.2; go_simp; try (first | with_reducible rfl | (refine (if_neg (by omega)).trans ?_; with_reducible rfl) | omega))
    simp only [Act.put, List.setIfInBounds_toArray, List.set_cons_zero, List.set_cons_succ, List.getElem_toArray, List.getElem_cons_zero, List.getElem_cons_succ]
    refine wpG_take (i := 10) (v := ?vk3o11) rfl (by kernel_rfl) (by kernel_rfl) (by kernel_rfl) (fun _ _ _ h => h) (Or.inl ⟨by rfl, ?hyk3o11⟩) ?restk3o11
    case hyk3o11 => (intro W hSw; left; (try dsimp only at hSw); go_simp; try (first | with_reducible rfl | (refine (if_neg (by omega)).trans ?_; with_reducible rfl)))
    simp only [Act.put, List.setIfInBounds_toArray, List.set_cons_zero, List.set_cons_succ, List.getElem_toArray, List.getElem_cons_zero, List.getElem_cons_succ]
    refine wpG_take (i := 11) (v := ?vk3o12) rfl (by kernel_rfl) (by kernel_rfl) (by kernel_rfl) (fun _ _ _ h => h) (Or.inl ⟨by rfl, ?hyk3o12⟩) ?restk3o12
    case hyk3o12 => (intro W hSw; left; (try dsimp only at hSw); go_simp; try (first | with_reducible rfl | (refine (if_neg (by omega)).trans ?_; with_reducible rfl)))
    simp only [Act.put, List.setIfInBounds_toArray, List.set_cons_zero, List.set_cons_succ, List.getElem_toArray, List.getElem_cons_zero, List.getElem_cons_succ]
    refine wpG_take (i := 12) (v := ?vk3o13) rfl (by kernel_rfl) (by kernel_rfl) (by kernel_rfl) (fun _ _ _ h => h) (Or.inl ⟨by rfl, ?hyk3o13⟩) ?restk3o13
    case hyk3o13 => (intro W hSw; left; (try dsimp only at hSw); go_simp; try (first | with_reducible rfl | (refine (if_neg (by omega)).trans ?_; with_reducible rfl)))
    simp only [Act.put, List.setIfInBounds_toArray, List.set_cons_zero, List.set_cons_succ, List.getElem_toArray, List.getElem_cons_zero, List.getElem_cons_succ]
    refine wpG_take (i := 13) (v := (.string MB)) rfl (by kernel_rfl) (by kernel_rfl) (by kernel_rfl) (fun _ _ _ h => h) (Or.inl ⟨by rfl, ?hyk3o14⟩) ?restk3o14
    case hyk3o14 => (intro W hSw; left; (try dsimp only at hSw); have cz := hSBs.2; go_simp; try (first | with_reducible rfl | (refine (if_neg (by omega)).trans ?_; with_reducible rfl) | (intro hq; omega)))
    simp only [Act.put, List.setIfInBounds_toArray, List.set_cons_zero, List.set_cons_succ, List.getElem_toArray, List.getElem_cons_zero, List.getElem_cons_succ]
    refine wpG_take (i := 14) (v := ?vk3o15) rfl (by kernel_rfl) (by kernel_rfl) (by kernel_rfl) (fun _ _ _ h => h) (Or.inl ⟨by rfl, ?hyk3o15⟩) ?restk3o15
    case hyk3o15 => (intro W hSw; left; (try dsimp only at hSw); go_simp; try (first | with_reducible rfl | (refine (if_neg (by omega)).trans ?_; with_reducible rfl)))
    simp only [Act.put, List.setIfInBounds_toArray, List.set_cons_zero, List.set_cons_succ, List.getElem_toArray, List.getElem_cons_zero, List.getElem_cons_succ]
    refine wpG_take (i := 15) (v := ?vk3o16) rfl (by kernel_rfl) (by kernel_rfl) (by kernel_rfl) (fun _ _ _ h => h) (Or.inl ⟨by rfl, ?hyk3o16⟩) ?restk3o16
    case hyk3o16 => (intro W hSw; left; (try dsimp only at hSw); go_simp; try (first | with_reducible rfl | (refine (if_neg (by omega)).trans ?_; with_reducible rfl)))
    simp only [Act.put, List.setIfInBounds_toArray, List.set_cons_zero, List.set_cons_succ, List.getElem_toArray, List.getElem_cons_zero, List.getElem_cons_succ]
    refine wpG_take (i := 16) (v := ?vk3o17) rfl (by kernel_rfl) (by kernel_rfl) (by kernel_rfl) (fun _ _ _ h => h) (Or.inl ⟨by rfl, ?hyk3o17⟩) ?restk3o17
    case hyk3o17 => (intro W hSw; left; (try dsimp only at hSw); go_simp; try (first | with_reducible rfl | (refine (if_neg (by omega)).trans ?_; with_reducible rfl)))
    simp only [Act.put, List.setIfInBounds_toArray, List.set_cons_zero, List.set_cons_succ, List.getElem_toArray, List.getElem_cons_zero, List.getElem_cons_succ]
    refine wpG_take (i := 17) (v := ?vk3o18) rfl (by kernel_rfl) (by kernel_rfl) (by kernel_rfl) (fun _ _ _ h => h) (Or.inl ⟨by rfl, ?hyk3o18⟩) ?restk3o18
    case hyk3o18 => (intro W hSw; left; (try dsimp only at hSw); go_simp; try (first | with_reducible rfl | (refine (if_neg (by omega)).trans ?_; with_reducible rfl)))
    simp only [Act.put, List.setIfInBounds_toArray, List.set_cons_zero, List.set_cons_succ, List.getElem_toArray, List.getElem_cons_zero, List.getElem_cons_succ]
    refine wpG_take (i := 18) (v := ?vk3o19) rfl (by kernel_rfl) (by kernel_rfl) (by kernel_rfl) (fun _ _ _ h => h) (Or.inl ⟨by rfl, ?hyk3o19⟩) ?restk3o19
    case hyk3o19 => (intro W hSw; left; (try dsimp only at hSw); go_simp; try (first | with_reducible rfl | (refine (if_neg (by omega)).trans ?_; with_reducible rfl)))
    simp only [Act.put, List.setIfInBounds_toArray, List.set_cons_zero, List.set_cons_succ, List.getElem_toArray, List.getElem_cons_zero, List.getElem_cons_succ]
    refine wpG_take (i := 19) (v := ?vk3o20) rfl (by kernel_rfl) (by kernel_rfl) (by kernel_rfl) (fun _ _ _ h => h) (Or.inl ⟨by rfl, ?hyk3o20⟩) ?restk3o20
    case hyk3o20 => (intro W hSw; left; (try dsimp only at hSw); go_simp; try (first | with_reducible rfl | (refine (if_neg (by omega)).trans ?_; with_reducible rfl)))
    simp only [Act.put, List.setIfInBounds_toArray, List.set_cons_zero, List.set_cons_succ, List.getElem_toArray, List.getElem_cons_zero, List.getElem_cons_succ]
    refine wpG_take (i := 20) (v := ?vk3o21) rfl (by kernel_rfl) (by kernel_rfl) (by kernel_rfl) (fun _ _ _ h => h) (Or.inl ⟨by rfl, ?hyk3o21⟩) ?restk3o21
    case hyk3o21 => (intro W hSw; left; (try dsimp only at hSw); go_simp; try (first | with_reducible rfl | (refine (if_neg (by omega)).trans ?_; with_reducible rfl)))
    simp only [Act.put, List.setIfInBounds_toArray, List.set_cons_zero, List.set_cons_succ, List.getElem_toArray, List.getElem_cons_zero, List.getElem_cons_succ]
    refine wpG_take (i := 21) (v := (.bool true)) rfl (by kernel_rfl) (by kernel_rfl) (by kernel_rfl) (fun _ _ _ h => h) (Or.inl ⟨by rfl, ?hyk3o22⟩) ?restk3o22
    case hyk3o22 => (intro W hSw; right; (try dsimp only at hSw); refine ⟨_, _, (by go_simp; try with_reducible rfl), (HHS.out W).mono ?_⟩; rintro e w' ⟨rfl, hb⟩; exact ⟨rfl, HCC.out _ _ hSw hb, hb⟩)
    simp only [Act.put, List.setIfInBounds_toArray, List.set_cons_zero, List.set_cons_succ, List.getElem_toArray, List.getElem_cons_zero, List.getElem_cons_succ]
    refine wpG_take (i := 22) (v := ?vk3o23) rfl (by kernel_rfl) (by kernel_rfl) (by kernel_rfl) (fun _ _ _ h => h) (Or.inl ⟨by rfl, ?hyk3o23⟩) ?restk3o23
    case hyk3o23 => (intro W hSw; left; (try dsimp only at hSw); go_simp; try (first | with_reducible rfl | (refine (if_neg (by omega)).trans ?_; with_reducible rfl)))
    simp only [Act.put, List.setIfInBounds_toArray, List.set_cons_zero, List.set_cons_succ, List.getElem_toArray, List.getElem_cons_zero, List.getElem_cons_succ]
    refine wpG_take (i := 23) (v := ?vk3o24) rfl (by kernel_rfl) (by kernel_rfl) (by kernel_rfl) (fun _ _ _ h => h) (Or.inl ⟨by rfl, ?hyk3o24⟩) ?restk3o24
    case hyk3o24 => (intro W hSw; left; (try dsimp only at hSw); go_simp; try (first | with_reducible rfl | (refine (if_neg (by omega)).trans ?_; with_reducible rfl)))
    simp only [Act.put, List.setIfInBounds_toArray, List.set_cons_zero, List.set_cons_succ, List.getElem_toArray, List.getElem_cons_zero, List.getElem_cons_succ]
    refine wpG_take (i := 24) (v := ?vk3o25) rfl (by kernel_rfl) (by kernel_rfl) (by kernel_rfl) (fun _ _ _ h => h) (Or.inl ⟨by rfl, ?hyk3o25⟩) ?restk3o25
    case hyk3o25 => (intro W hSw; left; (try dsimp only at hSw); go_simp; try (first | with_reducible rfl | (refine (if_neg (by omega)).trans ?_; with_reducible rfl)))
    simp only [Act.put, List.setIfInBounds_toArray, List.set_cons_zero, List.set_cons_succ, List.getElem_toArray, List.getElem_cons_zero, List.getElem_cons_succ]
    refine wpG_take (i := 25) (v := (.int .u8 108)) rfl (by kernel_rfl) (by kernel_rfl) (by kernel_rfl) (fun _ _ _ h => h) (Or.inl ⟨by rfl, ?hyk3o26⟩) ?restk3o26
    case hyk3o26 => (intro W hSw; left; (try dsimp only at hSw); have cz := hSBs.2; go_simp; try (first | with_reducible rfl | (refine (if_neg (by omega)).trans ?_; with_reducible rfl) | (rw [dif_pos (show 0 < SB.size by omega), HAT.out]; rfl)))
    simp only [Act.put, List.setIfInBounds_toArray, List.set_cons_zero, List.set_cons_succ, List.getElem_toArray, List.getElem_cons_zero, List.getElem_cons_succ]
    refine wpG_take (i := 26) (v := ?vk3o27) rfl (by kernel_rfl) (by kernel_rfl) (by kernel_rfl) (fun _ _ _ h => h) (Or.inl ⟨by rfl, ?hyk3o27⟩) ?restk3o27
    case hyk3o27 => (intro W hSw; left; (try dsimp only at hSw); go_simp; try (first | with_reducible rfl | (refine (if_neg (by omega)).trans ?_; with_reducible rfl)))
    simp only [Act.put, List.setIfInBounds_toArray, List.set_cons_zero, List.set_cons_succ, List.getElem_toArray, List.getElem_cons_zero, List.getElem_cons_succ]
    refine wpG_take (i := 27) (v := ?vk3o28) rfl (by kernel_rfl) (by kernel_rfl) (by kernel_rfl) (fun _ _ _ h => h) (Or.inl ⟨by rfl, ?hyk3o28⟩) ?restk3o28
    case hyk3o28 => (intro W hSw; left; (try dsimp only at hSw); have cf := HC1.out _ hSw; go_simp; try (first | with_reducible rfl | (refine (if_neg (by omega)).trans ?_; with_reducible rfl)))
    simp only [Act.put, List.setIfInBounds_toArray, List.set_cons_zero, List.set_cons_succ, List.getElem_toArray, List.getElem_cons_zero, List.getElem_cons_succ]
    refine wpG_take (i := 28) (v := ?vk3o29) rfl (by kernel_rfl) (by kernel_rfl) (by kernel_rfl) (fun _ _ _ h => h) (Or.inl ⟨by rfl, ?hyk3o29⟩) ?restk3o29
    case hyk3o29 => (intro W hSw; left; (try dsimp only at hSw); go_simp; try (first | with_reducible rfl | (refine (if_neg (by omega)).trans ?_; with_reducible rfl)))
    simp only [Act.put, List.setIfInBounds_toArray, List.set_cons_zero, List.set_cons_succ, List.getElem_toArray, List.getElem_cons_zero, List.getElem_cons_succ]
    refine wpG_take (i := 29) (v := ?vk3o30) rfl (by kernel_rfl) (by kernel_rfl) (by kernel_rfl) (fun _ _ _ h => h) (Or.inl ⟨by rfl, ?hyk3o30⟩) ?restk3o30
    case hyk3o30 => (intro W hSw; left; (try dsimp only at hSw); go_simp; try (first | with_reducible rfl | (refine (if_neg (by omega)).trans ?_; with_reducible rfl)))
    simp only [Act.put, List.setIfInBounds_toArray, List.set_cons_zero, List.set_cons_succ, List.getElem_toArray, List.getElem_cons_zero, List.getElem_cons_succ]
    refine wpG_take (i := 30) (v := ?vk3o31) rfl (by kernel_rfl) (by kernel_rfl) (by kernel_rfl) (fun _ _ _ h => h) (Or.inl ⟨by rfl, ?hyk3o31⟩) ?restk3o31
    case hyk3o31 => (intro W hSw; left; (try dsimp only at hSw); go_simp; try (first | with_reducible rfl | (refine (if_neg (by omega)).trans ?_; with_reducible rfl)))
    simp only [Act.put, List.setIfInBounds_toArray, List.set_cons_zero, List.set_cons_succ, List.getElem_toArray, List.getElem_cons_zero, List.getElem_cons_succ]
    refine wpG_take (i := 31) (v := ?vk3o32) rfl (by kernel_rfl) (by kernel_rfl) (by kernel_rfl) (fun _ _ _ h => h) (Or.inl ⟨by rfl, ?hyk3o32⟩) ?restk3o32
    case hyk3o32 => (intro W hSw; left; (try dsimp only at hSw); go_simp; try (first | with_reducible rfl | (refine (if_neg (by omega)).trans ?_; with_reducible rfl)))
    simp only [Act.put, List.setIfInBounds_toArray, List.set_cons_zero, List.set_cons_succ, List.getElem_toArray, List.getElem_cons_zero, List.getElem_cons_succ]
    refine wpG_done (by kernel_rfl) (fun w' hb hS => ?_) _
    go_wp2_with fail
    go_ret
    exact ⟨rfl, HB3.out.trans (hS.mono HB3.out.size)⟩
  ·
    have hX := Lib.hid (HEE.out (bs xp ++ ((⟨#[32, 108, 105, 110, 107, 32, 116, 111, 32]⟩ : ByteArray) ++ bs xt)) (by rw [show (⟨#[32, 108, 105, 110, 107, 32, 116, 111, 32]⟩ : ByteArray) = bs [32, 108, 105, 110, 107, 32, 116, 111, 32] from rfl, if_neg (by decide : ¬ (4 : Int) = 3), if_pos (rfl : (4 : Int) = 4), bs_append, bs_append]))
    clear HEE
    go_upto_region 10 with fail
    rw [hX.out]
    clear p0 p1 p2 hX
    refine wp_region_G (S := fun W => Below w3.heap.size w3 W) (by kernel_rfl) (Below.refl _ _).drew ?_
    refine wpG_take (i := 0) (v := ?vk4o1) rfl (by kernel_rfl) (by kernel_rfl) (by kernel_rfl) (fun _ _ _ h => h) (Or.inl ⟨by rfl, ?hyk4o1⟩) ?restk4o1
    case hyk4o1 => (intro W hSw; left; (try dsimp only at hSw); go_simp; try (first | with_reducible rfl | (refine (if_neg (by omega)).trans ?_; with_reducible rfl)))
    simp only [Act.put, List.setIfInBounds_toArray, List.set_cons_zero, List.set_cons_succ, List.getElem_toArray, List.getElem_cons_zero, List.getElem_cons_succ]
    refine wpG_take (i := 1) (v := ?vk4o2) rfl (by kernel_rfl) (by kernel_rfl) (by kernel_rfl) (fun _ _ _ h => h) (Or.inl ⟨by rfl, ?hyk4o2⟩) ?restk4o2
    case hyk4o2 => (intro W hSw; left; (try dsimp only at hSw); go_simp; try (first | with_reducible rfl | (refine (if_neg (by omega)).trans ?_; with_reducible rfl)))
    simp only [Act.put, List.setIfInBounds_toArray, List.set_cons_zero, List.set_cons_succ, List.getElem_toArray, List.getElem_cons_zero, List.getElem_cons_succ]
    refine wpG_take (i := 2) (v := ?vk4o3) rfl (by kernel_rfl) (by kernel_rfl) (by kernel_rfl) (fun _ _ _ h => h) (Or.inl ⟨by rfl, ?hyk4o3⟩) ?restk4o3
    case hyk4o3 => (intro W hSw; left; (try dsimp only at hSw); go_simp; try (first | with_reducible rfl | (refine (if_neg (by omega)).trans ?_; with_reducible rfl)))
    simp only [Act.put, List.setIfInBounds_toArray, List.set_cons_zero, List.set_cons_succ, List.getElem_toArray, List.getElem_cons_zero, List.getElem_cons_succ]
    refine wpG_take (i := 3) (v := ?vk4o4) rfl (by kernel_rfl) (by kernel_rfl) (by kernel_rfl) (fun _ _ _ h => h) (Or.inl ⟨by rfl, ?hyk4o4⟩) ?restk4o4
    case hyk4o4 => (intro W hSw; left; (try dsimp only at hSw); go_simp; try (first | with_reducible rfl | (refine (if_neg (by omega)).trans ?_; with_reducible rfl)))
    simp only [Act.put, List.setIfInBounds_toArray, List.set_cons_zero, List.set_cons_succ, List.getElem_toArray, List.getElem_cons_zero, List.getElem_cons_succ]
    refine wpG_take (i := 4) (v := ?vk4o5) rfl (by kernel_rfl) (by kernel_rfl) (by kernel_rfl) (fun _ _ _ h => h) (Or.inl ⟨by rfl, ?hyk4o5⟩) ?restk4o5
    case hyk4o5 => (intro W hSw; left; (try dsimp only at hSw); go_simp; try (first | with_reducible rfl | (refine (if_neg (by omega)).trans ?_; with_reducible rfl)))
    simp only [Act.put, List.setIfInBounds_toArray, List.set_cons_zero, List.set_cons_succ, List.getElem_toArray, List.getElem_cons_zero, List.getElem_cons_succ]
    refine wpG_take (i := 5) (v := ?vk4o6) rfl (by kernel_rfl) (by kernel_rfl) (by kernel_rfl) (fun _ _ _ h => h) (Or.inl ⟨by rfl, ?hyk4o6⟩) ?restk4o6
    case hyk4o6 => (intro W hSw; left; (try dsimp only at hSw); go_simp; try (first | with_reducible rfl | (refine (if_neg (by omega)).trans ?_; with_reducible rfl)))
    simp only [Act.put, List.setIfInBounds_toArray, List.set_cons_zero, List.set_cons_succ, List.getElem_toArray, List.getElem_cons_zero, List.getElem_cons_succ]
    refine wpG_take (i := 6) (v := ?vk4o7) rfl (by kernel_rfl) (by kernel_rfl) (by kernel_rfl) (fun _ _ _ h => h) (Or.inl ⟨by rfl, ?hyk4o7⟩) ?restk4o7
    case hyk4o7 => (intro W hSw; left; (try dsimp only at hSw); go_simp; try (first | with_reducible rfl | (refine (if_neg (by omega)).trans ?_; with_reducible rfl)))
    simp only [Act.put, List.setIfInBounds_toArray, List.set_cons_zero, List.set_cons_succ, List.getElem_toArray, List.getElem_cons_zero, List.getElem_cons_succ]
    refine wpG_take (i := 7) (v := ?vk4o8) rfl (by kernel_rfl) (by kernel_rfl) (by kernel_rfl) (fun _ _ _ h => h) (Or.inl ⟨by rfl, ?hyk4o8⟩) ?restk4o8
    case hyk4o8 => (intro W hSw; left; (try dsimp only at hSw); go_simp; try (first | with_reducible rfl | (refine (if_neg (by omega)).trans ?_; with_reducible rfl)))
    simp only [Act.put, List.setIfInBounds_toArray, List.set_cons_zero, List.set_cons_succ, List.getElem_toArray, List.getElem_cons_zero, List.getElem_cons_succ]
    refine wpG_take (i := 8) (v := ?vk4o9) rfl (by kernel_rfl) (by kernel_rfl) (by kernel_rfl) (fun _ _ _ h => h) (Or.inl ⟨by rfl, ?hyk4o9⟩) ?restk4o9
    case hyk4o9 => (intro W hSw; left; (try dsimp only at hSw); go_simp; try (first | with_reducible rfl | (refine (if_neg (by omega)).trans ?_; with_reducible rfl)))
    simp only [Act.put, List.setIfInBounds_toArray, List.set_cons_zero, List.set_cons_succ, List.getElem_toArray, List.getElem_cons_zero, List.getElem_cons_succ]
    refine wpG_take (i := 9) (v := (.bool true)) rfl (by kernel_rfl) (by kernel_rfl) (by kernel_rfl) (fun _ _ _ h => h) (Or.inl ⟨by rfl, ?hyk4o10⟩) ?restk4o10
    case hyk4o10 => (intro W hSw; left; (try dsimp only at hSw); have cz := hSBs.2; go_simp; try (first | with_reducible rfl | (refine (if_neg (by omega)).trans ?_; with_reducible rfl) | omega))
    simp only [Act.put, List.setIfInBounds_toArray, List.set_cons_zero, List.set_cons_succ, List.getElem_toArray, List.getElem_cons_zero, List.getElem_cons_succ]
    refine wpG_take (i := 10) (v := ?vk4o11) rfl (by kernel_rfl) (by kernel_rfl) (by kernel_rfl) (fun _ _ _ h => h) (Or.inl ⟨by rfl, ?hyk4o11⟩) ?restk4o11
    case hyk4o11 => (intro W hSw; left; (try dsimp only at hSw); go_simp; try (first | with_reducible rfl | (refine (if_neg (by omega)).trans ?_; with_reducible rfl)))
    simp only [Act.put, List.setIfInBounds_toArray, List.set_cons_zero, List.set_cons_succ, List.getElem_toArray, List.getElem_cons_zero, List.getElem_cons_succ]
    refine wpG_take (i := 11) (v := ?vk4o12) rfl (by kernel_rfl) (by kernel_rfl) (by kernel_rfl) (fun _ _ _ h => h) (Or.inl ⟨by rfl, ?hyk4o12⟩) ?restk4o12
    case hyk4o12 => (intro W hSw; left; (try dsimp only at hSw); go_simp; try (first | with_reducible rfl | (refine (if_neg (by omega)).trans ?_; with_reducible rfl)))
    simp only [Act.put, List.setIfInBounds_toArray, List.set_cons_zero, List.set_cons_succ, List.getElem_toArray, List.getElem_cons_zero, List.getElem_cons_succ]
    refine wpG_take (i := 12) (v := ?vk4o13) rfl (by kernel_rfl) (by kernel_rfl) (by kernel_rfl) (fun _ _ _ h => h) (Or.inl ⟨by rfl, ?hyk4o13⟩) ?restk4o13
    case hyk4o13 => (intro W hSw; left; (try dsimp only at hSw); go_simp; try (first | with_reducible rfl | (refine (if_neg (by omega)).trans ?_; with_reducible rfl)))
    simp only [Act.put, List.setIfInBounds_toArray, List.set_cons_zero, List.set_cons_succ, List.getElem_toArray, List.getElem_cons_zero, List.getElem_cons_succ]
    refine wpG_take (i := 13) (v := (.string MB)) rfl (by kernel_rfl) (by kernel_rfl) (by kernel_rfl) (fun _ _ _ h => h) (Or.inl ⟨by rfl, ?hyk4o14⟩) ?restk4o14
    case hyk4o14 => (intro W hSw; left; (try dsimp only at hSw); have cz := hSBs.2; go_simp; try (first | with_reducible rfl | (refine (if_neg (by omega)).trans ?_; with_reducible rfl) | (intro hq; omega)))
    simp only [Act.put, List.setIfInBounds_toArray, List.set_cons_zero, List.set_cons_succ, List.getElem_toArray, List.getElem_cons_zero, List.getElem_cons_succ]
    refine wpG_take (i := 14) (v := ?vk4o15) rfl (by kernel_rfl) (by kernel_rfl) (by kernel_rfl) (fun _ _ _ h => h) (Or.inl ⟨by rfl, ?hyk4o15⟩) ?restk4o15
    case hyk4o15 => (intro W hSw; left; (try dsimp only at hSw); go_simp; try (first | with_reducible rfl | (refine (if_neg (by omega)).trans ?_; with_reducible rfl)))
    simp only [Act.put, List.setIfInBounds_toArray, List.set_cons_zero, List.set_cons_succ, List.getElem_toArray, List.getElem_cons_zero, List.getElem_cons_succ]
    refine wpG_take (i := 15) (v := ?vk4o16) rfl (by kernel_rfl) (by kernel_rfl) (by kernel_rfl) (fun _ _ _ h => h) (Or.inl ⟨by rfl, ?hyk4o16⟩) ?restk4o16
    case hyk4o16 => (intro W hSw; left; (try dsimp only at hSw); go_simp; try (first | with_reducible rfl | (refine (if_neg (by omega)).trans ?_; with_reducible rfl)))
    simp only [Act.put, List.setIfInBounds_toArray, List.set_cons_zero, List.set_cons_succ, List.getElem_toArray, List.getElem_cons_zero, List.getElem_cons_succ]
    refine wpG_take (i := 16) (v := ?vk4o17) rfl (by kernel_rfl) (by kernel_rfl) (by kernel_rfl) (fun _ _ _ h => h) (Or.inl ⟨by rfl, ?hyk4o17⟩) ?restk4o17
    case hyk4o17 => (intro W hSw; left; (try dsimp only at hSw); go_simp; try (first | with_reducible rfl | (refine (if_neg (by omega)).trans ?_; with_reducible rfl)))
    simp only [Act.put, List.setIfInBounds_toArray, List.set_cons_zero, List.set_cons_succ, List.getElem_toArray, List.getElem_cons_zero, List.getElem_cons_succ]
    refine wpG_take (i := 17) (v := ?vk4o18) rfl (by kernel_rfl) (by kernel_rfl) (by kernel_rfl) (fun _ _ _ h => h) (Or.inl ⟨by rfl, ?hyk4o18⟩) ?restk4o18
    case hyk4o18 => (intro W hSw; left; (try dsimp only at hSw); go_simp; try (first | with_reducible rfl | (refine (if_neg (by omega)).trans ?_; with_reducible rfl)))
    simp only [Act.put, List.setIfInBounds_toArray, List.set_cons_zero, List.set_cons_succ, List.getElem_toArray, List.getElem_cons_zero, List.getElem_cons_succ]
    refine wpG_take (i := 18) (v := ?vk4o19) rfl (by kernel_rfl) (by kernel_rfl) (by kernel_rfl) (fun _ _ _ h => h) (Or.inl ⟨by rfl, ?hyk4o19⟩) ?restk4o19
    case hyk4o19 => (intro W hSw; left; (try dsimp only at hSw); go_simp; try (first | with_reducible rfl | (refine (if_neg (by omega)).trans ?_; with_reducible rfl)))
    simp only [Act.put, List.setIfInBounds_toArray, List.set_cons_zero, List.set_cons_succ, List.getElem_toArray, List.getElem_cons_zero, List.getElem_cons_succ]
    refine wpG_take (i := 19) (v := ?vk4o20) rfl (by kernel_rfl) (by kernel_rfl) (by kernel_rfl) (fun _ _ _ h => h) (Or.inl ⟨by rfl, ?hyk4o20⟩) ?restk4o20
    case hyk4o20 => (intro W hSw; left; (try dsimp only at hSw); go_simp; try (first | with_reducible rfl | (refine (if_neg (by omega)).trans ?_; with_reducible rfl)))
    simp only [Act.put, List.setIfInBounds_toArray, List.set_cons_zero, List.set_cons_succ, List.getElem_toArray, List.getElem_cons_zero, List.getElem_cons_succ]
    refine wpG_take (i := 20) (v := ?vk4o21) rfl (by kernel_rfl) (by kernel_rfl) (by kernel_rfl) (fun _ _ _ h => h) (Or.inl ⟨by rfl, ?hyk4o21⟩) ?restk4o21
    case hyk4o21 => (intro W hSw; left; (try dsimp only at hSw); go_simp; try (first | with_reducible rfl | (refine (if_neg (by omega)).trans ?_; with_reducible rfl)))
    simp only [Act.put, List.setIfInBounds_toArray, List.set_cons_zero, List.set_cons_succ, List.getElem_toArray, List.getElem_cons_zero, List.getElem_cons_succ]
    refine wpG_take (i := 21) (v := (.bool true)) rfl (by kernel_rfl) (by kernel_rfl) (by kernel_rfl) (fun _ _ _ h => h) (Or.inl ⟨by rfl, ?hyk4o22⟩) ?restk4o22
    case hyk4o22 => (intro W hSw; right; (try dsimp only at hSw); refine ⟨_, _, (by go_simp; try with_reducible rfl), (HHS.out W).mono ?_⟩; rintro e w' ⟨rfl, hb⟩; exact ⟨rfl, HCC.out _ _ hSw hb, hb⟩)
    simp only [Act.put, List.setIfInBounds_toArray, List.set_cons_zero, List.set_cons_succ, List.getElem_toArray, List.getElem_cons_zero, List.getElem_cons_succ]
    refine wpG_take (i := 22) (v := ?vk4o23) rfl (by kernel_rfl) (by kernel_rfl) (by kernel_rfl) (fun _ _ _ h => h) (Or.inl ⟨by rfl, ?hyk4o23⟩) ?restk4o23
    case hyk4o23 => (intro W hSw; left; (try dsimp only at hSw); go_simp; try (first | with_reducible rfl | (refine (if_neg (by omega)).trans ?_; with_reducible rfl)))
    simp only [Act.put, List.setIfInBounds_toArray, List.set_cons_zero, List.set_cons_succ, List.getElem_toArray, List.getElem_cons_zero, List.getElem_cons_succ]
    refine wpG_take (i := 23) (v := ?vk4o24) rfl (by kernel_rfl) (by kernel_rfl) (by kernel_rfl) (fun _ _ _ h => h) (Or.inl ⟨by rfl, ?hyk4o24⟩) ?restk4o24
    case hyk4o24 => (intro W hSw; left; (try dsimp only at hSw); go_simp; try (first | with_reducible rfl | (refine (if_neg (by omega)).trans ?_; with_reducible rfl)))
    simp only [Act.put, List.setIfInBounds_toArray, List.set_cons_zero, List.set_cons_succ, List.getElem_toArray, List.getElem_cons_zero, List.getElem_cons_succ]
    refine wpG_take (i := 24) (v := ?vk4o25) rfl (by kernel_rfl) (by kernel_rfl) (by kernel_rfl) (fun _ _ _ h => h) (Or.inl ⟨by rfl, ?hyk4o25⟩) ?restk4o25
    case hyk4o25 => (intro W hSw; left; (try dsimp only at hSw); go_simp; try (first | with_reducible rfl | (refine (if_neg (by omega)).trans ?_; with_reducible rfl)))
    simp only [Act.put, List.setIfInBounds_toArray, List.set_cons_zero, List.set_cons_succ, List.getElem_toArray, List.getElem_cons_zero, List.getElem_cons_succ]
    refine wpG_take (i := 25) (v := (.int .u8 104)) rfl (by kernel_rfl) (by kernel_rfl) (by kernel_rfl) (fun _ _ _ h => h) (Or.inl ⟨by rfl, ?hyk4o26⟩) ?restk4o26
    case hyk4o26 => (intro W hSw; left; (try dsimp only at hSw); have cz := hSBs.2; go_simp; try (first | with_reducible rfl | (refine (if_neg (by omega)).trans ?_; with_reducible rfl) | (rw [dif_pos (show 0 < SB.size by omega), HAT.out]; rfl)))
    simp only [Act.put, List.setIfInBounds_toArray, List.set_cons_zero, List.set_cons_succ, List.getElem_toArray, List.getElem_cons_zero, List.getElem_cons_succ]
    refine wpG_take (i := 26) (v := ?vk4o27) rfl (by kernel_rfl) (by kernel_rfl) (by kernel_rfl) (fun _ _ _ h => h) (Or.inl ⟨by rfl, ?hyk4o27⟩) ?restk4o27
    case hyk4o27 => (intro W hSw; left; (try dsimp only at hSw); go_simp; try (first | with_reducible rfl | (refine (if_neg (by omega)).trans ?_; with_reducible rfl)))
    simp only [Act.put, List.setIfInBounds_toArray, List.set_cons_zero, List.set_cons_succ, List.getElem_toArray, List.getElem_cons_zero, List.getElem_cons_succ]
    refine wpG_take (i := 27) (v := ?vk4o28) rfl (by kernel_rfl) (by kernel_rfl) (by kernel_rfl) (fun _ _ _ h => h) (Or.inl ⟨by rfl, ?hyk4o28⟩) ?restk4o28
    case hyk4o28 => (intro W hSw; left; (try dsimp only at hSw); have cf := HC1.out _ hSw; go_simp; try (first | with_reducible rfl | (refine (if_neg (by omega)).trans ?_; with_reducible rfl)))
    simp only [Act.put, List.setIfInBounds_toArray, List.set_cons_zero, List.set_cons_succ, List.getElem_toArray, List.getElem_cons_zero, List.getElem_cons_succ]
    refine wpG_take (i := 28) (v := ?vk4o29) rfl (by kernel_rfl) (by kernel_rfl) (by kernel_rfl) (fun _ _ _ h => h) (Or.inl ⟨by rfl, ?hyk4o29⟩) ?restk4o29
    case hyk4o29 => (intro W hSw; left; (try dsimp only at hSw); go_simp; try (first | with_reducible rfl | (refine (if_neg (by omega)).trans ?_; with_reducible rfl)))
    simp only [Act.put, List.setIfInBounds_toArray, List.set_cons_zero, List.set_cons_succ, List.getElem_toArray, List.getElem_cons_zero, List.getElem_cons_succ]
    refine wpG_take (i := 29) (v := ?vk4o30) rfl (by kernel_rfl) (by kernel_rfl) (by kernel_rfl) (fun _ _ _ h => h) (Or.inl ⟨by rfl, ?hyk4o30⟩) ?restk4o30
    case hyk4o30 => (intro W hSw; left; (try dsimp only at hSw); go_simp; try (first | with_reducible rfl | (refine (if_neg (by omega)).trans ?_; with_reducible rfl)))
    simp only [Act.put, List.setIfInBounds_toArray, List.set_cons_zero, List.set_cons_succ, List.getElem_toArray, List.getElem_cons_zero, List.getElem_cons_succ]
    refine wpG_take (i := 30) (v := ?vk4o31) rfl (by kernel_rfl) (by kernel_rfl) (by kernel_rfl) (fun _ _ _ h => h) (Or.inl ⟨by rfl, ?hyk4o31⟩) ?restk4o31
    case hyk4o31 => (intro W hSw; left; (try dsimp only at hSw); go_simp; try (first | with_reducible rfl | (refine (if_neg (by omega)).trans ?_; with_reducible rfl)))
    simp only [Act.put, List.setIfInBounds_toArray, List.set_cons_zero, List.set_cons_succ, List.getElem_toArray, List.getElem_cons_zero, List.getElem_cons_succ]
    refine wpG_take (i := 31) (v := ?vk4o32) rfl (by kernel_rfl) (by kernel_rfl) (by kernel_rfl) (fun _ _ _ h => h) (Or.inl ⟨by rfl, ?hyk4o32⟩) ?restk4o32
    case hyk4o32 => (intro W hSw; left; (try dsimp only at hSw); go_simp; try (first | with_reducible rfl | (refine (if_neg (by omega)).trans ?_; with_reducible rfl)))
    simp only [Act.put, List.setIfInBounds_toArray, List.set_cons_zero, List.set_cons_succ, List.getElem_toArray, List.getElem_cons_zero, List.getElem_cons_succ]
    refine wpG_done (by kernel_rfl) (fun w' hb hS => ?_) _
    go_wp2_with fail
    go_ret
    exact ⟨rfl, HB3.out.trans (hS.mono HB3.out.size)⟩
end Go.Proofs.YtmioinfhggbfkaaDoor
