/-
  The law MemberPlain: what it computes is true. Condition: a raw thing of the second form's bound; the library's table of powers of ten lies as Go laid it.
-/
import Derived.Test.YtjbpoijefkbllaaDoorEntryL
import Derived.Test.YtjbpoijefkbllaaDoorEntry
import Derived.Deep.QuietTactic
namespace Go.Proofs.YtjbpoijefkbllaaDoor
open Go.RowKit

theorem BytesOwn.row {w : World} {base : Nat} {v : Value} {l : List UInt8} (h : BytesOwn w base v l) (h0 : 0 < l.length) : ∃ g c, v = .slice (some ⟨g, 0, none⟩) l.length c ∧ l.length ≤ c ∧ c ≤ maxLen ∧ ∀ j b, l[j]? = some b → w.cell? ⟨g, j, none⟩ = some (.int .u8 (ofB b)) := by
  obtain ⟨A, c, hv, h1, h2, -, hr⟩ := h.at_
  rw [List.length_map] at hv h1 hr
  obtain ⟨ad, rfl, hb, hc⟩ := hr.2 h0
  obtain ⟨g, c2, hv2, -⟩ := World.ownsRow.form h h0
  rw [hv] at hv2
  obtain ⟨e1, -, -⟩ := Value.slice.inj hv2
  injection e1 with e1
  subst e1
  refine ⟨g, c, hv, h1, h2, fun j b hj => ?_⟩
  have := hc j (.int .u8 (ofB b)) (by rw [List.getElem?_map, List.getElem?_map, hj]; rfl)
  rwa [add_flat, Nat.zero_add] at this

theorem new_rowF (w : World) (t : TypeId) (vs : List Value) (fr : Nat × Nat) (n size : Nat) (h : vs.length = n * size) : Reads (w.alloc (.cells vs.toArray t fr)) (w.heap.size + 1) size (some ⟨w.heap.size, 0, none⟩) n vs :=
  ⟨h, fun _ => ⟨_, rfl, Nat.lt_succ_self _, fun j u hu => by
    rw [add_flat, Nat.zero_add, World.cell?_alloc_mark]
    simpa using hu⟩⟩
set_option maxRecDepth 100000 in
set_option maxHeartbeats 4000000 in
theorem Written_any (w : World) (hm : ML w) (h10 : P10 w) :
    Calls Tryd.prog 22 #[] w fun e w' => e = .returned (.bool true) ∧ Below w.heap.size w w' := by
  obtain ⟨W1, hW1⟩ : ∃ W1, W1 = w.alloc (.cells #[.int .u8 120] 5 (1, 2)) := ⟨_, rfl⟩
  have b1 : Below w.heap.size w W1 := by rw [hW1]; exact (Below.refl _ _).alloc (Nat.le_refl _) _
  have hd : BytesAt W1 W1.heap.size (.slice (some ⟨w.heap.size, 0, none⟩) 1 1) [120] := by
    refine ⟨_, 1, rfl, by simp, by simp [maxLen], (fun h => by cases h), ?_⟩
    have h := new_rowF w 5 [.int .u8 120] (1, 2) 1 1 rfl
    rw [show w.heap.size + 1 = W1.heap.size by rw [hW1]; simp, ← hW1] at h
    exact h
  have HW : Hid (Calls Tryd.prog 21 #[.agg #[.string ⟨#[97]⟩, .int .i64 1, .string ⟨#[]⟩, .int .i64 0, .int .i64 0, .int .i64 0, .string ⟨#[]⟩, .string ⟨#[]⟩, .int .i64 0, .int .i64 0, .slice (some ⟨w.heap.size, 0, none⟩) 1 1]] W1 fun e w' => ∃ v, e = .returned (.tuple #[v, .int .i64 0]) ∧ BytesOwn w' W1.heap.size v (memB wrE) ∧ Below W1.heap.size W1 w') :=
    Lib.hid (MWrite_ok wrE wrE_ok (some ⟨w.heap.size, 0, none⟩) 1 W1 (hm.below b1) (h10.below b1) hd)
  obtain ⟨k1, k2, k3⟩ := wrE_bytes
  generalize memB wrE = M at *
  have HB1 := Lib.hid b1
  clear b1 hd hm h10
  have kc := fun (w : World) (C : Array Value) (n c : Nat) => Lib.run_convert_bytes_const (P := Tryd.prog) w 29 5 C n c Tryd.underlying29 Tryd.underlying5
  go_enter Tryd.func22, Tryd.ntmps22
  go_wp2_with fail
  rw [← hW1]
  refine HW.out.mono ?_
  rintro e w2 ⟨v, rfl, hv, b2⟩
  obtain ⟨g, c, rfl, c1, c2, hc⟩ := hv.row (by omega)
  have e0 := hc 0 _ k2
  have e1 := hc 512 _ k3
  have HB2 := Lib.hid (HB1.out.trans (b2.mono HB1.out.size))
  rw [k1] at c1 ⊢
  have e0 : w2.cell? ⟨g, 0, none⟩ = some (.int .u8 97) := e0
  have e1 : w2.cell? ⟨g, 512, none⟩ = some (.int .u8 120) := e1
  clear hv b2 hW1 HW k1 k2 k3 hc
  go_wp2_with fail
  go_ret
  exact ⟨rfl, HB2.out⟩
theorem six_count (u0 u1 u2 u3 u4 u5 : Bool) : [u0, u1, u2, u3, u4, u5].count true = one u0 + one u1 + one u2 + one u3 + one u4 + one u5 := by
  cases u0 <;> cases u1 <;> cases u2 <;> cases u3 <;> cases u4 <;> cases u5 <;> rfl
theorem count_step {l : List Bool} {k : Nat} (h : k < l.length) : (l.take (k + 1)).count true = (l.take k).count true + one l[k] := by
  rw [List.take_succ_eq_append_getElem h, List.count_append]
  cases l[k] <;> rfl
set_option maxRecDepth 100000 in
set_option maxHeartbeats 8000000 in
theorem MemberPlain_walk (w : World) (hsh : w.ShapedOpen Tryd.prog) (h10 : P10 w) (r : RawS) (h : RawOk r) :
    Calls Tryd.prog 5 #[rawV r] w fun e w' => e = .returned (.bool true) ∧ Below w.heap.size w w' := by
  have hm := ML.of_shaped hsh
  clear hsh
  have HML : Hid (∀ W, Below w.heap.size w W → ML W) := Lib.hid (fun W hb => hm.below hb)
  have HP10 : Hid (∀ W, Below w.heap.size w W → P10 W) := Lib.hid (fun W hb => h10.below hb)
  have hok := entP_ok h
  have HEn := Lib.hid (fun W (hb : Below w.heap.size w W) => Entry_any r h W (HML.out W hb))
  clear hm h10 h
  generalize entP r = x at *
  have HRe := Lib.hid (fun W (hb : Below w.heap.size w W) A c => MRecords_ok x hok A c W (HML.out W hb) (HP10.out W hb))
  have HWr := Lib.hid (fun W (hb : Below w.heap.size w W) A c hd => MWrite_ok x hok A c W (HML.out W hb) (HP10.out W hb) hd)
  have HWn := Lib.hid (fun W (hb : Below w.heap.size w W) => Written_any W (HML.out W hb) (HP10.out W hb))
  have hcnt := packR_count x
  have HBG := Lib.hid (pathBig_long hok)
  obtain ⟨F0, F1, F2, F3⟩ := memB_blocks hok
  have G0 : (packR x).length = 0 → (memB x).length = (1 + kN x.data.length) * 512 := fun h => F0 (List.eq_nil_of_length_eq_zero h)
  have G1 : (packR x).length ≠ 0 → (kN x.data.length + 3) * 512 ≤ (memB x).length := fun h => F1 (fun e => h (by rw [e]; rfl))
  clear F0 F1
  have hd2 := hok.data.1
  have hpl := hok.path.2
  have htl := hok.target.1
  have hul := hok.mt.user.1
  have hgl := hok.mt.group.1
  clear hok
  obtain ⟨lr, hlr⟩ : ∃ lr, lr = (packR x).length := ⟨_, rfl⟩
  obtain ⟨lb, hlb⟩ : ∃ lb, lb = (memB x).length := ⟨_, rfl⟩
  rw [← hlr] at hcnt G0 G1
  rw [← hlb] at G0 G1 F2 F3
  have HLR := Lib.hid hlr
  have HLB := Lib.hid hlb
  clear hlr hlb
  generalize packR x = RR at *
  generalize memB x = MM at *
  obtain ⟨xp, xk, xt, ⟨m1, m2, m3, m4, m5, m6, m7⟩, xd⟩ := x
  unfold entC at HEn HRe HWr
  simp only at hcnt HBG G0 G1 hd2 hpl htl hul hgl HEn HRe HWr
  obtain ⟨u0, hu0⟩ : ∃ u0, u0 = bigN m2 := ⟨_, rfl⟩
  obtain ⟨u1, hu1⟩ : ∃ u1, u1 = bigN m3 := ⟨_, rfl⟩
  obtain ⟨u2, hu2⟩ : ∃ u2, u2 = decide (31 < m4.length) := ⟨_, rfl⟩
  obtain ⟨u3, hu3⟩ : ∃ u3, u3 = decide (31 < m5.length) := ⟨_, rfl⟩
  obtain ⟨u4, hu4⟩ : ∃ u4, u4 = timeBig ⟨m1, m2, m3, m4, m5, m6, m7⟩ := ⟨_, rfl⟩
  obtain ⟨u5, hu5⟩ : ∃ u5, u5 = decide (100 < xt.length) := ⟨_, rfl⟩
  rw [← hu0, ← hu1, ← hu2, ← hu3, ← hu4, ← hu5, ← six_count] at hcnt
  have HCNT := Lib.hid hcnt
  clear hcnt
  have HU := Lib.hid (And.intro hu0 (And.intro hu1 (And.intro hu2 (And.intro hu3 (And.intro hu4 hu5)))))
  clear hu0 hu1 hu2 hu3 hu4 hu5
  obtain ⟨kn, hkn⟩ : ∃ kn, kn = kN xd.length := ⟨_, rfl⟩
  rw [← hkn] at G0 G1
  have t1 : ((xd.length : Int) + 511).tdiv 512 = (kn : Int) := by rw [Int.tdiv_eq_ediv_of_nonneg (by omega), hkn]; unfold kN; omega
  have t2 : ((xd.length : Int) + 512 - 1).tdiv 512 = (kn : Int) := by rw [show (xd.length : Int) + 512 - 1 = xd.length + 511 by omega]; exact t1
  have hk5 : kn ≤ 5 := by rw [hkn]; unfold kN; omega
  clear hkn
  obtain ⟨W0, hW0⟩ : ∃ W0, W0 = w.alloc (.cells #[.int .i64 r.kind, .int .i64 r.a, .int .i64 r.b, .string (bs r.text)] 40) := ⟨_, rfl⟩
  have hk0 : Blk W0 w.heap.size 40 #[.int .i64 r.kind, .int .i64 r.a, .int .i64 r.b, .string (bs r.text)] := by rw [hW0]; exact Blk.new _ _ _
  have hb0 : Below w.heap.size w W0 := by rw [hW0]; exact (Below.refl _ _).alloc (Nat.le_refl _) _
  have HB0 := Lib.hid hb0
  have q0 := hk0.cell 0
  have q1 := hk0.cell 1
  have q2 := hk0.cell 2
  have q3 := hk0.cell 3
  clear hb0 hk0
  unfold rawV at HEn ⊢
  go_enter Tryd.func5, Tryd.ntmps5
  go_upto_region 1 with fail
  rw [← hW0]
  clear hW0
  go_wp2_with fail
  refine (HEn.out _ HB0.out).mono ?_
  rintro e w1 ⟨A, c, rfl, hd, b1⟩
  have HB1 := Lib.hid (HB0.out.trans (b1.mono HB0.out.size))
  have HD1 := Lib.hid hd
  clear b1 hd q0 q1 q2 q3 HEn
  obtain ⟨W1, hW1⟩ : ∃ W1, W1 = w1.alloc (.cells #[.string (bs xp), .int .i64 xk, .string (bs xt), .int .i64 m1, .int .i64 m2, .int .i64 m3, .string (bs m4), .string (bs m5), .int .i64 m6, .int .i64 m7, .slice A xd.length c] 42) := ⟨_, rfl⟩
  obtain ⟨ge, hge⟩ : ∃ ge, ge = w1.heap.size := ⟨_, rfl⟩
  have hk1 : Blk W1 ge 42 #[.string (bs xp), .int .i64 xk, .string (bs xt), .int .i64 m1, .int .i64 m2, .int .i64 m3, .string (bs m4), .string (bs m5), .int .i64 m6, .int .i64 m7, .slice A xd.length c] := by rw [hW1, hge]; exact Blk.new _ _ _
  have hb1 : Below w1.heap.size w1 W1 := by rw [hW1]; exact (Below.refl _ _).alloc (Nat.le_refl _) _
  have HB2 := Lib.hid (HB1.out.trans (hb1.mono HB1.out.size))
  have HD2 := Lib.hid (HD1.out.below hb1)
  have HK := Lib.hid hk1
  have p0 := hk1.cell 0
  have p1 := hk1.cell 1
  have p2 := hk1.cell 2
  have p3 := hk1.cell 3
  have p4 := hk1.cell 4
  have p5 := hk1.cell 5
  have p6 := hk1.cell 6
  have p7 := hk1.cell 7
  have p8 := hk1.cell 8
  have p9 := hk1.cell 9
  have p10 := hk1.cell 10
  clear hb1 hk1
  go_upto_region 2 with fail
  rw [← hW1, ← hge]
  clear hW1 hge
  go_wp2_with fail
  refine (HRe.out _ HB2.out _ _).mono ?_
  rintro e w2 ⟨lv, rfl, hlv, b2⟩
  obtain ⟨Al, cl, rfl, -⟩ := hlv.at_
  rw [← HLR.out]
  have HB3 := Lib.hid (HB2.out.trans (b2.mono HB2.out.size))
  have hk2 := HK.out.below b2 HK.out.lt
  have HD3 := Lib.hid (HD2.out.below b2)
  have HK2 := Lib.hid hk2
  clear hlv b2 p0 p1 p2 p3 p4 p5 p6 p7 p8 p9 p10 HK HRe
  have p0 := hk2.cell 0
  have p1 := hk2.cell 1
  have p2 := hk2.cell 2
  have p3 := hk2.cell 3
  have p4 := hk2.cell 4
  have p5 := hk2.cell 5
  have p6 := hk2.cell 6
  have p7 := hk2.cell 7
  have p8 := hk2.cell 8
  have p9 := hk2.cell 9
  have p10 := hk2.cell 10
  clear hk2
  go_wp2_with fail
  refine (HWr.out _ HB3.out _ _ HD3.out.bytes).mono ?_
  rintro e w3 ⟨bv, rfl, hbv, b3⟩
  obtain ⟨Ab, cb, rfl, -⟩ := hbv.at_
  rw [List.length_map, ← HLB.out]
  have HB4 := Lib.hid (HB3.out.trans (b3.mono HB3.out.size))
  have hk3 := HK2.out.below b3 HK2.out.lt
  have HK3 := Lib.hid hk3
  clear hbv b3 p0 p1 p2 p3 p4 p5 p6 p7 p8 p9 p10 HK2 HWr
  have p10 := hk3.cell 10
  clear hk3
  go_wp2_with fail
  refine (HWn.out _ HB4.out).mono ?_
  rintro e w4 ⟨rfl, b4⟩
  have HB5 := Lib.hid (HB4.out.trans (b4.mono HB4.out.size))
  have hk4 := HK3.out.below b4 HK3.out.lt
  have HK4 := Lib.hid hk4
  clear b4 p10 HK3 HWn
  have p0 := hk4.cell 0
  have p2 := hk4.cell 2
  have p4 := hk4.cell 4
  have p5 := hk4.cell 5
  have p6 := hk4.cell 6
  have p7 := hk4.cell 7
  have p8 := hk4.cell 8
  have p9 := hk4.cell 9
  clear hk4
  by_cases h0 : lr = 0
  · subst h0
    have hlb := G0 rfl
    have g1 : ((lb : Int) == (1 + (kn : Int)) * 512) = true := beq_iff_eq.2 (by omega)
    clear G0 G1
    go_wp2_with fail
    go_ret
    exact ⟨rfl, HB5.out⟩
  · have g0 : ((lr : Int) == 0) = false := by simp [h0]
    have F1 := G1 h0
    clear G0 G1
    go_upto_region 10 with fail
    obtain ⟨WB, hWB⟩ : ∃ WB, WB = w4.alloc (.cells #[.bool u0, .bool u1, .bool u2, .bool u3, .bool u4, .bool u5] 4) := ⟨_, rfl⟩
    have HWB := Lib.hid hWB
    clear hWB
    go_cut [87, 88, 89] from 49 to 89 (fun s87 s88 s89 wx => s87 = .slice (some ⟨w4.heap.size, 0, none⟩) 6 6 ∧ s88 = .int .i64 6 ∧ s89 = .int .i64 0 ∧ wx = WB)
    case first =>
      have s4 : (bs m4).size = m4.length := bs_size m4
      have s5 : (bs m5).size = m5.length := bs_size m5
      have s6 : (bs xt).size = xt.length := bs_size xt
      have d4 : decide ((31 : Int) < (m4.length : Int)) = decide (31 < m4.length) := decide_eq_decide.2 (by omega)
      have d5 : decide ((31 : Int) < (m5.length : Int)) = decide (31 < m5.length) := decide_eq_decide.2 (by omega)
      have d6 : decide ((100 : Int) < (xt.length : Int)) = decide (100 < xt.length) := decide_eq_decide.2 (by omega)
      have HDD := Lib.hid (And.intro d4 (And.intro d5 d6))
      clear d4 d5 d6
      by_cases z1 : 0 < m7
      · skip
        have y1 : decide (m7 > 0) = true := decide_eq_true z1
        have Y2 : Hid (timeBig ⟨m1, m2, m3, m4, m5, m6, m7⟩ = true) := Lib.hid (by unfold timeBig; exact decide_eq_true (.inl z1))
        go_wp2_with fail
        go_meet
        case rel =>
          refine ⟨rfl, rfl, rfl, ?_⟩
          obtain ⟨v0, v1, v2, v3, v4, v5⟩ := HU.out
          rw [HWB.out, v0, v1, v2, v3, v4, v5, Y2.out, HDD.out.1, HDD.out.2.1, HDD.out.2.2]
          rfl
      · have y1 : decide (m7 > 0) = false := decide_eq_false z1
        by_cases z2 : m6 < 0
        · skip
          have y2 : decide (m6 < 0) = true := decide_eq_true z2
          have Y2 : Hid (timeBig ⟨m1, m2, m3, m4, m5, m6, m7⟩ = true) := Lib.hid (by unfold timeBig; exact decide_eq_true (.inr (.inl z2)))
          go_wp2_with fail
          go_meet
          case rel =>
            refine ⟨rfl, rfl, rfl, ?_⟩
            obtain ⟨v0, v1, v2, v3, v4, v5⟩ := HU.out
            rw [HWB.out, v0, v1, v2, v3, v4, v5, Y2.out, HDD.out.1, HDD.out.2.1, HDD.out.2.2]
            rfl
        · have y2 : decide (m6 < 0) = false := decide_eq_false z2
          by_cases z3 : 8589934591 < m6
          · skip
            have y3 : decide (m6 > 8589934591) = true := decide_eq_true z3
            have Y2 : Hid (timeBig ⟨m1, m2, m3, m4, m5, m6, m7⟩ = true) := Lib.hid (by unfold timeBig; exact decide_eq_true (.inr (.inr z3)))
            go_wp2_with fail
            go_meet
            case rel =>
              refine ⟨rfl, rfl, rfl, ?_⟩
              obtain ⟨v0, v1, v2, v3, v4, v5⟩ := HU.out
              rw [HWB.out, v0, v1, v2, v3, v4, v5, Y2.out, HDD.out.1, HDD.out.2.1, HDD.out.2.2]
              rfl
          · skip
            have y3 : decide (m6 > 8589934591) = false := decide_eq_false z3
            have Y2 : Hid (timeBig ⟨m1, m2, m3, m4, m5, m6, m7⟩ = false) := Lib.hid (by unfold timeBig; exact decide_eq_false (fun h => by rcases h with h | h | h; exact z1 h; exact z2 h; exact z3 h))
            go_wp2_with fail
            go_meet
            case rel =>
              refine ⟨rfl, rfl, rfl, ?_⟩
              obtain ⟨v0, v1, v2, v3, v4, v5⟩ := HU.out
              rw [HWB.out, v0, v1, v2, v3, v4, v5, Y2.out, HDD.out.1, HDD.out.2.1, HDD.out.2.2]
              rfl
    case rest =>
      obtain ⟨rfl, rfl, rfl, rfl⟩ := hcut
      obtain ⟨UL, hUL⟩ : ∃ UL, UL = [u0, u1, u2, u3, u4, u5] := ⟨_, rfl⟩
      have hul6 : UL.length = 6 := by rw [hUL]; rfl
      have hcnt := HCNT.out
      rw [← hUL] at hcnt
      have HCNU := Lib.hid hcnt
      clear hcnt
      obtain ⟨gq, hgq⟩ : ∃ gq, gq = w4.heap.size := ⟨_, rfl⟩
      have HC : Hid (∀ k (hk : k < UL.length), wc.cell? ⟨gq, k, none⟩ = some (.bool UL[k])) := Lib.hid (by
        have hbk : Blk wc gq 4 #[.bool u0, .bool u1, .bool u2, .bool u3, .bool u4, .bool u5] := by rw [HWB.out, hgq]; exact Blk.new _ _ _
        subst hUL
        intro k hk
        have hk : k < 6 := hk
        rcases (show k = 0 ∨ k = 1 ∨ k = 2 ∨ k = 3 ∨ k = 4 ∨ k = 5 by omega) with rfl | rfl | rfl | rfl | rfl | rfl <;> exact hbk.cell _)
      have HB6 : Hid (Below w.heap.size w wc) := Lib.hid (by rw [HWB.out]; exact HB5.out.alloc HB5.out.size _)
      have hk5b : Blk wc ge 42 #[.string (bs xp), .int .i64 xk, .string (bs xt), .int .i64 m1, .int .i64 m2, .int .i64 m3, .string (bs m4), .string (bs m5), .int .i64 m6, .int .i64 m7, .slice A xd.length c] := by rw [HWB.out]; exact HK4.out.alloc _
      have HK5 := Lib.hid hk5b
      have HCN := Lib.hid (fun k (h : k < UL.length) => count_step h)
      rw [← hgq]
      clear hgq hUL hk5b HK4 p0 p2 p4 p5 p6 p7 p8 p9
      go_wp2_with fail
      go_loopg [9, 11, 89] 6 (fun gg s9 s11 s89 wr => ∃ k : Nat, k ≤ 6 ∧ 6 - k ≤ gg ∧ s89 = .int .i64 k ∧ s9 = .int .i64 ((UL.take k).count true : Nat) ∧ wr = wc)
      case atStart => exact ⟨0, by omega, by omega, rfl, rfl, rfl⟩
      case round =>
        obtain ⟨k, hk, hg, rfl, rfl, rfl⟩ := hrel
        by_cases hlt : k < 6
        · have hltz : (k : Int) < 6 := by omega
          have hcl := HC.out k (by omega)
          have HST := Lib.hid (HCN.out k (by omega))
          have hcle : (UL.take k).count true ≤ 6 := Nat.le_trans List.count_le_length (by rw [List.length_take]; omega)
          generalize UL[k]'(by omega) = uk at *
          generalize (UL.take k).count true = ck at *
          cases uk
          · go_wp2_with fail
            go_roundg (6 - (k + 1))
            case measure => omega
            case rel => exact ⟨k + 1, by omega, by omega, by go_num, by rw [HST.out]; rfl, rfl⟩
          · go_wp2_with fail
            go_roundg (6 - (k + 1))
            case measure => omega
            case rel => exact ⟨k + 1, by omega, by omega, by go_num, by rw [HST.out]; go_num, rfl⟩
        · obtain rfl : k = 6 := by omega
          rw [List.take_of_length_le (by omega)]
          have c2 : decide ((lb : Int) ≥ (1 + (kn : Int) + 2) * 512) = true := decide_eq_true (by omega)
          have c3 : ((lb : Int)).tmod 512 = 0 := by rw [Int.tmod_eq_emod_of_nonneg (by omega)]; omega
          have p0 := HK5.out.cell 0
          have sp : (bs xp).size = xp.length := bs_size xp
          have hcnt := HCNU.out
          have hul7 : UL.count true ≤ 6 := Nat.le_trans List.count_le_length (by omega)
          clear HCNU
          generalize UL.count true = L at *
          by_cases hpb : pathBig xp = true
          · rw [hpb] at hcnt
            replace hcnt : lr = L + 1 := hcnt
            have hlp := HBG.out hpb
            have g1 : ((lr : Int) == (L : Int)) = false := beq_eq_false_iff_ne.2 (fun h => by omega)
            have g2 : ((lr : Int) == (L : Int) + 1) = true := beq_iff_eq.2 (by omega)
            have g3 : decide ((xp.length : Int) > 100) = true := decide_eq_true (by omega)
            clear hcnt
            go_wp2_with fail
            go_ret
            exact ⟨rfl, HB6.out⟩
          · have hpb : pathBig xp = false := by simpa using hpb
            rw [hpb] at hcnt
            replace hcnt : lr = L := hcnt
            have g1 : ((lr : Int) == (L : Int)) = true := beq_iff_eq.2 (by omega)
            clear hcnt
            go_wp2_with fail
            go_ret
            exact ⟨rfl, HB6.out⟩
end Go.Proofs.YtjbpoijefkbllaaDoor
