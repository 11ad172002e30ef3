/-
  The law TreeOwn: what it computes is true. Condition: raw things of the second form's bound.
-/
import Derived.Test.YtjglenhhgbokbaaDoorOwn
import Derived.Test.YtjglenhhgbokbaaDoorTree
namespace Go.Proofs.YtjglenhhgbokbaaDoor
open Go.RowKit

theorem xor_byte (z : UInt8) : ∃ b : UInt8, x8 (z.toNat : Int) 255 = (b.toNat : Int) := by
  have h := x8_nat z.toNat 255 (by have := z.toNat_lt; omega) (by omega)
  have hx : z.toNat ^^^ 255 < 2 ^ 8 := Nat.xor_lt_two_pow (by have := z.toNat_lt; omega) (by omega)
  refine ⟨UInt8.ofNat (z.toNat ^^^ 255), ?_⟩
  rw [show ((255 : Int)) = ((255 : Nat) : Int) from rfl, h, UInt8.toNat_ofNat_of_lt' (by omega)]
/-- what the loops keep -/
def TwSt (w : World) (base : Nat) (v : Value) (D : List Nat) (W : World) : Prop := Below base w W ∧ OwSt W base v D
theorem TwSt.store {w W : World} {base : Nat} {v : Value} {D : List Nat} (h : TwSt w base v D W) {g : Nat} {C0 : Array Value} {fr0 : Nat × Nat} (hg : W.heap[g]? = some (.cells C0 5 fr0)) (hb : base ≤ g) (o : Nat) (z : UInt8) : TwSt w base v D (W.setCell ⟨g, o, none⟩ (.int .u8 (x8 (z.toNat : Int) 255))) := by
  obtain ⟨b, e⟩ := xor_byte z
  rw [e]
  exact ⟨h.1.setCell (p := ⟨g, o, none⟩) hb _, h.2.poke hg o b⟩
set_option maxRecDepth 100000 in
set_option maxHeartbeats 8000000 in
theorem TreeOwn_walk (w : World) (hsh : w.ShapedOpen Tryd.prog) (v : Value) (l : List RawS) (hl : RawsAt w w.heap.size v l) (hok : ∀ x ∈ l, RawOk x) (hn : l.length ≤ 1048576) (i_ : Int) (_hi : I64 i_) :
    Calls Tryd.prog 6 #[v, .int .i64 i_] w fun e w' => e = .returned (.bool true) ∧ Below w.heap.size w w' := by
  have hm := ML.of_shaped hsh
  clear hsh
  have HML : Hid (∀ W, Below w.heap.size w W → ML W) := Lib.hid (fun W hb => hm.below hb)
  have HT : Hid (∀ W, Below w.heap.size w W → Calls Tryd.prog 10 #[v, .int .i64 20] W fun e w' => ∃ tv, e = .returned tv ∧ NodesOwn w' W.heap.size tv (treeP l 20) ∧ Below W.heap.size W w') := Lib.hid (fun W hb => Tree_any l v 20 W (hm.below hb) ((hl.below hb).more hb.size) hok hn (by omega))
  have hto := treeP_ok l 20 (by omega)
  have htp : ∀ x ∈ treeP l 20, PartsOk x.path := fun x hx => (treeP_parts l 20 x hx).1
  have htl : (treeP l 20).length ≤ 20 := treeP_length l 20
  clear hm hl hok hn
  generalize treeP l 20 = t at *
  have HTO := Lib.hid hto
  obtain ⟨hpc, hpl⟩ := zz_put hto htp htl zzN_ok
  have HPC := Lib.hid hpc
  have HPL := Lib.hid hpl
  have HNO := Lib.hid (none_new htp)
  clear hto htp hpc hpl
  have kc := fun (w : World) (C : Array Value) (n c : Nat) => Lib.run_convert_bytes_const (P := Tryd.prog) w 34 5 C n c Tryd.underlying34 Tryd.underlying5
  have HKC := Lib.hid kc
  clear kc
  go_enter Tryd.func6, Tryd.ntmps6
  go_wp2_with fail
  refine (HT.out _ (Below.refl _ _)).mono ?_
  rintro e' w1 ⟨tv, rfl, htv, b1⟩
  have B1 := Lib.hid b1
  have HT1 := Lib.hid htv.at_
  clear b1 htv
  go_wp2_with fail
  refine (HT.out _ B1.out).mono ?_
  rintro e' w2 ⟨sv, rfl, hsv, b2⟩
  have B2 := Lib.hid (B1.out.trans (b2.mono B1.out.size))
  have HT2 := Lib.hid (HT1.out.below b2)
  have HS2 := Lib.hid hsv.at_
  obtain ⟨_, At, ct, -, hte, hct1, hct2, -⟩ := HT2.out
  obtain ⟨_, As, cs, -, hse, hcs1, hcs2, -⟩ := hsv.at_
  subst hte hse
  unfold maxLen at hct2 hcs2
  clear b2 hsv HT HT1
  -- the bytes and the node
  have k1 := heap_alloc_new w2 (.cells #[.int .u8 100, .int .u8 97, .int .u8 116, .int .u8 97] 5 (4, 5))
  have b3 := (Below.refl w2.heap.size w2).alloc (Nat.le_refl _) (.cells #[.int .u8 100, .int .u8 97, .int .u8 116, .int .u8 97] 5 (4, 5))
  obtain ⟨W3, hW3⟩ : ∃ W3, W3 = (w2.alloc (.cells #[.int .u8 100, .int .u8 97, .int .u8 116, .int .u8 97] 5 (4, 5))).alloc (.cells #[.string ⟨#[122, 122]⟩, .int .i64 1, .int .i64 0, .string ⟨#[]⟩, .int .i64 0, .int .i64 0, .int .i64 0, .string ⟨#[]⟩, .string ⟨#[]⟩, .int .i64 0, .int .i64 0, .slice (some ⟨w2.heap.size, 0, none⟩) 4 4] 36) := ⟨_, rfl⟩
  have b4 : Below w2.heap.size w2 W3 := by rw [hW3]; exact b3.alloc (by simp) _
  have K3 : Blk W3 (w2.heap.size + 1) 36 (nodeC (zzN, .slice (some ⟨w2.heap.size, 0, none⟩) 4 4)).toArray := by
    have h := Blk.new (w2.alloc (.cells #[.int .u8 100, .int .u8 97, .int .u8 116, .int .u8 97] 5 (4, 5))) 36 #[.string ⟨#[122, 122]⟩, .int .i64 1, .int .i64 0, .string ⟨#[]⟩, .int .i64 0, .int .i64 0, .int .i64 0, .string ⟨#[]⟩, .string ⟨#[]⟩, .int .i64 0, .int .i64 0, .slice (some ⟨w2.heap.size, 0, none⟩) 4 4]
    rw [← hW3, show (w2.alloc (.cells #[.int .u8 100, .int .u8 97, .int .u8 116, .int .u8 97] 5 (4, 5))).heap.size = w2.heap.size + 1 by simp] at h
    exact h
  have hD : DataAt W3 0 (.slice (some ⟨w2.heap.size, 0, none⟩) 4 4) zzN.data := by
    refine ⟨some ⟨w2.heap.size, 0, none⟩, 4, rfl, Nat.le_refl 4, by simp [maxLen], (fun h => by cases h), fun ad e => ?_⟩
    cases e
    refine ⟨rfl, Nat.zero_le _, #[.int .u8 100, .int .u8 97, .int .u8 116, .int .u8 97], (4, 5), ?_, fun j hj => ?_⟩
    · rw [hW3]; exact (Below.heap_alloc _ _ w2.heap.size (by simp)).trans k1
    · have hj : j < 4 := hj
      rcases (show j = 0 ∨ j = 1 ∨ j = 2 ∨ j = 3 by omega) with rfl | rfl | rfl | rfl <;> exact ⟨rfl, rfl⟩
  have HB3 := Lib.hid b4
  have HK3 := Lib.hid K3
  have HD3 := Lib.hid hD
  have B3 := Lib.hid (B2.out.trans (b4.mono B2.out.size))
  have HPT := Lib.hid (Put_any _ t (zzN, .slice (some ⟨w2.heap.size, 0, none⟩) 4 4) W3 (HML.out _ B3.out) (HT2.out.below b4) HTO.out.node zzN_ok hD HTO.out.chk 0 HPC.out)
  unfold nodeC at HPT
  simp only at HPT
  clear k1 b3 b4 K3 hD
  obtain ⟨g7, hg7⟩ : ∃ g7, g7 = w2.heap.size := ⟨_, rfl⟩
  rw [← hg7] at HK3 HD3 HPT
  have HG7 := Lib.hid hg7
  have kc := HKC.out
  go_upto_region 3 with fail
  clear kc
  rw [← hg7] at hW3 ⊢
  rw [← hW3]
  clear hW3 hg7
  obtain ⟨c0, c1, c2, c3, c4, c5, c6, c7, c8, c9, c10, c11⟩ := HK3.out.node
  go_wp2_with fail
  refine HPT.out.mono ?_
  rintro e' w4 hput
  clear c0 c1 c2 c3 c4 c5 c6 c7 c8 c9 c10 c11 HPT
  rcases hput with ⟨-, xv, rfl, hxv, b4⟩ | ⟨hcc, -⟩
  case inr => exact absurd rfl hcc
  have B4 := Lib.hid (B3.out.trans (b4.mono B3.out.size))
  have H34 := Lib.hid b4
  have H0 : Hid (TwSt W3 W3.heap.size xv ((putP t zzN).map fun x => x.data.length) w4) := Lib.hid ⟨b4, OwSt.of hxv⟩
  obtain ⟨_, Ax, cx, -, hxe, hcx1, hcx2, -⟩ := hxv.at_
  rw [HPL.out] at hxe hcx1
  subst hxe
  unfold maxLen at hcx2
  have HDL : Hid (((putP t zzN).map fun x => x.data.length).length = t.length + 1) := Lib.hid (by rw [List.length_map]; exact HPL.out)
  clear b4 hxv
  generalize ((putP t zzN).map fun x => x.data.length) = D at *
  have q1 : ((t.length : Int) + 1 != (t.length : Int) + 1) = false := bne_self_eq_false _
  have q2 : ((t.length : Int) + 1 == (t.length : Int) + 1) = true := beq_self_eq_true _
  go_wp2_with fail
  go_loopg [42] (t.length + 1) (fun gg s42 wr => ∃ k : Nat, k ≤ t.length + 1 ∧ t.length + 1 - k ≤ gg ∧ s42 = .int .i64 k ∧ Hid (TwSt W3 W3.heap.size (.slice Ax (t.length + 1) cx) D wr))
  case atStart => exact ⟨0, Nat.zero_le _, by omega, rfl, H0⟩
  case round =>
    obtain ⟨k, hk, hg, rfl, HS⟩ := hrel
    by_cases hlt : k < t.length + 1
    · have hltz : (k : Int) < (t.length : Int) + 1 := by omega
      have hk0 : (0 : Int) ≤ (k : Int) := by omega
      have hkD : k < D.length := by rw [HDL.out]; exact hlt
      obtain ⟨g, cg, Ay, cy, hve, hgb, -, -, hfz, ⟨p0, hp0⟩, hc11, hdc, hcm, -⟩ := HS.out.2.read hkD
      obtain ⟨rfl, rfl⟩ : Ax = some ⟨g, 0, none⟩ ∧ cx = cg := by injection hve with h1 _ h2; exact ⟨h1, h2⟩
      clear hve hp0
      obtain ⟨d, hd⟩ : ∃ d, d = D[k] := ⟨_, rfl⟩
      rw [← hd] at hc11 hdc
      have HDD := Lib.hid hd
      unfold maxLen at hcm
      clear hd
      go_wp2_with fail
      clear hc11
      go_loopg [51] d (fun gg2 s51 wq => ∃ j : Nat, j ≤ d ∧ d - j ≤ gg2 ∧ s51 = .int .i64 j ∧ Hid (TwSt W3 W3.heap.size (.slice (some ⟨g, 0, none⟩) (t.length + 1) cx) D wq))
      case atStart => exact ⟨0, Nat.zero_le _, by omega, rfl, HS⟩
      case round =>
        obtain ⟨j, hj, hg2, rfl, HV⟩ := hrel
        by_cases hlj : j < d
        · have hljz : (j : Int) < (d : Int) := by omega
          have hj0 : (0 : Int) ≤ (j : Int) := by omega
          obtain ⟨g2, cg2, Ay2, cy2, hve2, -, -, -, -, -, hd11, hdc2, hcm2, hby⟩ := HV.out.2.read hkD
          have hgg : g = g2 := by
            injection hve2 with h1 _ _
            injection h1 with h1
            injection h1
          subst hgg
          rw [← HDD.out] at hd11 hdc2 hby
          obtain ⟨gd, od, z, C, fr, rfl, hgdb, hblk, hcz, hfr⟩ := hby j hlj
          unfold maxLen at hcm2
          have HST := Lib.hid (HV.out.store hblk hgdb (od + j) z)
          have hz1 : (0 : Int) ≤ (z.toNat : Int) := by omega
          have hz2 : (z.toNat : Int) ≤ 255 := by have := z.toNat_lt; omega
          unfold x8 at HST
          clear hve2 hby hblk
          generalize (z.toNat : Int) = zz at *
          go_wp2_with fail
          go_roundg (d - (j + 1))
          case measure => omega
          case rel => exact ⟨j + 1, by omega, by omega, by go_num, HST⟩
        · obtain rfl : j = d := by omega
          obtain ⟨g2, cg2, Ay2, cy2, hve2, -, -, -, hfz2, ⟨p2, hp2⟩, -⟩ := HV.out.2.read hkD
          have hgg : g = g2 := by
            injection hve2 with h1 _ _
            injection h1 with h1
            injection h1
          subst hgg
          have hfz3 := hfz2 (k * 12)
          have HNM : Hid (TwSt W3 W3.heap.size (.slice (some ⟨g, 0, none⟩) (t.length + 1) cx) D (wr.setCell ⟨g, k * 12, none⟩ (.string ⟨#[63]⟩))) := Lib.hid ⟨HV.out.1.setCell (p := ⟨g, k * 12, none⟩) hgb _, HV.out.2.name hkD [63]⟩
          clear hve2 hfz2
          go_wp2_with fail
          go_roundg (t.length + 1 - (k + 1))
          case measure => omega
          case rel => exact ⟨k + 1, by omega, by omega, by go_num, HNM⟩
    · obtain rfl : k = t.length + 1 := by omega
      have B5 := Lib.hid (B3.out.trans (HS.out.1.mono B3.out.size))
      have HT5 := Lib.hid ((HT2.out.below HB3.out).below HS.out.1)
      have HS5 := Lib.hid ((HS2.out.below HB3.out).below HS.out.1)
      have HK5 := Lib.hid (HK3.out.below HS.out.1 HK3.out.lt)
      have HD5 := Lib.hid (HD3.out.below HS.out.1)
      have HRM := Lib.hid (Remove_no _ t [110, 111, 110, 101] wr (HML.out _ B5.out) HT5.out HTO.out.node HTO.out.chk HNO.out)
      clear q1 q2
      generalize wr = w5 at *
      go_wp2_with fail
      refine HRM.out.mono ?_
      rintro e' w6 ⟨rfl, b6⟩
      have B6 := Lib.hid (B5.out.trans (b6.mono B5.out.size))
      have HT6 := Lib.hid (HT5.out.below b6)
      have HS6 := Lib.hid (HS5.out.below b6)
      have HK6 := Lib.hid (HK5.out.below b6 HK5.out.lt)
      have HD6 := Lib.hid (HD5.out.below b6)
      have HCP := Lib.hid (Copy_any _ t w6 HT6.out (by omega) (fun y hy => by have := (HTO.out.node y hy).data.1; omega))
      clear b6 HRM
      go_wp2_with fail
      refine HCP.out.mono ?_
      rintro e' w7 ⟨zv, rfl, hzv, b7⟩
      have HZ0 : Hid (TwSt w6 w6.heap.size zv (t.map fun x => x.data.length) w7) := Lib.hid ⟨b7, OwSt.of hzv⟩
      obtain ⟨_, Az, cz, -, hze, hcz1, hcz2, -⟩ := hzv.at_
      subst hze
      unfold maxLen at hcz2
      have HZL : Hid ((t.map fun x => x.data.length).length = t.length) := Lib.hid (List.length_map ..)
      clear b7 hzv HCP
      generalize (t.map fun x => x.data.length) = E at *
      clear HS HDL H0
      clear hcx1 hcx2
      go_wp2_with fail
      go_loopg [79] (t.length) (fun gg s79 wr => ∃ k : Nat, k ≤ t.length ∧ t.length - k ≤ gg ∧ s79 = .int .i64 k ∧ Hid (TwSt w6 w6.heap.size (.slice Az (t.length) cz) E wr))
      case atStart => exact ⟨0, Nat.zero_le _, by omega, rfl, HZ0⟩
      case round =>
        obtain ⟨k, hk, hg, rfl, HS⟩ := hrel
        by_cases hlt : k < t.length
        · have hltz : (k : Int) < (t.length : Int) := by omega
          have hk0 : (0 : Int) ≤ (k : Int) := by omega
          have hkD : k < E.length := by rw [HZL.out]; exact hlt
          obtain ⟨g, cg, Ay, cy, hve, hgb, -, -, hfz, ⟨p0, hp0⟩, hc11, hdc, hcm, -⟩ := HS.out.2.read hkD
          obtain ⟨rfl, rfl⟩ : Az = some ⟨g, 0, none⟩ ∧ cz = cg := by injection hve with h1 _ h2; exact ⟨h1, h2⟩
          clear hve hp0
          obtain ⟨d, hd⟩ : ∃ d, d = E[k] := ⟨_, rfl⟩
          rw [← hd] at hc11 hdc
          have HDD := Lib.hid hd
          unfold maxLen at hcm
          clear hd
          go_wp2_with fail
          clear hc11
          go_loopg [88] d (fun gg2 s88 wq => ∃ j : Nat, j ≤ d ∧ d - j ≤ gg2 ∧ s88 = .int .i64 j ∧ Hid (TwSt w6 w6.heap.size (.slice (some ⟨g, 0, none⟩) (t.length) cz) E wq))
          case atStart => exact ⟨0, Nat.zero_le _, by omega, rfl, HS⟩
          case round =>
            obtain ⟨j, hj, hg2, rfl, HV⟩ := hrel
            by_cases hlj : j < d
            · have hljz : (j : Int) < (d : Int) := by omega
              have hj0 : (0 : Int) ≤ (j : Int) := by omega
              obtain ⟨g2, cg2, Ay2, cy2, hve2, -, -, -, -, -, hd11, hdc2, hcm2, hby⟩ := HV.out.2.read hkD
              have hgg : g = g2 := by
                injection hve2 with h1 _ _
                injection h1 with h1
                injection h1
              subst hgg
              rw [← HDD.out] at hd11 hdc2 hby
              obtain ⟨gd, od, z, C, fr, rfl, hgdb, hblk, hcz, hfr⟩ := hby j hlj
              unfold maxLen at hcm2
              have HST := Lib.hid (HV.out.store hblk hgdb (od + j) z)
              have hz1 : (0 : Int) ≤ (z.toNat : Int) := by omega
              have hz2 : (z.toNat : Int) ≤ 255 := by have := z.toNat_lt; omega
              unfold x8 at HST
              clear hve2 hby hblk
              generalize (z.toNat : Int) = zz at *
              go_wp2_with fail
              go_roundg (d - (j + 1))
              case measure => omega
              case rel => exact ⟨j + 1, by omega, by omega, by go_num, HST⟩
            · obtain rfl : j = d := by omega
              go_wp2_with fail
              go_roundg (t.length - (k + 1))
              case measure => omega
              case rel => exact ⟨k + 1, by omega, by omega, by go_num, HV⟩
        · obtain rfl : k = t.length := by omega
          have B8 := Lib.hid (B6.out.trans (HS.out.1.mono B6.out.size))
          have HT8 := Lib.hid (HT6.out.below HS.out.1)
          have HS8 := Lib.hid (HS6.out.below HS.out.1)
          have HK8 := Lib.hid (HK6.out.below HS.out.1 HK6.out.lt)
          have hcv := conv_str (HD6.out.below HS.out.1).bytes
          have HSM := Lib.hid (SameTree_any _ _ t t wr HT8.out HS8.out)
          rw [decide_eq_true rfl] at HSM
          have c11 : wr.cell? ⟨g7 + 1, 11, none⟩ = some (.slice (some ⟨g7, 0, none⟩) 4 4) := HK8.out.cell 11
          have hbq : ((bs zzN.data).toList == [100, 97, 116, 97]) = true := by rw [bs_toList]; rfl
          generalize bs zzN.data = bz at *
          go_wp2_with fail
          refine HSM.out.mono ?_
          rintro e' w9 ⟨rfl, b9⟩
          have B9 := Lib.hid (B8.out.trans (b9.mono B8.out.size))
          clear b9
          go_wp2_with fail
          go_ret
          exact ⟨rfl, B9.out⟩
end Go.Proofs.YtjglenhhgbokbaaDoor
