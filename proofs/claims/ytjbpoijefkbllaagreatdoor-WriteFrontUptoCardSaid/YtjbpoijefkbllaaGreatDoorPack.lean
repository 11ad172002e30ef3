/-
  member.pack, once. Condition: a member that may be; the library's table of powers of ten lies as Go laid it.
-/
import Derived.Test.YtjbpoijefkbllaaGreatDoorPackS
import Derived.Deep.QuietTactic
import Derived.BigQuiet
import Derived.BigRegion
import Derived.Deep.DeepCutAuto
namespace Go.Proofs.YtjbpoijefkbllaaGreatDoor
open Go.RowKit

def hcL (h : PHead) : List Value := [.string (bs h.name), .string (bs h.pre), .string (bs h.link), .int .i64 h.mode, .int .i64 h.uid, .int .i64 h.gid, .int .i64 h.size, .int .i64 h.time, .int .u8 h.type.toNat, .string (bs h.user), .string (bs h.group)]
/-- in member.pack -/
def PkSt (w0 : World) (cs : Array Value) (g : Nat) (hc : List Value) (l : List RecS) (W : World) : Prop :=
  Blk W w0.heap.size 40 cs ∧ PackAt W (w0.heap.size + 1) g hc l ∧ Below w0.heap.size w0 W ∧ w0.heap.size < W.heap.size
section
variable {w0 W W' : World} {cs : Array Value} {g : Nat} {hc hc' : List Value} {l l' : List RecS}
theorem PkSt.below (h : PkSt w0 cs g hc l W) (hb : Below W.heap.size W W') : PkSt w0 cs g hc l W' :=
  ⟨h.1.below hb h.1.lt, h.2.1.below hb, h.2.2.1.trans (hb.mono h.2.2.1.size), Nat.lt_of_lt_of_le h.2.2.2 hb.size⟩
theorem PkSt.next (h : PkSt w0 cs g hc l W) (hp : PackAt W' (w0.heap.size + 1) g hc' l') (hb : Below (w0.heap.size + 1) W W') : PkSt w0 cs g hc' l' W' :=
  ⟨h.1.below hb (Nat.lt_succ_self _), hp, h.2.2.1.trans (hb.mono (Nat.le_succ _)), Nat.lt_of_lt_of_le h.2.2.2 hb.size⟩
theorem PkSt.set_ (h : PkSt w0 cs g hc l W) {i : Nat} (hi : i < 11) (u : Value) : PkSt w0 cs g (hc.set i u) l (W.setCell ⟨g, i, none⟩ u) :=
  h.next (h.2.1.set_ hi u) ((Below.refl _ _).setCell (p := ⟨g, i, none⟩) h.2.1.1 u)
theorem PkSt.ent (h : PkSt w0 cs g hc l W) (i : Nat) : W.cell? ⟨w0.heap.size, i, none⟩ = cs[i]? := h.1.cell i
end
theorem PkSt.start {w W0 : World} {cs : Array Value} (hc : List Value) (h11 : hc.length = 11) (h1 : Blk W0 w.heap.size 40 cs) (h2 : Below w.heap.size w W0) (h3 : W0.heap.size = w.heap.size + 1) :
    PkSt w cs W0.heap.size hc [] (W0.alloc (.cells (hc ++ [Value.slice none 0 0]).toArray 96)).drew := by
  refine ⟨(h1.alloc _).drew, ⟨by omega, h11, .slice none 0 0, (Blk.new W0 _ _).drew, World.ownsRow_nil _ _ _ _⟩, (h2.alloc h2.size _).drew, ?_⟩
  show w.heap.size < (W0.alloc _).heap.size
  simp; omega
set_option maxRecDepth 100000 in
set_option maxHeartbeats 8000000 in
theorem pack_any (x : EntP) (h : EntOk x) (A : Option Addr) (c : Nat) (w : World) (h10 : P10 w) :
    Calls Tryz.prog 49 #[.agg (entC x (.slice A x.data.length c)).toArray] w fun e w' => ∃ g, e = .returned (.pointer (some ⟨g, 0, none⟩)) ∧ PackAt w' w.heap.size g (hcL (packH x)) (packR x) ∧ Below w.heap.size w w' := by
  have hok := h
  have hR : packR x = packR x := rfl
  have HP10 : Hid (∀ W, Below w.heap.size w W → P10 W) := Lib.hid (fun W hb => h10.below hb)
  obtain ⟨hne, hnul⟩ := h.path_ne
  have hHE : ∃ H, H = hcL (packH x) := ⟨_, rfl⟩
  obtain ⟨H, hH⟩ := hHE
  obtain ⟨R, hRR⟩ : ∃ R, R = packR x := ⟨_, rfl⟩
  rw [← hH, ← hRR]
  unfold hcL packH at hH
  unfold packR at hRR
  obtain ⟨path, kind, target, ⟨mode, uid, gid, user, group, second, nano⟩, data⟩ := x
  obtain ⟨⟨p1, p2⟩, ⟨⟨m1, m2⟩, ⟨m3, m4⟩, ⟨m5, m6⟩, ⟨u1, u2⟩, ⟨g1, g2⟩, htime⟩, hk, ⟨d1, d2⟩, hn, ⟨t1, t2, t6⟩⟩ := h
  simp only at hH hRR p1 p2 m1 m2 m3 m4 m5 m6 u1 u2 g1 g2 htime hk d1 d2 hn t1 t2 t6 hne hnul
  have hk1 : 1 ≤ kind ∧ kind ≤ 4 := by rcases hk with rfl | rfl | rfl | rfl <;> decide
  clear hok hn t2 t6 d2 u2 g2 hR h10
  unfold entC
  simp only
  obtain ⟨cs, hcs⟩ : ∃ cs : Array Value, cs = #[.string (bs path), .int .i64 kind, .string (bs target), .int .i64 mode, .int .i64 uid, .int .i64 gid, .string (bs user), .string (bs group), .int .i64 second, .int .i64 nano, .slice A data.length c] := ⟨_, rfl⟩
  obtain ⟨W0, hW0⟩ : ∃ W0, W0 = w.alloc (.cells #[.string (bs path), .int .i64 kind, .string (bs target), .int .i64 mode, .int .i64 uid, .int .i64 gid, .string (bs user), .string (bs group), .int .i64 second, .int .i64 nano, .slice A data.length c] 40) := ⟨_, rfl⟩
  have hB0 : Blk W0 w.heap.size 40 cs := by rw [hW0, hcs]; exact Blk.new _ _ _
  have hb0 : Below w.heap.size w W0 := by rw [hW0]; exact (Below.refl _ _).alloc (Nat.le_refl _) _
  have hs0 : W0.heap.size = w.heap.size + 1 := by rw [hW0]; simp
  have e1 : W0.cell? ⟨w.heap.size, 1, none⟩ = some (.int .i64 kind) := by rw [hB0.cell 1, hcs]; rfl
  have e3 : W0.cell? ⟨w.heap.size, 3, none⟩ = some (.int .i64 mode) := by rw [hB0.cell 3, hcs]; rfl
  have e10 : W0.cell? ⟨w.heap.size, 10, none⟩ = some (.slice A data.length c) := by rw [hB0.cell 10, hcs]; rfl
  have HB0 := Lib.hid hB0
  have HBW := Lib.hid hb0
  have HS0 := Lib.hid hs0
  have HH := Lib.hid hH
  have HRR := Lib.hid hRR
  have HTM := Lib.hid htime
  clear hB0 hb0 hs0 hH hRR htime
  obtain ⟨G, hG⟩ : ∃ G, G = w.heap.size := ⟨_, rfl⟩
  go_enter Tryz.func49, Tryz.ntmps49
  go_upto_region 1 with fail
  rw [← hW0]
  have HW0 := Lib.hid hW0
  clear hW0
  go_cut [3] from 12 to 23 (fun s3 wx => ∃ g, s3 = .pointer (some ⟨g, 0, none⟩) ∧ Hid (PkSt w cs g [.string ⟨#[]⟩, .string ⟨#[]⟩, .string ⟨#[]⟩, .int .i64 mode, .int .i64 0, .int .i64 0, .int .i64 data.length, .int .i64 0, .int .u8 (typeK kind).toNat, .string ⟨#[]⟩, .string ⟨#[]⟩] [] wx))
  case first =>
    rcases hk with rfl | rfl | rfl | rfl
    all_goals
      go_region
      go_wp2_with fail
      go_meet
      case rel => exact ⟨_, rfl, Lib.hid (PkSt.start _ rfl HB0.out HBW.out HS0.out)⟩
  case rest =>
    obtain ⟨g, rfl, HS⟩ := hcut
    clear e1 e3 e10 HB0 HBW HS0 HW0
    have hk10 : (kind == 0) = false := by rw [beq_eq_false_iff_ne]; omega
    clear hk10
    have HNum := Lib.hid (fun (k : List UInt8) (n : Int) (h0 : 0 ≤ n) (h1 : n ≤ 1125899906842624) (hc : List Value) (l : List RecS) (W : World) (hp : PkSt w cs g hc l W) (hl : l.length ≤ 20) => number_any (w.heap.size + 1) g hc l k n h0 h1 W hp.2.1 hl (HP10.out W hp.2.2.1))
    have HTxt := Lib.hid (fun (k s t : List UInt8) (most : Nat) (hm : most ≤ 1000) (hs : s.length ≤ 1000) (hc : List Value) (l : List RecS) (W : World) (hp : PkSt w cs g hc l W) (hl : l.length ≤ 20) => text_any (w.heap.size + 1) g hc l k s t most hm hs W hp.2.1 hl)
    have HSay := Lib.hid (fun (k v : List UInt8) (hc : List Value) (l : List RecS) (W : World) (hp : PkSt w cs g hc l W) (hl : l.length ≤ 20) => say_any (w.heap.size + 1) g hc l k v W hp.2.1 hl)
    have HE : Hid (∀ hc l W, PkSt w cs g hc l W → W.cell? ⟨w.heap.size, 0, none⟩ = some (.string (bs path)) ∧ W.cell? ⟨w.heap.size, 2, none⟩ = some (.string (bs target)) ∧ W.cell? ⟨w.heap.size, 4, none⟩ = some (.int .i64 uid) ∧ W.cell? ⟨w.heap.size, 5, none⟩ = some (.int .i64 gid) ∧ W.cell? ⟨w.heap.size, 6, none⟩ = some (.string (bs user)) ∧ W.cell? ⟨w.heap.size, 7, none⟩ = some (.string (bs group)) ∧ W.cell? ⟨w.heap.size, 8, none⟩ = some (.int .i64 second) ∧ W.cell? ⟨w.heap.size, 9, none⟩ = some (.int .i64 nano)) := Lib.hid (fun hc l W hp => by
      have hb := hp.1
      rw [hcs] at hb
      exact ⟨hb.cell 0, hb.cell 2, hb.cell 4, hb.cell 5, hb.cell 6, hb.cell 7, hb.cell 8, hb.cell 9⟩)
    clear hcs
    -- gid
    obtain ⟨-, -, -, x3, -, -, -, -⟩ := HE.out _ _ _ HS.out
    have HC := Lib.hid (HNum.out gidK gid m5 m6 _ _ _ HS.out (by simp))
    rw [show bs gidK = (⟨#[103, 105, 100]⟩ : ByteArray) from rfl] at HC
    go_wp2_with fail
    refine HC.out.mono ?_
    rintro e w1 ⟨rfl, hp1, b1⟩
    have HS1 := Lib.hid (HS.out.next hp1 b1)
    have q := HS1.out.2.1.cell (i := 5) (by decide)
    have z := HS1.out.2.1.frozen 5
    simp only [List.getElem?_cons_succ, List.getElem?_cons_zero] at q
    clear hp1 b1 HC HS x3
    go_upto_region 4 with fail
    have HT1 := Lib.hid (HS1.out.set_ (i := 5) (by decide) (.int .i64 (numH gid)))
    simp only [List.set_cons_zero, List.set_cons_succ] at HT1
    clear HS1 q z
    generalize w1.setCell ⟨g, 5, none⟩ (.int .i64 (numH gid)) = W1 at *
    obtain ⟨-, -, -, -, -, x5, -, -⟩ := HE.out _ _ _ HT1.out
    have HC := Lib.hid (HTxt.out gnameK group [] 31 (by omega) (by omega) _ _ _ HT1.out (by simp only [List.length_append, List.length_nil]; have a0 := sayIf_len (bigN gid) gidK (Lib.decDigits gid.toNat); omega))
    rw [show bs gnameK = (⟨#[103, 110, 97, 109, 101]⟩ : ByteArray) from rfl] at HC
    go_wp2_with fail
    refine HC.out.mono ?_
    rintro e w1 ⟨rfl, hp1, b1⟩
    have HS2 := Lib.hid (HT1.out.next hp1 b1)
    have q := HS2.out.2.1.cell (i := 10) (by decide)
    have z := HS2.out.2.1.frozen 10
    simp only [List.getElem?_cons_succ, List.getElem?_cons_zero] at q
    clear hp1 b1 HC HT1 x5
    go_upto_region 5 with fail
    have HT2 := Lib.hid (HS2.out.set_ (i := 10) (by decide) (.string (bs (txtH 31 group []))))
    simp only [List.set_cons_zero, List.set_cons_succ] at HT2
    clear HS2 q z
    generalize w1.setCell ⟨g, 10, none⟩ (.string (bs (txtH 31 group []))) = W2 at *
    obtain ⟨-, x1, -, -, -, -, -, -⟩ := HE.out _ _ _ HT2.out
    have HC := Lib.hid (HTxt.out linkK target longS 100 (by omega) (by omega) _ _ _ HT2.out (by simp only [List.length_append, List.length_nil]; have a0 := sayIf_len (bigN gid) gidK (Lib.decDigits gid.toNat); have a1 := sayIf_len (decide (31 < group.length)) gnameK group; omega))
    rw [show bs linkK = (⟨#[108, 105, 110, 107, 112, 97, 116, 104]⟩ : ByteArray) from rfl] at HC
    go_wp2_with fail
    refine HC.out.mono ?_
    rintro e w1 ⟨rfl, hp1, b1⟩
    have HS3 := Lib.hid (HT2.out.next hp1 b1)
    have q := HS3.out.2.1.cell (i := 2) (by decide)
    have z := HS3.out.2.1.frozen 2
    simp only [List.getElem?_cons_succ, List.getElem?_cons_zero] at q
    clear hp1 b1 HC HT2 x1
    go_upto_region 6 with fail
    have HT3 := Lib.hid (HS3.out.set_ (i := 2) (by decide) (.string (bs (txtH 100 target longS))))
    simp only [List.set_cons_zero, List.set_cons_succ] at HT3
    clear HS3 q z
    generalize w1.setCell ⟨g, 2, none⟩ (.string (bs (txtH 100 target longS))) = W3 at *
    have HM12 := Lib.hid (fun W => Most_ok 12 (by omega) (by omega) W)
    rw [show mostI 12 = 8589934591 by decide] at HM12
    go_wp2_with fail
    refine (HM12.out _).mono ?_
    rintro e w' ⟨rfl, rfl⟩
    obtain ⟨-, -, -, -, -, -, x6, x7⟩ := HE.out _ _ _ HT3.out
    obtain ⟨tb, htb⟩ : ∃ tb, tb = timeBig ⟨mode, uid, gid, user, group, second, nano⟩ := ⟨_, rfl⟩
    unfold timeBig at htb
    simp only at htb
    have HTB := Lib.hid htb
    clear htb
    go_upto_region 7 with fail
    go_cut [70] from 54 to 70 (fun s70 wx => s70 = .bool tb ∧ wx = W3)
    case first =>
      by_cases c1 : 0 < nano
      · have hb : tb = true := by rw [HTB.out]; exact decide_eq_true (.inl c1)
        subst hb
        have g1 : decide (nano > 0) = true := decide_eq_true c1
        have g2 : decide (0 < nano) = true := decide_eq_true c1
        go_wp2_with fail
        go_meet
        case rel => exact ⟨rfl, rfl⟩
      · have g1 : decide (nano > 0) = false := decide_eq_false c1
        have g2 : decide (0 < nano) = false := decide_eq_false c1
        by_cases c2 : second < 0
        · have hb : tb = true := by rw [HTB.out]; exact decide_eq_true (.inr (.inl c2))
          subst hb
          have g3 : decide (second < 0) = true := decide_eq_true c2
          go_wp2_with fail
          go_meet
          case rel => exact ⟨rfl, rfl⟩
        · have g3 : decide (second < 0) = false := decide_eq_false c2
          by_cases c3 : 8589934591 < second
          · have hb : tb = true := by rw [HTB.out]; exact decide_eq_true (.inr (.inr c3))
            subst hb
            have g4 : decide (second > 8589934591) = true := decide_eq_true c3
            have g5 : decide (8589934591 < second) = true := decide_eq_true c3
            go_wp2_with fail
            go_meet
            case rel => exact ⟨rfl, rfl⟩
          · have hb : tb = false := by rw [HTB.out]; exact decide_eq_false (by omega)
            subst hb
            have g4 : decide (second > 8589934591) = false := decide_eq_false c3
            have g5 : decide (8589934591 < second) = false := decide_eq_false c3
            go_wp2_with fail
            go_meet
            case rel => exact ⟨rfl, rfl⟩
    case rest =>
    obtain ⟨rfl, rfl⟩ := hcut
    have HTX := Lib.hid (Text_ok second nano HTM.out wc (HP10.out _ HT3.out.2.2.1))
    have HTL := Lib.hid (text_len second nano HTM.out)
    go_upto_if 70 with fail
    go_cut [7, 8] from 71 to 89 (fun _ _ wx => Hid (PkSt w cs g [.string ⟨#[]⟩, .string ⟨#[]⟩, .string (bs (txtH 100 target longS)), .int .i64 mode, .int .i64 0, .int .i64 (numH gid), .int .i64 data.length, .int .i64 (tmH tb second), .int .u8 (typeK kind).toNat, .string ⟨#[]⟩, .string (bs (txtH 31 group []))] ([] ++ sayIf (bigN gid) gidK (Lib.decDigits gid.toNat) ++ sayIf (decide (31 < group.length)) gnameK group ++ sayIf (decide (100 < target.length)) linkK target ++ sayIf tb mtimeK (textT second nano)) wx))
    case first =>
      cases tb with
      | true =>
        clear HTB
        go_wp2_with fail
        refine HTX.out.mono ?_
        rintro e w1 ⟨rfl, b1⟩
        have HT4 := Lib.hid (HT3.out.below b1)
        have HC := Lib.hid (HSay.out mtimeK (textT second nano) _ _ _ HT4.out (by simp only [List.length_append, List.length_nil]; have a0 := sayIf_len (bigN gid) gidK (Lib.decDigits gid.toNat); have a1 := sayIf_len (decide (31 < group.length)) gnameK group; have a2 := sayIf_len (decide (100 < target.length)) linkK target; omega))
        rw [show bs mtimeK = (⟨#[109, 116, 105, 109, 101]⟩ : ByteArray) from rfl] at HC
        clear b1 HT3 x6 x7
        go_wp2_with fail
        refine HC.out.mono ?_
        rintro e w2 ⟨rfl, hp2, b2⟩
        have HT5 := Lib.hid (HT4.out.next hp2 b2)
        clear hp2 b2
        go_wp2_with fail
        go_meet
        case rel => exact HT5
      | false =>
        clear HTB HTX
        have q := HT3.out.2.1.cell (i := 7) (by decide)
        have z := HT3.out.2.1.frozen 7
        simp only [List.getElem?_cons_succ, List.getElem?_cons_zero] at q
        have HT5 := Lib.hid (HT3.out.set_ (i := 7) (by decide) (.int .i64 second))
        simp only [List.set_cons_zero, List.set_cons_succ] at HT5
        go_wp2_with fail
        go_meet
        case rel => exact Lib.hid (by rw [sayIf_false, List.append_nil]; exact HT5.out)
    case rest =>
    have HT6 := hcut
    clear hcut HT3 x6 x7 HTX HTL
    obtain ⟨x0, -, -, -, -, -, -, -⟩ := HE.out _ _ _ HT6.out
    have HTW := Lib.hid (fun W => Two_any path (by omega) W)
    have hec : ((twoS path).2.2 != 0) = pathBig path := by unfold pathBig; rw [Bool.eq_iff_iff]; simp
    have HNM : Hid (bs (nmH (pathBig path) (twoS path).2.1) = bs (if pathBig path = true then longS else (twoS path).2.1)) := Lib.hid (by unfold nmH; cases pathBig path <;> rfl)
    generalize hpb : pathBig path = pb at *
    have HPB := Lib.hid hpb
    clear hpb
    generalize hP1 : (twoS path).1 = P1 at *
    generalize hP2 : (twoS path).2.1 = P2 at *
    generalize (twoS path).2.2 = ec at *
    have HP1 := Lib.hid hP1
    have HP2 := Lib.hid hP2
    clear hP1 hP2
    go_wp2_with fail
    refine (HTW.out _).mono ?_
    rintro e w1 ⟨rfl, b1⟩
    have HT6b := Lib.hid (HT6.out.below b1)
    clear HT6 x0 b1
    have HT6 := HT6b
    clear HT6b
    have q1 := HT6.out.2.1.cell (i := 1) (by decide)
    have z1 := HT6.out.2.1.frozen 1
    have q0 := HT6.out.2.1.cell (i := 0) (by decide)
    have z0 := HT6.out.2.1.frozen 0
    simp only [List.getElem?_cons_succ, List.getElem?_cons_zero] at q1 q0
    have HT7 := Lib.hid ((HT6.out.set_ (i := 1) (by decide) (.string (bs P1))).set_ (i := 0) (by decide) (.string (bs P2)))
    simp only [List.set_cons_zero, List.set_cons_succ] at HT7
    clear HT6
    go_upto_region 13 with fail
    clear q1 z1 q0 z0
    generalize (w1.setCell ⟨g, 1, none⟩ (.string (bs P1))).setCell ⟨g, 0, none⟩ (.string (bs P2)) = W7 at *
    obtain ⟨x0, -, -, -, -, -, -, -⟩ := HE.out _ _ _ HT7.out
    go_upto_if 106 with fail
    go_cut [106] from 107 to 113 (fun _ wx => Hid (PkSt w cs g [.string (bs (nmH pb P2)), .string (bs P1), .string (bs (txtH 100 target longS)), .int .i64 mode, .int .i64 0, .int .i64 (numH gid), .int .i64 data.length, .int .i64 (tmH tb second), .int .u8 (typeK kind).toNat, .string ⟨#[]⟩, .string (bs (txtH 31 group []))] ([] ++ sayIf (bigN gid) gidK (Lib.decDigits gid.toNat) ++ sayIf (decide (31 < group.length)) gnameK group ++ sayIf (decide (100 < target.length)) linkK target ++ sayIf tb mtimeK (textT second nano) ++ sayIf pb pathK path) wx))
    case first =>
      cases pb with
      | true =>
        have q0 := HT7.out.2.1.cell (i := 0) (by decide)
        have z0 := HT7.out.2.1.frozen 0
        simp only [List.getElem?_cons_zero] at q0
        have HT8 := Lib.hid (HT7.out.set_ (i := 0) (by decide) (.string (bs longS)))
        simp only [List.set_cons_zero] at HT8
        rw [show bs longS = (⟨#[64, 108, 111, 110, 103]⟩ : ByteArray) from rfl] at HT8
        clear HT7 x0
        go_upto_region 15 with fail
        clear q0 z0
        generalize W7.setCell ⟨g, 0, none⟩ (.string ⟨#[64, 108, 111, 110, 103]⟩) = W8 at *
        obtain ⟨x0, -, -, -, -, -, -, -⟩ := HE.out _ _ _ HT8.out
        have HC := Lib.hid (HSay.out pathK path _ _ _ HT8.out (by simp only [List.length_append, List.length_nil]; have a0 := sayIf_len (bigN gid) gidK (Lib.decDigits gid.toNat); have a1 := sayIf_len (decide (31 < group.length)) gnameK group; have a2 := sayIf_len (decide (100 < target.length)) linkK target; have a3 := sayIf_len tb mtimeK (textT second nano); omega))
        rw [show bs pathK = (⟨#[112, 97, 116, 104]⟩ : ByteArray) from rfl] at HC
        go_wp2_with fail
        refine HC.out.mono ?_
        rintro e w2 ⟨rfl, hp2, b2⟩
        have HT9 := Lib.hid (HT8.out.next hp2 b2)
        clear hp2 b2
        go_wp2_with fail
        go_meet
        case rel => exact HT9
      | false =>
        go_wp2_with fail
        go_meet
        case rel => exact Lib.hid (by rw [sayIf_false, List.append_nil]; exact HT7.out)
    case rest =>
    have HT10 := hcut
    clear hcut HT7 x0 hec HTW
    obtain ⟨-, -, x2, -, -, -, -, -⟩ := HE.out _ _ _ HT10.out
    have HC := Lib.hid (HNum.out uidK uid m3 m4 _ _ _ HT10.out (by simp only [List.length_append, List.length_nil]; have a0 := sayIf_len (bigN gid) gidK (Lib.decDigits gid.toNat); have a1 := sayIf_len (decide (31 < group.length)) gnameK group; have a2 := sayIf_len (decide (100 < target.length)) linkK target; have a3 := sayIf_len tb mtimeK (textT second nano); have a4 := sayIf_len pb pathK path; omega))
    rw [show bs uidK = (⟨#[117, 105, 100]⟩ : ByteArray) from rfl] at HC
    go_wp2_with fail
    refine HC.out.mono ?_
    rintro e w1 ⟨rfl, hp1, b1⟩
    have HS11 := Lib.hid (HT10.out.next hp1 b1)
    have q := HS11.out.2.1.cell (i := 4) (by decide)
    have z := HS11.out.2.1.frozen 4
    simp only [List.getElem?_cons_succ, List.getElem?_cons_zero] at q
    clear hp1 b1 HC HT10 x2
    go_upto_region 17 with fail
    have HT11 := Lib.hid (HS11.out.set_ (i := 4) (by decide) (.int .i64 (numH uid)))
    simp only [List.set_cons_zero, List.set_cons_succ] at HT11
    clear HS11 q z
    generalize w1.setCell ⟨g, 4, none⟩ (.int .i64 (numH uid)) = W11 at *
    obtain ⟨-, -, -, -, x4, -, -, -⟩ := HE.out _ _ _ HT11.out
    have HC := Lib.hid (HTxt.out unameK user [] 31 (by omega) (by omega) _ _ _ HT11.out (by simp only [List.length_append, List.length_nil]; have a0 := sayIf_len (bigN gid) gidK (Lib.decDigits gid.toNat); have a1 := sayIf_len (decide (31 < group.length)) gnameK group; have a2 := sayIf_len (decide (100 < target.length)) linkK target; have a3 := sayIf_len tb mtimeK (textT second nano); have a4 := sayIf_len pb pathK path; have a5 := sayIf_len (bigN uid) uidK (Lib.decDigits uid.toNat); omega))
    rw [show bs unameK = (⟨#[117, 110, 97, 109, 101]⟩ : ByteArray) from rfl] at HC
    go_wp2_with fail
    refine HC.out.mono ?_
    rintro e w1 ⟨rfl, hp1, b1⟩
    have HS12 := Lib.hid (HT11.out.next hp1 b1)
    have q := HS12.out.2.1.cell (i := 9) (by decide)
    have z := HS12.out.2.1.frozen 9
    simp only [List.getElem?_cons_succ, List.getElem?_cons_zero] at q
    clear hp1 b1 HC HT11 x4
    go_upto_region 18 with fail
    have HT12 := Lib.hid (HS12.out.set_ (i := 9) (by decide) (.string (bs (txtH 31 user []))))
    simp only [List.set_cons_zero, List.set_cons_succ] at HT12
    clear HS12 q z
    generalize w1.setCell ⟨g, 9, none⟩ (.string (bs (txtH 31 user []))) = W12 at *
    go_wp2_with fail
    go_ret
    refine ⟨g, rfl, ?_, HT12.out.2.2.1⟩
    have hfin := HT12.out.2.1.mono (Nat.le_succ w.heap.size)
    rw [HRR.out, HH.out]
    have a1 : (mode.toNat : Int) = mode := Int.toNat_of_nonneg m1
    have a2 : ((if bigN uid = true then 0 else uid.toNat : Nat) : Int) = numH uid := by unfold numH; split <;> omega
    have a3 : ((if bigN gid = true then 0 else gid.toNat : Nat) : Int) = numH gid := by unfold numH; split <;> omega
    have htb : timeBig ⟨mode, uid, gid, user, group, second, nano⟩ = tb := HTB.out.symm
    rw [htb]
    have a4 : ((if tb = true then 0 else second.toNat : Nat) : Int) = tmH tb second := by
      unfold tmH
      have h := HTB.out
      cases tb with
      | true => rfl
      | false =>
        have h := of_decide_eq_false h.symm
        simp only [Bool.false_eq_true, if_false]
        omega
    rw [a1, a2, a3, a4]
    simp only [List.append_assoc, List.nil_append] at hfin
    exact hfin
end Go.Proofs.YtjbpoijefkbllaaGreatDoor
