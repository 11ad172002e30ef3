/-
  member.Records, member.Head, member.Write at a member that may be, each once. Condition: the library's table of powers of ten lies as Go laid it.
-/
import Derived.Test.YtjbpoijefkbllaaGreatDoorPack
import Derived.Test.YtjbpoijefkbllaaGreatDoorHeadWrite
import Derived.Test.YtjbpoijefkbllaaGreatDoorPaxF
import Derived.Test.YtjbpoijefkbllaaGreatDoorPadLaws
import Derived.Deep.RegionHeld3
import Derived.Deep.AppendLies
namespace Go.Proofs.YtjbpoijefkbllaaGreatDoor
open Go.RowKit

/-- bytes in a row of the call's own -/
def BytesOwn (w : World) (base : Nat) (v : Value) (l : List UInt8) : Prop := w.ownsRow base 5 1 v l.length ((l.map ofB).map (.int .u8))
theorem byteCells_ofB (l : List UInt8) : Lib.byteCells l = (l.map ofB).map (.int .u8) := by
  unfold Lib.byteCells
  rw [List.map_map]
  rfl
theorem strCells_ofB (l : List UInt8) : Lib.strCells (bs l) = (l.map ofB).map (.int .u8) := by rw [Lib.strCells_eq, bs_data, byteCells_ofB]
theorem BytesOwn.at_ {w : World} {base : Nat} {v : Value} {l : List UInt8} (h : BytesOwn w base v l) : BytesAt w w.heap.size v l := ownL h
theorem BytesOwn.below {w w' : World} {base : Nat} {v : Value} {l : List UInt8} (h : BytesOwn w base v l) (hb : Below w.heap.size w w') : BytesOwn w' base v l := ownsRow_below h hb
theorem BytesOwn.nil (w : World) (base : Nat) : BytesOwn w base (.slice none 0 0) [] := World.ownsRow_nil _ _ _ _
theorem BytesOwn.app {w : World} {base : Nat} {v : Value} {l m : List UInt8} (h : w.ownsRow base 5 1 v (l.length + m.length) ((l.map ofB).map (.int .u8) ++ (m.map ofB).map (.int .u8))) : BytesOwn w base v (l ++ m) := by
  unfold BytesOwn
  rw [List.length_append, List.map_append, List.map_append]
  exact h
theorem step_append_str {P : Program} {w : World} {ops : Array Oper} {o : Oper} {a : Act} {K : Act → World → Prop} {Q : Exit → Act → World → Prop} {E : Prop} (hgd : o.guard = none) (sl x : Operand) (t u : TypeId)
    (ho : o.op = .call { callee := .builtin .append, args := #[sl, x], argTypes := #[t, u] })
    (base : Nat) (e : TypeId) (i : TypeInfo) (ht : P.underlying t = some (.slice e)) (hu : P.underlying u = some .string) (hi : P.info? e = some i) (hz : i.zero = some (.int .u8 0))
    (hsize : i.size = 1) (hby : i.bytes = 1)
    (v : Value) (n : Nat) (xs : List Value) (hs : a.eval sl = v) (hown : w.ownsRow base e 1 v n xs) (s : ByteArray) (hx : a.eval x = .string s)
    (h63 : n + s.size ≤ maxLen) (hbytes : n + s.size ≤ 140737488355328) (hbase : base ≤ w.heap.size)
    (h : ∀ v' w', w'.ownsRow base e 1 v' (n + s.size) (xs ++ Lib.strCells s) → w.grownBy w' v.ownBlock → K (a.put o.dst v') w') :
    if Region.wanted o (yielded ops a.tmps) = true then Oper.wp P o a w K Q else E := by
  have hw : Region.wanted o (yielded ops a.tmps) = true := by simp [Region.wanted, hgd]
  rw [if_pos hw]
  obtain ⟨v', w', hrun, h2, h3, _⟩ := Lib.run_append_own_string (P := P) (w := w) base t u o.type e i ht hu hi hz hsize hby v n xs hown s h63 hbytes hbase
  unfold Oper.wp execOp
  simp only [ho, resolve, invoke, builtin, Sem.run_bind, Sem.run_pure, Result.andThen_ok, List.map_toArray, List.map_cons, List.map_nil, hs, hx, hrun]
  exact h v' w' h2 h3

theorem paxH_ok (n : Nat) (h : n < 8589934592) : HeadOk (paxH n) := by
  unfold paxH
  constructor <;> simp only [paxN, List.length_cons, List.length_nil] <;> first | omega | exact h | decide
/-- in member.Write -/
def MwSt (w0 : World) (cs : Array Value) (W : World) : Prop := Blk W w0.heap.size 40 cs ∧ Below w0.heap.size w0 W
theorem MwSt.below {w0 W W' : World} {cs : Array Value} (h : MwSt w0 cs W) (hb : Below W.heap.size W W') : MwSt w0 cs W' := ⟨h.1.below hb h.1.lt, h.2.trans (hb.mono h.2.size)⟩
theorem MwSt.grown {w0 W W' : World} {cs : Array Value} {v : Value} {n : Nat} {xs : List Value} (h : MwSt w0 cs W) (ho : W.ownsRow w0.heap.size 5 1 v n xs) (hg : W.grownBy W' v.ownBlock) : MwSt w0 cs W' :=
  ⟨h.1.grown hg (fun e => own_blk_ne ho h.1 (by decide) e.symm), h.2.grown hg h.2.size (fun k e => (own_typed ho e).1)⟩
theorem PackAt.grown {W W' : World} {B g b : Nat} {hc : List Value} {l : List RecS} {v : Value} {n : Nat} {xs : List Value} (h : PackAt W B g hc l) (ho : W.ownsRow b 5 1 v n xs) (hg : W.grownBy W' v.ownBlock) : PackAt W' B g hc l := by
  obtain ⟨h1, h2, u, h3, h4⟩ := h
  refine ⟨h1, h2, u, h3.grown hg (fun e => own_blk_ne ho h3 (by decide) e.symm), ?_⟩
  refine h4.kept hg ?_
  rcases hv : u.ownBlock with _ | b2
  · exact .inl rfl
  · refine .inr ?_
    intro e
    obtain ⟨_, C1, f1, hc1⟩ := own_typed h4 hv
    obtain ⟨_, C2, f2, hc2⟩ := own_typed ho e.symm
    rw [hc1] at hc2
    injection hc2 with hc2
    injection hc2 with _ ht
    exact absurd ht (by decide)
set_option maxRecDepth 100000 in
set_option maxHeartbeats 8000000 in
theorem MWrite_ok (x : EntP) (h : EntOk x) (A : Option Addr) (c : Nat) (w : World) (hm : ML w) (h10 : P10 w) (hdat : BytesAt w w.heap.size (.slice A x.data.length c) x.data) :
    Calls Tryz.prog 17 #[.agg (entC x (.slice A x.data.length c)).toArray] w fun e w' => ∃ v, e = .returned (.tuple #[v, .int .i64 0]) ∧ BytesOwn w' w.heap.size v (memB x) ∧ Below w.heap.size w w' := by
  have HR := Lib.hid (fun w hm => PRight_ok x h A c w hm)
  have HP := Lib.hid (fun w h10 => pack_any x h A c w h10)
  obtain ⟨i0, hi0, hz0, hz1, hz2⟩ := info_parts u8_info
  obtain ⟨W0, hW0⟩ : ∃ W0, W0 = w.alloc (.cells (entC x (.slice A x.data.length c)).toArray 40) := ⟨_, rfl⟩
  have hB0 : Blk W0 w.heap.size 40 (entC x (.slice A x.data.length c)).toArray := by rw [hW0]; exact Blk.new _ _ _
  have hb0 : Below w.heap.size w W0 := by rw [hW0]; exact (Below.refl _ _).alloc (Nat.le_refl _) _
  have HB0 := Lib.hid hB0
  have HBW := Lib.hid hb0
  have HML : Hid (∀ W, Below w.heap.size w W → ML W) := Lib.hid (fun W hb => hm.below hb)
  have HP10 : Hid (∀ W, Below w.heap.size w W → P10 W) := Lib.hid (fun W hb => h10.below hb)
  have HDT : Hid (∀ W, Below w.heap.size w W → BytesAt W w.heap.size (.slice A x.data.length c) x.data) := Lib.hid (fun W hb => hdat.below hb)
  clear hB0 hb0 hm h10 hdat
  have hdl := h.data.1
  have HHO := Lib.hid (packH_ok h)
  have HRO := Lib.hid (packR_ok h)
  have HRA := Lib.hid (packR_asc x)
  have hrl := packR_len x
  obtain ⟨M, hM⟩ : ∃ M, M = memB x := ⟨_, rfl⟩
  rw [← hM]
  unfold memB at hM
  generalize packR x = R at *
  generalize packH x = H at *
  have HMM := Lib.hid hM
  clear hM h
  obtain ⟨cs, hcs⟩ : ∃ cs, cs = (entC x (.slice A x.data.length c)).toArray := ⟨_, rfl⟩
  have HCS := Lib.hid hcs
  clear hcs
  unfold entC at *
  obtain ⟨path, kind, target, ⟨mode, uid, gid, user, group, second, nano⟩, data⟩ := x
  simp only at HR HP hW0 HB0 HCS HDT HMM hdl ⊢
  obtain ⟨hc, hhc⟩ : ∃ hc, hc = hcL H := ⟨_, rfl⟩
  rw [← hhc] at HP
  have c0 := HB0.out.cell 0
  have c1 := HB0.out.cell 1
  have c2 := HB0.out.cell 2
  have c3 := HB0.out.cell 3
  have c4 := HB0.out.cell 4
  have c5 := HB0.out.cell 5
  have c6 := HB0.out.cell 6
  have c7 := HB0.out.cell 7
  have c8 := HB0.out.cell 8
  have c9 := HB0.out.cell 9
  have c10 := HB0.out.cell 10
  go_enter Tryz.func17, Tryz.ntmps17
  go_upto_region 1 with fail
  rw [← hW0]
  clear hW0
  go_wp2_with fail
  refine (HR.out _ (HML.out _ HBW.out)).mono ?_
  rintro e w1 ⟨rfl, b1⟩
  have HB1 := Lib.hid (HBW.out.trans (b1.mono HBW.out.size))
  have hB1 := HB0.out.below b1 HB0.out.lt
  have HBE := Lib.hid hB1
  clear c0 c1 c2 c3 c4 c5 c6 c7 c8 c9 c10 b1
  have c0 := hB1.cell 0
  have c1 := hB1.cell 1
  have c2 := hB1.cell 2
  have c3 := hB1.cell 3
  have c4 := hB1.cell 4
  have c5 := hB1.cell 5
  have c6 := hB1.cell 6
  have c7 := hB1.cell 7
  have c8 := hB1.cell 8
  have c9 := hB1.cell 9
  have c10 := hB1.cell 10
  clear hB1
  go_wp2_with fail
  refine (HP.out _ (HP10.out _ HB1.out)).mono ?_
  rintro e w2 ⟨g, rfl, hp, b2⟩
  have hS2 : MwSt w cs w2 := by rw [HCS.out]; exact ⟨HBE.out.below b2 HBE.out.lt, HB1.out.trans (b2.mono HB1.out.size)⟩
  have HS2 := Lib.hid hS2
  have HP2 := Lib.hid hp
  obtain ⟨Ar, cr, c11, hrec⟩ := hp.recs
  have HRE := Lib.hid hrec
  clear c0 c1 c2 c3 c4 c5 c6 c7 c8 c9 c10 b2 hp hrec hS2 HBE HB1
  obtain ⟨rb, hrb⟩ : ∃ rb, rb = decide (0 < R.length) := ⟨_, rfl⟩
  have r1 : decide ((R.length : Int) > 0) = rb := by rw [hrb]; simp
  have r2 : decide (0 < R.length) = rb := hrb.symm
  have r3 : decide (0 < (R.length : Int)) = rb := by rw [hrb]; simp
  have HRB := Lib.hid hrb
  clear hrb
  generalize w1.heap.size = B at *
  go_upto_if 25 with fail
  go_cut [6, 7, 8, 9, 10] from 26 to 47 (fun s6 _ _ _ _ wx => Hid (MwSt w cs wx ∧ PackAt wx B g hc R ∧ BytesOwn wx w.heap.size s6 (memR R)))
  case first =>
    cases rb with
    | false =>
      have hR0 : R = [] := by
        have := of_decide_eq_false HRB.out.symm
        exact List.eq_nil_of_length_eq_zero (by omega)
      have HM0 : Hid (memR R = []) := Lib.hid (by rw [hR0]; rfl)
      clear hR0
      go_wp2_with fail
      go_meet
      case rel => exact Lib.hid ⟨HS2.out, HP2.out, by rw [HM0.out]; exact BytesOwn.nil _ _⟩
    | true =>
      have hRp : 0 < R.length := of_decide_eq_true HRB.out.symm
      have HPW := Lib.hid (PxWrite_any _ R w2 (HP10.out _ HS2.out.2) HRE.out.at_ HRO.out (by omega) HRA.out (by intro h; rw [h] at hRp; simp at hRp))
      have hpl := paxT_len HRO.out
      have hpl2 : R.length * 703 ≤ 7 * 703 := Nat.mul_le_mul_right _ hrl
      have hpl3 : (paxT R).length ≤ 7 * 703 := by omega
      have HHW := Lib.hid (fun W => (show Calls Tryz.prog 51 #[.agg #[.string ⟨#[64, 112, 97, 120]⟩, .string ⟨#[]⟩, .string ⟨#[]⟩, .int .i64 0, .int .i64 0, .int .i64 0, .int .i64 (paxT R).length, .int .i64 0, .int .u8 120, .string ⟨#[]⟩, .string ⟨#[]⟩]] W _ from HWrite_ok (paxH (paxT R).length) (paxH_ok _ (by omega)) W))
      have hz := bs_size (paxT R)
      have HZH := Lib.hid (headW_length (paxH_ok (paxT R).length (by omega)))
      have zh := bs_size (headW (paxH (paxT R).length))
      rw [HZH.out] at zh
      have HCV := Lib.hid (fun W => conv_sb_at (paxT R) W (by omega))
      have HFL := Lib.hid (fun v W (hb : BytesAt W W.heap.size v (paxT R)) => Fill_bytes v (paxT R) W.heap.size W hb (Nat.le_refl _) (by omega))
      have HSC := Lib.hid (strCells_ofB (headW (paxH (paxT R).length)))
      have hpd := padB_length (paxT R)
      have hkn : kN (paxT R).length ≤ 10 := by unfold kN; omega
      have hpbl : (padB (paxT R)).length ≤ 5120 := by omega
      clear hpd hkn
      have HMR : Hid (memR R = headW (paxH (paxT R).length) ++ padB (paxT R)) := Lib.hid (by unfold memR; rw [if_neg (by intro h; rw [h] at hRp; simp at hRp)])
      clear hpl hpl2 hRp
      generalize headW (paxH (paxT R).length) = HW at *
      generalize hPB : padB (paxT R) = PB at *
      have HPB := Lib.hid hPB
      clear hPB
      generalize (paxT R).length = pn at *
      generalize paxT R = PT at *
      generalize bs HW = bH at *
      generalize bs PT = bP at *
      go_wp2_with fail
      refine HPW.out.mono ?_
      rintro e w3 ⟨rfl, b3⟩
      have HS3 := Lib.hid (HS2.out.below b3)
      have HP3 := Lib.hid (HP2.out.below b3)
      clear b3 c11
      go_wp2_with fail
      refine (HHW.out _).mono ?_
      rintro e w4 ⟨rfl, b4⟩
      have HS4 := Lib.hid (HS3.out.below b4)
      have HP4 := Lib.hid (HP3.out.below b4)
      clear b4
      have hsz4 := HS4.out.2.size
      go_wp2_with (at_builtin; refine Lib.wpList_append_own_string _ rfl _ _ 38 9 rfl w.heap.size 5 i0 Tryz.underlying38 Tryz.underlying9 hi0 hz0 hz1 hz2 (.slice none 0 0) 0 [] rfl (World.ownsRow_nil _ _ _ _) bH rfl ?c3 ?c4 ?c5 ?_)
      case c3 => simp only [maxLen]; omega
      case c4 => omega
      case c5 => exact hsz4
      intro v5 w5 hown5 hg5 _
      have hS5 := HS4.out.grown (World.ownsRow_nil _ w.heap.size 5 1) hg5
      have hP5 := HP4.out.grown (World.ownsRow_nil _ w.heap.size 5 1) hg5
      rw [HSC.out] at hown5
      obtain ⟨A5, c5, rfl, -⟩ := ownsRow_read hown5
      obtain ⟨vc, w6, hcv, hvc, b6⟩ := HCV.out w5
      have HO6 := Lib.hid (ownsRow_below hown5 b6)
      have HS6 := Lib.hid (hS5.below b6)
      have HP6 := Lib.hid (hP5.below b6)
      have HVC := Lib.hid hvc
      clear hown5 hg5 hS5 hP5 b6 hvc
      go_wp2_with fail
      refine (HFL.out vc w6 HVC.out).mono ?_
      rintro e w7 ⟨vf, rfl, hf, b7⟩
      obtain ⟨Af, cf, rfl, hf1, hf2, -, hr7⟩ := ownsRow_read hf
      have HO7 := Lib.hid (ownsRow_below HO6.out b7)
      have HS7 := Lib.hid (HS6.out.below b7)
      have HP7 := Lib.hid (HP6.out.below b7)
      have HR7 := Lib.hid hr7
      have hsz7 := HS7.out.2.size
      clear hf hr7 b7 hcv
      go_wp2_with (at_builtin; refine wpList_append_any _ rfl (.tmp 43) (.tmp 46) _ rfl w.heap.size 5 i0 _ 1 1 Tryz.underlying38 hi0 hz0 hz1 hz2 rfl (by omega) _ 512 _ rfl HO7.out w7.heap.size Af PB.length cf _ rfl HR7.out (one_u8 _) (by simp only [maxLen]; omega) (by omega) hsz7 ?_; intro v9 w9 hown9 hg9 hat9; obtain ⟨A9, c9, hv9, -⟩ := ownsRow_read hown9; subst hv9; have HO9 := Lib.hid hown9; have HG9 := Lib.hid hg9; clear hown9 hg9 hat9)
      go_meet
      case rel =>
        refine Lib.hid ⟨HS7.out.grown HO7.out HG9.out, HP7.out.grown HO7.out HG9.out, ?_⟩
        rw [HMR.out]
        refine BytesOwn.app ?_
        rw [HZH.out]
        exact HO9.out
  case rest =>
    obtain ⟨hS, hP, hO⟩ := hcut.out
    have HSC := Lib.hid hS
    have HPC := Lib.hid hP
    have HOC := Lib.hid hO
    obtain ⟨A6, c6, rfl, -⟩ := ownsRow_read hO
    clear hcut hS hP hO c11 r1 r2 r3 HRB HRE HS2 HP2 HP HR HB0 HBW
    have HHW := Lib.hid (fun W => HWrite_ok H HHO.out W)
    have HZH := Lib.hid (headW_length HHO.out)
    have zh := bs_size (headW H)
    rw [HZH.out] at zh
    have HSR := Lib.hid (strCells_ofB (headW H))
    generalize headW H = HW at *
    obtain ⟨nm, pr, lk, md, ui, gi, sz, tm, ty, us, gr⟩ := H
    unfold headV headCells at HHW
    simp only at HHW
    unfold hcL at hhc
    simp only at hhc
    subst hhc
    have q0 := HPC.out.cell (i := 0) (by decide)
    have q1 := HPC.out.cell (i := 1) (by decide)
    have q2 := HPC.out.cell (i := 2) (by decide)
    have q3 := HPC.out.cell (i := 3) (by decide)
    have q4 := HPC.out.cell (i := 4) (by decide)
    have q5 := HPC.out.cell (i := 5) (by decide)
    have q6 := HPC.out.cell (i := 6) (by decide)
    have q7 := HPC.out.cell (i := 7) (by decide)
    have q8 := HPC.out.cell (i := 8) (by decide)
    have q9 := HPC.out.cell (i := 9) (by decide)
    have q10 := HPC.out.cell (i := 10) (by decide)
    simp only [List.getElem?_cons_zero, List.getElem?_cons_succ] at q0 q1 q2 q3 q4 q5 q6 q7 q8 q9 q10
    go_wp2_with fail
    refine (HHW.out _).mono ?_
    rintro e w3 ⟨rfl, b3⟩
    have HS3 := Lib.hid (HSC.out.below b3)
    have HO3 := Lib.hid (HOC.out.below b3)
    clear q0 q1 q2 q3 q4 q5 q6 q7 q8 q9 q10 b3 HSC HPC HOC HHW
    have HFL := Lib.hid (fun W (hs : MwSt w cs W) => Fill_bytes (.slice A data.length c) data w.heap.size W (HDT.out W hs.2) hs.2.size (by omega))
    have hpd := padB_length data
    have hkn : kN data.length ≤ 4 := by unfold kN; omega
    have hpbl : (padB data).length ≤ 2048 := by omega
    clear hpd hkn
    have hmr : (memR R).length ≤ 100000 := by
      by_cases hR0 : R = []
      · rw [hR0]; simp [memR]
      · have h1 := paxT_len HRO.out
        have h2 : R.length * 703 ≤ 7 * 703 := Nat.mul_le_mul_right _ hrl
        have h3 := padB_length (paxT R)
        have h4 : kN (paxT R).length ≤ 10 := by unfold kN; omega
        unfold memR
        rw [if_neg hR0, List.length_append, headW_length (paxH_ok _ (by omega))]
        omega
    generalize memR R = MR at *
    generalize padB data = PB at *
    generalize bs HW = bH at *
    have HSd : Hid (MwSt w cs w3.drew) := Lib.hid ⟨HS3.out.1.drew, HS3.out.2.drew⟩
    have HSB : Hid (∀ W W', MwSt w cs W → Below W.heap.size W W' → MwSt w cs W') := Lib.hid (fun W W' h hb => h.below hb)
    have HKC : Hid (∀ W, MwSt w cs W → W.cell? ⟨w.heap.size, 10, none⟩ = some (.slice A data.length c)) := Lib.hid (fun W h => by rw [h.1.cell 10, HCS.out]; rfl)
    have HSZ : Hid (∀ W, MwSt w cs W → w.heap.size ≤ W.heap.size) := Lib.hid (fun W h => h.2.size)
    have HOd : Hid (w3.drew.ownsRow w.heap.size 5 1 (.slice A6 MR.length c6) MR.length ((MR.map ofB).map (.int .u8))) := Lib.hid HO3.out
    have HOB : Hid (∀ W, Below w3.drew.heap.size w3.drew W → W.ownsRow w.heap.size 5 1 (.slice A6 MR.length c6) MR.length ((MR.map ofB).map (.int .u8))) := Lib.hid (fun W hb => ownsRow_below HOd.out hb)
    have HGS : Hid (∀ W W', MwSt w cs W → W.ownsRow w.heap.size 5 1 (.slice A6 MR.length c6) MR.length ((MR.map ofB).map (.int .u8)) → W.grownBy W' (Value.slice A6 MR.length c6).ownBlock → MwSt w cs W') := Lib.hid (fun W W' h ho hg => h.grown ho hg)
    clear HS3 HO3 HML HP10 HDT HHO HRO HRA
    go_upto_region 11 with fail
    go_region_held3 (fun w' => w'.cell? ⟨w.heap.size, 10, none⟩ = some (.slice A data.length c))
      (first | (exact HKC.out _ (by assumption)) | (exact HKC.out _ HSd.out) | go_keep)
      (first
        | (refine step_append_str rfl (.tmp 56) (.tmp 57) 38 9 rfl w.heap.size 5 i0 Tryz.underlying38 Tryz.underlying9 hi0 hz0 hz1 hz2 (.slice A6 MR.length c6) MR.length _ rfl (by first | exact HOd.out | exact HOB.out _ (by assumption)) bH rfl (by simp only [maxLen]; omega) (by omega) (HSZ.out _ (by first | assumption | exact HSd.out)) ?_
           intro v5 w5 hown5 hg5
           rw [zh] at hown5
           have hst5 := HGS.out _ _ (by first | assumption | exact HSd.out) (by first | exact HOd.out | exact HOB.out _ (by assumption)) hg5
           obtain ⟨A5, c5, rfl, -⟩ := ownsRow_read hown5
           skip)
        | (go_at_call 52
           refine (HFL.out _ (by first | assumption | exact HSd.out)).mono ?_
           rintro e w7 ⟨vf, rfl, hf, b7⟩
           obtain ⟨Af, cf, rfl, hf1, hf2, -, hr7⟩ := ownsRow_read hf
           have hst7 := HSB.out _ _ (by first | assumption | exact HSd.out) b7)
        | (refine step_append_any _ rfl (.tmp 58) (.tmp 61) _ rfl w.heap.size 5 i0 _ 1 1 Tryz.underlying38 hi0 hz0 hz1 hz2 rfl (by omega) _ _ _ rfl (ownsRow_below hown5 b7) _ _ PB.length _ _ rfl hr7 (one_u8 _) (by simp only [maxLen]; omega) (by omega) (HSZ.out _ hst7) ?_
           intro v9 w9 hown9 hg9 hat9
           have hst9 := hst7.grown (ownsRow_below hown5 b7) hg9
           obtain ⟨A9, c9, rfl, -⟩ := ownsRow_read hown9))
    go_wp2_with fail
    go_ret2
    refine ⟨_, rfl, ?_, hst9.2⟩
    rw [HMM.out, ← List.append_assoc]
    refine BytesOwn.app ?_
    rw [List.length_append, HZH.out, List.map_append, List.map_append, ← HSR.out]
    exact hown9
def headZC : Array Value := #[.string ⟨#[]⟩, .string ⟨#[]⟩, .string ⟨#[]⟩, .int .i64 0, .int .i64 0, .int .i64 0, .int .i64 0, .int .i64 0, .int .u8 0, .string ⟨#[]⟩, .string ⟨#[]⟩]
end Go.Proofs.YtjbpoijefkbllaaGreatDoor
