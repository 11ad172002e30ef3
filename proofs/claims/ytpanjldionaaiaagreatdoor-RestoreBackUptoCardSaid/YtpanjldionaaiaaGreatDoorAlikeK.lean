/-
  restore.Tree over the archive of a good tree: the tree told anew. Condition: the library's table of powers of ten lies as Go laid it.
  creelkeep.Alike: are two trees the same, whatever numbers tell which files are one. No condition beyond short trees.
-/
import Derived.Test.YtpanjldionaaiaaGreatDoorAnew
import Derived.Test.YtpanjldionaaiaaGreatDoorPlanTree
import Derived.Test.YtpanjldionaaiaaGreatDoorPut
import Derived.Deep.CutRange
import Derived.Deep.DeepCutAuto
import Derived.Deep.RegionHeld3
namespace Go.Proofs.YtpanjldionaaiaaGreatDoor
set_option linter.all false
open Go.RowKit
set_option maxRecDepth 100000 in
set_option maxHeartbeats 4000000 in
theorem RTree_back (t : List NodeP) (ht : TreeOk t) (v : Value) (w : World) (hm : ∀ W, Below w.heap.size w W → ML W) (h10 : ∀ W, Below w.heap.size w W → P10 W) (hv : BytesAt w w.heap.size v (arcB (planP t) ++ endB)) :
    Calls Tryz.prog 19 #[v] w fun e w' => ∃ tv, e = .returned (.tuple #[tv, .int .i64 0]) ∧ NodesOwn w' w.heap.size tv (anewP t) ∧ Below w.heap.size w w' := by
  have HA := Lib.hid (Archive_back (planP t) (plan_ok ht) v w hm h10 hv)
  have HPT := Lib.hid (fun W lv (hb : Below w.heap.size w W) (h : EntsOwn W w.heap.size lv (planP t)) => (show Calls Tryz.prog 58 #[lv] W fun e w' => ∃ tv, e = .returned (.tuple #[tv, .int .i64 0]) ∧ NodesOwn w' W.heap.size tv (anewP t) ∧ Below W.heap.size W w' by
    obtain ⟨xs, hx⟩ := EntsRow.at_ h
    exact PTree_ok lv t xs W (fun W' hb' => hm W' (hb.trans (hb'.mono hb.size))) hx ht))
  obtain ⟨A, c, ev, -⟩ := hv
  rw [List.length_map] at ev
  subst ev
  generalize (arcB (planP t) ++ endB).length = L at *
  clear hm h10 ht
  generalize planP t = x at *
  generalize anewP t = y at *
  go_enter Tryz.func19, Tryz.ntmps19
  go_wp2_with fail
  refine HA.out.mono ?_
  rintro e w1 ⟨lv, rfl, hlv, b1⟩
  have HL1 := Lib.hid hlv
  obtain ⟨A1, c1, rfl, -⟩ := hlv.slice
  have HB := Lib.hid b1
  clear hlv b1 HA
  go_wp2_with fail
  refine (HPT.out _ _ HB.out HL1.out).mono ?_
  rintro e w2 ⟨tv, rfl, htv, b2⟩
  have HT2 := Lib.hid (htv.mono HB.out.size)
  have HB2 := Lib.hid (HB.out.trans (b2.mono HB.out.size))
  clear htv b2 HPT HL1 HB
  go_wp2_with fail
  go_ret2
  exact ⟨_, rfl, HT2.out, HB2.out⟩
end Go.Proofs.YtpanjldionaaiaaGreatDoor
namespace Go.Proofs.YtpanjldionaaiaaGreatDoor
set_option linter.all false
open Go.RowKit
def linkd (t : List NodeP) (i k : Nat) : Bool := decide (0 < (t.getD i default).same) && ((t.getD i default).same == (t.getD k default).same)
def nodeAlike (x y : NodeP) : Bool := sameB (setSame x 0) (setSame y 0)
def alikeAt (a b : List NodeP) (i : Nat) : Bool := nodeAlike (a.getD i default) (b.getD i default) && (List.range i).all fun k => linkd a i k == linkd b i k
def alikeT (a b : List NodeP) : Bool := decide (a.length = b.length) && (List.range a.length).all (alikeAt a b)
theorem alikeT_len {a b : List NodeP} (h : a.length ≠ b.length) : alikeT a b = false := by unfold alikeT; simp [h]
theorem alikeT_off {a b : List NodeP} {i : Nat} (hi : i < a.length) (h : alikeAt a b i = false) : alikeT a b = false := by
  unfold alikeT
  have : (List.range a.length).all (alikeAt a b) = false := by
    rw [List.all_eq_false]
    exact ⟨i, by simpa using hi, by simp [h]⟩
  rw [this, Bool.and_false]
theorem alikeT_on {a b : List NodeP} (hl : a.length = b.length) (h : ∀ i, i < a.length → alikeAt a b i = true) : alikeT a b = true := by
  unfold alikeT
  rw [Bool.and_eq_true, decide_eq_true_eq, List.all_eq_true]
  exact ⟨hl, fun i hi => h i (by simpa using hi)⟩
theorem alikeAt_node {a b : List NodeP} {i : Nat} (h : nodeAlike (a.getD i default) (b.getD i default) = false) : alikeAt a b i = false := by unfold alikeAt; rw [h]; rfl
theorem alikeAt_link {a b : List NodeP} {i k : Nat} (hk : k < i) (h : (linkd a i k != linkd b i k) = true) : alikeAt a b i = false := by
  unfold alikeAt
  have : ((List.range i).all fun k => linkd a i k == linkd b i k) = false := by
    rw [List.all_eq_false]
    refine ⟨k, by simpa using hk, ?_⟩
    simp only [bne, Bool.not_eq_true'] at h
    simp [h]
  rw [this, Bool.and_false]
theorem alikeAt_on {a b : List NodeP} {i : Nat} (h : nodeAlike (a.getD i default) (b.getD i default) = true) (hk : ∀ k, k < i → (linkd a i k != linkd b i k) = false) : alikeAt a b i = true := by
  unfold alikeAt
  rw [h, Bool.true_and, List.all_eq_true]
  intro k hk2
  have := hk k (by simpa using hk2)
  simp only [bne, Bool.not_eq_false'] at this
  exact this
theorem linkd_on {t : List NodeP} {i : Nat} (k : Nat) (hi : 0 < (t.getD i default).same) : linkd t i k = ((t.getD i default).same == (t.getD k default).same) := by unfold linkd; rw [decide_eq_true hi, Bool.true_and]
theorem linkd_off {t : List NodeP} {i : Nat} (k : Nat) (hi : ¬ 0 < (t.getD i default).same) : linkd t i k = false := by unfold linkd; rw [decide_eq_false hi, Bool.false_and]
theorem linkd_cases (t : List NodeP) (i k : Nat) :
    (decide (0 < (t.getD i default).same) = false ∧ linkd t i k = false) ∨
    (decide (0 < (t.getD i default).same) = true ∧ ((t.getD i default).same == (t.getD k default).same) = true ∧ linkd t i k = true) ∨
    (decide (0 < (t.getD i default).same) = true ∧ ((t.getD i default).same == (t.getD k default).same) = false ∧ linkd t i k = false) := by
  by_cases h : 0 < (t.getD i default).same
  · rw [linkd_on k h]
    cases ((t.getD i default).same == (t.getD k default).same) with
    | true => exact .inr (.inl ⟨decide_eq_true h, rfl, rfl⟩)
    | false => exact .inr (.inr ⟨decide_eq_true h, rfl, rfl⟩)
  · rw [linkd_off k h]; exact .inl ⟨decide_eq_false h, rfl⟩
theorem load_same {w : World} {B : Nat} {A : Option Addr} {xs : List NodeV} {l : List NodeP} {n : Nat} (h : Reads w B 12 A n (xs.flatMap nodeC)) (hx : xs.map (·.1) = l) {k : Nat} (hk : k < l.length) (hn : k < n) :
    ∃ ad, A = some ad ∧ w.cell? ⟨(ad.add (k * 12)).block, (ad.add (k * 12)).off + 2, none⟩ = some (.int .i64 (l.getD k default).same) := by
  have hxl : xs.length = l.length := by rw [← hx, List.length_map]
  obtain ⟨ad, e, _, -, -, e2, -⟩ := load_node h (show k < xs.length by omega) hn
  refine ⟨ad, e, ?_⟩
  rw [e2, getD_at hk]
  subst hx
  simp
/-- both nodes of a round, in blocks of their own -/
def AkSt (B : World) (g6 g7 : Nat) (x y : NodeV) (W : World) : Prop := Below B.heap.size B W ∧ B.heap.size ≤ g6 ∧ B.heap.size ≤ g7 ∧ g6 ≠ g7 ∧ Blk W g6 58 (nodeC x).toArray ∧ Blk W g7 58 (nodeC y).toArray
theorem ak_one (B : World) (x y : NodeV) : AkSt B B.heap.size (B.heap.size + 1) x y ((B.alloc (.cells (nodeC x).toArray 58)).alloc (.cells (nodeC y).toArray 58)).drew :=
  ⟨(((Below.refl _ _).alloc (Nat.le_refl _) _).alloc (by simp) _).drew, Nat.le_refl _, by omega, by omega, ((Blk.new B _ _).alloc _).drew, by
    have := (Blk.new (B.alloc (.cells (nodeC x).toArray 58)) 58 (nodeC y).toArray).drew
    simpa using this⟩
theorem ak_two (B : World) (x y : NodeV) : AkSt B (B.heap.size + 1) B.heap.size x y ((B.alloc (.cells (nodeC y).toArray 58)).alloc (.cells (nodeC x).toArray 58)).drew := by
  obtain ⟨h1, h2, h3, h4, h5, h6⟩ := ak_one B y x
  exact ⟨h1, h3, h2, fun e => h4 e.symm, h6, h5⟩
theorem AkSt.zero {B W : World} {g6 g7 : Nat} {x y : NodeV} (h : AkSt B g6 g7 x y W) : AkSt B g6 g7 (setSame x.1 0, x.2) (setSame y.1 0, y.2) ((W.setCell ⟨g6, 2, none⟩ (.int .i64 0)).setCell ⟨g7, 2, none⟩ (.int .i64 0)) := by
  obtain ⟨h1, h2, h3, h4, h5, h6⟩ := h
  exact ⟨(h1.setCell (p := ⟨g6, 2, none⟩) h2 _).setCell (p := ⟨g7, 2, none⟩) h3 _, h2, h3, h4, (h5.set_ 2 (.int .i64 0)).far (p := ⟨g7, 2, none⟩) h4 _, (h6.far (p := ⟨g6, 2, none⟩) (fun e => h4 e.symm) _).set_ 2 (.int .i64 0)⟩
set_option maxRecDepth 100000 in
set_option maxHeartbeats 8000000 in
theorem AlikeK_any (v1 v2 : Value) (l m : List NodeP) (w : World) (hl : NodesAt w v1 l) (hm : NodesAt w v2 m) (hll : l.length ≤ 1000) :
    Calls Tryz.prog 20 #[v1, v2] w fun e w' => e = .returned (.bool (alikeT l m)) ∧ Below w.heap.size w w' := by
  obtain ⟨xs, A, c, hx, rfl, hlc, hc, -, hr, hdx⟩ := hl
  obtain ⟨ys, B, d, hy, rfl, hmd, hd, -, hs, hdy⟩ := hm
  have hxl : xs.length = l.length := by rw [← hx, List.length_map]
  have hyl : ys.length = m.length := by rw [← hy, List.length_map]
  unfold maxLen at hc hd
  have HX := Lib.hid hx
  have HY := Lib.hid hy
  have HR := Lib.hid hr
  have HS := Lib.hid hs
  have HDX := Lib.hid hdx
  have HDY := Lib.hid hdy
  have HXL := Lib.hid hxl
  have HYL := Lib.hid hyl
  clear hx hy hr hs hdx hdy hxl hyl
  by_cases hlen : l.length = m.length
  · have HL := Lib.hid hlen
    have hml : m.length = l.length := hlen.symm
    rw [hml] at hmd HS ⊢
    have HML := Lib.hid hml
    clear hlen hml
    go_enter Tryz.func20, Tryz.ntmps20
    go_wp2_with fail
    go_loopg [16] l.length (fun gg s16 wr => ∃ k : Nat, k ≤ l.length ∧ l.length - k ≤ gg ∧ s16 = .int .i64 k ∧ Hid (Below w.heap.size w wr) ∧ Hid (∀ j, j < k → alikeAt l m j = true))
    case atStart => exact ⟨0, Nat.zero_le _, by omega, rfl, Below.refl _ w, Lib.hid (fun j h => absurd h (Nat.not_lt_zero _))⟩
    case round =>
      obtain ⟨i, hi, hg, rfl, HW, HE⟩ := hrel
      by_cases hlt : i < l.length
      · have hltz : (i : Int) < (l.length : Int) := by omega
        have hltm : i < m.length := by rw [HML.out]; exact hlt
        have hkx : i < xs.length := by rw [HXL.out]; exact hlt
        have hky : i < ys.length := by rw [HYL.out]; exact hltm
        obtain ⟨ad, rfl, hb, e0, e1, e2, e3, e4, e5, e6, e7, e8, e9, e10, e11⟩ := load_node (HR.out.below HW.out) hkx hlt
        obtain ⟨be, rfl, hbb, f0, f1, f2, f3, f4, f5, f6, f7, f8, f9, f10, f11⟩ := load_node (HS.out.below HW.out) hky hlt
        have hxk : l.getD i default = xs[i].1 := by rw [getD_at hlt]; have := HX.out; subst this; simp
        have hyk : m.getD i default = ys[i].1 := by rw [getD_at hltm]; have := HY.out; subst this; simp
        have hd1 := (HDX.out xs[i] (List.getElem_mem _)).below HW.out
        have hd2 := (HDY.out ys[i] (List.getElem_mem _)).below HW.out
        have HXK := Lib.hid hxk
        have HYK := Lib.hid hyk
        clear hxk hyk
        generalize xs[i] = x at *
        generalize ys[i] = y at *
        clear hkx hky
        obtain ⟨⟨np, nk, ns, nt, ⟨o1, o2, o3, o4, o5, o6, o7⟩, nd⟩, dv⟩ := x
        obtain ⟨⟨mp, mk, ms, mt, ⟨p1, p2, p3, p4, p5, p6, p7⟩, md⟩, dw⟩ := y
        simp only at hd1 hd2
        have HD1 := Lib.hid hd1
        have HD2 := Lib.hid hd2
        obtain ⟨Ax, cx, rfl, -⟩ := hd1
        obtain ⟨Ay, cy, rfl, -⟩ := hd2
        simp only at e0 e1 e2 e3 e4 e5 e6 e7 e8 e9 e10 e11 f0 f1 f2 f3 f4 f5 f6 f7 f8 f9 f10 f11 HXK HYK
        have hsz := HW.out.size
        have i1 : (0 : Int) ≤ (i : Int) := by omega
        go_upto_region 6 with fail
        go_cut [6, 7, 16] from 16 to 77 (fun s6 s7 s16 wx => s16 = .int .i64 i ∧ ∃ g6 g7 : Nat, s6 = .pointer (some ⟨g6, 0, none⟩) ∧ s7 = .pointer (some ⟨g7, 0, none⟩) ∧ Hid (AkSt wr g6 g7 (⟨np, nk, ns, nt, ⟨o1, o2, o3, o4, o5, o6, o7⟩, nd⟩, .slice Ax nd.length cx) (⟨mp, mk, ms, mt, ⟨p1, p2, p3, p4, p5, p6, p7⟩, md⟩, .slice Ay md.length cy) wx))
        case first =>
--[reg
          go_region_held3 (fun w' => w'.cell? (ad.add (i * 12)) = some (.string (bs np)) ∧ w'.cell? ⟨(ad.add (i * 12)).block, (ad.add (i * 12)).off + 1, none⟩ = some (.int .i64 nk) ∧ w'.cell? ⟨(ad.add (i * 12)).block, (ad.add (i * 12)).off + 2, none⟩ = some (.int .i64 ns) ∧ w'.cell? ⟨(ad.add (i * 12)).block, (ad.add (i * 12)).off + 3, none⟩ = some (.string (bs nt)) ∧ w'.cell? ⟨(ad.add (i * 12)).block, (ad.add (i * 12)).off + 4, none⟩ = some (.int .i64 o1) ∧ w'.cell? ⟨(ad.add (i * 12)).block, (ad.add (i * 12)).off + 5, none⟩ = some (.int .i64 o2) ∧ w'.cell? ⟨(ad.add (i * 12)).block, (ad.add (i * 12)).off + 6, none⟩ = some (.int .i64 o3) ∧ w'.cell? ⟨(ad.add (i * 12)).block, (ad.add (i * 12)).off + 7, none⟩ = some (.string (bs o4)) ∧ w'.cell? ⟨(ad.add (i * 12)).block, (ad.add (i * 12)).off + 8, none⟩ = some (.string (bs o5)) ∧ w'.cell? ⟨(ad.add (i * 12)).block, (ad.add (i * 12)).off + 9, none⟩ = some (.int .i64 o6) ∧ w'.cell? ⟨(ad.add (i * 12)).block, (ad.add (i * 12)).off + 10, none⟩ = some (.int .i64 o7) ∧ w'.cell? ⟨(ad.add (i * 12)).block, (ad.add (i * 12)).off + 11, none⟩ = some (.slice Ax nd.length cx) ∧
            w'.cell? (be.add (i * 12)) = some (.string (bs mp)) ∧ w'.cell? ⟨(be.add (i * 12)).block, (be.add (i * 12)).off + 1, none⟩ = some (.int .i64 mk) ∧ w'.cell? ⟨(be.add (i * 12)).block, (be.add (i * 12)).off + 2, none⟩ = some (.int .i64 ms) ∧ w'.cell? ⟨(be.add (i * 12)).block, (be.add (i * 12)).off + 3, none⟩ = some (.string (bs mt)) ∧ w'.cell? ⟨(be.add (i * 12)).block, (be.add (i * 12)).off + 4, none⟩ = some (.int .i64 p1) ∧ w'.cell? ⟨(be.add (i * 12)).block, (be.add (i * 12)).off + 5, none⟩ = some (.int .i64 p2) ∧ w'.cell? ⟨(be.add (i * 12)).block, (be.add (i * 12)).off + 6, none⟩ = some (.int .i64 p3) ∧ w'.cell? ⟨(be.add (i * 12)).block, (be.add (i * 12)).off + 7, none⟩ = some (.string (bs p4)) ∧ w'.cell? ⟨(be.add (i * 12)).block, (be.add (i * 12)).off + 8, none⟩ = some (.string (bs p5)) ∧ w'.cell? ⟨(be.add (i * 12)).block, (be.add (i * 12)).off + 9, none⟩ = some (.int .i64 p6) ∧ w'.cell? ⟨(be.add (i * 12)).block, (be.add (i * 12)).off + 10, none⟩ = some (.int .i64 p7) ∧ w'.cell? ⟨(be.add (i * 12)).block, (be.add (i * 12)).off + 11, none⟩ = some (.slice Ay md.length cy)) (go_keep) (fail)
          · go_wp2_with fail
            go_meet
            case rel => exact ⟨rfl, _, _, rfl, rfl, Lib.hid (ak_one wr (⟨np, nk, ns, nt, ⟨o1, o2, o3, o4, o5, o6, o7⟩, nd⟩, .slice Ax nd.length cx) (⟨mp, mk, ms, mt, ⟨p1, p2, p3, p4, p5, p6, p7⟩, md⟩, .slice Ay md.length cy))⟩
          · go_wp2_with fail
            go_meet
            case rel => exact ⟨rfl, _, _, rfl, rfl, Lib.hid (ak_two wr (⟨np, nk, ns, nt, ⟨o1, o2, o3, o4, o5, o6, o7⟩, nd⟩, .slice Ax nd.length cx) (⟨mp, mk, ms, mt, ⟨p1, p2, p3, p4, p5, p6, p7⟩, md⟩, .slice Ay md.length cy))⟩
--]reg
        case rest =>
          obtain ⟨rfl, g6, g7, rfl, rfl, HA⟩ := hcut
          clear e0 e1 e2 e3 e4 e5 e6 e7 e8 e9 e10 e11 f0 f1 f2 f3 f4 f5 f6 f7 f8 f9 f10 f11
          have HZ := Lib.hid HA.out.zero
          have hne := HA.out.2.2.2.1
          have c2 : wc.cell? ⟨g6, 2, none⟩ = some (.int .i64 ns) := HA.out.2.2.2.2.1.cell 2
          have d2 : wc.cell? ⟨g7, 2, none⟩ = some (.int .i64 ms) := HA.out.2.2.2.2.2.cell 2
          have cz := HA.out.2.2.2.2.1.frozen 2
          have dz := HA.out.2.2.2.2.2.frozen 2
          have hne2 : g7 ≠ g6 := fun e => hne e.symm
          obtain ⟨W7, hW7⟩ : ∃ W7, W7 = (wc.setCell ⟨g6, 2, none⟩ (.int .i64 0)).setCell ⟨g7, 2, none⟩ (.int .i64 0) := ⟨_, rfl⟩
          rw [← hW7] at HZ
          unfold setSame at HZ
          simp only at HZ
          obtain ⟨k0, k1, k2, k3, k4, k5, k6, k7, k8, k9, k10, k11⟩ := HZ.out.2.2.2.2.1.node
          obtain ⟨j0, j1, j2, j3, j4, j5, j6, j7, j8, j9, j10, j11⟩ := HZ.out.2.2.2.2.2.node
          have HSN := Lib.hid (SameNode_any (⟨np, nk, 0, nt, ⟨o1, o2, o3, o4, o5, o6, o7⟩, nd⟩, .slice Ax nd.length cx) (⟨mp, mk, 0, mt, ⟨p1, p2, p3, p4, p5, p6, p7⟩, md⟩, .slice Ay md.length cy) W7 (HD1.out.below HZ.out.1) (HD2.out.below HZ.out.1))
          have HNA : Hid (nodeAlike (l.getD i default) (m.getD i default) = sameB ⟨np, nk, 0, nt, ⟨o1, o2, o3, o4, o5, o6, o7⟩, nd⟩ ⟨mp, mk, 0, mt, ⟨p1, p2, p3, p4, p5, p6, p7⟩, md⟩) := Lib.hid (by rw [HXK.out, HYK.out]; rfl)
          unfold nodeC at HSN
          simp only at HSN
          go_upto_region 8 with fail
          rw [← hW7]
          clear hW7 c2 d2 cz dz hne hne2
          cases hq : sameB ⟨np, nk, 0, nt, ⟨o1, o2, o3, o4, o5, o6, o7⟩, nd⟩ ⟨mp, mk, 0, mt, ⟨p1, p2, p3, p4, p5, p6, p7⟩, md⟩ with
          | false =>
            rw [hq] at HSN HNA
            have H2 := Lib.hid (alikeT_off hlt (alikeAt_node HNA.out))
            clear hq
--[differ
            go_wp2_with fail
            refine HSN.out.mono ?_
            rintro e w8 ⟨rfl, b8⟩
            have B8 := Lib.hid (HW.out.trans ((HZ.out.1.trans (b8.mono HZ.out.1.size)).mono HW.out.size))
            clear b8
            go_wp2_with fail
            go_ret
            exact ⟨ret_bool H2.out.symm, B8.out⟩
--]differ
          | true =>
            rw [hq] at HSN HNA
            clear hq
            go_wp2_with fail
            refine HSN.out.mono ?_
            rintro e w8 ⟨rfl, b8⟩
            have B8 := Lib.hid (HW.out.trans ((HZ.out.1.trans (b8.mono HZ.out.1.size)).mono HW.out.size))
            clear b8 k0 k1 k2 k3 k4 k5 k6 k7 k8 k9 k10 k11 j0 j1 j2 j3 j4 j5 j6 j7 j8 j9 j10 j11 HSN
            go_wp2_with fail
            go_loopg [8, 34] i (fun gg _ s34 wr => ∃ k : Nat, k ≤ i ∧ i - k ≤ gg ∧ s34 = .int .i64 k ∧ Hid (Below w.heap.size w wr) ∧ Hid (∀ j, j < k → (linkd l i j != linkd m i j) = false))
            case atStart => exact ⟨0, Nat.zero_le _, by omega, rfl, B8, Lib.hid (fun j h => absurd h (Nat.not_lt_zero _))⟩
            case round =>
              obtain ⟨k, hk, hgk, rfl, HV, HF⟩ := hrel
              by_cases hki : k < i
              · have hkz : (k : Int) < (i : Int) := by omega
                have hkl : k < l.length := by omega
                have hkm : k < m.length := by omega
                obtain ⟨a1, h1, e1⟩ := load_same (HR.out.below HV.out) HX.out hlt hlt
                obtain ⟨a2, h2, e2⟩ := load_same (HR.out.below HV.out) HX.out hkl hkl
                obtain ⟨a3, h3, e3⟩ := load_same (HS.out.below HV.out) HY.out hltm hlt
                obtain ⟨a4, h4, e4⟩ := load_same (HS.out.below HV.out) HY.out hkm hkl
                injection h1 with h1
                injection h2 with h2
                injection h3 with h3
                injection h4 with h4
                subst h1 h2 h3 h4
                have hA := linkd_cases l i k
                have hB := linkd_cases m i k
                have HFN : Hid ((linkd l i k != linkd m i k) = false → ∀ j, j < k + 1 → (linkd l i j != linkd m i j) = false) := Lib.hid (fun h j hj => by
                  by_cases e : j = k
                  · rw [e]; exact h
                  · exact HF.out j (by omega))
                have HFX : Hid ((linkd l i k != linkd m i k) = true → alikeT l m = false) := Lib.hid (fun h => alikeT_off hlt (alikeAt_link hki h))
                have k1 : (0 : Int) ≤ (k : Int) := by omega
                have k2 : (k : Int) < (l.length : Int) := by omega
                generalize linkd l i k = la at *
                generalize linkd m i k = lb at *
                generalize (l.getD i default).same = ai at *
                generalize (l.getD k default).same = ak at *
                generalize (m.getD i default).same = bi at *
                generalize (m.getD k default).same = bk at *
                rcases hA with ⟨q1, rfl⟩ | ⟨q1, q2, rfl⟩ | ⟨q1, q2, rfl⟩
                all_goals rcases hB with ⟨r1, rfl⟩ | ⟨r1, r2, rfl⟩ | ⟨r1, r2, rfl⟩
                all_goals
                  go_upto_region 13 with fail
                  go_quiet (fail)
                  have HW2 := Lib.hid (below_drewN HV.out nq)
                  clear e1 e2 e3 e4
                  go_wp2_with fail
                all_goals first
                  | (go_roundg (i - (k + 1)); (case measure => omega); (case rel => exact ⟨k + 1, by omega, by omega, by go_num, HW2, Lib.hid (HFN.out rfl)⟩))
                  | (go_ret; exact ⟨ret_bool (HFX.out rfl).symm, HW2.out⟩)
              · obtain rfl : k = i := by omega
                have H2 := Lib.hid (alikeAt_on HNA.out HF.out)
                go_wp2_with fail
                go_roundg (l.length - (k + 1))
                case measure => omega
                case rel =>
                  refine ⟨k + 1, by omega, by omega, by go_num, HV, Lib.hid (fun j hj => ?_)⟩
                  by_cases e : j = k
                  · rw [e]; exact H2.out
                  · exact HE.out j (by omega)
      · obtain rfl : i = l.length := by omega
        have H2 := Lib.hid (alikeT_on HL.out HE.out)
        go_wp2_with fail
        go_ret
        exact ⟨ret_bool H2.out.symm, HW.out⟩
  · have HR2 := Lib.hid (alikeT_len hlen)
    have t1 : ((l.length : Int) == (m.length : Int)) = false := by simp; omega
    have t2 : (l.length == m.length) = false := by simp [hlen]
    clear hlen
    go_enter Tryz.func20, Tryz.ntmps20
    go_wp2_with fail
    go_ret
    exact ⟨ret_bool HR2.out.symm, Below.refl _ _⟩
end Go.Proofs.YtpanjldionaaiaaGreatDoor
