/-
  The law TreeBack: what it computes is true. Condition: raw things of the second form's bound.
-/
import Derived.Test.YtngkfelhlabloaaDoorTreeFound
import Derived.Test.YtngkfelhlabloaaDoorRemove
namespace Go.Proofs.YtngkfelhlabloaaDoor
open Go.RowKit

set_option maxRecDepth 100000 in
set_option maxHeartbeats 8000000 in
theorem TreeBack_walk (w : World) (hsh : w.ShapedOpen Tryd.prog) (v : Value) (l : List RawS) (hl : RawsAt w w.heap.size v l) (hok : ∀ x ∈ l, RawOk x) (hn : l.length ≤ 1048576) (v2 : Value) (l2 : List RawS) (hl2 : RawsAt w w.heap.size v2 l2) (hok2 : ∀ x ∈ l2, RawOk x) (hn2 : l2.length ≤ 1048576) :
    Calls Tryd.prog 13 #[v, v2] w fun e w' => e = .returned (.bool true) ∧ Below w.heap.size w w' := by
  have hm := ML.of_shaped hsh
  clear hsh
  have HT := Lib.hid (fun (_ : Unit) => Tree_any l v 20 w hm hl hok hn (by omega))
  have HT2 : Hid (∀ W, Below w.heap.size w W → Calls Tryd.prog 20 #[v2, .int .i64 6] W fun e w' => ∃ tv, e = .returned tv ∧ NodesOwn w' W.heap.size tv (treeP l2 6) ∧ Below W.heap.size W w') := Lib.hid (fun W hb => Tree_any l2 v2 6 W (hm.below hb) ((hl2.below hb).more hb.size) hok2 hn2 (by omega))
  have hto := treeP_ok l 20 (by omega)
  have hso := treeP_ok l2 6 (by omega)
  have HML : Hid (∀ W, Below w.heap.size w W → ML W) := Lib.hid (fun W hb => hm.below hb)
  have HGR : Hid (∀ W, Below w.heap.size w W → Calls Tryd.prog 30 #[] W fun e w' => e = .returned (.bool true) ∧ Below W.heap.size W w') := Lib.hid (fun W hb => Grows_any W (hm.below hb))
  clear hm hl hok hn hl2 hok2 hn2
  generalize treeP l 20 = t at *
  generalize treeP l2 6 = s at *
  have HTO := Lib.hid hto
  have HSO := Lib.hid hso
  have hlen := hto.len
  have hlens := hso.len
  have HPT : Hid (∀ W tv x, Below w.heap.size w W → NodesAt W tv t → x.1 ∈ s → DataAt W 0 x.2 x.1.data → Calls Tryd.prog 31 #[tv, .agg (nodeC x).toArray] W (PutPost W.heap.size (putP t x.1) (chkT (putP t x.1)) W)) := Lib.hid (fun W tv x hb h hx hd => Put_any tv t x W (HML.out W hb) h HTO.out.node (HSO.out.node _ hx) hd HTO.out.chk _ rfl)
  have HRM : Hid (∀ n, n ∈ s → findP t n.path = none → chkT (putP t n) = 0 → ∀ W tv, Below w.heap.size w W → NodesAt W tv (putP t n) → Calls Tryd.prog 40 #[tv, .string (bs n.path)] W fun e w' => ∃ yv, e = .returned (.tuple #[yv, .int .i64 0]) ∧ NodesOwn w' W.heap.size yv t ∧ Below W.heap.size W w') := Lib.hid (fun n hn hno hc W tv hb h => by
    obtain ⟨i, _, hf, _⟩ := put_find hc
    have hno2 := HSO.out.node n hn
    have h1 := Remove_any tv _ n.path W (HML.out W hb) h (fun y hy => by
      rcases putP_mem hy with rfl | h2
      · exact hno2
      · exact HTO.out.node y h2) hc hno2.path.2 i hf
    rw [remove_put HTO.out hno2 hno] at h1
    exact h1)
  have HSM : Hid (∀ W v1 v2, NodesAt W v1 t → NodesAt W v2 t → Calls Tryd.prog 33 #[v1, v2] W fun e w' => e = .returned (.bool true) ∧ Below W.heap.size W w') := Lib.hid (fun W v1 v2 h1 h2 => by
    have := SameTree_any v1 v2 _ _ W h1 h2
    rwa [decide_eq_true rfl] at this)
  clear hto hso
  go_enter Tryd.func13, Tryd.ntmps13
  go_wp2_with fail
  refine (HT.out ()).mono ?_
  rintro e' w1 ⟨tv, rfl, htv, b1⟩
  have B1 := Lib.hid b1
  have HTV1 := Lib.hid htv.at_
  clear b1 htv HT
  go_wp2_with fail
  refine (HGR.out _ B1.out).mono ?_
  rintro e' w2 ⟨rfl, b2⟩
  have B2 := Lib.hid (B1.out.trans (b2.mono B1.out.size))
  have HTV2 := Lib.hid (HTV1.out.below b2)
  clear b2 HTV1
  go_wp2_with fail
  refine (HT2.out _ B2.out).mono ?_
  rintro e' w3 ⟨mv, rfl, hmv, b3⟩
  have B3 := Lib.hid (B2.out.trans (b3.mono B2.out.size))
  have HTV := Lib.hid (HTV2.out.below b3)
  have HMV := Lib.hid hmv.at_
  obtain ⟨_, At, ct, -, hte, hct1, hct2, -⟩ := HTV.out
  obtain ⟨_, Am, cm, -, hme, hcm1, hcm2, -⟩ := HMV.out
  subst hte hme
  unfold maxLen at hct2 hcm2
  clear b3 hmv HTV2 HT2 HGR
  go_wp2_with fail
  go_loopg [21] s.length (fun gg s21 wr => ∃ k : Nat, k ≤ s.length ∧ s.length - k ≤ gg ∧ s21 = .int .i64 k ∧ Hid (Below w3.heap.size w3 wr))
  case atStart => exact ⟨0, Nat.zero_le _, by omega, rfl, Lib.hid (Below.refl _ _)⟩
  case round =>
    obtain ⟨k, hk, hg, rfl, HW⟩ := hrel
    by_cases hlt : k < s.length
    · have hltz : (k : Int) < (s.length : Int) := by omega
      obtain ⟨ad, Ax, cx, rfl, hb, hdx, e0, e1, e2, e3, e4, e5, e6, e7, e8, e9, e10, e11⟩ := node_read (HMV.out.below HW.out) hlt
      have hmem : s[k] ∈ s := List.getElem_mem _
      obtain ⟨n, hnx⟩ : ∃ n, n = s[k] := ⟨_, rfl⟩
      rw [← hnx] at hdx hmem e0 e1 e2 e3 e4 e5 e6 e7 e8 e9 e10 e11
      clear hnx
      have HRN := Lib.hid (HRM.out n hmem)
      obtain ⟨np, nk, ns, nt, ⟨o1, o2, o3, o4, o5, o6, o7⟩, nd⟩ := n
      simp only at hdx HRN e0 e1 e2 e3 e4 e5 e6 e7 e8 e9 e10 e11
      obtain ⟨W2, hW2⟩ : ∃ W2, W2 = wr.alloc (.cells #[.string (bs np), .int .i64 nk, .int .i64 ns, .string (bs nt), .int .i64 o1, .int .i64 o2, .int .i64 o3, .string (bs o4), .string (bs o5), .int .i64 o6, .int .i64 o7, .slice Ax nd.length cx] 46) := ⟨_, rfl⟩
      have b2 : Below wr.heap.size wr W2 := by rw [hW2]; exact (Below.refl _ _).alloc (Nat.le_refl _) _
      have K2 : Blk W2 wr.heap.size 46 (nodeC (⟨np, nk, ns, nt, ⟨o1, o2, o3, o4, o5, o6, o7⟩, nd⟩, .slice Ax nd.length cx)).toArray := by rw [hW2]; exact Blk.new _ _ _
      have HW2 := Lib.hid (HW.out.trans (b2.mono HW.out.size))
      have HK2 := Lib.hid K2
      have HD2 := Lib.hid (hdx.below b2)
      have HFN := Lib.hid (Find_any _ _ np W2 (HTV.out.below HW2.out))
      have HPN := Lib.hid (fun W (hW : Below w3.heap.size w3 W) (hd : DataAt W 0 (.slice Ax nd.length cx) nd) => HPT.out W _ (⟨np, nk, ns, nt, ⟨o1, o2, o3, o4, o5, o6, o7⟩, nd⟩, .slice Ax nd.length cx) (B3.out.trans (hW.mono B3.out.size)) (HTV.out.below hW) hmem hd)
      unfold nodeC at HPN
      simp only at HPN
      clear b2 K2 hdx hmem
      go_upto_region 7 with fail
      rw [← hW2]
      clear hW2 e0 e1 e2 e3 e4 e5 e6 e7 e8 e9 e10 e11
      have c0 : W2.cell? ⟨wr.heap.size, 0, none⟩ = some (.string (bs np)) := HK2.out.cell 0
      go_wp2_with fail
      refine HFN.out.mono ?_
      rintro e' w4 ⟨rfl, b4⟩
      have HB4 := Lib.hid (HW2.out.trans (b4.mono HW2.out.size))
      have HK4 := Lib.hid (HK2.out.below b4 HK2.out.lt)
      have HP4 := Lib.hid (HPN.out w4 HB4.out (HD2.out.below b4))
      clear b4 c0 HFN HPN
      obtain ⟨c0, c1, c2, c3, c4, c5, c6, c7, c8, c9, c10, c11⟩ := HK4.out.node
      cases hfq : findP t np with
      | some i =>
        unfold findR
        clear hfq HRN
        generalize chkT (putP t ⟨np, nk, ns, nt, ⟨o1, o2, o3, o4, o5, o6, o7⟩, nd⟩) = cc at *
        go_wp2_with fail
        refine HP4.out.mono ?_
        rintro e' w5 hput
        clear c0 c1 c2 c3 c4 c5 c6 c7 c8 c9 c10 c11 HP4
        rcases hput with ⟨-, xv, rfl, hxv, b5⟩ | ⟨hcc, rfl, b5⟩
        · have HB5 := Lib.hid (HB4.out.trans (b5.mono HB4.out.size))
          clear b5 hxv
          go_wp2_with fail
          go_roundg (s.length - (k + 1))
          case measure => omega
          case rel => exact ⟨k + 1, by omega, by omega, by go_num, HB5⟩
        · have HB5 := Lib.hid (HB4.out.trans (b5.mono HB4.out.size))
          have q1 : (cc == 0) = false := by simp [hcc]
          have q2 : (cc != 0) = true := by simp [hcc]
          clear b5 hcc
          go_wp2_with fail
          go_roundg (s.length - (k + 1))
          case measure => omega
          case rel => exact ⟨k + 1, by omega, by omega, by go_num, HB5⟩
      | none =>
        have HR5 := Lib.hid (HRN.out hfq)
        unfold findR
        clear hfq HRN
        generalize chkT (putP t ⟨np, nk, ns, nt, ⟨o1, o2, o3, o4, o5, o6, o7⟩, nd⟩) = cc at *
        go_wp2_with fail
        refine HP4.out.mono ?_
        rintro e' w5 hput
        clear c0 c1 c2 c3 c4 c5 c6 c7 c8 c9 c10 c11 HP4
        rcases hput with ⟨hcc, xv, rfl, hxv, b5⟩ | ⟨hcc, rfl, b5⟩
        · have HB5 := Lib.hid (HB4.out.trans (b5.mono HB4.out.size))
          have HK5 := Lib.hid (HK4.out.below b5 HK4.out.lt)
          have HRR := Lib.hid (HR5.out hcc w5 xv (B3.out.trans (HB5.out.mono B3.out.size)) hxv.at_)
          have c0 : w5.cell? ⟨wr.heap.size, 0, none⟩ = some (.string (bs np)) := HK5.out.cell 0
          obtain ⟨_, Ap, cp, -, rfl, -⟩ := hxv.at_
          clear b5 hcc hxv HR5
          go_wp2_with fail
          refine HRR.out.mono ?_
          rintro e' w6 ⟨yv, rfl, hyv, b6⟩
          have HB6 := Lib.hid (HB5.out.trans (b6.mono HB5.out.size))
          have HSS := Lib.hid (HSM.out w6 yv _ hyv.at_ (HTV.out.below HB6.out))
          obtain ⟨_, Ay, cy, -, rfl, -⟩ := hyv.at_
          clear b6 c0 hyv HRR
          go_wp2_with fail
          refine HSS.out.mono ?_
          rintro e' w7 ⟨rfl, b7⟩
          have HB7 := Lib.hid (HB6.out.trans (b7.mono HB6.out.size))
          clear b7
          go_wp2_with fail
          go_roundg (s.length - (k + 1))
          case measure => omega
          case rel => exact ⟨k + 1, by omega, by omega, by go_num, HB7⟩
        · have HB5 := Lib.hid (HB4.out.trans (b5.mono HB4.out.size))
          have q1 : (cc == 0) = false := by simp [hcc]
          have q2 : (cc != 0) = true := by simp [hcc]
          clear b5 hcc HR5
          go_wp2_with fail
          go_roundg (s.length - (k + 1))
          case measure => omega
          case rel => exact ⟨k + 1, by omega, by omega, by go_num, HB5⟩
    · obtain rfl : k = s.length := by omega
      go_wp2_with fail
      go_ret
      exact ⟨rfl, B3.out.trans (HW.out.mono B3.out.size)⟩
end Go.Proofs.YtngkfelhlabloaaDoor
