/-
  diff.Alike: are two trees the same, whatever numbers tell which files are one. Condition: two trees that may be.
-/
import Derived.Test.YtjglenhhgbokbaaDoorAlikeP
namespace Go.Proofs.YtjglenhhgbokbaaDoor
open Go.RowKit

set_option maxRecDepth 100000 in
set_option maxHeartbeats 4000000 in
theorem dalC_any (x y : NodeV) (w : World) (hx : DataAt w 0 x.2 x.1.data) (hy : DataAt w 0 y.2 y.1.data) :
    Calls Tryd.prog 64 #[.agg (nodeC x).toArray, .agg (nodeC y).toArray] w fun e w' => e = .returned (.bool (stayB x.1 y.1)) ∧ Below w.heap.size w w' := by
  have HST : Hid (stayB x.1 y.1 = (dsameB x.1 y.1 && x.1.same == y.1.same)) := Lib.hid rfl
  obtain ⟨W2, hW2⟩ : ∃ W2, W2 = (w.alloc (.cells (nodeC x).toArray 36)).alloc (.cells (nodeC y).toArray 36) := ⟨_, rfl⟩
  have b1 := (Below.refl w.heap.size w).alloc (Nat.le_refl _) (.cells (nodeC x).toArray 36)
  have b2 : Below w.heap.size w W2 := by rw [hW2]; exact b1.alloc (by simp) _
  have K1 : Blk W2 w.heap.size 36 (nodeC x).toArray := by rw [hW2]; exact (Blk.new w _ _).alloc _
  have K2 : Blk W2 (w.heap.size + 1) 36 (nodeC y).toArray := by rw [hW2]; have := Blk.new (w.alloc (.cells (nodeC x).toArray 36)) 36 (nodeC y).toArray; simpa using this
  have HB2 := Lib.hid b2
  have HK1 := Lib.hid K1
  have HK2 := Lib.hid K2
  have HDS := Lib.hid (DSame_any x y W2 (hx.below b2) (hy.below b2))
  clear b1 b2 K1 K2 hx hy
  obtain ⟨⟨np, nk, ns, nt, ⟨o1, o2, o3, o4, o5, o6, o7⟩, nd⟩, dv⟩ := x
  obtain ⟨⟨mp, mk, ms, mt, ⟨p1, p2, p3, p4, p5, p6, p7⟩, md⟩, dw⟩ := y
  simp only at HST HDS
  generalize dsameB (⟨np, nk, ns, nt, ⟨o1, o2, o3, o4, o5, o6, o7⟩, nd⟩ : NodeP) ⟨mp, mk, ms, mt, ⟨p1, p2, p3, p4, p5, p6, p7⟩, md⟩ = ds at *
  unfold nodeC at HDS hW2 ⊢
  simp only at HDS hW2 ⊢
  have hways : (ds = false ∧ (ds && ns == ms) = false) ∨ (ds = true ∧ ns = ms ∧ (ds && ns == ms) = true) ∨ (ds = true ∧ (ns == ms) = false ∧ (ds && ns == ms) = false) := by
    cases ds with
    | false => exact .inl ⟨rfl, rfl⟩
    | true =>
      by_cases h : ns = ms
      · exact .inr (.inl ⟨rfl, h, by simp [h]⟩)
      · exact .inr (.inr ⟨rfl, by simp [h], by simp [h]⟩)
  rcases hways with ⟨rfl, hst⟩ | ⟨rfl, rfl, hst⟩ | ⟨rfl, hn1, hst⟩
  all_goals
    have HE := Lib.hid (HST.out.trans hst)
    clear hst HST
    go_enter Tryd.func64, Tryd.ntmps64
    go_upto_region 1 with fail
    rw [← hW2]
    clear hW2
    obtain ⟨c0, c1, c2, c3, c4, c5, c6, c7, c8, c9, c10, c11⟩ := HK1.out.node
    obtain ⟨d0, d1, d2, d3, d4, d5, d6, d7, d8, d9, d10, d11⟩ := HK2.out.node
    go_wp2_with fail
    refine HDS.out.mono ?_
    rintro e w3 ⟨rfl, b3⟩
    clear c0 c1 c2 c3 c4 c5 c6 c7 c8 c9 c10 c11 d0 d1 d2 d3 d4 d5 d6 d7 d8 d9 d10 d11
    have B3 := Lib.hid (HB2.out.trans (b3.mono HB2.out.size))
    have k2 : w3.cell? ⟨w.heap.size, 2, none⟩ = some (.int .i64 _) := (HK1.out.below b3 HK1.out.lt).cell 2
    have l2 : w3.cell? ⟨w.heap.size + 1, 2, none⟩ = some (.int .i64 _) := (HK2.out.below b3 HK2.out.lt).cell 2
    clear b3
    go_wp2_with fail
    go_ret
    exact ⟨ret_bool HE.out.symm, B3.out⟩
theorem eg_dal : ∀ args w, (callFunc 64 args).run Tryd.prog w = .ok (.enter 64 args) w := enters_of Tryd.func64 (by kernel_rfl) rfl
set_option maxRecDepth 100000 in
set_option maxHeartbeats 1000000 in
theorem DAlike_any (v1 v2 : Value) (a b : List NodeP) (w : World) (hm : ML w) (ha : NodesAt w v1 a) (hb : NodesAt w v2 b) (hoa : TreeOk a) (hob : TreeOk b) :
    Calls Tryd.prog 27 #[v1, v2] w fun e w' => e = .returned (.tuple #[.bool (decide (anewP a = anewP b)), .int .i64 0]) ∧ Below w.heap.size w w' := by
  have HA := Lib.hid (Anew_any v1 a w hm ha hoa.node hoa.chk)
  have HB : Hid (∀ W, Below w.heap.size w W → Calls Tryd.prog 63 #[v2] W fun e w' => ∃ nv, e = .returned (.tuple #[nv, .int .i64 0]) ∧ NodesOwn w' W.heap.size nv (anewP b) ∧ Below W.heap.size W w') := Lib.hid (fun W h => Anew_any v2 b W (hm.below h) (hb.below h) hob.node hob.chk)
  have HE : Hid (∀ W x y, NodesAt W x (anewP a) → NodesAt W y (anewP b) → Calls Tryd.prog 45 #[x, y, .func (.func 64) #[] #[]] W fun e w' => e = .returned (.bool (decide (anewP a = anewP b))) ∧ Below W.heap.size W w') := Lib.hid (fun W x y h1 h2 => by
    have h := EqFN_any 64 #[] eg_dal x y (anewP a) (anewP b) stayB W h1 h2 (fun W x y _ h1 h2 => dalC_any x y W h1 h2)
    rw [eqFN_stay] at h
    exact h)
  clear hm ha hb hoa hob
  generalize decide (anewP a = anewP b) = r at *
  go_enter Tryd.func27, Tryd.ntmps27
  go_wp2_with fail
  refine HA.out.mono ?_
  rintro e w1 ⟨av, rfl, hav, b1⟩
  have B1 := Lib.hid b1
  have HA1 := Lib.hid hav.at_
  clear b1 hav HA
  go_wp2_with fail
  refine (HB.out _ B1.out).mono ?_
  rintro e w2 ⟨bv, rfl, hbv, b2⟩
  have B2 := Lib.hid (B1.out.trans (b2.mono B1.out.size))
  have HQ := Lib.hid (HE.out w2 _ _ (HA1.out.below b2) hbv.at_)
  clear b2 hbv HB HE HA1
  go_wp2_with fail
  refine HQ.out.mono ?_
  rintro e w3 ⟨rfl, b3⟩
  have B3 := Lib.hid (B2.out.trans (b3.mono B2.out.size))
  clear b3
  go_wp2_with fail
  go_ret2
  exact ⟨rfl, B3.out⟩
end Go.Proofs.YtjglenhhgbokbaaDoor
