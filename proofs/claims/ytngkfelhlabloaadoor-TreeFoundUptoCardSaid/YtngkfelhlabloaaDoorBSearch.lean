/-
  slices.BinarySearchFunc over nodes, whatever the closure; the closure of tree.Put. No condition beyond short trees.
-/
import Derived.Test.YtngkfelhlabloaaDoorIdxN
import Derived.Test.YtngkfelhlabloaaDoorSame
namespace Go.Proofs.YtngkfelhlabloaaDoor
open Go.RowKit

set_option maxRecDepth 100000 in
set_option maxHeartbeats 4000000 in
theorem BSF_any (g : FuncId) (cb : Array Value) (eg : ∀ args w, (callFunc g args).run Tryd.prog w = .ok (.enter g args) w) (v : Value) (l : List NodeP) (s : ByteArray) (p : NodeP → Int) (w : World) (hl : NodesAt w v l) (hn : l.length ≤ 100000)
    (hp : ∀ (W : World) (x : NodeV), x.1 ∈ l → Below w.heap.size w W → Calls Tryd.prog g (#[.agg (nodeC x).toArray, .string s] ++ cb) W fun e w' => e = .returned (.int .i64 (p x.1)) ∧ Below W.heap.size W w')
    (r : Nat) (hr1 : r ≤ l.length) (hr2 : ∀ j (hj : j < l.length), j < r → p l[j] < 0) (hr3 : ∀ j (hj : j < l.length), r ≤ j → 0 ≤ p l[j]) (b : Bool) (hb1 : ∀ h : r < l.length, (p l[r] == 0) = b) (hb2 : ¬ r < l.length → b = false) :
    Calls Tryd.prog 65 #[v, .string s, .func (.func g) #[] cb] w fun e w' => e = .returned (.tuple #[.int .i64 (r : Int), .bool b]) ∧ Below w.heap.size w w' := by
  obtain ⟨xs, A, c, hx, rfl, hlc, hc, -, hr, hdx⟩ := hl
  have hxl : xs.length = l.length := by rw [← hx, List.length_map]
  unfold maxLen at hc
  have HX := Lib.hid hx
  have HR := Lib.hid hr
  have HDX := Lib.hid hdx
  have HP := Lib.hid hp
  have H2 := Lib.hid hr2
  have H3 := Lib.hid hr3
  have HB1 := Lib.hid hb1
  have HB2 := Lib.hid hb2
  have HXL := Lib.hid hxl
  clear hx hr hdx hp hr2 hr3 hxl hb1 hb2
  go_enter Tryd.func65, Tryd.ntmps65
  go_wp2_with fail
  go_loopg [9, 10] l.length (fun gg s9 s10 wr => ∃ lo hi : Nat, s9 = .int .i64 lo ∧ s10 = .int .i64 hi ∧ lo ≤ r ∧ r ≤ hi ∧ hi ≤ l.length ∧ hi - lo ≤ gg ∧ Hid (Below w.heap.size w wr))
  case atStart => exact ⟨0, l.length, rfl, rfl, Nat.zero_le _, hr1, Nat.le_refl _, by omega, Lib.hid (Below.refl _ _)⟩
  case round =>
    obtain ⟨lo, hi, rfl, rfl, hlo, hhi, hin, hg, HW⟩ := hrel
    by_cases hlt : lo < hi
    · have hm : (lo + hi) / 2 < l.length := by omega
      have hkx : (lo + hi) / 2 < xs.length := by rw [HXL.out]; exact hm
      obtain ⟨ad, rfl, hb, e0, e1, e2, e3, e4, e5, e6, e7, e8, e9, e10, e11⟩ := load_node (HR.out.below HW.out) hkx hm
      have hxk : xs[(lo + hi) / 2].1 = l[(lo + hi) / 2] := by have := HX.out; subst this; simp
      obtain ⟨Ax, cx, hde, -⟩ := HDX.out xs[(lo + hi) / 2] (List.getElem_mem _)
      have HCL := Lib.hid (HP.out wr xs[(lo + hi) / 2] (by rw [hxk]; exact List.getElem_mem _) HW.out)
      have hlow : Hid (p xs[(lo + hi) / 2].1 < 0 → (lo + hi) / 2 < r) := Lib.hid (fun h => by
        rcases Nat.lt_or_ge ((lo + hi) / 2) r with a | a
        · exact a
        · have := H3.out _ hm a
          rw [hxk] at h
          omega)
      have hhigh : Hid (¬ p xs[(lo + hi) / 2].1 < 0 → r ≤ (lo + hi) / 2) := Lib.hid (fun h => by
        rcases Nat.lt_or_ge ((lo + hi) / 2) r with a | a
        · have := H2.out _ hm a
          rw [hxk] at h
          omega
        · exact a)
      clear hxk
      generalize xs[(lo + hi) / 2] = x at *
      clear hkx
      obtain ⟨⟨np, nk, ns, nt, ⟨o1, o2, o3, o4, o5, o6, o7⟩, nd⟩, dv⟩ := x
      simp only at hde e0 e1 e2 e3 e4 e5 e6 e7 e8 e9 e10 e11 hlow hhigh
      subst hde
      unfold nodeC at HCL
      simp only at HCL
      by_cases hq : p ⟨np, nk, ns, nt, ⟨o1, o2, o3, o4, o5, o6, o7⟩, nd⟩ < 0
      · have hlr := hlow.out hq
        generalize p ⟨np, nk, ns, nt, ⟨o1, o2, o3, o4, o5, o6, o7⟩, nd⟩ = pv at *
        go_wp2_with (go_at_fn g; refine HCL.out.mono ?_; rintro e w' ⟨rfl, hb'⟩)
        go_roundg (hi - ((lo + hi) / 2 + 1))
        case measure => omega
        case rel => exact ⟨(lo + hi) / 2 + 1, hi, by rw [show ((lo : Int) + (hi : Int)) / 2 + 1 = (((lo + hi) / 2 + 1 : Nat) : Int) by omega], rfl, by omega, hhi, hin, Nat.le_refl _, Lib.hid (HW.out.trans (hb'.mono HW.out.size))⟩
      · have hlr := hhigh.out hq
        generalize p ⟨np, nk, ns, nt, ⟨o1, o2, o3, o4, o5, o6, o7⟩, nd⟩ = pv at *
        go_wp2_with (go_at_fn g; refine HCL.out.mono ?_; rintro e w' ⟨rfl, hb'⟩)
        go_roundg ((lo + hi) / 2 - lo)
        case measure => omega
        case rel => exact ⟨lo, (lo + hi) / 2, rfl, by rw [show ((lo : Int) + (hi : Int)) / 2 = (((lo + hi) / 2 : Nat) : Int) by omega], hlo, hlr, by omega, Nat.le_refl _, Lib.hid (HW.out.trans (hb'.mono HW.out.size))⟩
    · obtain rfl : lo = r := by omega
      obtain rfl : hi = lo := by omega
      by_cases hlt2 : hi < l.length
      · have hltz : (hi : Int) < (l.length : Int) := by omega
        have hkx : hi < xs.length := by rw [HXL.out]; exact hlt2
        obtain ⟨ad, rfl, hb, e0, e1, e2, e3, e4, e5, e6, e7, e8, e9, e10, e11⟩ := load_node (HR.out.below HW.out) hkx hlt2
        have hxk : xs[hi].1 = l[hi] := by have := HX.out; subst this; simp
        obtain ⟨Ax, cx, hde, -⟩ := HDX.out xs[hi] (List.getElem_mem _)
        have HCL := Lib.hid (HP.out wr xs[hi] (by rw [hxk]; exact List.getElem_mem _) HW.out)
        have HRES : Hid ((p xs[hi].1 == 0) = b) := Lib.hid (by rw [hxk]; exact HB1.out hlt2)
        clear hxk
        generalize xs[hi] = x at *
        clear hkx
        obtain ⟨⟨np, nk, ns, nt, ⟨o1, o2, o3, o4, o5, o6, o7⟩, nd⟩, dv⟩ := x
        simp only at hde e0 e1 e2 e3 e4 e5 e6 e7 e8 e9 e10 e11 HRES
        subst hde
        unfold nodeC at HCL
        simp only at HCL
        generalize p ⟨np, nk, ns, nt, ⟨o1, o2, o3, o4, o5, o6, o7⟩, nd⟩ = pv at *
        go_wp2_with (go_at_fn g; refine HCL.out.mono ?_; rintro e w' ⟨rfl, hb'⟩)
        go_ret2
        obtain rfl := HRES.out
        exact ⟨rfl, HW.out.trans (hb'.mono HW.out.size)⟩
      · have hltz : ¬ (hi : Int) < (l.length : Int) := by omega
        obtain rfl := HB2.out hlt2
        go_wp2_with fail
        go_ret2
        exact ⟨rfl, HW.out⟩
theorem eg_put : ∀ args w, (callFunc 66 args).run Tryd.prog w = .ok (.enter 66 args) w := enters_of Tryd.func66 (by kernel_rfl) rfl
set_option maxHeartbeats 1000000 in
theorem putC_any (x : NodeV) (s : List UInt8) (w : World) (hm : ML w) (hx : x.1.path.length ≤ 400) (hs : s.length ≤ 400) :
    Calls Tryd.prog 66 #[.agg (nodeC x).toArray, .string (bs s)] w fun e w' => e = .returned (.int .i64 (cmpP x.1.path s)) ∧ Below w.heap.size w w' := by
  obtain ⟨⟨np, nk, ns, nt, ⟨o1, o2, o3, o4, o5, o6, o7⟩, nd⟩, dv⟩ := x
  simp only at hx
  have hb : ∀ o, Below w.heap.size w (w.alloc o) := fun o => (Below.refl w.heap.size w).alloc (Nat.le_refl _) o
  have HC := Lib.hid (fun W (h : Below w.heap.size w W) => Compare_any np s W (by omega) (by omega) (hm.below h))
  have HB := Lib.hid hb
  clear hm hb
  unfold nodeC
  simp only
  generalize bs np = bp at *
  generalize bs s = bq at *
  generalize cmpP np s = cc at *
  go_enter Tryd.func66, Tryd.ntmps66
  go_wp2_with fail
  refine (HC.out _ (HB.out _)).mono ?_
  rintro e w1 ⟨rfl, b1⟩
  have B1 := Lib.hid ((HB.out _).trans (b1.mono (HB.out _).size))
  clear b1
  go_wp2_with fail
  go_ret
  exact ⟨rfl, B1.out⟩
end Go.Proofs.YtngkfelhlabloaaDoor
