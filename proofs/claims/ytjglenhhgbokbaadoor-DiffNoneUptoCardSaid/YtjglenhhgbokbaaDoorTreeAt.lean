/-
  creelkeep.Tree's closure 'at'. No condition.
-/
import Derived.Test.YtjglenhhgbokbaaDoorTreeSt
import Derived.Test.YtjglenhhgbokbaaDoorUpBase
import Derived.Test.YtjglenhhgbokbaaDoorPath
namespace Go.Proofs.YtjglenhhgbokbaaDoor
open Go.RowKit

set_option maxHeartbeats 400000 in
theorem atP_any (p : List UInt8) (B : Nat) (W : World) (x : NodeV) (hB : B < W.heap.size) (hc : W.cell? ⟨B, 0, none⟩ = some (.string (bs p))) :
    Calls Tryd.prog 32 #[.agg (nodeC x).toArray, .pointer (some ⟨B, 0, none⟩)] W fun e w' => e = .returned (.bool (x.1.path == p)) ∧ Below W.heap.size W w' := by
  obtain ⟨⟨q, k, s, t, ⟨m1, m2, m3, m4, m5, m6, m7⟩, d⟩, dv⟩ := x
  unfold nodeC
  simp only
  have hne : B ≠ W.heap.size := by omega
  have hq := Lib.hid (bs_beq q p)
  generalize bs q = bq at *
  generalize bs p = bp at *
  go_enter Tryd.func32, Tryd.ntmps32
  go_wp2
  go_ret
  exact ⟨ret_bool hq.out, (Below.refl _ _).alloc (Nat.le_refl _) _⟩
theorem eg_at : ∀ args w, (callFunc 32 args).run Tryd.prog w = .ok (.enter 32 args) w := enters_of Tryd.func32 (by kernel_rfl) rfl
set_option maxHeartbeats 400000 in
theorem At_any (w0 : World) (s : TreeS) (dv : Value) (p : List UInt8) (w : World) (h : TrSt w0 s dv w) :
    Calls Tryd.prog 30 #[.string (bs p), .pointer (some ⟨w0.heap.size, 0, none⟩)] w fun e w' => e = .returned (.int .i64 (idxN (fun x => x.path == p) s.t)) ∧ Below w.heap.size w w' := by
  have b0 : Below w.heap.size w (w.alloc (.cells #[.string (bs p)] 9)) := (Below.refl _ _).alloc (Nat.le_refl _) _
  have h1 := h.below b0
  obtain ⟨A, c, hc, _, _, ho, _, _⟩ := h1.tree
  have hk := (Blk.new w 9 #[.string (bs p)])
  have hcon := IdxN_any 32 #[.pointer (some ⟨w.heap.size, 0, none⟩)] eg_at _ s.t (fun x => x.path == p) _ ho.at_ (fun W x hb => by
    have hk2 := hk.below hb hk.lt
    have hlt := hk2.lt
    exact (atP_any p w.heap.size W x hlt (hk2.cell 0)).mono fun e w' ⟨h1, h2⟩ => ⟨h1, hb.trans (h2.mono hb.size)⟩)
  have HC := Lib.hid hcon
  have B0 := Lib.hid b0
  clear hcon h h1 hk ho b0
  go_enter Tryd.func30, Tryd.ntmps30
  go_wp2_with fail
  refine HC.out.mono ?_
  rintro e w' ⟨rfl, b1⟩
  have B1 := Lib.hid (B0.out.trans (b1.mono B0.out.size))
  clear b1
  go_wp2_with fail
  go_ret
  exact ⟨rfl, B1.out⟩
theorem idxN_neg {p : List UInt8} {l : List NodeP} (h : hasPath l p = false) : idxN (fun x => x.path == p) l = -1 :=
  idxN_miss (fun j hj => by
    unfold hasPath at h
    rw [List.any_eq_false] at h
    simpa using h _ (List.getElem_mem hj))
theorem idxN_nat {p : List UInt8} {l : List NodeP} (h : hasPath l p = true) : ∃ i : Nat, i < l.length ∧ idxN (fun x => x.path == p) l = i ∧ ∃ x, l[i]? = some x ∧ x.path = p := by
  unfold idxN
  cases hq : l.findIdx? (fun x => x.path == p) with
  | some i =>
    rw [List.findIdx?_eq_some_iff_getElem] at hq
    obtain ⟨h1, h2, _⟩ := hq
    exact ⟨i, h1, rfl, l[i], List.getElem?_eq_getElem h1, by simpa using h2⟩
  | none =>
    rw [List.findIdx?_eq_none_iff] at hq
    unfold hasPath at h
    rw [List.any_eq_true] at h
    obtain ⟨x, hx, e⟩ := h
    rw [hq x hx] at e
    cases e
end Go.Proofs.YtjglenhhgbokbaaDoor
