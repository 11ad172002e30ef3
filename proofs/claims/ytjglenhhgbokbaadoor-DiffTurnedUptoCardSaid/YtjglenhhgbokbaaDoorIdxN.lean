/-
  slices.IndexFunc over nodes, whatever the closure; the closures that ask for a path. No condition.
-/
import Derived.Test.YtjglenhhgbokbaaDoorTreeA
import Derived.Shelf.SlicesQ.Load
import Derived.Shelf.GgClosure.Gives
import Derived.Deep.LoopGhost
namespace Go.Proofs.YtjglenhhgbokbaaDoor
open Go.RowKit

def idxN (p : NodeP → Bool) (l : List NodeP) : Int := match l.findIdx? p with | some i => (i : Int) | none => -1
theorem idxN_hit {p : NodeP → Bool} {l : List NodeP} {k : Nat} (hk : k < l.length) (hp : p l[k] = true) (hb : ∀ j (hj : j < k), p (l[j]'(by omega)) = false) : idxN p l = k := by
  unfold idxN
  have : l.findIdx? p = some k := by
    rw [List.findIdx?_eq_some_iff_getElem]
    exact ⟨hk, hp, fun j hj => by simp [hb j hj]⟩
  rw [this]
theorem idxN_miss {p : NodeP → Bool} {l : List NodeP} (hb : ∀ j (hj : j < l.length), p (l[j]'hj) = false) : idxN p l = -1 := by
  unfold idxN
  have : l.findIdx? p = none := by
    rw [List.findIdx?_eq_none_iff]
    intro x hx
    obtain ⟨j, hj, rfl⟩ := List.getElem_of_mem hx
    exact hb j hj
  rw [this]
theorem spot_of {w : World} {a : Addr} {v : Value} (h : w.cell? a = some v) : a.spot = none := by
  unfold World.cell? at h
  split at h
  · split at h
    · cases h
    · next hs => simpa using hs
  · cases h
theorem add_step {a : Addr} (h : a.spot = none) (j : Nat) : a.add j = ⟨a.block, a.off + j, none⟩ := by
  obtain ⟨b, o, s⟩ := a
  simp only at h
  subst h
  exact add_flat b o j
/-- a node's cells, as a walk loads them -/
theorem load_node {w : World} {B : Nat} {A : Option Addr} {xs : List NodeV} {n : Nat} (h : Reads w B 12 A n (xs.flatMap nodeC)) {k : Nat} (hk : k < xs.length) (hn : k < n) :
    ∃ ad, A = some ad ∧ ad.block < B ∧ w.cell? (ad.add (k * 12)) = some (.string (bs xs[k].1.path)) ∧
      w.cell? ⟨(ad.add (k * 12)).block, (ad.add (k * 12)).off + 1, none⟩ = some (.int .i64 xs[k].1.kind) ∧
      w.cell? ⟨(ad.add (k * 12)).block, (ad.add (k * 12)).off + 2, none⟩ = some (.int .i64 xs[k].1.same) ∧
      w.cell? ⟨(ad.add (k * 12)).block, (ad.add (k * 12)).off + 3, none⟩ = some (.string (bs xs[k].1.target)) ∧
      w.cell? ⟨(ad.add (k * 12)).block, (ad.add (k * 12)).off + 4, none⟩ = some (.int .i64 xs[k].1.mt.mode) ∧
      w.cell? ⟨(ad.add (k * 12)).block, (ad.add (k * 12)).off + 5, none⟩ = some (.int .i64 xs[k].1.mt.uid) ∧
      w.cell? ⟨(ad.add (k * 12)).block, (ad.add (k * 12)).off + 6, none⟩ = some (.int .i64 xs[k].1.mt.gid) ∧
      w.cell? ⟨(ad.add (k * 12)).block, (ad.add (k * 12)).off + 7, none⟩ = some (.string (bs xs[k].1.mt.user)) ∧
      w.cell? ⟨(ad.add (k * 12)).block, (ad.add (k * 12)).off + 8, none⟩ = some (.string (bs xs[k].1.mt.group)) ∧
      w.cell? ⟨(ad.add (k * 12)).block, (ad.add (k * 12)).off + 9, none⟩ = some (.int .i64 xs[k].1.mt.second) ∧
      w.cell? ⟨(ad.add (k * 12)).block, (ad.add (k * 12)).off + 10, none⟩ = some (.int .i64 xs[k].1.mt.nano) ∧
      w.cell? ⟨(ad.add (k * 12)).block, (ad.add (k * 12)).off + 11, none⟩ = some (xs[k].2) := by
  obtain ⟨ad, e, hb, hc⟩ := h.node_at hk hn
  have h0 := hc 0 (by omega)
  rw [Nat.add_zero] at h0
  have hs := spot_of h0
  have key : ∀ j, j < 12 → w.cell? ⟨(ad.add (k * 12)).block, (ad.add (k * 12)).off + j, none⟩ = (nodeC xs[k])[j]? := fun j hj => by
    rw [← add_step hs, add_of_add]; exact hc j hj
  exact ⟨ad, e, hb, h0, key 1 (by omega), key 2 (by omega), key 3 (by omega), key 4 (by omega), key 5 (by omega), key 6 (by omega), key 7 (by omega), key 8 (by omega), key 9 (by omega), key 10 (by omega), key 11 (by omega)⟩

set_option maxHeartbeats 1000000 in
theorem IdxN_any (g : FuncId) (cb : Array Value) (eg : ∀ args w, (callFunc g args).run Tryd.prog w = .ok (.enter g args) w) (v : Value) (l : List NodeP) (p : NodeP → Bool) (w : World) (hl : NodesAt w v l)
    (hp : ∀ (W : World) (x : NodeV), Below w.heap.size w W → Calls Tryd.prog g (#[.agg (nodeC x).toArray] ++ cb) W fun e w' => e = .returned (.bool (p x.1)) ∧ Below w.heap.size w w') :
    Calls Tryd.prog 31 #[v, .func (.func g) #[] cb] w fun e w' => e = .returned (.int .i64 (idxN p l)) ∧ Below w.heap.size w w' := by
  obtain ⟨xs, A, c, hx, rfl, hlc, hc, hA, hr, _⟩ := hl
  have hxl : xs.length = l.length := by rw [← hx, List.length_map]
  unfold maxLen at hc
  have HX := Lib.hid hx
  clear hx
  go_enter Tryd.func31, Tryd.ntmps31
  go_wp2
  go_loopg [5, 8] l.length (fun gg _ s8 wr => ∃ kk : Nat, kk ≤ l.length ∧ l.length - kk ≤ gg ∧ s8 = .int .i64 kk ∧ Hid (Below w.heap.size w wr) ∧ Hid (∀ j (hj : j < l.length), j < kk → p (l[j]'hj) = false))
  case atStart => exact ⟨0, Nat.zero_le _, by omega, rfl, Below.refl _ w, Lib.hid (fun j _ h => absurd h (Nat.not_lt_zero _))⟩
  case round =>
    obtain ⟨kk, hkk, hg, rfl, BW, HB⟩ := hrel
    by_cases hlt : kk < l.length
    · have hltz : (kk : Int) < (l.length : Int) := by omega
      have hr2 := hr.below BW.out
      obtain ⟨ad, rfl, hb, e0, e1, e2, e3, e4, e5, e6, e7, e8, e9, e10, e11⟩ := load_node hr2 (by omega) hlt
      have hcall := hp wr xs[kk] BW.out
      have hxk : xs[kk].1 = l[kk] := by
        have := HX.out
        subst this
        simp
      have HXK := Lib.hid hxk
      have HP := Lib.hid hp
      clear hp hr2 hxk
      generalize xs[kk] = x at *
      unfold nodeC at hcall
      cases hq : p x.1 with
      | true =>
        rw [hq] at hcall
        have HQ := Lib.hid hq
        clear hq
        go_wp2_with (go_at_fn g; refine hcall.mono ?_; rintro e w' ⟨rfl, hb'⟩)
        go_ret
        exact ⟨ret_int (idxN_hit (p := p) hlt (by rw [← HXK.out]; exact HQ.out) (fun j hj => HB.out j (by omega) hj)).symm, hb'⟩
      | false =>
        rw [hq] at hcall
        have HQ := Lib.hid hq
        clear hq
        go_wp2_with (go_at_fn g; refine hcall.mono ?_; rintro e w' ⟨rfl, hb'⟩)
        go_roundg (l.length - (kk + 1))
        case measure => omega
        case rel =>
          refine ⟨kk + 1, by omega, by omega, by go_num, hb', Lib.hid (fun j hj h => ?_)⟩
          by_cases e : j = kk
          · subst e
            rw [← HXK.out]; exact HQ.out
          · exact HB.out j hj (by omega)
    · have hltz : ¬ (kk : Int) < (l.length : Int) := by omega
      have HF := Lib.hid (idxN_miss (p := p) (fun j hj => HB.out j hj (by omega)))
      go_wp2
      go_ret
      exact ⟨ret_int HF.out.symm, BW.out⟩
end Go.Proofs.YtjglenhhgbokbaaDoor
