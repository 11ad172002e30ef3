/-
  slices.IndexFunc and slices.ContainsFunc over members, whatever the closure; FaultFirst's closures. No condition.
-/
import Derived.Test.YtpanjldionaaiaaGreatDoorFaultF
namespace Go.Proofs.YtpanjldionaaiaaGreatDoor
set_option linter.all false
open Go.RowKit
def idxE (p : EntP → Bool) (l : List EntP) : Int := match l.findIdx? p with | some i => (i : Int) | none => -1
theorem idxE_hit {p : EntP → Bool} {l : List EntP} {k : Nat} (hk : k < l.length) (hp : p l[k] = true) (hb : ∀ j (hj : j < k), p (l[j]'(by omega)) = false) : idxE p l = k := by
  unfold idxE
  have : l.findIdx? p = some k := by
    rw [List.findIdx?_eq_some_iff_getElem]
    exact ⟨hk, hp, fun j hj => by simp [hb j hj]⟩
  rw [this]
theorem idxE_miss {p : EntP → Bool} {l : List EntP} (hb : ∀ j (hj : j < l.length), p (l[j]'hj) = false) : idxE p l = -1 := by
  unfold idxE
  have : l.findIdx? p = none := by
    rw [List.findIdx?_eq_none_iff]
    intro x hx
    obtain ⟨j, hj, rfl⟩ := List.getElem_of_mem hx
    simp [hb j hj]
  rw [this]
set_option maxHeartbeats 1000000 in
theorem IdxE_any (g : FuncId) (cb : Array Value) (eg : ∀ args w, (callFunc g args).run Tryz.prog w = .ok (.enter g args) w) (v : Value) (l : List EntP) (xs : List EntV) (p : EntP → Bool) (w : World) (hl : EntsAt w v l xs)
    (hp : ∀ (W : World) (x : EntP) (A : Option Addr) (n c : Nat), Below w.heap.size w W → Calls Tryz.prog g (#[.agg (entC x (.slice A n c)).toArray] ++ cb) W fun e w' => e = .returned (.bool (p x)) ∧ Below w.heap.size w w') :
    Calls Tryz.prog 56 #[v, .func (.func g) #[] cb] w fun e w' => e = .returned (.int .i64 (idxE p l)) ∧ Below w.heap.size w w' := by
  have HX := Lib.hid hl
  obtain ⟨A, c, -, rfl, hlc, hc, -, -⟩ := hl
  unfold maxLen at hc
  have HP := Lib.hid hp
  clear hp
  go_enter Tryz.func56, Tryz.ntmps56
  go_wp2
  go_loopg [5, 8] l.length (fun gg _ s8 wr => ∃ kk : Nat, kk ≤ l.length ∧ l.length - kk ≤ gg ∧ s8 = .int .i64 kk ∧ Hid (Below w.heap.size w wr) ∧ Hid (∀ j (hj : j < l.length), j < kk → p (l[j]'hj) = false))
  case atStart => exact ⟨0, Nat.zero_le _, by omega, rfl, Below.refl _ w, Lib.hid (fun j _ h => absurd h (Nat.not_lt_zero _))⟩
  case round =>
    obtain ⟨kk, hkk, hg, rfl, BW, HB⟩ := hrel
    by_cases hlt : kk < l.length
    · have hltz : (kk : Int) < (l.length : Int) := by omega
      obtain ⟨ad, -, Ax, cx, hA, hb, -, -, e0, e1, e2, e3, e4, e5, e6, e7, e8, e9, e10⟩ := (HX.out.below BW.out).read hlt
      subst hA
      have hcall := HP.out wr l[kk] Ax l[kk].data.length cx BW.out
      cases hq : p l[kk] with
      | true =>
        rw [hq] at hcall
        have HH := Lib.hid (idxE_hit (p := p) hlt hq (fun j hj => HB.out j (by omega) hj))
        clear hq
        generalize l[kk] = y at *
        obtain ⟨xp, xk, xt, ⟨m1, m2, m3, m4, m5, m6, m7⟩, xd⟩ := y
        unfold entC at hcall
        simp only at hcall e0 e1 e2 e3 e4 e5 e6 e7 e8 e9 e10
        go_wp2_with (go_at_fn g; refine hcall.mono ?_; rintro e w' ⟨rfl, hb'⟩)
        go_ret
        exact ⟨ret_int HH.out.symm, hb'⟩
      | false =>
        rw [hq] at hcall
        have HQ : Hid (∀ j (hj : j < l.length), j < kk + 1 → p (l[j]'hj) = false) := Lib.hid (fun j hj h => by
          by_cases e : j = kk
          · subst e
            exact hq
          · exact HB.out j hj (by omega))
        clear hq
        generalize l[kk] = y at *
        obtain ⟨xp, xk, xt, ⟨m1, m2, m3, m4, m5, m6, m7⟩, xd⟩ := y
        unfold entC at hcall
        simp only at hcall e0 e1 e2 e3 e4 e5 e6 e7 e8 e9 e10
        go_wp2_with (go_at_fn g; refine hcall.mono ?_; rintro e w' ⟨rfl, hb'⟩)
        go_roundg (l.length - (kk + 1))
        case measure => omega
        case rel => exact ⟨kk + 1, by omega, by omega, by go_num, hb', HQ⟩
    · have hltz : ¬ (kk : Int) < (l.length : Int) := by omega
      have HF := Lib.hid (idxE_miss (p := p) (fun j hj => HB.out j hj (by omega)))
      go_wp2
      go_ret
      exact ⟨ret_int HF.out.symm, BW.out⟩
set_option maxHeartbeats 400000 in
theorem HasE_any (g : FuncId) (cb : Array Value) (eg : ∀ args w, (callFunc g args).run Tryz.prog w = .ok (.enter g args) w) (v : Value) (l : List EntP) (xs : List EntV) (p : EntP → Bool) (w : World) (hl : EntsAt w v l xs)
    (hp : ∀ (W : World) (x : EntP) (A : Option Addr) (n c : Nat), Below w.heap.size w W → Calls Tryz.prog g (#[.agg (entC x (.slice A n c)).toArray] ++ cb) W fun e w' => e = .returned (.bool (p x)) ∧ Below w.heap.size w w') :
    Calls Tryz.prog 17 #[v, .func (.func g) #[] cb] w fun e w' => e = .returned (.bool (decide (0 ≤ idxE p l))) ∧ Below w.heap.size w w' := by
  have HI := Lib.hid (IdxE_any g cb eg v l xs p w hl hp)
  clear hp
  generalize idxE p l = r at *
  go_enter Tryz.func17, Tryz.ntmps17
  go_wp2_with fail
  refine HI.out.mono ?_
  rintro e w' ⟨rfl, hb⟩
  go_wp2_with fail
  go_ret
  exact ⟨rfl, hb⟩
set_option maxHeartbeats 400000 in
theorem ffq_any (x : FltP) (s : List UInt8) (g : Nat) (w : World) (hlt : g < w.heap.size) (hc : w.cell? ⟨g, 0, none⟩ = some (.string (bs s))) :
    Calls Tryz.prog 16 #[.agg #[.string (bs x.path), .int .i64 x.code], .pointer (some ⟨g, 0, none⟩)] w fun e w' => e = .returned (.bool (x.path == s)) ∧ Below w.heap.size w w' := by
  have HE := Lib.hid (bs_eqF x.path s)
  have hc2 : (w.alloc (.cells #[.string (bs x.path), .int .i64 x.code] 32)).cell? ⟨g, 0, none⟩ = some (.string (bs s)) := (((Below.refl _ w).alloc (Nat.le_refl _) _).cell (p := ⟨g, 0, none⟩) hlt).trans hc
  have hn := (Blk.new w 32 #[.string (bs x.path), .int .i64 x.code]).cell 0
  generalize bs x.path = bx at *
  generalize bs s = b2 at *
  generalize x.code = cx at *
  rw [← HE.out]
  go_enter Tryz.func16, Tryz.ntmps16
  go_wp2_with fail
  go_ret
  exact ⟨rfl, (Below.refl _ w).alloc (Nat.le_refl _) _⟩
theorem eg_ffq : ∀ args w, (callFunc 16 args).run Tryz.prog w = .ok (.enter 16 args) w := enters_of Tryz.func16 (by kernel_rfl) rfl
theorem eg_ffp : ∀ args w, (callFunc 14 args).run Tryz.prog w = .ok (.enter 14 args) w := enters_of Tryz.func14 (by kernel_rfl) rfl
set_option maxRecDepth 100000 in
set_option maxHeartbeats 1000000 in
/-- has: is a member a file that has a fault? -/
theorem ffp_any (x : EntP) (Ax : Option Addr) (n cx : Nat) (g : Nat) (fv : Value) (l : List FltP) (w : World) (hlt : g < w.heap.size) (hc : w.cell? ⟨g, 0, none⟩ = some fv) (hl : FltsAt w fv l) :
    Calls Tryz.prog 14 #[.agg (entC x (.slice Ax n cx)).toArray, .pointer (some ⟨g, 0, none⟩)] w fun e w' => e = .returned (.bool (hasF l x)) ∧ Below w.heap.size w w' := by
  obtain ⟨xp, xk, xt, ⟨m1, m2, m3, m4, m5, m6, m7⟩, xd⟩ := x
  obtain ⟨W1, hW1⟩ : ∃ W1, W1 = w.alloc (.cells #[(.string (bs xp)), (.int .i64 xk), (.string (bs xt)), (.int .i64 m1), (.int .i64 m2), (.int .i64 m3), (.string (bs m4)), (.string (bs m5)), (.int .i64 m6), (.int .i64 m7), (.slice Ax n cx)] 40) := ⟨_, rfl⟩
  obtain ⟨g1, hg1⟩ : ∃ g1, g1 = w.heap.size := ⟨_, rfl⟩
  have hb1 : Below w.heap.size w W1 := by rw [hW1]; exact (Below.refl _ _).alloc (Nat.le_refl _) _
  have hk1 : Blk W1 g1 40 #[(.string (bs xp)), (.int .i64 xk), (.string (bs xt)), (.int .i64 m1), (.int .i64 m2), (.int .i64 m3), (.string (bs m4)), (.string (bs m5)), (.int .i64 m6), (.int .i64 m7), (.slice Ax n cx)] := by rw [hW1, hg1]; exact Blk.new _ _ _
  have HI := Lib.hid (HasF_any 16 #[.pointer (some ⟨g1, 0, none⟩)] eg_ffq fv l (fun y => y.path == xp) W1 (hl.below hb1) (fun W y hb => (ffq_any y xp g1 W (hk1.below hb hk1.lt).lt ((hk1.below hb hk1.lt).cell 0)).mono fun e w' ⟨h1, h2⟩ => ⟨h1, hb.trans (h2.mono hb.size)⟩))
  have HB1 := Lib.hid hb1
  have p1 : W1.cell? ⟨g1, 1, none⟩ = some (.int .i64 xk) := hk1.cell 1
  have p2 : W1.cell? ⟨g, 0, none⟩ = some fv := (hb1.cell (p := ⟨g, 0, none⟩) hlt).trans hc
  have HR : Hid (hasF l ⟨xp, xk, xt, ⟨m1, m2, m3, m4, m5, m6, m7⟩, xd⟩ = (xk == 1 && decide (0 ≤ idxP l xp))) := Lib.hid rfl
  obtain ⟨A, c, rfl, -⟩ := hl
  rw [HR.out]
  change Hid (Calls _ _ _ _ fun e w' => e = .returned (.bool (decide (0 ≤ idxP l xp))) ∧ _) at HI
  generalize decide (0 ≤ idxP l xp) = r at *
  clear HR hb1 hk1
  unfold entC
  simp only
  by_cases hx : xk = 1
  · have q1 : (xk == 1) = true := by simpa using hx
    rw [q1]
    clear hx
    go_enter Tryz.func14, Tryz.ntmps14
    go_upto_region 1 with fail
    rw [← hW1, ← hg1]
    clear hW1 hg1
    go_wp2_with fail
    refine HI.out.mono ?_
    rintro e w' ⟨rfl, hb⟩
    go_wp2_with fail
    go_ret
    exact ⟨by rw [Bool.true_and]; rfl, HB1.out.trans (hb.mono HB1.out.size)⟩
  · have q1 : (xk == 1) = false := by simpa using hx
    rw [q1]
    clear hx
    go_enter Tryz.func14, Tryz.ntmps14
    go_upto_region 1 with fail
    rw [← hW1, ← hg1]
    clear hW1 hg1
    go_wp2_with fail
    go_ret
    exact ⟨by rw [Bool.false_and]; rfl, HB1.out⟩
end Go.Proofs.YtpanjldionaaiaaGreatDoor
