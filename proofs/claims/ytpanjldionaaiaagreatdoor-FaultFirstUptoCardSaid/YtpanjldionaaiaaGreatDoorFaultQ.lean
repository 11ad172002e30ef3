/-
  Faults as they lie in a slice; slices.IndexFunc and slices.ContainsFunc over faults; fault.index. No condition.
-/
import Derived.Test.YtpanjldionaaiaaGreatDoorNodesG
import Derived.Test.YtpanjldionaaiaaGreatDoorRecsQ
namespace Go.Proofs.YtpanjldionaaiaaGreatDoor
set_option linter.all false
open Go.RowKit
structure FltP where
  path : List UInt8
  code : Int
def fltC (f : FltP) : List Value := [.string (bs f.path), .int .i64 f.code]
theorem fltC_length (f : FltP) : (fltC f).length = 2 := rfl
def FltsAt (w : World) (v : Value) (l : List FltP) : Prop :=
  ∃ A c, v = .slice A l.length c ∧ l.length ≤ c ∧ c ≤ maxLen ∧ (A = none → c = 0) ∧ Reads w w.heap.size 2 A l.length (l.flatMap fltC)
theorem FltsAt.below {w w' : World} {v : Value} {l : List FltP} (h : FltsAt w v l) (hb : Below w.heap.size w w') : FltsAt w' v l := by
  obtain ⟨A, c, h1, h2, h3, h4, h5⟩ := h
  exact ⟨A, c, h1, h2, h3, h4, (h5.below hb).more hb.size⟩
theorem FltsAt.nil (w : World) : FltsAt w (.slice none 0 0) [] := ⟨none, 0, rfl, by simp, by simp, fun _ => rfl, Reads.none_⟩
theorem Reads.flt_at {w : World} {B : Nat} {A : Option Addr} {l : List FltP} (h : Reads w B 2 A l.length (l.flatMap fltC)) {k : Nat} (hk : k < l.length) :
    ∃ ad, A = some ad ∧ ad.block < B ∧ w.cell? (ad.add (k * 2)) = some (.string (bs l[k].path)) ∧ w.cell? ⟨(ad.add (k * 2)).block, (ad.add (k * 2)).off + 1, none⟩ = some (.int .i64 l[k].code) := by
  obtain ⟨ad, e, hb, hc⟩ := h.2 (by omega)
  have key : ∀ j, j < 2 → (l.flatMap fltC)[k * 2 + j]? = (fltC l[k])[j]? := fun j hj => by
    rw [flat_get fltC_length l k j hj, List.getElem?_eq_getElem hk]; rfl
  have h0 := hc (k * 2) _ (by have := key 0 (by omega); exact this)
  have h1 := hc _ _ (key 1 (by omega))
  have hs := spot_of h0
  refine ⟨ad, e, hb, h0, ?_⟩
  rw [← add_step hs, add_of_add]; exact h1
def idxF (p : FltP → Bool) (l : List FltP) : Int := match l.findIdx? p with | some i => (i : Int) | none => -1
theorem idxF_hit {p : FltP → Bool} {l : List FltP} {k : Nat} (hk : k < l.length) (hp : p l[k] = true) (hb : ∀ j (hj : j < k), p (l[j]'(by omega)) = false) : idxF p l = k := by
  unfold idxF
  have : l.findIdx? p = some k := by
    rw [List.findIdx?_eq_some_iff_getElem]
    exact ⟨hk, hp, fun j hj => by simp [hb j hj]⟩
  rw [this]
theorem idxF_miss {p : FltP → Bool} {l : List FltP} (hb : ∀ j (hj : j < l.length), p (l[j]'hj) = false) : idxF p l = -1 := by
  unfold idxF
  have : l.findIdx? p = none := by
    rw [List.findIdx?_eq_none_iff]
    intro x hx
    obtain ⟨j, hj, rfl⟩ := List.getElem_of_mem hx
    simp [hb j hj]
  rw [this]
set_option maxHeartbeats 1000000 in
theorem IdxF_any (g : FuncId) (cb : Array Value) (eg : ∀ args w, (callFunc g args).run Tryz.prog w = .ok (.enter g args) w) (v : Value) (l : List FltP) (p : FltP → Bool) (w : World) (hl : FltsAt w v l)
    (hp : ∀ (W : World) (x : FltP), Below w.heap.size w W → Calls Tryz.prog g (#[.agg #[.string (bs x.path), .int .i64 x.code]] ++ cb) W fun e w' => e = .returned (.bool (p x)) ∧ Below w.heap.size w w') :
    Calls Tryz.prog 55 #[v, .func (.func g) #[] cb] w fun e w' => e = .returned (.int .i64 (idxF p l)) ∧ Below w.heap.size w w' := by
  obtain ⟨A, c, rfl, hlc, hc, hA, hr⟩ := hl
  unfold maxLen at hc
  have HR := Lib.hid hr
  have HP := Lib.hid hp
  clear hr hp hA
  go_enter Tryz.func55, Tryz.ntmps55
  go_wp2
  go_loopg [5, 8] l.length (fun gg _ s8 wr => ∃ kk : Nat, kk ≤ l.length ∧ l.length - kk ≤ gg ∧ s8 = .int .i64 kk ∧ Hid (Below w.heap.size w wr) ∧ Hid (∀ j (hj : j < l.length), j < kk → p (l[j]'hj) = false))
  case atStart => exact ⟨0, Nat.zero_le _, by omega, rfl, Below.refl _ w, Lib.hid (fun j _ h => absurd h (Nat.not_lt_zero _))⟩
  case round =>
    obtain ⟨kk, hkk, hg, rfl, BW, HB⟩ := hrel
    by_cases hlt : kk < l.length
    · have hltz : (kk : Int) < (l.length : Int) := by omega
      obtain ⟨ad, rfl, hb, e0, e1⟩ := (HR.out.below BW.out).flt_at hlt
      have hcall := HP.out wr l[kk] BW.out
      cases hq : p l[kk] with
      | true =>
        rw [hq] at hcall
        have HQ := Lib.hid hq
        clear hq
        generalize bs l[kk].path = bx at *
        generalize l[kk].code = cx at *
        go_wp2_with (go_at_fn g; refine hcall.mono ?_; rintro e w' ⟨rfl, hb'⟩)
        go_ret
        exact ⟨ret_int (idxF_hit (p := p) hlt HQ.out (fun j hj => HB.out j (by omega) hj)).symm, hb'⟩
      | false =>
        rw [hq] at hcall
        have HQ := Lib.hid hq
        clear hq
        generalize bs l[kk].path = bx at *
        generalize l[kk].code = cx at *
        go_wp2_with (go_at_fn g; refine hcall.mono ?_; rintro e w' ⟨rfl, hb'⟩)
        go_roundg (l.length - (kk + 1))
        case measure => omega
        case rel =>
          refine ⟨kk + 1, by omega, by omega, by go_num, hb', Lib.hid (fun j hj h => ?_)⟩
          by_cases e : j = kk
          · subst e
            exact HQ.out
          · exact HB.out j hj (by omega)
    · have hltz : ¬ (kk : Int) < (l.length : Int) := by omega
      have HF := Lib.hid (idxF_miss (p := p) (fun j hj => HB.out j hj (by omega)))
      go_wp2
      go_ret
      exact ⟨ret_int HF.out.symm, BW.out⟩
set_option maxHeartbeats 400000 in
theorem HasF_any (g : FuncId) (cb : Array Value) (eg : ∀ args w, (callFunc g args).run Tryz.prog w = .ok (.enter g args) w) (v : Value) (l : List FltP) (p : FltP → Bool) (w : World) (hl : FltsAt w v l)
    (hp : ∀ (W : World) (x : FltP), Below w.heap.size w W → Calls Tryz.prog g (#[.agg #[.string (bs x.path), .int .i64 x.code]] ++ cb) W fun e w' => e = .returned (.bool (p x)) ∧ Below w.heap.size w w') :
    Calls Tryz.prog 15 #[v, .func (.func g) #[] cb] w fun e w' => e = .returned (.bool (decide (0 ≤ idxF p l))) ∧ Below w.heap.size w w' := by
  have HI := Lib.hid (IdxF_any g cb eg v l p w hl hp)
  clear hp
  generalize idxF p l = r at *
  go_enter Tryz.func15, Tryz.ntmps15
  go_wp2_with fail
  refine HI.out.mono ?_
  rintro e w' ⟨rfl, hb⟩
  go_wp2_with fail
  go_ret
  exact ⟨rfl, hb⟩
theorem bs_eqF (a b : List UInt8) : ((bs a).toList == (bs b).toList) = (a == b) := by rw [ByteArray.toList_eq, ByteArray.toList_eq, bs_data, bs_data]
set_option maxHeartbeats 400000 in
theorem findex1_any (x : FltP) (s : List UInt8) (g : Nat) (w : World) (hlt : g < w.heap.size) (hc : w.cell? ⟨g, 0, none⟩ = some (.string (bs s))) :
    Calls Tryz.prog 96 #[.agg #[.string (bs x.path), .int .i64 x.code], .pointer (some ⟨g, 0, none⟩)] w fun e w' => e = .returned (.bool (x.path == s)) ∧ Below w.heap.size w w' := by
  have HE := Lib.hid (bs_eqF x.path s)
  have hc2 : (w.alloc (.cells #[.string (bs x.path), .int .i64 x.code] 32)).cell? ⟨g, 0, none⟩ = some (.string (bs s)) := (((Below.refl _ w).alloc (Nat.le_refl _) _).cell (p := ⟨g, 0, none⟩) hlt).trans hc
  have hn := (Blk.new w 32 #[.string (bs x.path), .int .i64 x.code]).cell 0
  generalize bs x.path = bx at *
  generalize bs s = b2 at *
  generalize x.code = cx at *
  rw [← HE.out]
  go_enter Tryz.func96, Tryz.ntmps96
  go_wp2_with fail
  go_ret
  exact ⟨rfl, (Below.refl _ w).alloc (Nat.le_refl _) _⟩
theorem eg_findex : ∀ args w, (callFunc 96 args).run Tryz.prog w = .ok (.enter 96 args) w := enters_of Tryz.func96 (by kernel_rfl) rfl
def idxP (l : List FltP) (s : List UInt8) : Int := idxF (fun x => x.path == s) l
set_option maxHeartbeats 400000 in
theorem FIndex_any (v : Value) (l : List FltP) (s : List UInt8) (w : World) (hl : FltsAt w v l) :
    Calls Tryz.prog 54 #[v, .string (bs s)] w fun e w' => e = .returned (.int .i64 (idxP l s)) ∧ Below w.heap.size w w' := by
  obtain ⟨W1, hW1⟩ : ∃ W1, W1 = w.alloc (.cells #[.string (bs s)] 9) := ⟨_, rfl⟩
  obtain ⟨g, hg⟩ : ∃ g, g = w.heap.size := ⟨_, rfl⟩
  have hb1 : Below w.heap.size w W1 := by rw [hW1]; exact (Below.refl _ _).alloc (Nat.le_refl _) _
  have hk1 : Blk W1 g 9 #[.string (bs s)] := by rw [hW1, hg]; exact Blk.new _ _ _
  have HI := Lib.hid (IdxF_any 96 #[.pointer (some ⟨g, 0, none⟩)] eg_findex v l (fun x => x.path == s) W1 (hl.below hb1) (fun W x hb => (findex1_any x s g W (hk1.below hb hk1.lt).lt ((hk1.below hb hk1.lt).cell 0)).mono fun e w' ⟨h1, h2⟩ => ⟨h1, hb.trans (h2.mono hb.size)⟩))
  have HB1 := Lib.hid hb1
  obtain ⟨A, c, rfl, -⟩ := hl
  change Hid (Calls _ _ _ _ fun e w' => e = .returned (.int .i64 (idxP l s)) ∧ _) at HI
  generalize idxP l s = r at *
  clear hb1 hk1
  go_enter Tryz.func54, Tryz.ntmps54
  go_upto_region 1 with fail
  rw [← hW1, ← hg]
  clear hW1 hg
  go_wp2_with fail
  refine HI.out.mono ?_
  rintro e w' ⟨rfl, hb⟩
  go_wp2_with fail
  go_ret
  exact ⟨rfl, HB1.out.trans (hb.mono HB1.out.size)⟩
set_option maxHeartbeats 400000 in
theorem fof1_any (x : FltP) (s : List UInt8) (g : Nat) (w : World) (hlt : g < w.heap.size) (hc : w.cell? ⟨g, 0, none⟩ = some (.string (bs s))) :
    Calls Tryz.prog 51 #[.agg #[.string (bs x.path), .int .i64 x.code], .pointer (some ⟨g, 0, none⟩)] w fun e w' => e = .returned (.bool (x.path == s)) ∧ Below w.heap.size w w' := by
  have HE := Lib.hid (bs_eqF x.path s)
  have hc2 : (w.alloc (.cells #[.string (bs x.path), .int .i64 x.code] 32)).cell? ⟨g, 0, none⟩ = some (.string (bs s)) := (((Below.refl _ w).alloc (Nat.le_refl _) _).cell (p := ⟨g, 0, none⟩) hlt).trans hc
  have hn := (Blk.new w 32 #[.string (bs x.path), .int .i64 x.code]).cell 0
  generalize bs x.path = bx at *
  generalize bs s = b2 at *
  generalize x.code = cx at *
  rw [← HE.out]
  go_enter Tryz.func51, Tryz.ntmps51
  go_wp2_with fail
  go_ret
  exact ⟨rfl, (Below.refl _ w).alloc (Nat.le_refl _) _⟩
theorem eg_fof : ∀ args w, (callFunc 51 args).run Tryz.prog w = .ok (.enter 51 args) w := enters_of Tryz.func51 (by kernel_rfl) rfl
end Go.Proofs.YtpanjldionaaiaaGreatDoor
