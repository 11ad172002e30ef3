/-
  fault.First: the first member that has a fault. Condition: members and faults that may be.
-/
import Derived.Test.YtpanjldionaaiaaGreatDoorFaultC
import Derived.Test.YtpanjldionaaiaaGreatDoorPChecksS
namespace Go.Proofs.YtpanjldionaaiaaGreatDoor
set_option linter.all false
open Go.RowKit
theorem results_cell3 {P : Program} {fn : Func} {p u v : Tmp} {ty : TypeId} (h : fn.results = #[.cell p ty, .tmp u, .tmp v]) (tmps : Array Value) (w : World) (g : Nat) (t : TypeId) (cs : Array Value) (fr : Nat × Nat) (d : TypeDesc)
    (hp : tmps.getD p undef = .pointer (some ⟨g, 0, none⟩)) (hg : w.heap[g]? = some (.cells cs t fr))
    (hu : P.underlying ty = some d) (hd : (match d with | .struct _ | .array _ _ => true | _ => false) = true) (hi : (P.info? ty).map (·.size) = some cs.size) :
    (results fn tmps).run P w = .ok (.tuple #[.agg cs, tmps.getD u undef, tmps.getD v undef]) w := by
  have hp' : tmps[p]?.getD undef = .pointer (some ⟨g, 0, none⟩) := by simpa using hp
  simp [results, h, hp', asAddr, run_loadVar_row w g t ty cs fr d hg hu hd hi]
theorem idxP_hit {l : List FltP} {s : List UInt8} (h : 0 ≤ idxP l s) : ∃ m, ∃ hm : m < l.length, idxP l s = (m : Int) ∧ l[m].path = s := by
  unfold idxP idxF at *
  cases hf : l.findIdx? (fun x => x.path == s) with
  | none => rw [hf] at h; simp at h
  | some m =>
    rw [List.findIdx?_eq_some_iff_getElem] at hf
    obtain ⟨h1, h2, -⟩ := hf
    exact ⟨m, h1, rfl, by simpa using h2⟩
theorem FltsAt.read {w : World} {A : Option Addr} {n c : Nat} {l : List FltP} (h : FltsAt w (.slice A n c) l) {k : Nat} (hk : k < l.length) :
    ∃ ad, A = some ad ∧ ad.block < w.heap.size ∧ w.cell? (ad.add (k * 2)) = some (.string (bs l[k].path)) ∧ w.cell? ⟨(ad.add (k * 2)).block, (ad.add (k * 2)).off + 1, none⟩ = some (.int .i64 l[k].code) := by
  obtain ⟨A', c', h1, h2, h3, h4, h5⟩ := h
  injection h1 with e1 e2 e3
  subst e1
  exact h5.flt_at hk
def hasF (l : List FltP) (y : EntP) : Bool := y.kind == 1 && decide (0 ≤ idxP l y.path)
def FFPost (x : List EntP) (l : List FltP) (w : World) (e : Ending) (w' : World) : Prop := Below w.heap.size w w' ∧ match x.findIdx? (hasF l) with
  | some i => ∃ f : FltP, (x[i]?).map (·.path) = some f.path ∧ e = .returned (.tuple #[.agg (fltC f).toArray, .int .i64 i, .int .i64 0])
  | none => e = .returned (.tuple #[.agg #[.string ⟨#[]⟩, .int .i64 0], .int .i64 0, .int .i64 5])
theorem ff_hit {x : List EntP} {l : List FltP} {k : Nat} (hk : k < x.length) (h : ∀ j (hj : j < x.length), j < k → hasF l x[j] = false) (e : hasF l x[k] = true) : x.findIdx? (hasF l) = some k := by
  rw [List.findIdx?_eq_some_iff_getElem]
  exact ⟨hk, e, fun j hj => by simp [h j (by omega) hj]⟩
theorem ff_miss {x : List EntP} {l : List FltP} (h : ∀ j (hj : j < x.length), j < x.length → hasF l x[j] = false) : x.findIdx? (hasF l) = none := by
  rw [List.findIdx?_eq_none_iff]
  intro y hy
  obtain ⟨j, hj, rfl⟩ := List.getElem_of_mem hy
  simpa using h j hj hj
def FfSt (w0 : World) (W : World) : Prop := Blk W w0.heap.size 32 #[.string ⟨#[]⟩, .int .i64 0] ∧ Below w0.heap.size w0 W
theorem FfSt.below {w0 W W' : World} (h : FfSt w0 W) (hb : Below W.heap.size W W') : FfSt w0 W' := ⟨h.1.below hb h.1.lt, h.2.trans (hb.mono h.2.size)⟩
set_option maxRecDepth 100000 in
set_option maxHeartbeats 4000000 in
theorem FFirst_ok (v1 v2 : Value) (x : List EntP) (xs : List EntV) (l : List FltP) (w : World) (hm : ∀ W, Below w.heap.size w W → ML W) (hx : EntsAt w v1 x xs) (hok : EntsOk x) (hl : FltsAt w v2 l) (hfo : FltOk l) :
    Calls Tryz.prog 13 #[v1, v2] w fun e w' => FFPost x l w e w' := by
  have HCX := Lib.hid (fun W (hb : Below w.heap.size w W) => PCheck_ok v1 x xs W (fun W' hb' => hm W' (hb.trans (hb'.mono hb.size))) (hx.below hb) hok)
  have HCF := Lib.hid (fun W (hb : Below w.heap.size w W) => FCk_ok v2 l W (fun W' hb' => hm W' (hb.trans (hb'.mono hb.size))) (hl.below hb) hfo)
  have HIX := Lib.hid (fun W (hb : Below w.heap.size w W) s => FIndex_any v2 l s W (hl.below hb))
  have HX := Lib.hid hx
  have HLV := Lib.hid hl
  have hxl := hok.len
  have hll := hfo.len
  obtain ⟨A1, c1, -, rfl, hc11, hc12, -, -⟩ := hx
  obtain ⟨A2, c2, rfl, hc21, hc22, -, -⟩ := hl
  unfold maxLen at hc12 hc22
  clear hm hok hfo
  obtain ⟨w0, hw0⟩ : ∃ w0, w0 = w.alloc (.cells #[.string ⟨#[]⟩, .int .i64 0] 32) := ⟨_, rfl⟩
  have HS : Hid (FfSt w w0) := Lib.hid ⟨by rw [hw0]; exact Blk.new _ _ _, by rw [hw0]; exact (Below.refl _ _).alloc (Nat.le_refl _) _⟩
  go_enter Tryz.func13, Tryz.ntmps13
  go_upto_region 1 with fail
  rw [← hw0]
  clear hw0
  go_wp2_with fail
  refine (HCX.out _ HS.out.2).mono ?_
  rintro e w1 ⟨rfl, b1⟩
  have HS1 := Lib.hid (HS.out.below b1)
  clear b1 HS HCX
  go_wp2_with fail
  refine (HCF.out _ HS1.out.2).mono ?_
  rintro e w2 ⟨rfl, b2⟩
  have HS2 := Lib.hid (HS1.out.below b2)
  clear b2 HS1 HCF
  go_wp2_with fail
  go_loopg [9, 10, 11, 26] x.length (fun gg s9 s10 s11 s26 wr => ∃ k : Nat, k ≤ x.length ∧ x.length - k ≤ gg ∧ s26 = .int .i64 k ∧ Hid (FfSt w wr) ∧ Hid (∀ j (hj : j < x.length), j < k → hasF l x[j] = false))
  case atStart => exact ⟨0, Nat.zero_le _, by omega, rfl, HS2, Lib.hid (fun j hj h => absurd h (Nat.not_lt_zero _))⟩
  case round =>
    obtain ⟨k, hk, hg, rfl, HF, HN⟩ := hrel
    clear HS2
    by_cases hlt : k < x.length
    · have hltz : (k : Int) < (x.length : Int) := by omega
      have i1 : (0 : Int) ≤ (k : Int) := by omega
      obtain ⟨ad, -, Ax, cx, hA, hb, -, -, e0, e1, e2, e3, e4, e5, e6, e7, e8, e9, e10⟩ := (HX.out.below HF.out.2).read hlt
      subst hA
      have HHIT := Lib.hid (fun e => ff_hit hlt HN.out e)
      have HNX : Hid (hasF l x[k] = false → ∀ j (hj : j < x.length), j < k + 1 → hasF l x[j] = false) := Lib.hid (fun h j hj hjk => by
        by_cases e : j = k
        · subst e; exact h
        · exact HN.out j hj (by omega))
      have HXK : Hid ((x[k]?).map (·.path) = some x[k].path) := Lib.hid (by rw [List.getElem?_eq_getElem hlt]; rfl)
      clear HN
      generalize x[k] = y at *
      obtain ⟨xp, xk, xt, ⟨m1, m2, m3, m4, m5, m6, m7⟩, xd⟩ := y
      simp only at HXK e0 e1 e2 e3 e4 e5 e6 e7 e8 e9 e10
      change Hid ((xk == 1 && decide (0 ≤ idxP l xp)) = true → _) at HHIT
      change Hid ((xk == 1 && decide (0 ≤ idxP l xp)) = false → _) at HNX
      obtain ⟨W2, hW2⟩ : ∃ W2, W2 = wr.alloc (.cells #[(.string (bs xp)), (.int .i64 xk), (.string (bs xt)), (.int .i64 m1), (.int .i64 m2), (.int .i64 m3), (.string (bs m4)), (.string (bs m5)), (.int .i64 m6), (.int .i64 m7), (.slice Ax xd.length cx)] 40) := ⟨_, rfl⟩
      obtain ⟨g9, hg9⟩ : ∃ g9, g9 = wr.heap.size := ⟨_, rfl⟩
      have b2 : Below wr.heap.size wr W2 := by rw [hW2]; exact (Below.refl _ _).alloc (Nat.le_refl _) _
      have HK9 : Hid (Blk W2 g9 40 #[(.string (bs xp)), (.int .i64 xk), (.string (bs xt)), (.int .i64 m1), (.int .i64 m2), (.int .i64 m3), (.string (bs m4)), (.string (bs m5)), (.int .i64 m6), (.int .i64 m7), (.slice Ax xd.length cx)]) := Lib.hid (by rw [hW2, hg9]; exact Blk.new _ _ _)
      have HF2 := Lib.hid (HF.out.below b2)
      clear b2 HF
      go_upto_region 10 with fail
      rw [← hW2, ← hg9]
      clear hW2 hg9 e0 e1 e2 e3 e4 e5 e6 e7 e8 e9 e10
      have p0 := HK9.out.cell 0
      go_wp2_with fail
      refine (HIX.out _ HF2.out.2 xp).mono ?_
      rintro e w3 ⟨rfl, b3⟩
      have HF3 := Lib.hid (HF2.out.below b3)
      have p1 : w3.cell? ⟨g9, 1, none⟩ = some (.int .i64 xk) := (HK9.out.below b3 HK9.out.lt).cell 1
      clear b3 p0 HK9 HF2
      have HIH := Lib.hid (fun h => idxP_hit (l := l) (s := xp) h)
      generalize idxP l xp = q at *
      by_cases hq : 0 ≤ q
      · obtain ⟨mm, hmm, rfl, hmp⟩ := HIH.out hq
        have q1 : decide ((0 : Int) ≤ (mm : Int)) = true := decide_eq_true hq
        by_cases hk1 : xk = 1
        · have q2 : (xk == 1) = true := by simpa using hk1
          have HE := Lib.hid (HHIT.out (by rw [q2, q1]; rfl))
          obtain ⟨ad2, rfl, hb2, f0, f1⟩ := (HLV.out.below HF3.out.2).read hmm
          have HP : Hid ((x[k]?).map (·.path) = some l[mm].path) := Lib.hid (by rw [HXK.out, hmp])
          generalize l[mm] = f at *
          obtain ⟨fp, fc⟩ := f
          simp only at f0 f1 HP
          have z0 : w3.cell? ⟨w.heap.size, 0, none⟩ = some (.string ⟨#[]⟩) := HF3.out.1.cell 0
          have z1 : w3.cell? ⟨w.heap.size, 1, none⟩ = some (.int .i64 0) := HF3.out.1.cell 1
          have y0 := HF3.out.1.frozen 0
          have y1 := HF3.out.1.frozen 1
          have hmz : (mm : Int) < (l.length : Int) := by omega
          have hm0 : (0 : Int) ≤ (mm : Int) := by omega
          clear HHIT HNX HXK HIH hmp hq
          go_wp2_with fail
          clear p1 f0 f1 z0 z1 y0 y1
          have hHB : HasBlk w3 w.heap.size 32 2 := ⟨_, rfl, HF3.out.1⟩
          obtain ⟨WE, hWE⟩ : ∃ WE, WE = setAll w3 w.heap.size 0 [(.string (bs fp)), (.int .i64 fc)] := ⟨_, rfl⟩
          have hk := hHB.fill [(.string (bs fp)), (.int .i64 fc)] rfl
          have hBE := Below.setAll (B := w.heap.size) (g := w.heap.size) (Nat.le_refl _) [(.string (bs fp)), (.int .i64 fc)] 0 HF3.out.2
          rw [← hWE] at hk hBE
          simp only [setAll, Nat.zero_add, Nat.reduceAdd] at hWE
          rw [← hWE]
          clear hWE hHB
          (try simp only [Exit.inBlock, Exit.then])
          refine bodyPost_ret (results_cell3 rfl _ _ w.heap.size 32 _ (0, 0) _ rfl hk Tryz.underlying32 rfl (by kernel_rfl)) rfl ?_
          unfold FFPost
          rw [HE.out]
          exact ⟨hBE, ⟨fp, fc⟩, HP.out, rfl⟩
        · have q2 : (xk == 1) = false := by simpa using hk1
          have HE := Lib.hid (HNX.out (by rw [q2]; rfl))
          clear HHIT HNX HXK HIH hmp hq hk1
          go_wp2_with fail
          go_roundg (x.length - (k + 1))
          case measure => omega
          case rel => exact ⟨k + 1, by omega, by omega, by go_num, HF3, HE⟩
      · have q1 : decide ((0 : Int) ≤ q) = false := decide_eq_false hq
        have HE := Lib.hid (HNX.out (by rw [q1, Bool.and_false]))
        clear HHIT HNX HXK HIH
        go_wp2_with fail
        go_roundg (x.length - (k + 1))
        case measure => omega
        case rel => exact ⟨k + 1, by omega, by omega, by go_num, HF3, HE⟩
    · obtain rfl : k = x.length := by omega
      have hltz : ¬ (x.length : Int) < (x.length : Int) := by omega
      have HE := Lib.hid (ff_miss HN.out)
      have z0 : wr.cell? ⟨w.heap.size, 0, none⟩ = some (.string ⟨#[]⟩) := HF.out.1.cell 0
      have z1 : wr.cell? ⟨w.heap.size, 1, none⟩ = some (.int .i64 0) := HF.out.1.cell 1
      have y0 := HF.out.1.frozen 0
      have y1 := HF.out.1.frozen 1
      clear HN
      go_wp2_with fail
      clear z0 z1 y0 y1
      have hHB : HasBlk wr w.heap.size 32 2 := ⟨_, rfl, HF.out.1⟩
      obtain ⟨WE, hWE⟩ : ∃ WE, WE = setAll wr w.heap.size 0 [(.string ⟨#[]⟩), (.int .i64 0)] := ⟨_, rfl⟩
      have hk := hHB.fill [(.string ⟨#[]⟩), (.int .i64 0)] rfl
      have hBE := Below.setAll (B := w.heap.size) (g := w.heap.size) (Nat.le_refl _) [(.string ⟨#[]⟩), (.int .i64 0)] 0 HF.out.2
      rw [← hWE] at hk hBE
      simp only [setAll, Nat.zero_add, Nat.reduceAdd] at hWE
      rw [← hWE]
      clear hWE hHB
      (try simp only [Exit.inBlock, Exit.then])
      refine bodyPost_ret (results_cell3 rfl _ _ w.heap.size 32 _ (0, 0) _ rfl hk Tryz.underlying32 rfl (by kernel_rfl)) rfl ?_
      unfold FFPost
      rw [HE.out]
      exact ⟨hBE, rfl⟩
end Go.Proofs.YtpanjldionaaiaaGreatDoor
