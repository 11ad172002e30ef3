/-
  link.Names: how many names each node's file has. Condition: a tree that passes tree.Check, its nodes each by themselves.
-/
import Derived.Test.YtjglenhhgbokbaaDoorFirsts
namespace Go.Proofs.YtjglenhhgbokbaaDoor
open Go.RowKit

/-- a table of counts, as k rounds leave it -/
def CntM (L : List Int) (k : Nat) (M : List (Int × Value)) : Prop := ∀ s, (mapGet M s).getD (.int .i64 0) = .int .i64 ((L.take k).count s : Int)
theorem CntM.start (L : List Int) : CntM L 0 [] := fun s => by simp [mapGet]
theorem CntM.step {L : List Int} {k : Nat} {M : List (Int × Value)} (h : CntM L k M) (hk : k < L.length) : CntM L (k + 1) (mapPut M L[k] (.int .i64 (((L.take k).count L[k] : Int) + 1))) := fun s => by
  rw [mapGet_put, List.take_succ_eq_append_getElem hk, List.count_append]
  by_cases e : s = L[k]
  · rw [if_pos e, e]; simp
  · rw [if_neg e, h s, List.count_singleton]
    have : (L[k] == s) = false := by simp; exact fun a => e a.symm
    simp [this]
def cntL (L : List Int) : List Int := L.map fun s => (L.count s : Int)
theorem cntL_length (L : List Int) : (cntL L).length = L.length := by simp [cntL]
theorem cntL_take {L : List Int} {k : Nat} (hk : k < L.length) : (cntL L).take (k + 1) = (cntL L).take k ++ [(L.count L[k] : Int)] := by
  rw [List.take_succ_eq_append_getElem (by rw [cntL_length]; exact hk)]
  congr 1
  simp [cntL]
theorem IMap.get_i {w : World} {b : Nat} {M : List (Int × Value)} (h : IMap w b M) (s : Int) :
    (Instr.lookup 137 (.map (some b)) (.int .i64 s) false).run Tryd.prog w = .ok ((mapGet M s).getD (.int .i64 0)) w :=
  h.get Tryd.underlying137 Tryd.underlying3 (zeroI _) s
/-- one of a row of ints, as a walk loads it -/
theorem IntsOwn.load {w : World} {base : Nat} {A : Option Addr} {n c : Nat} {l : List Int} (h : IntsOwn w base (.slice A n c) l) {k : Nat} (hk : k < l.length) :
    ∃ ad, A = some ad ∧ w.cell? (ad.add k) = some (.int .i64 l[k]) := by
  obtain ⟨A', c', e, _, _, _, hr⟩ := ownsRow_read h
  injection e with e1 e2 e3
  subst e1
  obtain ⟨ad, u, e, _, hu, hc⟩ := hr.at_ hk
  rw [List.getElem?_map, List.getElem?_eq_getElem hk] at hu
  injection hu with hu
  exact ⟨ad, e, by rw [hc, ← hu]⟩
theorem IntsOwn.slice_ {w : World} {base : Nat} {v : Value} {l : List Int} (h : IntsOwn w base v l) : ∃ A c, v = .slice A l.length c ∧ l.length ≤ c ∧ c ≤ maxLen := by
  obtain ⟨A, c, e, h1, h2, _⟩ := ownsRow_read h
  exact ⟨A, c, e, h1, h2⟩
def NSt (w : World) (L : List Int) (fv : Value) (b k : Nat) (W : World) : Prop := Below w.heap.size w W ∧ w.heap.size ≤ b ∧ IntsOwn W w.heap.size fv L ∧ ∃ M, IMap W b M ∧ CntM L k M
set_option maxRecDepth 100000 in
set_option maxHeartbeats 4000000 in
theorem Names_any (v : Value) (l : List NodeP) (w : World) (hm : ML w) (hl : NodesAt w v l) (hok : ∀ x ∈ l, NodeOk x) (hch : chkT l = 0) :
    Calls Tryd.prog 87 #[v] w fun e w' => ∃ nv, e = .returned (.tuple #[nv, .int .i64 0]) ∧ IntsOwn w' w.heap.size nv (cntL (firstsP l)) ∧ Below w.heap.size w w' := by
  have hlen := (chkT_all hch).1
  have HF := Lib.hid (Firsts_any v l w hm hl hok hch)
  have hfl := firstsP_length l
  generalize hL : firstsP l = L at *
  have hL40 : L.length ≤ 40 := by omega
  obtain ⟨i9, hi9, hy0, hy1, hy2⟩ := info_parts int_info
  clear hm hl hok hch hL hlen hfl
  have hmm := @run_makeMap Tryd.prog
  go_enter Tryd.func87, Tryd.ntmps87
  go_wp2_with fail
  refine HF.out.mono ?_
  rintro e w1 ⟨fv, rfl, hfv, b1⟩
  obtain ⟨A, c, rfl, hc1, hc2⟩ := hfv.slice_
  unfold maxLen at hc2
  have H0 : Hid (NSt w L (.slice A L.length c) w1.heap.size 0 (w1.alloc (.map #[] 0))) := Lib.hid ⟨b1.alloc b1.size _, b1.size, hfv.below ((Below.refl _ _).alloc (Nat.le_refl _) _), [], IMap.new w1, CntM.start L⟩
  clear b1 hfv
  go_wp2_with fail
  clear hmm
  go_loopg [23] L.length (fun gg s23 wr => ∃ k : Nat, k ≤ L.length ∧ L.length - k ≤ gg ∧ s23 = .int .i64 k ∧ Hid (NSt w L (.slice A L.length c) w1.heap.size k wr))
  case atStart => exact ⟨0, Nat.zero_le _, by omega, rfl, H0⟩
  case round =>
    obtain ⟨k, hk, hg, rfl, HS⟩ := hrel
    by_cases hlt : k < L.length
    · have hltz : (k : Int) < (L.length : Int) := by omega
      obtain ⟨g1, g2, g3, M, g4, g5⟩ := HS.out
      obtain ⟨ad, rfl, e0⟩ := g3.load hlt
      have hgt := g4.get_i L[k]
      rw [g5 L[k]] at hgt
      have HST := Lib.hid (g5.step hlt)
      have hcn : (L.take k).count L[k] ≤ 40 := by
        have := List.count_le_length (a := L[k]) (l := L.take k)
        rw [List.length_take] at this
        omega
      have G4 := Lib.hid g4
      clear g4 g5 g1 g2 g3
      generalize L[k] = lk at *
      generalize (L.take k).count lk = cn at *
      go_wp2_with (with_reducible refine wpList_put_im _ rfl (.tmp 27) (.tmp 28) (.tmp 30) 137 rfl _ _ Tryd.underlying137 Tryd.underlying3 w1.heap.size M rfl G4.out lk _ rfl rfl ?_; intro w7 hM7 hg7; have HM7 := Lib.hid hM7; have HG7 := Lib.hid hg7; clear hM7 hg7)
      go_roundg (L.length - (k + 1))
      case measure => omega
      case rel =>
        obtain ⟨g1, g2, g3, _⟩ := HS.out
        exact ⟨k + 1, by omega, by omega, by go_num, Lib.hid ⟨g1.grown HG7.out g1.size (fun j e => by cases e; exact g2), g2, ownsRow_off_map g3 G4.out HG7.out, _, HM7.out, HST.out⟩⟩
    · obtain rfl : k = L.length := by omega
      obtain ⟨wo, rfl⟩ : ∃ wo, wo = wr := ⟨_, rfl⟩
      obtain ⟨W1, hmk, hown, hgr⟩ := run_make_own (P := Tryd.prog) wo wo.heap.size 39 3 i9 _ 1 Tryd.underlying39 hi9 hy0 hy1 .i64 .i64 L.length (by rw [hy2]; omega) (by simp only [maxLen]; omega) (Nat.le_refl _)
      have H2 : Hid (Below wo.heap.size wo W1 ∧ IntsOwn W1 wo.heap.size (.slice (some ⟨wo.heap.size, 0, none⟩) 0 L.length) ((cntL L).take 0)) := Lib.hid ⟨grown_none hgr, by unfold IntsOwn; simpa using hown⟩
      clear hown hgr
      go_wp2_with fail
      clear hmk
      go_loopg [9, 37] L.length (fun gg s9 s37 wx => ∃ k : Nat, k ≤ L.length ∧ L.length - k ≤ gg ∧ s37 = .int .i64 k ∧ Hid (Below wo.heap.size wo wx ∧ IntsOwn wx wo.heap.size s9 ((cntL L).take k)))
      case atStart => exact ⟨0, Nat.zero_le _, by omega, rfl, H2⟩
      case round =>
        obtain ⟨k, hk, hg, rfl, HS2⟩ := hrel
        by_cases hlt : k < L.length
        · have hltz : (k : Int) < (L.length : Int) := by omega
          obtain ⟨g1, g2, g3, M, g4, g5⟩ := HS.out
          obtain ⟨ad, rfl, e0⟩ := (g3.below HS2.out.1).load hlt
          have hgt := (g4.below HS2.out.1).get_i L[k]
          rw [g5 L[k], List.take_of_length_le (Nat.le_refl _)] at hgt
          have HTK := Lib.hid (cntL_take hlt)
          have hcl : ((cntL L).take k).length = k := by rw [List.length_take, cntL_length]; omega
          obtain ⟨At, ct, htv, -⟩ := HS2.out.2.slice_
          rw [hcl] at htv
          subst htv
          have HCL := Lib.hid hcl
          have hO5 : Hid (wr.ownsRow wo.heap.size 3 1 (.slice At k ct) k (((cntL L).take k).map (.int .i64))) := Lib.hid (by have := HS2.out.2; unfold IntsOwn at this; rw [hcl] at this; exact this)
          have hle5 : wo.heap.size ≤ wr.heap.size := HS2.out.1.size
          clear hcl g1 g2 g3 g4 g5
          generalize L[k] = lk at *
          generalize (L.count lk : Int) = fk at *
          go_wp2_with (at_builtin; refine wpList_append_any _ rfl (.tmp 41) (.tmp 45) _ rfl wo.heap.size 3 i9 _ 1 8 Tryd.underlying39 hi9 hy0 hy1 hy2 rfl (by omega) _ k (((cntL L).take k).map (.int .i64)) rfl (ownsRow_below hO5.out ((Below.refl _ _).alloc (Nat.le_refl _) _)) (wr.heap.size + 1) (some ⟨wr.heap.size, 0, none⟩) 1 1 [.int .i64 fk] rfl (new_row wr 3 [.int .i64 fk] 1 1 rfl) (by simp [Value.oneCell']) (by simp only [maxLen]; omega) (by omega) (by simp; omega) ?_; intro v9 w9 hown9 hg9 hat9; obtain ⟨A9, c9, hv9, -⟩ := ownsRow_read hown9; subst hv9; have HO9 := Lib.hid hown9; have HG9 := Lib.hid hg9; clear hown9 hg9 hat9)
          go_roundg (L.length - (k + 1))
          case measure => omega
          case rel =>
            have bA := (Below.refl wr.heap.size wr).alloc (Nat.le_refl _) (.cells #[.int .i64 fk] 3)
            have hO6 := ownsRow_below hO5.out bA
            refine ⟨k + 1, by omega, by omega, by go_num, Lib.hid ⟨(HS2.out.1.trans (bA.mono hle5)).grown HG9.out (Nat.le_trans hle5 bA.size) (fun g hg => (own_typed hO6 hg).1), ?_⟩⟩
            unfold IntsOwn
            rw [HTK.out, List.length_append, HCL.out, List.map_append]
            exact HO9.out
        · obtain rfl : k = L.length := by omega
          have HC : Hid ((cntL L).take L.length = cntL L) := Lib.hid (by rw [List.take_of_length_le (by rw [cntL_length]; omega)])
          obtain ⟨At, ct, htv, -⟩ := HS2.out.2.slice_
          subst htv
          go_wp2_with fail
          go_ret2
          refine ⟨_, rfl, ?_, HS.out.1.trans (HS2.out.1.mono HS.out.1.size)⟩
          have h := HS2.out.2
          rw [HC.out] at h
          rw [HC.out]
          exact h.mono HS.out.1.size
end Go.Proofs.YtjglenhhgbokbaaDoor
