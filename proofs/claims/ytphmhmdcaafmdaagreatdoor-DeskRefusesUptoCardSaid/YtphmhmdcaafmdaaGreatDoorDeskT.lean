/-
  desk.step at a desk that has packed nothing: what it answers, what tree it leaves. No condition but the tree's own.
-/
import Derived.Test.YtphmhmdcaafmdaaGreatDoorDeskS
namespace Go.Proofs.YtphmhmdcaafmdaaGreatDoor
set_option linter.all false
open Go.RowKit
def stepC (s : StepP) (dv : Value) : List Value := [.int .i64 s.kind, .string (bs s.node.path), .int .i64 s.node.kind, .int .i64 s.node.same, .string (bs s.node.target), .int .i64 s.node.mt.mode, .int .i64 s.node.mt.uid, .int .i64 s.node.mt.gid, .string (bs s.node.mt.user), .string (bs s.node.mt.group), .int .i64 s.node.mt.second, .int .i64 s.node.mt.nano, dv, .string (bs s.path), .int .i64 0, .int .i64 0, .slice none 0 0, .slice none 0 0]
theorem NodesOwn.gb {w w' : World} {base : Nat} {v : Value} {l : List NodeP} {g : Nat} {t : TypeId} {cs : Array Value} (h : NodesOwn w base v l) (hg : w.grownBy w' (some g)) (hk : Blk w g t cs) (hn : t ≠ 29) (hu : t ≠ 5) : NodesOwn w' base v l := by
  obtain ⟨xs, h0, ⟨h1, h2⟩, h3⟩ := h
  refine ⟨xs, h0, ⟨h1, ?_⟩, fun x hx => (h3 x hx).kept (U8Kept.grown hg (fun k e => ?_))⟩
  · rcases h2 with h | ⟨k, cap, cur, hv, hb, hg2, r⟩
    · exact .inl h
    · refine .inr ⟨k, cap, cur, hv, hb, ?_, r⟩
      have hlt : k < w.heap.size := by
        rcases Nat.lt_or_ge k w.heap.size with h | h
        · exact h
        · rw [Array.getElem?_eq_none h] at hg2; cases hg2
      rw [hg.block k hlt ?_]
      · exact hg2
      · intro e
        injection e with e
        subst e
        unfold Blk at hk
        rw [hk] at hg2
        injection hg2 with hg2
        injection hg2 with _ ht
        exact hn ht
  · injection e with e
    subst e
    exact ⟨cs, t, (0, 0), hk, hu⟩
theorem Blk.gb {w w' : World} {g k : Nat} {t : TypeId} {cs : Array Value} (h : Blk w k t cs) (hg : w.grownBy w' (some g)) (hne : k ≠ g) : Blk w' k t cs := (hg.block k h.lt (fun e => hne (Option.some.inj e))).trans h
def StS (w : World) (g g3 : Nat) (cs : Array Value) (W : World) : Prop := w.grownBy W (some g) ∧ Blk W g3 45 cs
theorem StS.drew {w W : World} {g g3 : Nat} {cs : Array Value} (h : StS w g g3 cs W) : StS w g g3 cs W.drew := ⟨gb_drew h.1, h.2.drew⟩
theorem StS.below {w W W' : World} {g g3 : Nat} {cs : Array Value} (h : StS w g g3 cs W) (hb : Below W.heap.size W W') : StS w g g3 cs W' := ⟨gb_trans h.1 (gb_below hb _), h.2.below hb h.2.lt⟩
theorem StS.gb {w W W' : World} {g g3 : Nat} {cs : Array Value} (h : StS w g g3 cs W) (hg : W.grownBy W' (some g)) (hne : g3 ≠ g) : StS w g g3 cs W' := ⟨gb_trans h.1 hg, h.2.gb hg hne⟩
set_option maxRecDepth 100000 in
set_option maxHeartbeats 8000000 in
theorem Step_any (g : Nat) (s : StepP) (dv : Value) (t t' : List NodeP) (c : Int) (tv : Value) (w : World) (hm : ML w) (hd : DeskAt w g tv t) (hst : StepTo t s c t') (hds : DataAt w 0 dv s.node.data) :
    Calls Tryz.prog 43 #[.pointer (some ⟨g, 0, none⟩), .agg (stepC s dv).toArray] w fun e w' => e = .returned (.agg (repC c)) ∧ (∃ tv', DeskAt w' g tv' t') ∧ w.grownBy w' (some g) := by
  have HML : Hid (∀ W, Below w.heap.size w W → ML W) := Lib.hid (fun W hb => hm.below hb)
  obtain ⟨W1, hW1⟩ : ∃ W1, W1 = w.alloc (.cells (stepC s dv).toArray 45) := ⟨_, rfl⟩
  obtain ⟨W2, hW2⟩ : ∃ W2, W2 = W1.alloc (.cells (repC 0) 50) := ⟨_, rfl⟩
  obtain ⟨g3, hg3⟩ : ∃ g3, g3 = w.heap.size := ⟨_, rfl⟩
  obtain ⟨g4, hg4⟩ : ∃ g4, g4 = w.heap.size + 1 := ⟨_, rfl⟩
  have hb1 : Below w.heap.size w W1 := by rw [hW1]; exact (Below.refl _ _).alloc (Nat.le_refl _) _
  have hb2 : Below w.heap.size w W2 := by rw [hW2]; exact hb1.alloc hb1.size _
  have hs1 : W1.heap.size = w.heap.size + 1 := by rw [hW1]; simp
  have hk3 : Blk W2 g3 45 (stepC s dv).toArray := by rw [hW2, hg3]; refine Blk.alloc ?_ _; rw [hW1]; exact Blk.new _ _ _
  have hk4 : Blk W2 g4 50 (repC 0) := by rw [hW2, hg4, ← hs1]; exact Blk.new _ _ _
  have hlt := hd.blk.lt
  have h3g : g3 ≠ g := by omega
  have h4g : g4 ≠ g := by omega
  have hg4' : g ≠ g4 := fun e => h4g e.symm
  have hsz4 : w.heap.size ≤ g4 := by omega
  have hk2 : Blk W2 g 99 (deskC tv) := hd.blk.below hb2 hd.blk.lt
  have ho2 : NodesOwn W2 (g + 1) tv t := hd.own.below hb2
  have hgs : g + 1 ≤ W2.heap.size := by have := hb2.size; omega
  have HS2 : Hid (StS w g g3 (stepC s dv).toArray W2) := Lib.hid ⟨gb_below hb2 _, hk3⟩
  have HK2 := Lib.hid hk2
  have HK3 := Lib.hid hk3
  have HK4 := Lib.hid hk4
  have HO2 := Lib.hid ho2
  have HB2 := Lib.hid hb2
  have HDS := Lib.hid (hds.below hb2)
  have HOK := Lib.hid hd.ok
  have HOW := Lib.hid hd.own
  have HDW := Lib.hid hd
  obtain ⟨_, A, cA, -, hte, hcA1, hcA2, -⟩ := ho2.at_
  subst hte
  have htl := hd.ok.len
  have HW1 := Lib.hid hW1
  have HW2 := Lib.hid hW2
  obtain ⟨sk, ⟨np, nk, ns, nt, ⟨o1, o2, o3, o4, o5, o6, o7⟩, nd⟩, sp⟩ := s
  obtain ⟨Ad, cd, hde, -⟩ := hds
  subst hde
  clear hm hd hk2 ho2 hk3 hk4 hb1 hb2 hW1 hW2
  rcases hst with ⟨k1, h2, h3, h4⟩ | ⟨k1, h2, h3, rfl, rfl⟩ | ⟨k1, rfl, rfl⟩ | ⟨k1, rfl, rfl⟩
  · simp only at h2 h3 h4
    have HN := Lib.hid h2
    have HC := Lib.hid h3
    have HT := Lib.hid h4
    clear h2 h3 h4
    have h34 : g3 ≠ g4 := by omega
    simp only at k1
    subst k1
    unfold stepC at HW1 HW2 HS2 HK3 ⊢
    unfold repC at HW2
    simp only at HW1 HW2 HS2 HK3 ⊢
    have hW1 := HW1.out
    have hW2 := HW2.out
    clear HW1 HW2
    go_enter Tryz.func43, Tryz.ntmps43
    go_upto_region 1 with fail
    rw [← hW1, ← hg3]
    rw [← hW2, show g3 + 1 = g4 by omega]
    clear hW1 hW2 hg3 hg4
    have c0 : W2.cell? ⟨g3, 0, none⟩ = some (.int .i64 1) := HK3.out.cell 0
    go_upto_region 3 with fail
    clear c0 hs1
    refine wp_region_G (S := StS w g g3 _) (by kernel_rfl) HS2.out.drew ?_
    refine wpG_take (i := 0) (v := ?va1) rfl (by kernel_rfl) (by kernel_rfl) (by kernel_rfl) (fun _ _ _ h => h) (Or.inl ⟨by rfl, ?hya1⟩) ?resta1
    case hya1 => (intro W hSw; left; (try dsimp only at hSw); go_simp; try with_reducible rfl)
    simp only [Act.put, List.setIfInBounds_toArray, List.set_cons_zero, List.set_cons_succ, List.getElem_toArray, List.getElem_cons_zero, List.getElem_cons_succ]
    refine wpG_take (i := 1) (v := ?va2) rfl (by kernel_rfl) (by kernel_rfl) (by kernel_rfl) (fun _ _ _ h => h) (Or.inl ⟨by rfl, ?hya2⟩) ?resta2
    case hya2 => (intro W hSw; left; (try dsimp only at hSw); go_simp; try with_reducible rfl)
    simp only [Act.put, List.setIfInBounds_toArray, List.set_cons_zero, List.set_cons_succ, List.getElem_toArray, List.getElem_cons_zero, List.getElem_cons_succ]
    refine wpG_take (i := 2) (v := ?va3) rfl (by kernel_rfl) (by kernel_rfl) (by kernel_rfl) (fun _ _ _ h => h) (Or.inl ⟨by rfl, ?hya3⟩) ?resta3
    case hya3 => (intro W hSw; left; (try dsimp only at hSw); go_simp; try with_reducible rfl)
    simp only [Act.put, List.setIfInBounds_toArray, List.set_cons_zero, List.set_cons_succ, List.getElem_toArray, List.getElem_cons_zero, List.getElem_cons_succ]
    refine wpG_take (i := 3) (v := ?va4) rfl (by kernel_rfl) (by kernel_rfl) (by kernel_rfl) (fun _ _ _ h => h) (Or.inl ⟨by rfl, ?hya4⟩) ?resta4
    case hya4 => (intro W hSw; left; (try dsimp only at hSw); go_simp; try with_reducible rfl)
    simp only [Act.put, List.setIfInBounds_toArray, List.set_cons_zero, List.set_cons_succ, List.getElem_toArray, List.getElem_cons_zero, List.getElem_cons_succ]
    refine wpG_take (i := 5) (v := ?va5) rfl (by kernel_rfl) (by kernel_rfl) (by kernel_rfl) (fun _ _ _ h => h) (Or.inl ⟨by rfl, ?hya5⟩) ?resta5
    case hya5 => (intro W hSw; left; (try dsimp only at hSw); go_simp; try with_reducible rfl)
    simp only [Act.put, List.setIfInBounds_toArray, List.set_cons_zero, List.set_cons_succ, List.getElem_toArray, List.getElem_cons_zero, List.getElem_cons_succ]
    refine wpG_take (i := 6) (v := ?va6) rfl (by kernel_rfl) (by kernel_rfl) (by kernel_rfl) (fun _ _ _ h => h) (Or.inl ⟨by rfl, ?hya6⟩) ?resta6
    case hya6 => (intro W hSw; left; (try dsimp only at hSw); have k1 := hSw.2.cell 1; simp only [List.getElem?_toArray, List.getElem?_cons_zero, List.getElem?_cons_succ] at k1; have k2 := hSw.2.cell 2; simp only [List.getElem?_toArray, List.getElem?_cons_zero, List.getElem?_cons_succ] at k2; have k3 := hSw.2.cell 3; simp only [List.getElem?_toArray, List.getElem?_cons_zero, List.getElem?_cons_succ] at k3; have k4 := hSw.2.cell 4; simp only [List.getElem?_toArray, List.getElem?_cons_zero, List.getElem?_cons_succ] at k4; have k5 := hSw.2.cell 5; simp only [List.getElem?_toArray, List.getElem?_cons_zero, List.getElem?_cons_succ] at k5; have k6 := hSw.2.cell 6; simp only [List.getElem?_toArray, List.getElem?_cons_zero, List.getElem?_cons_succ] at k6; have k7 := hSw.2.cell 7; simp only [List.getElem?_toArray, List.getElem?_cons_zero, List.getElem?_cons_succ] at k7; have k8 := hSw.2.cell 8; simp only [List.getElem?_toArray, List.getElem?_cons_zero, List.getElem?_cons_succ] at k8; have k9 := hSw.2.cell 9; simp only [List.getElem?_toArray, List.getElem?_cons_zero, List.getElem?_cons_succ] at k9; have k10 := hSw.2.cell 10; simp only [List.getElem?_toArray, List.getElem?_cons_zero, List.getElem?_cons_succ] at k10; have k11 := hSw.2.cell 11; simp only [List.getElem?_toArray, List.getElem?_cons_zero, List.getElem?_cons_succ] at k11; have k12 := hSw.2.cell 12; simp only [List.getElem?_toArray, List.getElem?_cons_zero, List.getElem?_cons_succ] at k12; go_simp; try with_reducible rfl)
    simp only [Act.put, List.setIfInBounds_toArray, List.set_cons_zero, List.set_cons_succ, List.getElem_toArray, List.getElem_cons_zero, List.getElem_cons_succ]
    refine wpG_one (i := 4) (by kernel_rfl) rfl (fun Wa hb hS K hK => ?_)
    have hKa := (HK2.out.drew).below hb HK2.out.drew.lt
    have hRa := (HK4.out.drew).below hb HK4.out.drew.lt
    have hNa := (HO2.out).below (show Below W2.heap.size W2 Wa from (Below.refl _ _).drew.trans hb)
    have hBa := HB2.out.trans (((Below.refl _ _).drew.trans hb : Below W2.heap.size W2 Wa).mono HB2.out.size)
    have hDa := HDS.out.below (show Below W2.heap.size W2 Wa from (Below.refl _ _).drew.trans hb)
    have hza := hb.size
    have ka := hKa.cell 0
    unfold deskC at ka
    simp only [List.getElem?_toArray, List.getElem?_cons_zero] at ka
    go_simp
    refine hK.out _ _ hS ?_
    clear hK K hS hb ka
    try simp only [Act.put, List.setIfInBounds_toArray, List.set_cons_zero, List.set_cons_succ, List.getElem_toArray, List.getElem_cons_zero, List.getElem_cons_succ]
    refine wpG_one (i := 7) (by kernel_rfl) rfl (fun Wb hb hS K hK => ?_)
    have hKb := hKa.below hb hKa.lt
    have hRb := hRa.below hb hRa.lt
    have hNb := hNa.below hb
    have hBb := hBa.trans (hb.mono hBa.size)
    have hDb := hDa.below hb
    have hzb : g + 1 ≤ Wb.heap.size := by have := hb.size; have : W2.heap.size ≤ Wa.heap.size := hza; omega
    have hput := Put_any _ t (⟨np, nk, ns, nt, ⟨o1, o2, o3, o4, o5, o6, o7⟩, nd⟩, .slice Ad nd.length cd) Wb (HML.out _ hBb) hNb.at_ HOK.out.node HN.out hDb HOK.out.chk c HC.out
    unfold nodeC at hput
    simp only at hput
    go_simp
    refine hput.mono ?_
    rintro e w9 hpost
    clear hput
    rcases hpost with ⟨rfl, tv', rfl, ho9, b9⟩ | ⟨hcc, rfl, b9⟩
    · have hK9 := hKb.below b9 hKb.lt
      have hR9 := hRb.below b9 hRb.lt
      have hN9 := ho9.mono hzb
      have hS9 := hS.below b9
      have HOK2 : Hid (TreeOk t') := Lib.hid (by
        rcases HT.out with ⟨-, e⟩ | ⟨h, -⟩
        · rw [e]
          refine TreeOk.of_chk HC.out (fun y hy => ?_)
          rcases putP_mem hy with h | h
          · rw [h]; exact HN.out
          · exact HOK.out.node y h
        · exact absurd rfl h)
      have hte : putP t ⟨np, nk, ns, nt, ⟨o1, o2, o3, o4, o5, o6, o7⟩, nd⟩ = t' := by
        rcases HT.out with ⟨-, e⟩ | ⟨h, -⟩
        · exact e.symm
        · exact absurd rfl h
      rw [hte] at hN9
      obtain ⟨_, A9, c9, -, he9, -⟩ := hN9.at_
      subst he9
      refine hK.out _ _ hS9 ?_
      clear hK K hS hb hS9 hKa hRa hNa hBa hDa hKb hRb hNb hBb hDb ho9 b9 hte hza hzb
      try simp only [Act.put, List.setIfInBounds_toArray, List.set_cons_zero, List.set_cons_succ, List.getElem_toArray, List.getElem_cons_zero, List.getElem_cons_succ]
      refine wpG_take (i := 8) (v := ?va7) rfl (by kernel_rfl) (by kernel_rfl) (by kernel_rfl) (fun _ _ _ h => h) (Or.inl ⟨by rfl, ?hya7⟩) ?resta7
      case hya7 => (intro W hSw; left; (try dsimp only at hSw); go_simp; try with_reducible rfl)
      simp only [Act.put, List.setIfInBounds_toArray, List.set_cons_zero, List.set_cons_succ, List.getElem_toArray, List.getElem_cons_zero, List.getElem_cons_succ]
      refine wpG_take (i := 9) (v := ?va8) rfl (by kernel_rfl) (by kernel_rfl) (by kernel_rfl) (fun _ _ _ h => h) (Or.inl ⟨by rfl, ?hya8⟩) ?resta8
      case hya8 => (intro W hSw; left; (try dsimp only at hSw); go_simp; try with_reducible rfl)
      simp only [Act.put, List.setIfInBounds_toArray, List.set_cons_zero, List.set_cons_succ, List.getElem_toArray, List.getElem_cons_zero, List.getElem_cons_succ]
      refine wpG_one (i := 10) (by kernel_rfl) rfl (fun Wc hb hS K hK => ?_)
      have hKc := hK9.below hb hK9.lt
      have hRc := hR9.below hb hR9.lt
      have hNc := hN9.below hb
      have hBc := hb.size
      go_simp
      refine (Keep_put g _ _ _ _ Wc hKc).mono ?_
      rintro e wd ⟨rfl, hKd, hGd⟩
      have hRd := hRc.gb hGd h4g
      have hNd := hNc.gb hGd hKc (by decide) (by decide)
      have hSd := hS.gb hGd h3g
      clear hKc hRc hNc hBc hK9 hR9 hN9
      refine hK.out _ _ hSd ?_
      clear hK K hS hb hSd
      try simp only [Act.put, List.setIfInBounds_toArray, List.set_cons_zero, List.set_cons_succ, List.getElem_toArray, List.getElem_cons_zero, List.getElem_cons_succ]
      refine wpG_one (i := 11) (by kernel_rfl) rfl (fun We hb hS K hK => ?_)
      have hKe := hKd.below hb hKd.lt
      have hRe := hRd.below hb hRd.lt
      have hNe := hNd.below hb
      clear hKd hRd hNd
      have hRf := ((hRe.set_ 0 (.int .i64 0)).set_ 1 (.int .i64 0)).set_ 2 (.int .i64 0)
      have hGf : We.grownBy (((We.setCell ⟨g4, 0, none⟩ (.int .i64 0)).setCell ⟨g4, 1, none⟩ (.int .i64 0)).setCell ⟨g4, 2, none⟩ (.int .i64 0)) (some g4) := gb_trans (gb_trans (gb_set _ _ _ _) (gb_set _ _ _ _)) (gb_set _ _ _ _)
      have hKf := hKe.gb hGf hg4'
      have hNf := hNe.gb hGf hRe (by decide) (by decide)
      have hSf : StS w g g3 _ _ := ⟨⟨hGf.os.trans hS.1.os, hGf.tape.trans hS.1.tape, hGf.output.trans hS.1.output, Nat.le_trans hS.1.size hGf.size, fun k hk hkg => (hGf.block k (Nat.lt_of_lt_of_le hk hS.1.size) (fun e => by have := Option.some.inj e; omega)).trans (hS.1.block k hk hkg)⟩, hS.2.gb hGf h34⟩
      have k0 := hRe.cell 0
      have k1 := hRe.cell 1
      have k2 := hRe.cell 2
      have f0 := hRe.frozen 0
      have f1 := hRe.frozen 1
      have f2 := hRe.frozen 2
      have k1' := (hRe.set_ 0 (.int .i64 0)).cell 1
      have f1' := (hRe.set_ 0 (.int .i64 0)).frozen 1
      have k2' := ((hRe.set_ 0 (.int .i64 0)).set_ 1 (.int .i64 0)).cell 2
      have f2' := ((hRe.set_ 0 (.int .i64 0)).set_ 1 (.int .i64 0)).frozen 2
      unfold repC at k0 k1 k2 k1' k2'
      simp only [List.setIfInBounds_toArray, List.set_cons_zero, List.set_cons_succ, List.getElem?_toArray, List.getElem?_cons_zero, List.getElem?_cons_succ] at k0 k1 k2 k1' k2'
      unfold repC
      go_simp
      refine hK.out _ _ hSf ?_
      clear hK K hS hb hSf hKe hRe hNe hGf k0 k1 k2 f0 f1 f2 k1' f1' k2' f2'
      try simp only [Act.put, List.setIfInBounds_toArray, List.set_cons_zero, List.set_cons_succ, List.getElem_toArray, List.getElem_cons_zero, List.getElem_cons_succ]
      refine wpG_done (by kernel_rfl) (fun wz hz hSz => ?_) _
      have HRz := Lib.hid (hRf.below hz hRf.lt)
      have HKz := Lib.hid (hKf.below hz hKf.lt)
      have HNz := Lib.hid (hNf.below hz)
      have HGz := Lib.hid hSz.1
      clear hz hSz hRf hKf hNf
      go_wp2_with fail
      refine bodyPost_ret (results_cell_row rfl _ _ g4 50 _ (0, 0) _ rfl HRz.out Tryz.underlying50 rfl (by kernel_rfl)) rfl ?_
      exact ⟨rfl, ⟨_, HKz.out, HNz.out, HOK2.out⟩, HGz.out⟩
    · have hK9 := hKb.below b9 hKb.lt
      have hR9 := hRb.below b9 hRb.lt
      have hN9 := hNb.below b9
      have hS9 := hS.below b9
      have hte : t' = t := by
        rcases HT.out with ⟨e, -⟩ | ⟨-, e⟩
        · exact absurd e hcc
        · exact e
      subst hte
      refine hK.out _ _ hS9 ?_
      clear hK K hS hb hS9 hKa hRa hNa hBa hDa hKb hRb hNb hBb hDb b9 hza hzb
      try simp only [Act.put, List.setIfInBounds_toArray, List.set_cons_zero, List.set_cons_succ, List.getElem_toArray, List.getElem_cons_zero, List.getElem_cons_succ]
      refine wpG_take (i := 8) (v := ?va9) rfl (by kernel_rfl) (by kernel_rfl) (by kernel_rfl) (fun _ _ _ h => h) (Or.inl ⟨by rfl, ?hya9⟩) ?resta9
      case hya9 => (intro W hSw; left; (try dsimp only at hSw); go_simp; try with_reducible rfl)
      simp only [Act.put, List.setIfInBounds_toArray, List.set_cons_zero, List.set_cons_succ, List.getElem_toArray, List.getElem_cons_zero, List.getElem_cons_succ]
      refine wpG_take (i := 9) (v := ?va10) rfl (by kernel_rfl) (by kernel_rfl) (by kernel_rfl) (fun _ _ _ h => h) (Or.inl ⟨by rfl, ?hya10⟩) ?resta10
      case hya10 => (intro W hSw; left; (try dsimp only at hSw); go_simp; try with_reducible rfl)
      simp only [Act.put, List.setIfInBounds_toArray, List.set_cons_zero, List.set_cons_succ, List.getElem_toArray, List.getElem_cons_zero, List.getElem_cons_succ]
      refine wpG_one (i := 10) (by kernel_rfl) rfl (fun Wc hb hS K hK => ?_)
      have hKc := hK9.below hb hK9.lt
      have hRc := hR9.below hb hR9.lt
      have hNc := hN9.below hb
      have hBc := hb.size
      go_simp
      refine (Keep_no g _ _ _ _ hcc Wc).mono ?_
      rintro e wd ⟨rfl, hBd⟩
      have hKd := hKc.below hBd hKc.lt
      have hRd := hRc.below hBd hRc.lt
      have hNd := hNc.below hBd
      have hSd := hS.below hBd
      clear hKc hRc hNc hBc hK9 hR9 hN9
      refine hK.out _ _ hSd ?_
      clear hK K hS hb hSd
      try simp only [Act.put, List.setIfInBounds_toArray, List.set_cons_zero, List.set_cons_succ, List.getElem_toArray, List.getElem_cons_zero, List.getElem_cons_succ]
      refine wpG_one (i := 11) (by kernel_rfl) rfl (fun We hb hS K hK => ?_)
      have hKe := hKd.below hb hKd.lt
      have hRe := hRd.below hb hRd.lt
      have hNe := hNd.below hb
      clear hKd hRd hNd
      have hRf := ((hRe.set_ 0 (.int .i64 c)).set_ 1 (.int .i64 0)).set_ 2 (.int .i64 0)
      have hGf : We.grownBy (((We.setCell ⟨g4, 0, none⟩ (.int .i64 c)).setCell ⟨g4, 1, none⟩ (.int .i64 0)).setCell ⟨g4, 2, none⟩ (.int .i64 0)) (some g4) := gb_trans (gb_trans (gb_set _ _ _ _) (gb_set _ _ _ _)) (gb_set _ _ _ _)
      have hKf := hKe.gb hGf hg4'
      have hNf := hNe.gb hGf hRe (by decide) (by decide)
      have hSf : StS w g g3 _ _ := ⟨⟨hGf.os.trans hS.1.os, hGf.tape.trans hS.1.tape, hGf.output.trans hS.1.output, Nat.le_trans hS.1.size hGf.size, fun k hk hkg => (hGf.block k (Nat.lt_of_lt_of_le hk hS.1.size) (fun e => by have := Option.some.inj e; omega)).trans (hS.1.block k hk hkg)⟩, hS.2.gb hGf h34⟩
      have k0 := hRe.cell 0
      have k1 := hRe.cell 1
      have k2 := hRe.cell 2
      have f0 := hRe.frozen 0
      have f1 := hRe.frozen 1
      have f2 := hRe.frozen 2
      have k1' := (hRe.set_ 0 (.int .i64 c)).cell 1
      have f1' := (hRe.set_ 0 (.int .i64 c)).frozen 1
      have k2' := ((hRe.set_ 0 (.int .i64 c)).set_ 1 (.int .i64 0)).cell 2
      have f2' := ((hRe.set_ 0 (.int .i64 c)).set_ 1 (.int .i64 0)).frozen 2
      unfold repC at k0 k1 k2 k1' k2'
      simp only [List.setIfInBounds_toArray, List.set_cons_zero, List.set_cons_succ, List.getElem?_toArray, List.getElem?_cons_zero, List.getElem?_cons_succ] at k0 k1 k2 k1' k2'
      unfold repC
      go_simp
      refine hK.out _ _ hSf ?_
      clear hK K hS hb hSf hKe hRe hNe hGf k0 k1 k2 f0 f1 f2 k1' f1' k2' f2'
      try simp only [Act.put, List.setIfInBounds_toArray, List.set_cons_zero, List.set_cons_succ, List.getElem_toArray, List.getElem_cons_zero, List.getElem_cons_succ]
      refine wpG_done (by kernel_rfl) (fun wz hz hSz => ?_) _
      have HRz := Lib.hid (hRf.below hz hRf.lt)
      have HKz := Lib.hid (hKf.below hz hKf.lt)
      have HNz := Lib.hid (hNf.below hz)
      have HGz := Lib.hid hSz.1
      clear hz hSz hRf hKf hNf
      go_wp2_with fail
      refine bodyPost_ret (results_cell_row rfl _ _ g4 50 _ (0, 0) _ rfl HRz.out Tryz.underlying50 rfl (by kernel_rfl)) rfl ?_
      exact ⟨rfl, ⟨_, HKz.out, HNz.out, HOK.out⟩, HGz.out⟩
  · simp only at h2 h3
    have HF := Lib.hid h2
    clear h2 h3
    have h34 : g3 ≠ g4 := by omega
    simp only at k1
    subst k1
    unfold stepC at HW1 HW2 HS2 HK3 ⊢
    unfold repC at HW2
    simp only at HW1 HW2 HS2 HK3 ⊢
    have hW1 := HW1.out
    have hW2 := HW2.out
    clear HW1 HW2
    go_enter Tryz.func43, Tryz.ntmps43
    go_upto_region 1 with fail
    rw [← hW1, ← hg3]
    rw [← hW2, show g3 + 1 = g4 by omega]
    clear hW1 hW2 hg3 hg4
    have c0 : W2.cell? ⟨g3, 0, none⟩ = some (.int .i64 2) := HK3.out.cell 0
    go_upto_region 5 with fail
    clear c0 hs1
    refine wp_region_G (S := StS w g g3 _) (by kernel_rfl) HS2.out.drew ?_
    refine wpG_take (i := 0) (v := ?vd1) rfl (by kernel_rfl) (by kernel_rfl) (by kernel_rfl) (fun _ _ _ h => h) (Or.inl ⟨by rfl, ?hyd1⟩) ?restd1
    case hyd1 => (intro W hSw; left; (try dsimp only at hSw); go_simp; try with_reducible rfl)
    simp only [Act.put, List.setIfInBounds_toArray, List.set_cons_zero, List.set_cons_succ, List.getElem_toArray, List.getElem_cons_zero, List.getElem_cons_succ]
    refine wpG_take (i := 1) (v := ?vd2) rfl (by kernel_rfl) (by kernel_rfl) (by kernel_rfl) (fun _ _ _ h => h) (Or.inl ⟨by rfl, ?hyd2⟩) ?restd2
    case hyd2 => (intro W hSw; left; (try dsimp only at hSw); go_simp; try with_reducible rfl)
    simp only [Act.put, List.setIfInBounds_toArray, List.set_cons_zero, List.set_cons_succ, List.getElem_toArray, List.getElem_cons_zero, List.getElem_cons_succ]
    refine wpG_take (i := 2) (v := ?vd3) rfl (by kernel_rfl) (by kernel_rfl) (by kernel_rfl) (fun _ _ _ h => h) (Or.inl ⟨by rfl, ?hyd3⟩) ?restd3
    case hyd3 => (intro W hSw; left; (try dsimp only at hSw); go_simp; try with_reducible rfl)
    simp only [Act.put, List.setIfInBounds_toArray, List.set_cons_zero, List.set_cons_succ, List.getElem_toArray, List.getElem_cons_zero, List.getElem_cons_succ]
    refine wpG_take (i := 3) (v := ?vd4) rfl (by kernel_rfl) (by kernel_rfl) (by kernel_rfl) (fun _ _ _ h => h) (Or.inl ⟨by rfl, ?hyd4⟩) ?restd4
    case hyd4 => (intro W hSw; left; (try dsimp only at hSw); go_simp; try with_reducible rfl)
    simp only [Act.put, List.setIfInBounds_toArray, List.set_cons_zero, List.set_cons_succ, List.getElem_toArray, List.getElem_cons_zero, List.getElem_cons_succ]
    refine wpG_take (i := 5) (v := ?vd5) rfl (by kernel_rfl) (by kernel_rfl) (by kernel_rfl) (fun _ _ _ h => h) (Or.inl ⟨by rfl, ?hyd5⟩) ?restd5
    case hyd5 => (intro W hSw; left; (try dsimp only at hSw); go_simp; try with_reducible rfl)
    simp only [Act.put, List.setIfInBounds_toArray, List.set_cons_zero, List.set_cons_succ, List.getElem_toArray, List.getElem_cons_zero, List.getElem_cons_succ]
    refine wpG_take (i := 6) (v := ?vd6) rfl (by kernel_rfl) (by kernel_rfl) (by kernel_rfl) (fun _ _ _ h => h) (Or.inl ⟨by rfl, ?hyd6⟩) ?restd6
    case hyd6 => (intro W hSw; left; (try dsimp only at hSw); have k13 := hSw.2.cell 13; simp only [List.getElem?_toArray, List.getElem?_cons_zero, List.getElem?_cons_succ] at k13; go_simp; try with_reducible rfl)
    simp only [Act.put, List.setIfInBounds_toArray, List.set_cons_zero, List.set_cons_succ, List.getElem_toArray, List.getElem_cons_zero, List.getElem_cons_succ]
    refine wpG_one (i := 4) (by kernel_rfl) rfl (fun Wa hb hS K hK => ?_)
    have hKa := (HK2.out.drew).below hb HK2.out.drew.lt
    have hRa := (HK4.out.drew).below hb HK4.out.drew.lt
    have hNa := (HO2.out).below (show Below W2.heap.size W2 Wa from (Below.refl _ _).drew.trans hb)
    have hBa := HB2.out.trans (((Below.refl _ _).drew.trans hb : Below W2.heap.size W2 Wa).mono HB2.out.size)
    have hDa := HDS.out.below (show Below W2.heap.size W2 Wa from (Below.refl _ _).drew.trans hb)
    have hza := hb.size
    have ka := hKa.cell 0
    unfold deskC at ka
    simp only [List.getElem?_toArray, List.getElem?_cons_zero] at ka
    go_simp
    refine hK.out _ _ hS ?_
    clear hK K hS hb ka
    try simp only [Act.put, List.setIfInBounds_toArray, List.set_cons_zero, List.set_cons_succ, List.getElem_toArray, List.getElem_cons_zero, List.getElem_cons_succ]
    refine wpG_one (i := 7) (by kernel_rfl) rfl (fun Wb hb hS K hK => ?_)
    have hKb := hKa.below hb hKa.lt
    have hRb := hRa.below hb hRa.lt
    have hNb := hNa.below hb
    have hBb := hBa.trans (hb.mono hBa.size)
    have hput := Remove_no _ _ sp Wb (HML.out _ hBb) hNb.at_ HOK.out.node HOK.out.chk HF.out
    go_simp
    refine hput.mono ?_
    rintro e w9 ⟨rfl, b9⟩
    clear hput
    have hcc : (5 : Int) ≠ 0 := by decide
    have hK9 := hKb.below b9 hKb.lt
    have hR9 := hRb.below b9 hRb.lt
    have hN9 := hNb.below b9
    have hS9 := hS.below b9
    refine hK.out _ _ hS9 ?_
    clear hK K hS hb hS9 hKa hRa hNa hBa hDa hKb hRb hNb hBb b9 hza
    try simp only [Act.put, List.setIfInBounds_toArray, List.set_cons_zero, List.set_cons_succ, List.getElem_toArray, List.getElem_cons_zero, List.getElem_cons_succ]
    refine wpG_take (i := 8) (v := ?vd7) rfl (by kernel_rfl) (by kernel_rfl) (by kernel_rfl) (fun _ _ _ h => h) (Or.inl ⟨by rfl, ?hyd7⟩) ?restd7
    case hyd7 => (intro W hSw; left; (try dsimp only at hSw); go_simp; try with_reducible rfl)
    simp only [Act.put, List.setIfInBounds_toArray, List.set_cons_zero, List.set_cons_succ, List.getElem_toArray, List.getElem_cons_zero, List.getElem_cons_succ]
    refine wpG_take (i := 9) (v := ?vd8) rfl (by kernel_rfl) (by kernel_rfl) (by kernel_rfl) (fun _ _ _ h => h) (Or.inl ⟨by rfl, ?hyd8⟩) ?restd8
    case hyd8 => (intro W hSw; left; (try dsimp only at hSw); go_simp; try with_reducible rfl)
    simp only [Act.put, List.setIfInBounds_toArray, List.set_cons_zero, List.set_cons_succ, List.getElem_toArray, List.getElem_cons_zero, List.getElem_cons_succ]
    refine wpG_one (i := 10) (by kernel_rfl) rfl (fun Wc hb hS K hK => ?_)
    have hKc := hK9.below hb hK9.lt
    have hRc := hR9.below hb hR9.lt
    have hNc := hN9.below hb
    have hBc := hb.size
    go_simp
    refine (Keep_no g _ _ _ _ hcc Wc).mono ?_
    rintro e wd ⟨rfl, hBd⟩
    have hKd := hKc.below hBd hKc.lt
    have hRd := hRc.below hBd hRc.lt
    have hNd := hNc.below hBd
    have hSd := hS.below hBd
    clear hKc hRc hNc hBc hK9 hR9 hN9
    refine hK.out _ _ hSd ?_
    clear hK K hS hb hSd
    try simp only [Act.put, List.setIfInBounds_toArray, List.set_cons_zero, List.set_cons_succ, List.getElem_toArray, List.getElem_cons_zero, List.getElem_cons_succ]
    refine wpG_one (i := 11) (by kernel_rfl) rfl (fun We hb hS K hK => ?_)
    have hKe := hKd.below hb hKd.lt
    have hRe := hRd.below hb hRd.lt
    have hNe := hNd.below hb
    clear hKd hRd hNd
    have hRf := ((hRe.set_ 0 (.int .i64 5)).set_ 1 (.int .i64 0)).set_ 2 (.int .i64 0)
    have hGf : We.grownBy (((We.setCell ⟨g4, 0, none⟩ (.int .i64 5)).setCell ⟨g4, 1, none⟩ (.int .i64 0)).setCell ⟨g4, 2, none⟩ (.int .i64 0)) (some g4) := gb_trans (gb_trans (gb_set _ _ _ _) (gb_set _ _ _ _)) (gb_set _ _ _ _)
    have hKf := hKe.gb hGf hg4'
    have hNf := hNe.gb hGf hRe (by decide) (by decide)
    have hSf : StS w g g3 _ _ := ⟨⟨hGf.os.trans hS.1.os, hGf.tape.trans hS.1.tape, hGf.output.trans hS.1.output, Nat.le_trans hS.1.size hGf.size, fun k hk hkg => (hGf.block k (Nat.lt_of_lt_of_le hk hS.1.size) (fun e => by have := Option.some.inj e; omega)).trans (hS.1.block k hk hkg)⟩, hS.2.gb hGf h34⟩
    have k0 := hRe.cell 0
    have k1 := hRe.cell 1
    have k2 := hRe.cell 2
    have f0 := hRe.frozen 0
    have f1 := hRe.frozen 1
    have f2 := hRe.frozen 2
    have k1' := (hRe.set_ 0 (.int .i64 5)).cell 1
    have f1' := (hRe.set_ 0 (.int .i64 5)).frozen 1
    have k2' := ((hRe.set_ 0 (.int .i64 5)).set_ 1 (.int .i64 0)).cell 2
    have f2' := ((hRe.set_ 0 (.int .i64 5)).set_ 1 (.int .i64 0)).frozen 2
    unfold repC at k0 k1 k2 k1' k2'
    simp only [List.setIfInBounds_toArray, List.set_cons_zero, List.set_cons_succ, List.getElem?_toArray, List.getElem?_cons_zero, List.getElem?_cons_succ] at k0 k1 k2 k1' k2'
    unfold repC
    go_simp
    refine hK.out _ _ hSf ?_
    clear hK K hS hb hSf hKe hRe hNe hGf k0 k1 k2 f0 f1 f2 k1' f1' k2' f2'
    try simp only [Act.put, List.setIfInBounds_toArray, List.set_cons_zero, List.set_cons_succ, List.getElem_toArray, List.getElem_cons_zero, List.getElem_cons_succ]
    refine wpG_done (by kernel_rfl) (fun wz hz hSz => ?_) _
    have HRz := Lib.hid (hRf.below hz hRf.lt)
    have HKz := Lib.hid (hKf.below hz hKf.lt)
    have HNz := Lib.hid (hNf.below hz)
    have HGz := Lib.hid hSz.1
    clear hz hSz hRf hKf hNf
    go_wp2_with fail
    refine bodyPost_ret (results_cell_row rfl _ _ g4 50 _ (0, 0) _ rfl HRz.out Tryz.underlying50 rfl (by kernel_rfl)) rfl ?_
    exact ⟨rfl, ⟨_, HKz.out, HNz.out, HOK.out⟩, HGz.out⟩
  · have h34 : g3 ≠ g4 := by omega
    simp only at k1
    subst k1
    unfold stepC at HW1 HW2 HS2 HK3 ⊢
    unfold repC at HW2
    simp only at HW1 HW2 HS2 HK3 ⊢
    have hW1 := HW1.out
    have hW2 := HW2.out
    clear HW1 HW2
    go_enter Tryz.func43, Tryz.ntmps43
    go_upto_region 1 with fail
    rw [← hW1, ← hg3]
    rw [← hW2, show g3 + 1 = g4 by omega]
    clear hW1 hW2 hg3 hg4
    have c0 : W2.cell? ⟨g3, 0, none⟩ = some (.int .i64 9) := HK3.out.cell 0
    have k0 := HK4.out.cell 0
    have k1 := HK4.out.cell 1
    have k2 := HK4.out.cell 2
    have f0 := HK4.out.frozen 0
    have f1 := HK4.out.frozen 1
    have f2 := HK4.out.frozen 2
    have k1' := (HK4.out.set_ 0 (.int .i64 2)).cell 1
    have f1' := (HK4.out.set_ 0 (.int .i64 2)).frozen 1
    have k2' := ((HK4.out.set_ 0 (.int .i64 2)).set_ 1 (.int .i64 0)).cell 2
    have f2' := ((HK4.out.set_ 0 (.int .i64 2)).set_ 1 (.int .i64 0)).frozen 2
    have hRf := ((HK4.out.set_ 0 (.int .i64 2)).set_ 1 (.int .i64 0)).set_ 2 (.int .i64 0)
    have hGf : W2.grownBy (((W2.setCell ⟨g4, 0, none⟩ (.int .i64 2)).setCell ⟨g4, 1, none⟩ (.int .i64 0)).setCell ⟨g4, 2, none⟩ (.int .i64 0)) (some g4) := gb_trans (gb_trans (gb_set _ _ _ _) (gb_set _ _ _ _)) (gb_set _ _ _ _)
    have HKf := Lib.hid (HK2.out.gb hGf hg4')
    have HNf := Lib.hid (HO2.out.gb hGf HK4.out (by decide) (by decide))
    have HGf : Hid (w.grownBy (((W2.setCell ⟨g4, 0, none⟩ (.int .i64 2)).setCell ⟨g4, 1, none⟩ (.int .i64 0)).setCell ⟨g4, 2, none⟩ (.int .i64 0)) (some g)) := Lib.hid ⟨hGf.os.trans HS2.out.1.os, hGf.tape.trans HS2.out.1.tape, hGf.output.trans HS2.out.1.output, Nat.le_trans HS2.out.1.size hGf.size, fun k hk hkg => (hGf.block k (Nat.lt_of_lt_of_le hk HS2.out.1.size) (fun e => by have := Option.some.inj e; omega)).trans (HS2.out.1.block k hk hkg)⟩
    have HRf := Lib.hid hRf
    unfold repC at k0 k1 k2 k1' k2'
    simp only [List.setIfInBounds_toArray, List.set_cons_zero, List.set_cons_succ, List.getElem?_toArray, List.getElem?_cons_zero, List.getElem?_cons_succ] at k0 k1 k2 k1' k2'
    clear hRf hGf hs1
    go_wp2_with fail
    refine bodyPost_ret (results_cell_row rfl _ _ g4 50 _ (0, 0) _ rfl HRf.out Tryz.underlying50 rfl (by kernel_rfl)) rfl ?_
    exact ⟨rfl, ⟨_, HKf.out, HNf.out, HOK.out⟩, HGf.out⟩
  · have h34 : g3 ≠ g4 := by omega
    simp only at k1
    subst k1
    unfold stepC at HW1 HW2 HS2 HK3 ⊢
    unfold repC at HW2
    simp only at HW1 HW2 HS2 HK3 ⊢
    have hW1 := HW1.out
    have hW2 := HW2.out
    clear HW1 HW2
    go_enter Tryz.func43, Tryz.ntmps43
    go_upto_region 1 with fail
    rw [← hW1, ← hg3]
    rw [← hW2, show g3 + 1 = g4 by omega]
    clear hW1 hW2 hg3 hg4
    have c0 : W2.cell? ⟨g3, 0, none⟩ = some (.int .i64 4) := HK3.out.cell 0
    have c5 : W2.cell? ⟨g, 5, none⟩ = some (.bool false) := HK2.out.cell 5
    have k0 := HK4.out.cell 0
    have k1 := HK4.out.cell 1
    have k2 := HK4.out.cell 2
    have f0 := HK4.out.frozen 0
    have f1 := HK4.out.frozen 1
    have f2 := HK4.out.frozen 2
    have k1' := (HK4.out.set_ 0 (.int .i64 5)).cell 1
    have f1' := (HK4.out.set_ 0 (.int .i64 5)).frozen 1
    have k2' := ((HK4.out.set_ 0 (.int .i64 5)).set_ 1 (.int .i64 0)).cell 2
    have f2' := ((HK4.out.set_ 0 (.int .i64 5)).set_ 1 (.int .i64 0)).frozen 2
    have hRf := ((HK4.out.set_ 0 (.int .i64 5)).set_ 1 (.int .i64 0)).set_ 2 (.int .i64 0)
    have hGf : W2.grownBy (((W2.setCell ⟨g4, 0, none⟩ (.int .i64 5)).setCell ⟨g4, 1, none⟩ (.int .i64 0)).setCell ⟨g4, 2, none⟩ (.int .i64 0)) (some g4) := gb_trans (gb_trans (gb_set _ _ _ _) (gb_set _ _ _ _)) (gb_set _ _ _ _)
    have HKf := Lib.hid (HK2.out.gb hGf hg4')
    have HNf := Lib.hid (HO2.out.gb hGf HK4.out (by decide) (by decide))
    have HGf : Hid (w.grownBy (((W2.setCell ⟨g4, 0, none⟩ (.int .i64 5)).setCell ⟨g4, 1, none⟩ (.int .i64 0)).setCell ⟨g4, 2, none⟩ (.int .i64 0)) (some g)) := Lib.hid ⟨hGf.os.trans HS2.out.1.os, hGf.tape.trans HS2.out.1.tape, hGf.output.trans HS2.out.1.output, Nat.le_trans HS2.out.1.size hGf.size, fun k hk hkg => (hGf.block k (Nat.lt_of_lt_of_le hk HS2.out.1.size) (fun e => by have := Option.some.inj e; omega)).trans (HS2.out.1.block k hk hkg)⟩
    have HRf := Lib.hid hRf
    unfold repC at k0 k1 k2 k1' k2'
    simp only [List.setIfInBounds_toArray, List.set_cons_zero, List.set_cons_succ, List.getElem?_toArray, List.getElem?_cons_zero, List.getElem?_cons_succ] at k0 k1 k2 k1' k2'
    clear hRf hGf hs1
    go_wp2_with fail
    refine bodyPost_ret (results_cell_row rfl _ _ g4 50 _ (0, 0) _ rfl HRf.out Tryz.underlying50 rfl (by kernel_rfl)) rfl ?_
    exact ⟨rfl, ⟨_, HKf.out, HNf.out, HOK.out⟩, HGf.out⟩
end Go.Proofs.YtphmhmdcaafmdaaGreatDoor
