/-
  The law OrderSorted: what it computes is true. Condition: raw things of the second form's bound.
-/
import Derived.Test.YtjbpoijefkbllaaDoorOrderS
import Derived.Test.YtjbpoijefkbllaaDoorSwap
import Derived.Test.YtjbpoijefkbllaaDoorTree
import Derived.Test.YtjbpoijefkbllaaDoorSame
import Derived.Deep.MidRow
import Derived.Shelf.SlSortCmp.InsertionK
namespace Go.Proofs.YtjbpoijefkbllaaDoor
open Go.RowKit Go.Sort Go.Lib

theorem twelve {l : List Value} (h : l.length = 12) : ∃ a0 a1 a2 a3 a4 a5 a6 a7 a8 a9 a10 a11, l = [a0, a1, a2, a3, a4, a5, a6, a7, a8, a9, a10, a11] := by
  match l, h with
  | [a0, a1, a2, a3, a4, a5, a6, a7, a8, a9, a10, a11], _ => exact ⟨a0, a1, a2, a3, a4, a5, a6, a7, a8, a9, a10, a11, rfl⟩
theorem there_of_holds {W : World} {g : Nat} {F : Array Value} (h : Holds id W g 0 F) {o n : Nat} (hs : o + n ≤ F.size) : W.there g o n := fun c hc => by
  have := h (o + c) (by omega)
  simp only [Nat.zero_add] at this
  exact ⟨by rw [this.1]; rfl, this.2⟩
theorem swap_row {w : World} {B g n cap i j : Nat} {ys : List NodeV} (h : w.ownsRow B 31 12 (.slice (some ⟨g, 0, none⟩) n cap) n (ys.flatMap nodeC)) (hd : ∀ y ∈ ys, DataAt w 0 y.2 y.1.data) (hp : ∀ y ∈ ys, y.1.path.length ≤ 400) (hyl : ys.length = n) (hi : i < n) (hj : j < n) :
    ∃ cI cJ : List Value, cI.length = 12 ∧ cJ.length = 12 ∧
      (Instr.loadAt 31 (.pointer (some ⟨g, j * 12, none⟩))).run Tryd.prog w.drew = .ok (.agg cJ.toArray) w.drew ∧ (Instr.loadAt 31 (.pointer (some ⟨g, i * 12, none⟩))).run Tryd.prog w.drew = .ok (.agg cI.toArray) w.drew ∧
      (Instr.storeAt 31 (.pointer (some ⟨g, i * 12, none⟩)) (.agg cJ.toArray)).run Tryd.prog w.drew = .ok () (w.drew.setCells g (i * 12) cJ) ∧
      (Instr.storeAt 31 (.pointer (some ⟨g, j * 12, none⟩)) (.agg cI.toArray)).run Tryd.prog (w.drew.setCells g (i * 12) cJ) = .ok () ((w.drew.setCells g (i * 12) cJ).setCells g (j * 12) cI) ∧
      w.drew.rangeAt g (i * 12) cI ∧ w.drew.rangeAt g (j * 12) cJ ∧ w.drew.there g (i * 12) 12 ∧ w.drew.there g (j * 12) 12 ∧ (∃ (x : NodeP) (A : Option Addr) (n c : Nat), cI = nodeC (x, .slice A n c)) ∧ (∃ (x : NodeP) (A : Option Addr) (n c : Nat), cJ = nodeC (x, .slice A n c)) ∧
      w.grownBy ((w.drew.setCells g (i * 12) cJ).setCells g (j * 12) cI) (some g) ∧
      ∃ zs : List NodeV, zs.Perm ys ∧ ((w.drew.setCells g (i * 12) cJ).setCells g (j * 12) cI).ownsRow B 31 12 (.slice (some ⟨g, 0, none⟩) n cap) n (zs.flatMap nodeC) ∧ ∀ y ∈ zs, DataAt ((w.drew.setCells g (i * 12) cJ).setCells g (j * 12) cI) 0 y.2 y.1.data := by
  obtain ⟨h1, h2⟩ := h
  rcases h2 with ⟨e, _⟩ | ⟨g', cap', cur, hv, hb, hg, hn, hmx, hsz, htk⟩
  · cases e
  obtain ⟨hv1, -, hv3⟩ := Value.slice.inj hv
  have hv1 := congrArg Addr.block (Option.some.inj hv1)
  simp only at hv1
  subst hv1 hv3
  have hs : ∀ x ∈ ys, x.1.path.length ≤ 400 ∧ x.2.oneCell' = true := fun x hx2 => ⟨hp x hx2, by
    obtain ⟨A, c, e, _⟩ := hd x hx2
    rw [e]; rfl⟩
  obtain ⟨d, hd1⟩ : ∃ d : Array ShortN, d.toList.map (·.1) = ys := ⟨(ys.attach.map fun x => (⟨x.1, hs x.1 x.2⟩ : ShortN)).toArray, by
    rw [List.toList_toArray, List.map_map]
    exact List.attach_map_subtype_val ys⟩
  have hds : d.size = n := by rw [← hyl, ← hd1, List.length_map, Array.length_toList]
  have hH : HoldsK shortC 12 w g 0 d := holds_nodes hg (by rw [hds, hd1]; exact htk)
  have hHd : HoldsK shortC 12 w.drew g 0 d := hH
  have bnd : ∀ x, x < d.size → x * 12 + 12 ≤ d.size * 12 := fun x hx => by omega
  have hci : ∀ x, x < d.size → w.drew.rangeAt g (x * 12) (shortC d[x]!) := fun x hx c v hv => by
    have h := HoldsK.cells hHd (fun _ => rfl) hx c v hv
    rwa [Addr.add_mid, Nat.zero_add] at h
  have hform : ∀ x, x < d.size → ∃ (y : NodeP) (A : Option Addr) (n c : Nat), shortC d[x]! = nodeC (y, .slice A n c) := fun x hx => by
    obtain ⟨A, c, e, _⟩ := hd d[x]!.1 (by rw [← hd1, getElem!_pos d x hx]; exact List.mem_map_of_mem (by simp))
    exact ⟨d[x]!.1.1, A, _, c, by unfold shortC; rw [← e]⟩
  have hinf : (Tryd.prog.info? 31).map (·.size) = some 12 := by kernel_rfl
  have lj := run_loadAt_mid w.drew g (j * 12) 31 (shortC d[j]!) _ (hci j (by omega)) Tryd.underlying31 rfl hinf
  have li := run_loadAt_mid w.drew g (i * 12) 31 (shortC d[i]!) _ (hci i (by omega)) Tryd.underlying31 rfl hinf
  have hone : ∀ x : ShortN, (shortC x).toArray.all (·.oneCell') = true := fun x => Array.all_eq_true_iff_forall_mem.2 (fun v hv => short_one x v (by simpa using hv))
  have s1 := run_storeAt_mid (P := Tryd.prog) w.drew g (i * 12) 31 (shortC d[j]!).toArray (there_of_holds hHd (by rw [size_flatK]; exact bnd i (by omega))) hinf (hone _)
  have s2 := run_storeAt_mid (P := Tryd.prog) (w.drew.setCells g (i * 12) (shortC d[j]!)) g (j * 12) 31 (shortC d[i]!).toArray (there_of_holds (F := setMany (flatK shortC 12 d) (i * 12) (shortC d[j]!)) (by
    have h := holds_setCells_c hHd (i * 12) (shortC d[j]!) (by rw [size_flatK]; exact bnd i (by omega))
    rwa [Nat.zero_add] at h) (by rw [size_setMany, size_flatK]; exact bnd j (by omega))) hinf (hone _)
  have hw0 : w = sortWorldK shortC 12 w g 0 0 d #[] := by unfold sortWorldK; rw [grow_empty]; exact (putRowK_self shortC 12 w g 0 d hH).symm
  have hsw := sortWorldK_swp_c shortC 12 w g 0 (fun _ => rfl) 0 d #[] (heap_lt hg) i j (by omega) (by omega)
  rw [← hw0] at hsw
  simp only [Nat.zero_add] at hsw
  refine ⟨_, _, rfl, rfl, lj, li, s1, s2, hci i (by omega), hci j (by omega), there_of_holds hHd (by rw [size_flatK]; exact bnd i (by omega)), there_of_holds hHd (by rw [size_flatK]; exact bnd j (by omega)), hform i (by omega), hform j (by omega), ?_⟩
  rw [hsw]
  have hgr := grownBy_sortedK (w := w) (g := g) (n := 1) (os := #[]) (swp d i j)
  have hsz2 : (swp d i j).size = n := by rw [size_swp]; exact hds
  have hpm : (swp d i j).toList.Perm d.toList := by
    obtain ⟨p1, _, p2⟩ := swp_permIn (a := 0) (b := d.size) d i j (by omega) (by omega) (by omega) (by omega) (by omega)
    have e1 : (swp d i j).extract 0 d.size = swp d i j := by rw [← p1]; simp
    have e2 : d.extract 0 d.size = d := by simp
    rw [e1, e2] at p2
    exact p2
  have p4 : ((swp d i j).toList.map (·.1)).Perm ys := by rw [← hd1]; exact hpm.map _
  refine ⟨hgr, (swp d i j).toList.map (·.1), p4, ⟨by rw [flat_length nodeC_length, List.length_map, Array.length_toList, hsz2], .inr ⟨g, cap, _, rfl, hb, heap_sortedK _ hg, hn, hmx, by simp [putCells, hsz], ?_⟩⟩, ?_⟩
  · have := take_flatK cur (swp d i j) (by rw [hsz2, hsz]; exact Nat.mul_le_mul_right _ hn)
    rw [hsz2] at this
    exact this
  · intro x hx2
    refine (hd x (p4.subset hx2)).kept (U8Kept.grown hgr (fun k hk => ?_))
    cases hk
    exact ⟨cur, _, _, hg, by decide⟩
/-- how a row of nodes of the call's own lies while it is shuffled -/
def ShSt (w : World) (B : Nat) (v : Value) (t : List NodeP) (W : World) : Prop :=
  Below B w W ∧ ∃ ys : List NodeV, (ys.map (·.1)).Perm t ∧ W.ownsRow B 31 12 v t.length (ys.flatMap nodeC) ∧ ∀ y ∈ ys, DataAt W 0 y.2 y.1.data
theorem splitC_count (c : UInt8) : ∀ l : List UInt8, (splitC c l).length = 1 + l.count c
  | [] => rfl
  | b :: l => by
    have ih := splitC_count c l
    unfold splitC
    split
    · next h => subst h; simp [ih]; omega
    · next h =>
      have hne := splitC_ne c l
      cases hs : splitC c l with
      | nil => exact absurd hs hne
      | cons a r =>
        rw [hs] at ih
        simp only [List.length_cons] at ih
        simp [h]
        omega
theorem parts_count {p : List UInt8} (h : p ≠ []) : (partsS p).length = 1 + Lib.countByte p 47 := by
  unfold partsS
  rw [if_neg h]
  exact splitC_count 47 p
def litN (c : UInt8) : NodeP := ⟨[c], 0, 0, [], ⟨0, 0, 0, [], [], 0, 0⟩, []⟩
theorem two_at (w : World) : NodesAt (w.alloc (.cells #[.string ⟨#[98]⟩, .int .i64 0, .int .i64 0, .string ⟨#[]⟩, .int .i64 0, .int .i64 0, .int .i64 0, .string ⟨#[]⟩, .string ⟨#[]⟩, .int .i64 0, .int .i64 0, .slice none 0 0, .string ⟨#[97]⟩, .int .i64 0, .int .i64 0, .string ⟨#[]⟩, .int .i64 0, .int .i64 0, .int .i64 0, .string ⟨#[]⟩, .string ⟨#[]⟩, .int .i64 0, .int .i64 0, .slice none 0 0] 31)) (.slice (some ⟨w.heap.size, 0, none⟩) 2 2) [litN 98, litN 97] := by
  refine ⟨[(litN 98, .slice none 0 0), (litN 97, .slice none 0 0)], some ⟨w.heap.size, 0, none⟩, 2, rfl, rfl, Nat.le_refl _, by simp [maxLen], (fun h => by cases h), ?_, fun x hx => ?_⟩
  · have h := new_row w 31 (nodeC (litN 98, .slice none 0 0) ++ nodeC (litN 97, .slice none 0 0)) 2 12 rfl
    have hz : (w.alloc (.cells #[.string ⟨#[98]⟩, .int .i64 0, .int .i64 0, .string ⟨#[]⟩, .int .i64 0, .int .i64 0, .int .i64 0, .string ⟨#[]⟩, .string ⟨#[]⟩, .int .i64 0, .int .i64 0, .slice none 0 0, .string ⟨#[97]⟩, .int .i64 0, .int .i64 0, .string ⟨#[]⟩, .int .i64 0, .int .i64 0, .int .i64 0, .string ⟨#[]⟩, .string ⟨#[]⟩, .int .i64 0, .int .i64 0, .slice none 0 0] 31)).heap.size = w.heap.size + 1 := by simp
    rw [hz]
    exact h
  · simp only [List.mem_cons, List.mem_nil_iff, or_false] at hx
    rcases hx with rfl | rfl
    · exact DataAt.nil _ _
    · exact DataAt.nil _ _
theorem two_sorted {m : List NodeP} (h : m.Perm [litN 98, litN 97]) (hs : m.Pairwise (fun x y => cmpP x.path y.path ≤ 0)) : m = [litN 97, litN 98] := by
  have hl := h.length_eq
  match m, hl with
  | [x, y], _ =>
    have hx := h.subset (List.mem_cons_self : x ∈ [x, y])
    have ha : litN 97 ∈ [x, y] := h.symm.subset (by simp)
    have hb : litN 98 ∈ [x, y] := h.symm.subset (by simp)
    have hxy : cmpP x.path y.path ≤ 0 := by simpa using hs
    have hne : litN 97 ≠ litN 98 := by decide
    simp only [List.mem_cons, List.mem_nil_iff, or_false] at hx ha hb
    rcases hx with rfl | rfl
    · rcases ha with e | rfl
      · exact absurd e hne
      · exact absurd hxy (by decide)
    · rcases hb with e | rfl
      · exact absurd e.symm hne
      · rfl
theorem sorted_same {m t : List NodeP} (h : m.Perm t) (hm : m.Pairwise (fun x y => cmpP x.path y.path ≤ 0)) (ht : t.Pairwise (fun x y => cmpP x.path y.path < 0)) : m = t := by
  refine List.Perm.eq_of_pairwise (le := fun x y => cmpP x.path y.path ≤ 0) (fun a b ha hb h1 h2 => ?_) hm (ht.imp (fun h => by omega)) h
  have h3 : cmpP b.path a.path = -cmpP a.path b.path := cmpL_neg _ _
  have h4 : cmpP a.path b.path = 0 := by omega
  have hnd := sorted_nodup ht
  obtain ⟨i, hi, rfl⟩ := List.mem_iff_getElem.1 (h.subset ha)
  obtain ⟨j, hj, rfl⟩ := List.mem_iff_getElem.1 hb
  have : i = j := by
    rcases Nat.lt_trichotomy i j with e | e | e
    · have := List.pairwise_iff_getElem.1 ht i j hi hj e; omega
    · exact e
    · have := List.pairwise_iff_getElem.1 ht j i hj hi e; omega
  subst this
  rfl
theorem ShSt.below {w W W' : World} {v : Value} {t : List NodeP} (h : ShSt w w.heap.size v t W) (hb : Below W.heap.size W W') : ShSt w w.heap.size v t W' := by
  obtain ⟨h1, ys, h2, h3, h4⟩ := h
  exact ⟨h1.trans (hb.mono h1.size), ys, h2, ownsRow_below h3 hb, fun y hy => (h4 y hy).below hb⟩
set_option maxRecDepth 100000 in
set_option maxHeartbeats 8000000 in
theorem OrderSorted_walk (w : World) (hsh : w.ShapedOpen Tryd.prog) (v : Value) (l : List RawS) (hl : RawsAt w w.heap.size v l) (hok : ∀ x ∈ l, RawOk x) (hn : l.length ≤ 1048576) (v2 : Value) (ps : List Int) (hl2 : IntsAt .i64 w w.heap.size v2 ps) (hps : ∀ p ∈ ps, I64 p) (hn2 : ps.length ≤ 1048576) :
    Calls Tryd.prog 3 #[v, v2] w fun e w' => e = .returned (.bool true) ∧ Below w.heap.size w w' := by
  have hm := ML.of_shaped hsh
  clear hsh
  have HML : Hid (∀ W, Below w.heap.size w W → ML W) := Lib.hid (fun W hb => hm.below hb)
  have HT := Lib.hid (fun (_ : Unit) => Tree_any l v 20 w hm hl hok hn (by omega))
  have hto := treeP_ok l 20 (by omega)
  have hlen := treeP_length l 20
  have HPS := Lib.hid hps
  obtain ⟨Ai, ci, rfl, hi1, hi2, -, hri⟩ := hl2
  have HRI := Lib.hid hri
  unfold maxLen at hi2
  clear hm hl hok hn hps hri
  generalize treeP l 20 = t at *
  have HTO := Lib.hid hto
  clear hto
  go_enter Tryd.func3, Tryd.ntmps3
  go_wp2_with fail
  refine (HT.out ()).mono ?_
  rintro e' w1 ⟨tv, rfl, htv, b1⟩
  have B1 := Lib.hid b1
  have HT1 := Lib.hid htv.at_
  have HCL := Lib.hid (CloneN_any tv t w1 htv.at_ (by omega))
  obtain ⟨_, At, ct, -, hte, hct1, hct2, -⟩ := htv.at_
  subst hte
  unfold maxLen at hct2
  clear b1 htv HT
  go_wp2_with fail
  refine HCL.out.mono ?_
  rintro e' w2 ⟨uv, rfl, ⟨xs, hxs, hown, hxd⟩, b2⟩
  have H0 : Hid (ShSt w1 w1.heap.size uv t w2) := Lib.hid ⟨b2, xs, by rw [hxs], hown, hxd⟩
  obtain ⟨Au, cu, hue, hcu1, hcu2, -⟩ := ownsRow_read hown
  subst hue
  unfold maxLen at hcu2
  clear hxs hown hxd b2 HCL
  go_wp2_with fail
  go_loopg [7] t.length (fun gg s7 wr => ∃ k : Int, -1 ≤ k ∧ k < t.length ∧ k ≤ gg ∧ s7 = .int .i64 k ∧ Hid (ShSt w1 w1.heap.size (.slice Au t.length cu) t wr))
  case atStart => exact ⟨(t.length : Int) - 1, by omega, by omega, by omega, by go_num, H0⟩
  case round =>
    obtain ⟨k, hk1, hk2, hg, rfl, HS⟩ := hrel
    by_cases hgo : 0 < k ∧ 0 < ps.length
    · obtain ⟨h0, h1⟩ := hgo
      obtain ⟨m, rfl⟩ : ∃ m : Nat, k = (m : Int) := ⟨k.toNat, by omega⟩
      have hm1 : m < t.length := by omega
      have hql : m % ps.length < ps.length := Nat.mod_lt _ h1
      obtain ⟨adi, u, rfl, _, hu, hci⟩ := (HRI.out.below (B1.out.trans (HS.out.1.mono B1.out.size))).at_ hql
      rw [List.getElem?_map, List.getElem?_eq_getElem hql] at hu
      obtain rfl : Value.int .i64 ps[m % ps.length] = u := by simpa using hu
      have hpb := HPS.out _ (List.getElem_mem hql)
      have hq : ((m : Int)).tmod (ps.length : Int) = ((m % ps.length : Nat) : Int) := by rw [Int.tmod_eq_emod_of_nonneg (by omega)]; rfl
      have hqz : ((m % ps.length : Nat) : Int) < (ps.length : Int) := by omega
      have hq0 : (0 : Int) ≤ ((m % ps.length : Nat) : Int) := by omega
      have hpz : ¬ (ps.length : Int) = 0 := by omega
      have hpz2 : ((ps.length : Int) == 0) = false := by simpa using hpz
      have g1 : decide ((ps.length : Int) > 0) = true := decide_eq_true (by omega)
      have g2 : decide (0 < ps.length) = true := decide_eq_true h1
      have g3 : decide (0 < m) = true := decide_eq_true (by omega)
      generalize hp : ps[m % ps.length] = p at *
      generalize m % ps.length = q at *
      obtain ⟨hj0, hj1⟩ := pick_bd p ((m : Int) + 1) (by omega)
      have HPK := Lib.hid (fun W => picked_any p ((m : Int) + 1) hpb (by omega) (by omega) W)
      obtain ⟨jj, hjj⟩ : ∃ jj : Nat, pick p ((m : Int) + 1) = (jj : Int) := ⟨(pick p ((m : Int) + 1)).toNat, by omega⟩
      rw [hjj] at hj0 hj1 HPK
      have hjt : jj < t.length := by omega
      clear hjj hpb hu hql hp
      have hgm : (m : Int) < t.length := by omega
      have hgj : (jj : Int) < t.length := by omega
      obtain ⟨hB, ys, hyp, hown, hyd⟩ := HS.out
      have hyl : ys.length = t.length := by have := hyp.length_eq; simpa using this
      obtain ⟨g, rfl, hgb⟩ : ∃ g, Au = some ⟨g, 0, none⟩ ∧ w1.heap.size ≤ g := by
        rcases hown.2 with ⟨e, h0⟩ | ⟨g, cap, cur, hv, hb, -⟩
        · omega
        · exact ⟨g, (Value.slice.inj hv).1, hb⟩
      obtain ⟨cI, cJ, -, -, lI, lJ, s1, s2, ri, rj, ti, tj, oi, oj, hgr, zs, hz1, hz2, hz3⟩ := swap_row hown hyd (fun y hy => (HTO.out.node _ (hyp.subset (List.mem_map_of_mem hy))).path.2) hyl hm1 hjt
      have HS5 : Hid (ShSt w1 w1.heap.size (.slice (some ⟨g, 0, none⟩) t.length cu) t ((wr.drew.setCells g (m * 12) cJ).setCells g (jj * 12) cI)) := Lib.hid ⟨hB.grown hgr hB.size (fun k e => by cases e; exact hgb), zs, (hz1.map _).trans hyp, hz2, hz3⟩
      clear hB hyp hown hyd hyl hgr hz1 hz2 hz3 zs ys hgb
      clear ri rj ti tj oi oj
      have HLJ := Lib.hid lI
      have HLI := Lib.hid lJ
      have HS1 := Lib.hid s1
      have HS2 := Lib.hid s2
      clear lI lJ s1 s2
      go_upto_region 7 with (go_at_call 11; (with_reducible refine (HPK.out _).mono ?_); rintro e w' ⟨rfl, rfl⟩)
      refine swap_reg g t.length cu m jj cI cJ hm1 hjt wr HLJ.out HLI.out HS1.out HS2.out _ (fun _ _ _ _ _ h => h) _ _ _ _ _ _ _ _ _ _ _ _ _ _ _ _ _ _ _ _ _ _ _ _ _ _ _ _ _ _ _ _ _ _ _ _ _ _ _ _ _ _ _ _ _ _ _ _ _ _ _ _ _ _ _ _ _ _ _ _ _ _ _ _ _ _ _ _ _ _ _ _ _ _ _ _ _ _ _ _ _ _ _ _ _ _ _ _ _ _ _ _ _ _ _ _ _ _ _ ?_
      go_wp2_with fail
      go_roundg (m - 1)
      case measure => omega
      case rel => exact ⟨(m : Int) - 1, by omega, by omega, by omega, by go_num, HS5⟩
    · have hkz : decide (k > 0) = decide (0 < k) := rfl
      have HDP := Lib.hid (fun W (hb : Below w.heap.size w W) (h : NodesAt W (.slice At t.length ct) t) => Depth_any _ t W (HML.out W hb) h HTO.out.node HTO.out.chk)
      have HTW := Lib.hid (HT1.out.below HS.out.1)
      have HBW := Lib.hid (B1.out.trans (HS.out.1.mono B1.out.size))
      by_cases h0 : 0 < k
      · have hp0 : ps.length = 0 := by omega
        have g1 : decide (k > 0) = true := decide_eq_true h0
        have g2 : ¬ (0 : Int) < (ps.length : Int) := by omega
        have g3 : decide ((ps.length : Int) > 0) = false := decide_eq_false g2
        have g4 : decide (0 < ps.length) = false := decide_eq_false (by omega)
        clear hp0
        go_wp2_with fail
        refine (HDP.out _ HBW.out HTW.out).mono ?_
        rintro e' w4 ⟨rfl, b4⟩
        have HB4 := Lib.hid (HBW.out.trans (b4.mono HBW.out.size))
        have HU4 : Hid (ShSt w1 w1.heap.size (.slice Au t.length cu) t w4) := Lib.hid (HS.out.below b4)
        clear b4 HTW HBW HDP
        go_wp2_with fail
        go_loopg [11, 62] t.length (fun gg s11 s62 wq => ∃ k : Nat, k ≤ t.length ∧ t.length - k ≤ gg ∧ s62 = .int .i64 k ∧ s11 = .int .i64 (depthP (t.take k)) ∧ Hid (ShSt w1 w1.heap.size (.slice Au t.length cu) t wq))
        case atStart => exact ⟨0, Nat.zero_le _, by omega, rfl, rfl, HU4⟩
        case round =>
          obtain ⟨k, hk, hg, rfl, rfl, HQ⟩ := hrel
          by_cases hlt : k < t.length
          · have hltz : (k : Int) < (t.length : Int) := by omega
            obtain ⟨ad, Ax, cx, rfl, hb, hdx, e0, e1, e2, e3, e4, e5, e6, e7, e8, e9, e10, e11⟩ := node_read_ (HT1.out.below HQ.out.1) hlt
            have HTK := Lib.hid (depthP_take hlt)
            have hpn := parts_count (p := t[k].path) (fun e => by
              have h := (HTO.out.node _ (List.getElem_mem hlt)).path.1
              rw [e] at h
              exact absurd h (by decide))
            have hnl0 := (HTO.out.node _ (List.getElem_mem hlt)).path.2
            obtain ⟨x, hx⟩ : ∃ x, x = t[k] := ⟨_, rfl⟩
            rw [← hx] at hnl0 hdx hpn HTK e0 e1 e2 e3 e4 e5 e6 e7 e8 e9 e10 e11
            clear hx hdx
            obtain ⟨np, nk, ns, nt, ⟨o1, o2, o3, o4, o5, o6, o7⟩, nd⟩ := x
            have hnl : np.length ≤ 400 := hnl0
            clear hnl0
            simp only at hpn HTK e0 e1 e2 e3 e4 e5 e6 e7 e8 e9 e10 e11
            have HPN := Lib.hid hpn
            clear hpn
            obtain ⟨W2, hW2⟩ : ∃ W2, W2 = wr.alloc (.cells #[.string (bs np), .int .i64 nk, .int .i64 ns, .string (bs nt), .int .i64 o1, .int .i64 o2, .int .i64 o3, .string (bs o4), .string (bs o5), .int .i64 o6, .int .i64 o7, .slice Ax nd.length cx] 31) := ⟨_, rfl⟩
            have b2 : Below wr.heap.size wr W2 := by rw [hW2]; exact (Below.refl _ _).alloc (Nat.le_refl _) _
            have c0 : W2.cell? ⟨wr.heap.size, 0, none⟩ = some (.string (bs np)) := by rw [hW2]; exact (Blk.new wr 31 _).cell 0
            have HQ2 := Lib.hid (HQ.out.below b2)
            have HCT := Lib.hid (fun W => Tryd.strings_Count_one (bs np) 47 W)
            have hcl : (Lib.countByte (bs np).data.toList 47 : Int) + 1 = ((partsS np).length : Int) := by rw [HPN.out, bs_data]; omega
            have hcl2 : (Lib.countByte (bs np).data.toList 47 : Int) = ((partsS np).length : Int) - 1 := by omega
            rw [hcl2] at HCT
            have hpp : (partsS np).length ≤ 1000 := by
              have h1 := HPN.out
              have h2 : Lib.countByte np 47 ≤ np.length := List.count_le_length
              omega
            clear b2 hcl hcl2 hnl
            go_upto_region 13 with fail
            rw [← hW2]
            clear hW2 e0 e1 e2 e3 e4 e5 e6 e7 e8 e9 e10 e11
            generalize depthP (t.take k) = D at *
            generalize (partsS np).length = P at *
            have hP1 : (1 : Int) + ((P : Int) - 1) = (P : Int) := by omega
            go_wp2_with fail
            refine (HCT.out _).mono ?_
            rintro e' w5 ⟨rfl, rfl⟩
            go_wp2_with fail
            go_roundg (t.length - (k + 1))
            case measure => omega
            case rel => exact ⟨k + 1, by omega, by omega, by go_num, by rw [HTK.out], HQ2⟩
          · obtain rfl : k = t.length := by omega
            rw [List.take_length]
            obtain ⟨WL, hWL⟩ : ∃ WL, WL = wr.alloc (.cells #[.string ⟨#[98]⟩, .int .i64 0, .int .i64 0, .string ⟨#[]⟩, .int .i64 0, .int .i64 0, .int .i64 0, .string ⟨#[]⟩, .string ⟨#[]⟩, .int .i64 0, .int .i64 0, .slice none 0 0, .string ⟨#[97]⟩, .int .i64 0, .int .i64 0, .string ⟨#[]⟩, .int .i64 0, .int .i64 0, .int .i64 0, .string ⟨#[]⟩, .string ⟨#[]⟩, .int .i64 0, .int .i64 0, .slice none 0 0] 31) := ⟨_, rfl⟩
            have bL : Below wr.heap.size wr WL := by rw [hWL]; exact (Below.refl _ _).alloc (Nat.le_refl _) _
            have HQL := Lib.hid (HQ.out.below bL)
            have HBL := Lib.hid (B1.out.trans (HQL.out.1.mono B1.out.size))
            have htwo := two_at wr
            rw [← hWL] at htwo
            have HSO := Lib.hid (OSort_any _ _ WL (HML.out _ HBL.out) htwo (by simp [litN]) (by simp [litN]) (by simp))
            clear bL htwo
            go_wp2_with fail
            rw [← hWL]
            clear hWL
            refine HSO.out.mono ?_
            rintro e' w6 ⟨sv, rfl, ⟨m2, hm1, hm2, hm3⟩, b6⟩
            rw [two_sorted hm1 hm2] at hm3
            obtain ⟨g6, c6, rfl, -, -, -, -, -, hr6⟩ := hm3.row (by simp)
            obtain ⟨dv6, -, f0, -⟩ := hr6 0 (by simp)
            simp only [List.getElem_cons_zero, litN, nodeC, Nat.zero_mul] at f0
            replace f0 : w6.cell? ⟨g6, 0, none⟩ = some (.string ⟨#[97]⟩) := f0
            have HQ6 := Lib.hid (HQL.out.below b6)
            have HB6 := Lib.hid (B1.out.trans (HQ6.out.1.mono B1.out.size))
            have HU6 : Hid (∃ l', l'.Perm t ∧ NodesAt w6 (.slice Au t.length cu) l') := Lib.hid (by
              obtain ⟨_, ys, h2, h3, h4⟩ := HQ6.out
              obtain ⟨A', c', e1, e2, e3, e4, e5⟩ := ownsRow_read h3
              have hyl : ys.length = t.length := by have := h2.length_eq; simpa using this
              exact ⟨ys.map (·.1), h2, ys, A', c', rfl, by rw [e1, List.length_map, hyl], by rw [List.length_map, hyl]; exact e2, e3, e4, by rw [List.length_map, hyl]; exact e5, h4⟩)
            obtain ⟨l', hl'p, hl'a⟩ := HU6.out
            have HS6 := Lib.hid (OSort_any _ l' w6 (HML.out _ HB6.out) hl'a (fun x hx => (HTO.out.node _ (hl'p.subset hx)).path.2) (fun x hx => by have := (HTO.out.node _ (hl'p.subset hx)).data.1; omega) (by rw [hl'p.length_eq]; exact hlen))
            have HLP := Lib.hid hl'p
            have HT6 := Lib.hid (HT1.out.below HQ6.out.1)
            clear hm1 hm2 hm3 hr6 b6 hl'p hl'a HU6 HSO HQL
            go_wp2_with fail
            refine HS6.out.mono ?_
            rintro e' w7 ⟨tv7, rfl, ⟨m7, hp7, hs7, ho7⟩, b7⟩
            have hmt : m7 = t := sorted_same (hp7.trans HLP.out) hs7 HTO.out.sorted
            rw [hmt] at ho7
            have HSE := Lib.hid (SameTree_any _ _ t t w7 ho7.at_ (HT6.out.below b7))
            rw [decide_eq_true (show t = t from rfl)] at HSE
            have HB7 := Lib.hid (HB6.out.trans (b7.mono HB6.out.size))
            clear hp7 hs7 ho7 hmt b7 HS6
            go_wp2_with fail
            refine HSE.out.mono ?_
            rintro e' w8 ⟨rfl, b8⟩
            have HB8 := Lib.hid (HB7.out.trans (b8.mono HB7.out.size))
            clear b8
            have qd : (depthP t == depthP t) = true := beq_self_eq_true _
            go_wp2_with fail
            go_ret
            exact ⟨rfl, HB8.out⟩
      · have g1 : decide (k > 0) = false := decide_eq_false h0
        go_wp2_with fail
        refine (HDP.out _ HBW.out HTW.out).mono ?_
        rintro e' w4 ⟨rfl, b4⟩
        have HB4 := Lib.hid (HBW.out.trans (b4.mono HBW.out.size))
        have HU4 : Hid (ShSt w1 w1.heap.size (.slice Au t.length cu) t w4) := Lib.hid (HS.out.below b4)
        clear b4 HTW HBW HDP
        go_wp2_with fail
        go_loopg [11, 62] t.length (fun gg s11 s62 wq => ∃ k : Nat, k ≤ t.length ∧ t.length - k ≤ gg ∧ s62 = .int .i64 k ∧ s11 = .int .i64 (depthP (t.take k)) ∧ Hid (ShSt w1 w1.heap.size (.slice Au t.length cu) t wq))
        case atStart => exact ⟨0, Nat.zero_le _, by omega, rfl, rfl, HU4⟩
        case round =>
          obtain ⟨k, hk, hg, rfl, rfl, HQ⟩ := hrel
          by_cases hlt : k < t.length
          · have hltz : (k : Int) < (t.length : Int) := by omega
            obtain ⟨ad, Ax, cx, rfl, hb, hdx, e0, e1, e2, e3, e4, e5, e6, e7, e8, e9, e10, e11⟩ := node_read_ (HT1.out.below HQ.out.1) hlt
            have HTK := Lib.hid (depthP_take hlt)
            have hpn := parts_count (p := t[k].path) (fun e => by
              have h := (HTO.out.node _ (List.getElem_mem hlt)).path.1
              rw [e] at h
              exact absurd h (by decide))
            have hnl0 := (HTO.out.node _ (List.getElem_mem hlt)).path.2
            obtain ⟨x, hx⟩ : ∃ x, x = t[k] := ⟨_, rfl⟩
            rw [← hx] at hnl0 hdx hpn HTK e0 e1 e2 e3 e4 e5 e6 e7 e8 e9 e10 e11
            clear hx hdx
            obtain ⟨np, nk, ns, nt, ⟨o1, o2, o3, o4, o5, o6, o7⟩, nd⟩ := x
            have hnl : np.length ≤ 400 := hnl0
            clear hnl0
            simp only at hpn HTK e0 e1 e2 e3 e4 e5 e6 e7 e8 e9 e10 e11
            have HPN := Lib.hid hpn
            clear hpn
            obtain ⟨W2, hW2⟩ : ∃ W2, W2 = wr.alloc (.cells #[.string (bs np), .int .i64 nk, .int .i64 ns, .string (bs nt), .int .i64 o1, .int .i64 o2, .int .i64 o3, .string (bs o4), .string (bs o5), .int .i64 o6, .int .i64 o7, .slice Ax nd.length cx] 31) := ⟨_, rfl⟩
            have b2 : Below wr.heap.size wr W2 := by rw [hW2]; exact (Below.refl _ _).alloc (Nat.le_refl _) _
            have c0 : W2.cell? ⟨wr.heap.size, 0, none⟩ = some (.string (bs np)) := by rw [hW2]; exact (Blk.new wr 31 _).cell 0
            have HQ2 := Lib.hid (HQ.out.below b2)
            have HCT := Lib.hid (fun W => Tryd.strings_Count_one (bs np) 47 W)
            have hcl : (Lib.countByte (bs np).data.toList 47 : Int) + 1 = ((partsS np).length : Int) := by rw [HPN.out, bs_data]; omega
            have hcl2 : (Lib.countByte (bs np).data.toList 47 : Int) = ((partsS np).length : Int) - 1 := by omega
            rw [hcl2] at HCT
            have hpp : (partsS np).length ≤ 1000 := by
              have h1 := HPN.out
              have h2 : Lib.countByte np 47 ≤ np.length := List.count_le_length
              omega
            clear b2 hcl hcl2 hnl
            go_upto_region 13 with fail
            rw [← hW2]
            clear hW2 e0 e1 e2 e3 e4 e5 e6 e7 e8 e9 e10 e11
            generalize depthP (t.take k) = D at *
            generalize (partsS np).length = P at *
            have hP1 : (1 : Int) + ((P : Int) - 1) = (P : Int) := by omega
            go_wp2_with fail
            refine (HCT.out _).mono ?_
            rintro e' w5 ⟨rfl, rfl⟩
            go_wp2_with fail
            go_roundg (t.length - (k + 1))
            case measure => omega
            case rel => exact ⟨k + 1, by omega, by omega, by go_num, by rw [HTK.out], HQ2⟩
          · obtain rfl : k = t.length := by omega
            rw [List.take_length]
            obtain ⟨WL, hWL⟩ : ∃ WL, WL = wr.alloc (.cells #[.string ⟨#[98]⟩, .int .i64 0, .int .i64 0, .string ⟨#[]⟩, .int .i64 0, .int .i64 0, .int .i64 0, .string ⟨#[]⟩, .string ⟨#[]⟩, .int .i64 0, .int .i64 0, .slice none 0 0, .string ⟨#[97]⟩, .int .i64 0, .int .i64 0, .string ⟨#[]⟩, .int .i64 0, .int .i64 0, .int .i64 0, .string ⟨#[]⟩, .string ⟨#[]⟩, .int .i64 0, .int .i64 0, .slice none 0 0] 31) := ⟨_, rfl⟩
            have bL : Below wr.heap.size wr WL := by rw [hWL]; exact (Below.refl _ _).alloc (Nat.le_refl _) _
            have HQL := Lib.hid (HQ.out.below bL)
            have HBL := Lib.hid (B1.out.trans (HQL.out.1.mono B1.out.size))
            have htwo := two_at wr
            rw [← hWL] at htwo
            have HSO := Lib.hid (OSort_any _ _ WL (HML.out _ HBL.out) htwo (by simp [litN]) (by simp [litN]) (by simp))
            clear bL htwo
            go_wp2_with fail
            rw [← hWL]
            clear hWL
            refine HSO.out.mono ?_
            rintro e' w6 ⟨sv, rfl, ⟨m2, hm1, hm2, hm3⟩, b6⟩
            rw [two_sorted hm1 hm2] at hm3
            obtain ⟨g6, c6, rfl, -, -, -, -, -, hr6⟩ := hm3.row (by simp)
            obtain ⟨dv6, -, f0, -⟩ := hr6 0 (by simp)
            simp only [List.getElem_cons_zero, litN, nodeC, Nat.zero_mul] at f0
            replace f0 : w6.cell? ⟨g6, 0, none⟩ = some (.string ⟨#[97]⟩) := f0
            have HQ6 := Lib.hid (HQL.out.below b6)
            have HB6 := Lib.hid (B1.out.trans (HQ6.out.1.mono B1.out.size))
            have HU6 : Hid (∃ l', l'.Perm t ∧ NodesAt w6 (.slice Au t.length cu) l') := Lib.hid (by
              obtain ⟨_, ys, h2, h3, h4⟩ := HQ6.out
              obtain ⟨A', c', e1, e2, e3, e4, e5⟩ := ownsRow_read h3
              have hyl : ys.length = t.length := by have := h2.length_eq; simpa using this
              exact ⟨ys.map (·.1), h2, ys, A', c', rfl, by rw [e1, List.length_map, hyl], by rw [List.length_map, hyl]; exact e2, e3, e4, by rw [List.length_map, hyl]; exact e5, h4⟩)
            obtain ⟨l', hl'p, hl'a⟩ := HU6.out
            have HS6 := Lib.hid (OSort_any _ l' w6 (HML.out _ HB6.out) hl'a (fun x hx => (HTO.out.node _ (hl'p.subset hx)).path.2) (fun x hx => by have := (HTO.out.node _ (hl'p.subset hx)).data.1; omega) (by rw [hl'p.length_eq]; exact hlen))
            have HLP := Lib.hid hl'p
            have HT6 := Lib.hid (HT1.out.below HQ6.out.1)
            clear hm1 hm2 hm3 hr6 b6 hl'p hl'a HU6 HSO HQL
            go_wp2_with fail
            refine HS6.out.mono ?_
            rintro e' w7 ⟨tv7, rfl, ⟨m7, hp7, hs7, ho7⟩, b7⟩
            have hmt : m7 = t := sorted_same (hp7.trans HLP.out) hs7 HTO.out.sorted
            rw [hmt] at ho7
            have HSE := Lib.hid (SameTree_any _ _ t t w7 ho7.at_ (HT6.out.below b7))
            rw [decide_eq_true (show t = t from rfl)] at HSE
            have HB7 := Lib.hid (HB6.out.trans (b7.mono HB6.out.size))
            clear hp7 hs7 ho7 hmt b7 HS6
            go_wp2_with fail
            refine HSE.out.mono ?_
            rintro e' w8 ⟨rfl, b8⟩
            have HB8 := Lib.hid (HB7.out.trans (b8.mono HB7.out.size))
            clear b8
            have qd : (depthP t == depthP t) = true := beq_self_eq_true _
            go_wp2_with fail
            go_ret
            exact ⟨rfl, HB8.out⟩
end Go.Proofs.YtjbpoijefkbllaaDoor
