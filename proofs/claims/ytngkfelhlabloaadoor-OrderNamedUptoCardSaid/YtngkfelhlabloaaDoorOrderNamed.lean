/-
  The law OrderNamed: what it computes is true. Condition: raw things of the second form's bound.
-/
import Derived.Test.YtngkfelhlabloaaDoorONames

import Derived.Test.YtngkfelhlabloaaDoorGrows
import Derived.Test.YtngkfelhlabloaaDoorTree
namespace Go.Proofs.YtngkfelhlabloaaDoor
open Go.RowKit

set_option maxRecDepth 100000 in
set_option maxHeartbeats 8000000 in
/-- of what is no directory no names are told -/
theorem ONames_no (v : Value) (t : List NodeP) (dir : List UInt8) (w : World) (hm : ML w) (hl : NodesAt w v t) (hok : ∀ y ∈ t, NodeOk y) (hch : chkT t = 0) (h0 : dir ≠ []) (i : Nat) (hi : i < t.length) (hf : findP t dir = some i) (hk : t[i].kind ≠ 2) :
    Calls Tryd.prog 25 #[v, .string (bs dir)] w fun e w' => e = .returned (.tuple #[.slice none 0 0, .int .i64 10]) ∧ Below w.heap.size w w' := by
  have HCK := Lib.hid (TCheck_any v t w hm hl hok)
  rw [hch] at HCK
  have HFI := Lib.hid (fun W (hb : Below w.heap.size w W) => Find_any v t dir W (hl.below hb))
  rw [hf] at HFI
  unfold findR at HFI
  have HN := Lib.hid hl
  obtain ⟨_, A, c, -, rfl, hlc, hc, -⟩ := hl
  unfold maxLen at hc
  have t1 : ¬ (bs dir).toList = [] := by rw [bs_toList]; exact h0
  have t2 : (bs dir).toList.isEmpty = false := by rw [bs_toList]; cases dir with | nil => exact absurd rfl h0 | cons => rfl
  have i1 : (i : Int) < t.length := by omega
  have i0 : (0 : Int) ≤ (i : Int) := by omega
  have q1 : (t[i].kind == 2) = false := by simp [hk]
  have q2 : (t[i].kind != 2) = true := by simp [hk]
  clear hm hok hch hf h0 hk
  go_enter Tryd.func25, Tryd.ntmps25
  go_wp2_with fail
  refine HCK.out.mono ?_
  rintro e w1 ⟨rfl, b1⟩
  have B1 := Lib.hid b1
  clear b1
  go_wp2_with fail
  refine (HFI.out _ B1.out).mono ?_
  rintro e w2 ⟨rfl, b2⟩
  have B2 := Lib.hid (B1.out.trans (b2.mono B1.out.size))
  clear b2
  obtain ⟨ad, Ax, cx, rfl, _, -, -, e1, -⟩ := node_read (HN.out.below B2.out) hi
  generalize t[i].kind = kk at *
  go_wp2_with fail
  go_ret2
  exact ⟨rfl, B2.out⟩
theorem run_app_at {w : World} {base : Nat} {v u : Value} {l m : List NodeP} (ty : TypeId) (h : NodesOwn w base v l) (hm : NodesAt w u m) (hl : l.length + m.length ≤ 100000) (hb : base ≤ w.heap.size) :
    ∃ v' w', (Builtin.append_ #[35, 35] ty #[v, u]).run Tryd.prog w = .ok v' w' ∧ NodesAt w' v' (l ++ m) ∧ Below base w w' := by
  obtain ⟨xs, hx, hox, hdx⟩ := h
  obtain ⟨ys, A, c, hy, rfl, h1, h2, h3, hr, hdy⟩ := hm
  obtain ⟨i9, hi9, hy0, hy1, hy2⟩ := info_parts nodeinfo
  obtain ⟨v', w', hrun, hown, hg, -⟩ := run_append_any (P := Tryd.prog) w base 35 ty 46 i9 _ 12 144 Tryd.underlying35 hi9 hy0 hy1 hy2 rfl (by omega) v l.length (xs.flatMap nodeC) hox w.heap.size A m.length c (ys.flatMap nodeC) hr (one_nodes hdy) (by simp only [maxLen]; omega) (by omega) hb
  have hk : U8Kept w w' := U8Kept.grown hg (fun g e => by
    obtain ⟨_, C, fr, hC⟩ := own_typed hox e
    exact ⟨C, _, fr, hC, by decide⟩)
  obtain ⟨A2, c2, e1, e2, e3, e4, e5⟩ := ownsRow_read hown
  refine ⟨v', w', hrun, ⟨xs ++ ys, A2, c2, by rw [List.map_append, hx, hy], by rw [List.length_append]; exact e1, by rw [List.length_append]; exact e2, e3, e4, by rw [List.length_append, List.flatMap_append]; exact e5, fun z hz => ?_⟩, (Below.refl base w).grown hg hb (fun k e => (own_typed hox e).1)⟩
  rcases List.mem_append.1 hz with h | h
  · exact ((hdx z h).mono (Nat.zero_le _)).kept hk
  · exact (hdy z h).kept hk
theorem wpList_app_at (w : World) {ops : Array Oper} {rest : List Oper} {o : Oper} {a : Act} {Q : Exit → Act → World → Prop} (hgd : o.guard = none) (s x : Operand)
    (ho : o.op = .call { callee := .builtin .append, args := #[s, x], argTypes := #[35, 35] })
    (base : Nat) (v u : Value) (l m : List NodeP) (hs : a.eval s = v) (hx : a.eval x = u) (h : NodesOwn w base v l) (hm : NodesAt w u m) (hl : l.length + m.length ≤ 100000) (hb : base ≤ w.heap.size)
    (hK : ∀ v' w', NodesAt w' v' (l ++ m) → Below base w w' → wpList Tryd.prog ops Q rest (a.put o.dst v') w') : wpList Tryd.prog ops Q (o :: rest) a w :=
  wpList_plain hgd fun _ hK' => by
    obtain ⟨v', w', hrun, h1, h2⟩ := run_app_at (ty := o.type) h hm hl hb
    unfold Oper.wp execOp
    simp only [ho, resolve, invoke, builtin, Sem.run_bind, Sem.run_pure, Result.andThen_ok, List.map_toArray, List.map_cons, List.map_nil, hs, hx, hrun]
    exact hK' _ _ (hK v' w' h1 h2)
theorem manyP_bd (t : List NodeP) : ∀ r : List NodeP, manyP t r ≤ r.length * t.length
  | [] => by simp [manyP]
  | n :: r => by
    have h1 := manyP_bd t r
    have h2 := namesP_length t n.path
    unfold manyP at h1 ⊢
    rw [List.map_cons, List.sum_cons, List.length_cons, Nat.add_mul]
    split <;> omega
theorem manyP_take {t r : List NodeP} {k : Nat} (hk : k < r.length) : manyP t (r.take (k + 1)) = manyP t (r.take k) + if r[k].kind = 2 then (namesP t r[k].path).length else 0 := by
  rw [List.take_succ_eq_append_getElem hk, manyP_snoc]
theorem root_lit (w : World) : NodesOwn (w.alloc (.cells #[.string ⟨#[]⟩, .int .i64 2, .int .i64 0, .string ⟨#[]⟩, .int .i64 0, .int .i64 0, .int .i64 0, .string ⟨#[]⟩, .string ⟨#[]⟩, .int .i64 0, .int .i64 0, .slice none 0 0] 46)) w.heap.size (.slice (some ⟨w.heap.size, 0, none⟩) 1 1) [rootN] :=
  ⟨[(rootN, .slice none 0 0)], rfl, ⟨rfl, .inr ⟨w.heap.size, 1, _, rfl, Nat.le_refl _, heap_alloc_new w _, Nat.le_refl _, by simp [maxLen], rfl, rfl⟩⟩, by
    intro x hx
    rw [List.mem_singleton] at hx
    subst hx
    exact DataAt.nil _ _⟩
theorem small_dir : dirIn smallP [97] := .inr ⟨0, by decide, by decide, by decide⟩
set_option maxHeartbeats 400000 in
/-- slices.Equal over strings: one of each, the same -/
theorem EqB_any (v1 v2 : Value) (x : List UInt8) (b1 b2 : Nat) (w : World) (h1 : DirsOwn w b1 v1 [x]) (h2 : DirsOwn w b2 v2 [x]) :
    Calls Tryd.prog 28 #[v1, v2] w fun e w' => e = .returned (.bool true) ∧ Below w.heap.size w w' := by
  obtain ⟨g1, c1, rfl, k1, m1, _, q1⟩ := DirsOwn.at_ h1 (by simp)
  obtain ⟨g2, c2, rfl, k2, m2, _, q2⟩ := DirsOwn.at_ h2 (by simp)
  have hc : ∀ {g : Nat}, (∀ k (hk : k < [x].length), w.cell? ⟨g, k, none⟩ = some (.string (bs [x][k]))) → ∀ j, j < [bs x].length → w.cell? ⟨g, 0 + j, none⟩ = some (.string ([bs x].getD j default)) := fun {g} h j hj => by
    have hj : j < 1 := hj
    obtain rfl : j = 0 := by omega
    exact h 0 (by simp)
  refine (Tryd.slices_Equal_string g1 0 1 c1 g2 0 1 c2 [bs x] [bs x] w (by simp) (by simp) (by omega) (by omega) (hc q1) (hc q2)).mono ?_
  rintro e w' ⟨rfl, q, rfl⟩
  refine ⟨?_, below_drewN (Below.refl _ _) q⟩
  simp
set_option maxRecDepth 100000 in
set_option maxHeartbeats 8000000 in
theorem OrderNamed_walk (w : World) (hsh : w.ShapedOpen Tryd.prog) (v : Value) (l : List RawS) (hl : RawsAt w w.heap.size v l) (hok : ∀ x ∈ l, RawOk x) (hn : l.length ≤ 1048576) :
    Calls Tryd.prog 6 #[v] w fun e w' => e = .returned (.bool true) ∧ Below w.heap.size w w' := by
  have hm := ML.of_shaped hsh
  clear hsh
  have HT := Lib.hid (fun (_ : Unit) => Tree_any l v 30 w hm hl hok hn (by omega))
  have hto := treeP_ok l 30 (by omega)
  have HML : Hid (∀ W, Below w.heap.size w W → ML W) := Lib.hid (fun W hb => hm.below hb)
  clear hm hl hok hn
  generalize treeP l 30 = t at *
  have HTO := Lib.hid hto
  have hlen := hto.len
  clear hto
  have HON : Hid (∀ s W tv dir, TreeOk s → Below w.heap.size w W → NodesAt W tv s → dirIn s dir → Calls Tryd.prog 25 #[tv, .string (bs dir)] W fun e w' => ∃ nv, e = .returned (.tuple #[nv, .int .i64 0]) ∧ DirsOwn w' W.heap.size nv (namesP s dir) ∧ Below W.heap.size W w') := Lib.hid (fun s W tv dir hs hb h hd => ONames_any tv s dir W (HML.out W hb) h hs.node hs.chk hd)
  have HNO : Hid (∀ W tv (x : NodeP), Below w.heap.size w W → NodesAt W tv t → x ∈ t → x.kind ≠ 2 → Calls Tryd.prog 25 #[tv, .string (bs x.path)] W fun e w' => e = .returned (.tuple #[.slice none 0 0, .int .i64 10]) ∧ Below W.heap.size W w') := Lib.hid (fun W tv x hb h hx hk => by
    obtain ⟨i, hi, rfl⟩ := List.getElem_of_mem hx
    exact ONames_no tv t _ W (HML.out W hb) h HTO.out.node HTO.out.chk (path_ne (HTO.out.node _ hx)) i hi (findP_at (sorted_nodup HTO.out.sorted) hi) hk)
  go_enter Tryd.func6, Tryd.ntmps6
  go_wp2_with fail
  refine (HT.out ()).mono ?_
  rintro e' w1 ⟨tv, rfl, htv, b1⟩
  have B1 := Lib.hid b1
  have HTV1 := Lib.hid htv.at_
  clear b1 htv HT
  obtain ⟨_, At, ct, -, hte, hct1, hct2, -⟩ := HTV1.out
  subst hte
  unfold maxLen at hct2
  have bA := (Below.refl w1.heap.size w1).alloc (Nat.le_refl _) (.cells #[.string ⟨#[]⟩, .int .i64 2, .int .i64 0, .string ⟨#[]⟩, .int .i64 0, .int .i64 0, .int .i64 0, .string ⟨#[]⟩, .string ⟨#[]⟩, .int .i64 0, .int .i64 0, .slice none 0 0] 46)
  have BA := Lib.hid bA
  have HTVA := Lib.hid (HTV1.out.below bA)
  have HRT := Lib.hid (root_lit w1)
  have hle := bA.size
  have hl1 : [rootN].length + t.length ≤ 100000 := by simp; omega
  have HL1 := Lib.hid hl1
  have HLR : Hid (([rootN] ++ t).length = t.length + 1) := Lib.hid (by rw [List.length_append, List.length_singleton]; omega)
  clear bA hl1
  go_wp2_with (at_builtin; refine wpList_app_at _ rfl (.tmp 18) (.tmp 19) rfl w1.heap.size _ _ _ _ (by rfl) (by rfl) HRT.out HTVA.out HL1.out hle ?_; intro rv w2 hrv b2; obtain ⟨_, Ar, cr, -, hre, hcr1, hcr2, -⟩ := id hrv; rw [HLR.out] at hre hcr1; have HRV := Lib.hid hrv; subst hre; have HB12 := Lib.hid (BA.out.trans b2); clear b2)
  unfold maxLen at hcr2
  obtain ⟨R, hRd⟩ : ∃ R, R = [rootN] ++ t := ⟨_, rfl⟩
  rw [← hRd] at HRV HLR
  have HTV := Lib.hid (HTV1.out.below HB12.out)
  have B2 := Lib.hid (B1.out.trans (HB12.out.mono B1.out.size))
  have HDI : Hid (∀ k (hk : k < R.length), (R[k].kind = 2 ∧ dirIn t R[k].path) ∨ (R[k].kind ≠ 2 ∧ R[k] ∈ t)) := Lib.hid (fun k hk => by
    have hm : R[k] ∈ R := List.getElem_mem _
    obtain ⟨x, hx⟩ : ∃ x, x = R[k] := ⟨_, rfl⟩
    rw [← hx] at hm ⊢
    rw [hRd, List.singleton_append, List.mem_cons] at hm
    rcases hm with rfl | hm
    · exact .inl ⟨rfl, .inl rfl⟩
    · by_cases h2 : x.kind = 2
      · obtain ⟨i, hi, rfl⟩ := List.getElem_of_mem hm
        exact .inl ⟨h2, .inr ⟨i, hi, findP_at (sorted_nodup HTO.out.sorted) hi, h2⟩⟩
      · exact .inr ⟨h2, hm⟩)
  have HALL : Hid (manyP t R = t.length) := Lib.hid (by rw [hRd]; exact many_all HTO.out)
  have HBD : Hid (∀ k, manyP t (R.take k) ≤ 41 * 40) := Lib.hid (fun k => by
    have h1 := manyP_bd t (R.take k)
    have h2 : (R.take k).length ≤ 41 := by rw [List.length_take, HLR.out]; omega
    exact Nat.le_trans h1 (Nat.mul_le_mul h2 hlen))
  clear hRd hrv HTV1 HTVA BA HRT HL1
  go_loopg [4, 22] (t.length + 1) (fun gg s4 s22 wr => ∃ k : Nat, k ≤ t.length + 1 ∧ t.length + 1 - k ≤ gg ∧ s22 = .int .i64 k ∧ s4 = .int .i64 (manyP t (R.take k) : Int) ∧ Hid (Below w2.heap.size w2 wr))
  case atStart => exact ⟨0, Nat.zero_le _, by omega, rfl, by simp [manyP], Lib.hid (Below.refl _ _)⟩
  case round =>
    obtain ⟨k, hk, hg, rfl, rfl, HW⟩ := hrel
    by_cases hlt : k < t.length + 1
    · have hltz : (k : Int) < (t.length : Int) + 1 := by omega
      have hkR : k < R.length := by rw [HLR.out]; exact hlt
      obtain ⟨ad, Ax, cx, rfl, hb, hdx, e0, e1, e2, e3, e4, e5, e6, e7, e8, e9, e10, e11⟩ := node_read (HRV.out.below HW.out) hkR
      have hdi := HDI.out k hkR
      have HMT := Lib.hid (manyP_take (t := t) hkR)
      have hbd := HBD.out k
      obtain ⟨x, hx⟩ : ∃ x, x = R[k] := ⟨_, rfl⟩
      rw [← hx] at hdi HMT e0 e1 e2 e3 e4 e5 e6 e7 e8 e9 e10 e11
      rw [← hx] at hdx
      clear hdx hx
      obtain ⟨np, nk, ns, nt, ⟨o1, o2, o3, o4, o5, o6, o7⟩, nd⟩ := x
      simp only at hdi HMT e0 e1 e2 e3 e4 e5 e6 e7 e8 e9 e10 e11
      obtain ⟨W2, hW2⟩ : ∃ W2, W2 = wr.alloc (.cells #[.string (bs np), .int .i64 nk, .int .i64 ns, .string (bs nt), .int .i64 o1, .int .i64 o2, .int .i64 o3, .string (bs o4), .string (bs o5), .int .i64 o6, .int .i64 o7, .slice Ax nd.length cx] 46) := ⟨_, rfl⟩
      have b2 : Below wr.heap.size wr W2 := by rw [hW2]; exact (Below.refl _ _).alloc (Nat.le_refl _) _
      have K2 : Blk W2 wr.heap.size 46 (nodeC (⟨np, nk, ns, nt, ⟨o1, o2, o3, o4, o5, o6, o7⟩, nd⟩, .slice Ax nd.length cx)).toArray := by rw [hW2]; exact Blk.new _ _ _
      have HB2 := Lib.hid (HW.out.trans (b2.mono HW.out.size))
      have HK2 := Lib.hid K2
      clear b2 K2
      go_upto_region 6 with fail
      rw [← hW2]
      clear hW2 e0 e1 e2 e3 e4 e5 e6 e7 e8 e9 e10 e11
      have c0 : W2.cell? ⟨wr.heap.size, 0, none⟩ = some (.string (bs np)) := HK2.out.cell 0
      rcases hdi with ⟨rfl, hdir⟩ | ⟨hk2, hmem⟩
      · have HNM := Lib.hid (HON.out t W2 _ np HTO.out (B2.out.trans (HB2.out.mono B2.out.size)) (HTV.out.below HB2.out) hdir)
        obtain ⟨L, hL⟩ : ∃ L, L = namesP t np := ⟨_, rfl⟩
        have HNS : Hid (∀ i (h : i + 1 < L.length), Op.bytesLess L[i + 1] L[i] = false) := Lib.hid (by subst hL; exact names_sorted HTO.out np)
        have HNF : Hid (∀ b, b ∈ L → (withDir np b).length ≤ 400 ∧ ∃ k, findP t (withDir np b) = some k) := Lib.hid (by subst hL; exact fun b hb => names_found HTO.out np hb)
        have hnl := namesP_length t np
        rw [if_pos rfl] at HMT
        rw [← hL] at HMT HNM hnl
        clear hdir hL
        generalize manyP t (R.take k) = mk0 at *
        go_wp2_with fail
        refine HNM.out.mono ?_
        rintro e' w5 ⟨nv, rfl, hnv, b5⟩
        have HB5 := Lib.hid (HB2.out.trans (b5.mono HB2.out.size))
        have HK5 := Lib.hid (HK2.out.below b5 HK2.out.lt)
        have HNV := Lib.hid hnv
        have HIS := Lib.hid (IsSorted_ok nv L _ w5 (Nat.le_refl _) hnv.strs (by omega) HNS.out)
        obtain ⟨An, cn, hne, hcn1, hcn2, -⟩ := ownsRow_read hnv
        subst hne
        unfold maxLen at hcn2
        have d1 : w5.cell? ⟨wr.heap.size, 1, none⟩ = some (.int .i64 2) := HK5.out.cell 1
        clear b5 hnv HNM c0
        go_wp2_with fail
        refine HIS.out.mono ?_
        rintro e' w6 ⟨rfl, b6⟩
        have HB6 := Lib.hid (HB5.out.trans (b6.mono HB5.out.size))
        have HK6 := Lib.hid (HK5.out.below b6 HK5.out.lt)
        have HN6 := Lib.hid (ownsRow_below HNV.out b6)
        clear b6 d1 HIS
        obtain ⟨g6, hg6⟩ : ∃ g6, g6 = wr.heap.size := ⟨_, rfl⟩
        rw [← hg6] at HK6 ⊢
        clear hg6
        go_wp2_with fail
        go_loopg [4, 10, 47] L.length (fun gg s4 _ s47 wx => ∃ j : Nat, j ≤ L.length ∧ L.length - j ≤ gg ∧ s47 = .int .i64 j ∧ s4 = .int .i64 ((mk0 : Int) + j) ∧ Hid (Below w6.heap.size w6 wx))
        case atStart => exact ⟨0, Nat.zero_le _, by omega, rfl, by simp, Lib.hid (Below.refl _ _)⟩
        case round =>
          obtain ⟨j, hj, hgj, rfl, rfl, HV⟩ := hrel
          by_cases hlj : j < L.length
          · have hljz : (j : Int) < (L.length : Int) := by omega
            obtain ⟨A8, c8, h8, _, _, _, hr8⟩ := ownsRow_read (ownsRow_below HN6.out HV.out)
            have hA8 : An = A8 := by injection h8 with h _ _
            subst hA8
            clear h8
            obtain ⟨adn, u, rfl, _, hu, r1⟩ := hr8.at_ hlj
            rw [List.getElem?_map, List.getElem?_eq_getElem hlj] at hu
            simp only [Option.map_some, Option.some.injEq] at hu
            subst hu
            obtain ⟨hwl, k2, hf2⟩ := HNF.out L[j] (List.getElem_mem _)
            have c0 : wr.cell? ⟨g6, 0, none⟩ = some (.string (bs np)) := (HK6.out.below HV.out HK6.out.lt).cell 0
            have HF2 := Lib.hid (Find_any _ _ (withDir np L[j]) wr (HTV.out.below (HB6.out.trans (HV.out.mono HB6.out.size))))
            rw [hf2] at HF2
            unfold findR at HF2
            have j0 : (0 : Int) ≤ (j : Int) := by omega
            clear hf2 hr8
            generalize L[j] = b at *
            go_upto_if 53 with fail
            go_cut [10, 47] from 47 to 69 (fun s10 s47 wx => s10 = .string (bs (withDir np b)) ∧ s47 = .int .i64 j ∧ wx = wr)
            case first =>
              by_cases hnp : np = []
              · have HE : Hid (bs b = bs (withDir np b)) := Lib.hid (by unfold withDir; rw [if_pos hnp])
                have t1 : (bs np).toList = [] := by rw [bs_toList]; exact hnp
                have t2 : (bs np).toList.isEmpty = true := by rw [t1]; rfl
                clear hnp
                simp only [t2, Bool.not_true]
                go_wp2_with fail
                go_meet
                case rel => exact ⟨by rw [HE.out], rfl, rfl⟩
              · have HE : Hid (bs np ++ ⟨#[47]⟩ ++ bs b = bs (withDir np b)) := Lib.hid (by
                  unfold withDir
                  rw [if_neg hnp, show (⟨#[47]⟩ : ByteArray) = bs [47] from rfl, bs_append, bs_append]
                  simp)
                have hz : (withDir np b).length = np.length + 1 + b.length := by unfold withDir; rw [if_neg hnp]; simp; omega
                have z1 : (bs np).size ≤ 400 := by rw [bs_size]; omega
                have z2 : (bs b).size ≤ 400 := by rw [bs_size]; omega
                have t1 : ¬ (bs np).toList = [] := by rw [bs_toList]; exact hnp
                have t2 : (bs np).toList.isEmpty = false := by rw [bs_toList]; cases np with | nil => exact absurd rfl hnp | cons => rfl
                clear hnp hz
                simp only [t2, Bool.not_false]
                go_wp2_with fail
                go_meet
                case rel => exact ⟨by rw [HE.out], rfl, rfl⟩
            case rest =>
              obtain ⟨rfl, rfl, rfl⟩ := hcut
              clear c0 r1
              generalize withDir np b = wd at *
              go_wp2_with fail
              refine HF2.out.mono ?_
              rintro e' w8 ⟨rfl, b8⟩
              have HB8 := Lib.hid (HV.out.trans (b8.mono HV.out.size))
              clear b8 HF2
              go_wp2_with fail
              go_roundg (L.length - (j + 1))
              case measure => omega
              case rel => exact ⟨j + 1, by omega, by omega, by go_num, by go_num, HB8⟩
          · obtain rfl : j = L.length := by omega
            go_wp2_with fail
            go_roundg (t.length + 1 - (k + 1))
            case measure => omega
            case rel => exact ⟨k + 1, by omega, by omega, by go_num, by rw [HMT.out]; go_num, Lib.hid (HB6.out.trans (HV.out.mono HB6.out.size))⟩
      · have HNM := Lib.hid (HNO.out W2 _ ⟨np, nk, ns, nt, ⟨o1, o2, o3, o4, o5, o6, o7⟩, nd⟩ (B2.out.trans (HB2.out.mono B2.out.size)) (HTV.out.below HB2.out) hmem hk2)
        rw [if_neg hk2] at HMT
        have q1 : (nk == 2) = false := by simp [hk2]
        have q2 : (nk != 2) = true := by simp [hk2]
        clear hmem hk2
        generalize manyP t (R.take k) = mk0 at *
        go_wp2_with fail
        refine HNM.out.mono ?_
        rintro e' w5 ⟨rfl, b5⟩
        have HB5 := Lib.hid (HB2.out.trans (b5.mono HB2.out.size))
        have d1 : w5.cell? ⟨wr.heap.size, 1, none⟩ = some (.int .i64 nk) := (HK2.out.below b5 HK2.out.lt).cell 1
        clear b5 c0 HNM
        go_wp2_with fail
        go_roundg (t.length + 1 - (k + 1))
        case measure => omega
        case rel => exact ⟨k + 1, by omega, by omega, by go_num, by rw [HMT.out]; go_num, HB5⟩
    · obtain rfl : k = t.length + 1 := by omega
      have HM : Hid (manyP t (R.take (t.length + 1)) = t.length) := Lib.hid (by rw [List.take_of_length_le (by rw [HLR.out]; omega)]; exact HALL.out)
      rw [HM.out]
      have HB3 := Lib.hid (B2.out.trans (HW.out.mono B2.out.size))
      go_wp2_with fail
      refine (Small_any _).mono ?_
      rintro e' w5 ⟨sv, rfl, hsv, b5⟩
      have HB5 := Lib.hid (HB3.out.trans (b5.mono HB3.out.size))
      have HSV := Lib.hid (HON.out smallP w5 sv [97] small_ok HB5.out hsv.at_ small_dir)
      rw [show namesP smallP [97] = [[98]] by decide] at HSV
      clear b5 hsv
      go_wp2_with fail
      refine HSV.out.mono ?_
      rintro e' w6 ⟨ov, rfl, hov, b6⟩
      have HB6 := Lib.hid (HB5.out.trans (b6.mono HB5.out.size))
      have b7 := (Below.refl w6.heap.size w6).alloc (Nat.le_refl _) (.cells #[.string ⟨#[98]⟩] 9)
      have HB7 := Lib.hid (HB6.out.trans (b7.mono HB6.out.size))
      have HEQ := Lib.hid (EqB_any _ _ [98] _ w6.heap.size _ (ownsRow_below hov b7) (strs_lit w6 [[98]] w6.heap.size (Nat.le_refl _) (by simp)))
      obtain ⟨Ao, co, hoe, -⟩ := ownsRow_read hov
      subst hoe
      clear b6 b7 hov HSV
      go_wp2_with fail
      refine HEQ.out.mono ?_
      rintro e' w8 ⟨rfl, b8⟩
      have HB8 := Lib.hid (HB7.out.trans (b8.mono HB7.out.size))
      clear b8
      go_wp2_with fail
      go_ret
      exact ⟨rfl, HB8.out⟩
end Go.Proofs.YtngkfelhlabloaaDoor
