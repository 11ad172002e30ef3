/-
  order.walk, order.Walk: what they tell. Condition: a tree that passes tree.Check.
-/
import Derived.Test.YtngkfelhlabloaaDoorWalkP
import Derived.Test.YtngkfelhlabloaaDoorSmallP
import Derived.Test.YtngkfelhlabloaaDoorTree
namespace Go.Proofs.YtngkfelhlabloaaDoor
open Go.RowKit

theorem walk_length {t : List NodeP} (ht : TreeOk t) (n : Nat) (dir : List UInt8) : (walkP t n dir).length ≤ t.length := by
  have hp : (walkP t n dir).Perm ((t.map (·.path)).filter fun s => decide (s ∈ walkP t n dir)) := by
    refine (List.perm_ext_iff_of_nodup (walk_nodup ht _ _) ((sorted_nodup ht.sorted).filter _)).2 fun s => ?_
    rw [List.mem_filter]
    constructor
    · intro h
      obtain ⟨x, hx, e, _⟩ := walk_sound ht _ _ h
      exact ⟨e ▸ List.mem_map_of_mem hx, by simpa using h⟩
    · rintro ⟨_, h⟩
      simpa using h
  rw [hp.length_eq]
  refine Nat.le_trans (List.length_filter_le _ _) ?_
  rw [List.length_map]
  exact Nat.le_refl _
theorem flat_take_le {α β : Type} (f : α → List β) : ∀ (l : List α) (k : Nat), ((l.take k).flatMap f).length ≤ (l.flatMap f).length
  | [], k => by simp
  | x :: l, 0 => by simp
  | x :: l, k + 1 => by
    rw [List.take_succ_cons, List.flatMap_cons, List.flatMap_cons, List.length_append, List.length_append]
    have := flat_take_le f l k
    omega
theorem flat_take {α β : Type} (f : α → List β) {l : List α} {k : Nat} (hk : k < l.length) : (l.take (k + 1)).flatMap f = (l.take k).flatMap f ++ f l[k] := by
  rw [List.take_succ_eq_append_getElem hk, List.flatMap_append]
  simp
theorem withDir_kid {t : List NodeP} (ht : TreeOk t) {dir : List UInt8} {x : NodeP} (h : x ∈ kidsP t dir) : withDir dir (baseP x.path) = x.path := by
  obtain ⟨hx, hu⟩ := kid_mem h
  unfold withDir
  rcases path_cut (ht.node _ hx).path.1 with ⟨a1, a2, _⟩ | ⟨a1, a2, _⟩
  · rw [hu] at a1
    rw [if_pos a1, a2]
  · rw [hu] at a1 a2
    rw [if_neg a1, ← a2]
def WkSt (w : World) (L : List (List UInt8)) (v : Value) (W : World) : Prop := Below w.heap.size w W ∧ DirsOwn W w.heap.size v L
set_option maxRecDepth 100000 in
set_option maxHeartbeats 8000000 in
theorem OWalk_any (v : Value) (t : List NodeP) (w0 : World) (hm : ∀ W, Below w0.heap.size w0 W → ML W) (hl : NodesAt w0 v t) (ht : TreeOk t) : ∀ (n : Nat) (dir : List UInt8) (w : World), Below w0.heap.size w0 w → dirIn t dir → 401 ≤ n + dir.length →
    Calls Tryd.prog 69 #[v, .string (bs dir)] w fun e w' => ∃ nv, e = .returned nv ∧ DirsOwn w' w.heap.size nv (walkP t n dir) ∧ Below w.heap.size w w' := by
  intro n
  induction n with
  | zero =>
    intro dir w _ hd hn
    exfalso
    rcases hd with rfl | ⟨i, hi, hf, _⟩
    · simp at hn
    · obtain ⟨h1, h2⟩ := findP_some hf
      have := (ht.node _ (List.getElem_mem h1)).path.2
      rw [h2] at this
      omega
  | succ n ih =>
    intro dir w hb hd hn
    have HIH := Lib.hid ih
    have HNM := Lib.hid (ONames_any v t dir w (hm w hb) (hl.below hb) ht.node ht.chk hd)
    have HN := Lib.hid (hl.below hb)
    have HFI := Lib.hid (fun W p (h : Below w.heap.size w W) => Find_any v t p W (HN.out.below h))
    have HB0 := Lib.hid hb
    have HTO := Lib.hid ht
    have hwl := walk_length ht (n + 1) dir
    have hlen := ht.len
    obtain ⟨K, hK⟩ : ∃ K, K = kidsP t dir := ⟨_, rfl⟩
    obtain ⟨f, hf⟩ : ∃ f, f = pieceW (walkP t n) := ⟨_, rfl⟩
    rw [walkP, ← hK, ← hf] at hwl ⊢
    have HKE : Hid (namesP t dir = K.map fun x => baseP x.path) := Lib.hid (by rw [hK]; rfl)
    have HKK : Hid (∀ x ∈ K, x ∈ t ∧ withDir dir (baseP x.path) = x.path ∧ dir.length < x.path.length) := Lib.hid (by
      rw [hK]
      intro x hx
      refine ⟨(kid_mem hx).1, withDir_kid ht hx, ?_⟩
      by_cases h0 : dir = []
      · rw [h0]; exact List.length_pos_iff.2 (path_ne (ht.node _ (kid_mem hx).1))
      · exact under_length h0 (kid_under hx))
    have HBD : Hid (∀ k, ((K.take k).flatMap f).length ≤ 40) := Lib.hid (fun k => Nat.le_trans (flat_take_le f K k) (by omega))
    have HF := Lib.hid hf
    have HDL := Lib.hid hn
    rw [HKE.out] at HNM
    clear hK hf hn hd hm hl ih hb ht hwl
    obtain ⟨i9, hi9, hy0, hy1, hy2⟩ := info_parts strinfo
    obtain ⟨_, A, c, -, rfl, hlc, hc, -⟩ := id HN.out
    unfold maxLen at hc
    go_enter Tryd.func69, Tryd.ntmps69
    go_wp2_with fail
    refine HNM.out.mono ?_
    rintro e w1 ⟨nv, rfl, hnv, b1⟩
    have B1 := Lib.hid b1
    have HNV := Lib.hid hnv
    obtain ⟨An, cn, hne, hcn1, hcn2, -⟩ := ownsRow_read hnv
    rw [List.length_map] at hne hcn1
    subst hne
    unfold maxLen at hcn2
    clear b1 hnv HNM
    have H0 : Hid (WkSt w1 ((K.take 0).flatMap f) (.slice none 0 0) w1) := Lib.hid ⟨Below.refl _ _, by simp only [List.take_zero, List.flatMap_nil]; exact World.ownsRow_nil _ _ _ _⟩
    go_wp2_with fail
    go_loopg [5, 9, 20] K.length (fun gg s5 _ s20 wr => ∃ k : Nat, k ≤ K.length ∧ K.length - k ≤ gg ∧ s20 = .int .i64 k ∧ Hid (WkSt w1 ((K.take k).flatMap f) s5 wr))
    case atStart => exact ⟨0, Nat.zero_le _, by omega, rfl, H0⟩
    case round =>
      obtain ⟨k, hk, hg, rfl, HS⟩ := hrel
      by_cases hlt : k < K.length
      · have hltz : (k : Int) < (K.length : Int) := by omega
        obtain ⟨A8, c8, h8, _, _, _, hr8⟩ := ownsRow_read (ownsRow_below HNV.out HS.out.1)
        have hA8 : An = A8 := by injection h8 with h _ _
        subst hA8
        clear h8
        rw [List.length_map] at hr8
        obtain ⟨adn, u, rfl, _, hu, r1⟩ := hr8.at_ hlt
        rw [List.getElem?_map, List.getElem?_map, List.getElem?_eq_getElem hlt] at hu
        simp only [Option.map_some, Option.some.injEq] at hu
        subst hu
        obtain ⟨hx1, hx2, hx3⟩ := HKK.out K[k] (List.getElem_mem _)
        have HTK := Lib.hid (flat_take f hlt)
        have HBk := HBD.out k
        have HBk1 := HBD.out (k + 1)
        obtain ⟨x, hx⟩ : ∃ x, x = K[k] := ⟨_, rfl⟩
        rw [← hx] at hx1 hx2 hx3 HTK r1
        clear hx hr8
        have HX2 := Lib.hid hx2
        have HX3 := Lib.hid hx3
        have hpl := (HTO.out.node _ hx1).path.2
        obtain ⟨i, hi, hxi⟩ := List.getElem_of_mem hx1
        have hfi : findP t x.path = some i := by rw [← hxi]; exact findP_at (sorted_nodup HTO.out.sorted) hi
        have HFX : Hid (∀ W, Below w.heap.size w W → Calls Tryd.prog 27 #[.slice A t.length c, .string (bs x.path)] W fun e w' => e = .returned (.tuple #[.int .i64 (i : Int), .int .i64 0]) ∧ Below W.heap.size W w') := Lib.hid (fun W h => by
          have := HFI.out W x.path h
          rw [hfi] at this
          exact this)
        have HXI := Lib.hid hxi
        have HFN := Lib.hid hfi
        have k0 : (0 : Int) ≤ (k : Int) := by omega
        clear hx1 hx2 hx3 hxi hfi
        generalize hbb : baseP x.path = b at *
        clear hbb
        go_upto_if 25 with fail
        go_cut [5, 9, 20] from 20 to 55 (fun s5 s9 s20 wx => s9 = .string (bs x.path) ∧ s20 = .int .i64 k ∧ wx = wr ∧ Hid (WkSt w1 ((K.take k).flatMap f) s5 wr))
        case first =>
          by_cases hnp : dir = []
          · have HE : Hid (bs b = bs x.path) := Lib.hid (by have := HX2.out; unfold withDir at this; rw [if_pos hnp] at this; rw [this])
            have t1 : (bs dir).toList = [] := by rw [bs_toList]; exact hnp
            have t2 : (bs dir).toList.isEmpty = true := by rw [t1]; rfl
            clear hnp
            simp only [t2, Bool.not_true]
            go_wp2_with fail
            go_meet
            case rel => exact ⟨by rw [HE.out], rfl, rfl, HS⟩
          · have HE : Hid (bs dir ++ ⟨#[47]⟩ ++ bs b = bs x.path) := Lib.hid (by
              have := HX2.out
              unfold withDir at this
              rw [if_neg hnp] at this
              rw [← this, show (⟨#[47]⟩ : ByteArray) = bs [47] from rfl, bs_append, bs_append]
              simp)
            have hz : x.path.length = dir.length + 1 + b.length := by
              have := congrArg List.length HX2.out
              unfold withDir at this
              rw [if_neg hnp] at this
              simp at this
              omega
            have z1 : (bs dir).size ≤ 400 := by rw [bs_size]; omega
            have z2 : (bs b).size ≤ 400 := by rw [bs_size]; omega
            have t1 : ¬ (bs dir).toList = [] := by rw [bs_toList]; exact hnp
            have t2 : (bs dir).toList.isEmpty = false := by rw [bs_toList]; cases dir with | nil => exact absurd rfl hnp | cons => rfl
            clear hnp hz
            simp only [t2, Bool.not_false]
            go_wp2_with fail
            go_meet
            case rel => exact ⟨by rw [HE.out], rfl, rfl, HS⟩
        case rest =>
          obtain ⟨rfl, rfl, rfl, HS1⟩ := hcut
          clear r1 HS
          obtain ⟨L, hL⟩ : ∃ L, L = (K.take k).flatMap f := ⟨_, rfl⟩
          rw [← hL] at HS1 HTK HBk
          clear hL
          obtain ⟨At, ct, htv, -⟩ := ownsRow_read HS1.out.2
          subst htv
          have hsz : w1.heap.size ≤ wc.heap.size := HS1.out.1.size
          have bA := (Below.refl wc.heap.size wc).alloc (Nat.le_refl _) (.cells #[.string (bs x.path)] 9)
          go_wp2_with (at_builtin; refine wpList_append_any _ rfl (.tmp 30) (.tmp 32) _ rfl w1.heap.size 9 i9 _ 1 16 Tryd.underlying23 hi9 hy0 hy1 hy2 rfl (by omega) _ L.length (L.map fun d => .string (bs d)) rfl (ownsRow_below HS1.out.2 ((Below.refl _ _).alloc (Nat.le_refl _) _)) (wc.heap.size + 1) (some ⟨wc.heap.size, 0, none⟩) 1 1 [.string (bs x.path)] rfl (new_row wc 9 [.string (bs x.path)] 1 1 rfl) (by simp [Value.oneCell']) (by simp only [maxLen]; omega) (by omega) (by simp; omega) ?_; intro v9 w9 hown9 hg9 hat9; obtain ⟨A9, c9, hv9, -⟩ := ownsRow_read hown9; subst hv9; have HO9 := Lib.hid hown9; have HG9 := Lib.hid hg9; clear hown9 hg9 hat9)
          have HD9 : Hid (WkSt w1 (L ++ [x.path]) (.slice A9 (L.length + 1) c9) w9) := Lib.hid (by
            refine ⟨(HS1.out.1.trans (bA.mono hsz)).grown HG9.out (Nat.le_trans hsz bA.size) (fun g hg => (own_typed (ownsRow_below HS1.out.2 bA) hg).1), ?_⟩
            unfold DirsOwn
            rw [List.length_append, List.map_append]
            exact HO9.out)
          clear bA
          go_wp2_with fail
          refine (HFX.out _ (B1.out.trans (HD9.out.1.mono B1.out.size))).mono ?_
          rintro e w10 ⟨rfl, b10⟩
          have HB10 := Lib.hid b10
          have HD10 : Hid (WkSt w1 (L ++ [x.path]) (.slice A9 (L.length + 1) c9) w10) := Lib.hid ⟨HD9.out.1.trans (b10.mono HD9.out.1.size), ownsRow_below HD9.out.2 b10⟩
          clear b10
          obtain ⟨ad, Ax, cx, hAe, hb, hdx, e0, e1, -⟩ := node_read (HN.out.below (B1.out.trans (HD10.out.1.mono B1.out.size))) hi
          subst hAe
          rw [HXI.out] at e1
          have i1 : (i : Int) < t.length := by omega
          have i0 : (0 : Int) ≤ (i : Int) := by omega
          clear hb hdx e0
          by_cases hk2 : x.kind = 2
          · have HTE : Hid ((K.take (k + 1)).flatMap f = (L ++ [x.path]) ++ walkP t n x.path) := Lib.hid (by rw [HTK.out, HF.out]; unfold pieceW; rw [if_pos hk2]; simp)
            have HDX : Hid (dirIn t x.path) := Lib.hid (.inr ⟨i, hi, HFN.out, by rw [HXI.out]; exact hk2⟩)
            have HCW := Lib.hid (HIH.out x.path w10 (HB0.out.trans ((B1.out.trans (HD10.out.1.mono B1.out.size)).mono HB0.out.size)) HDX.out (by have := HX3.out; have := HDL.out; omega))
            rw [hk2] at e1
            clear hk2
            go_wp2_with fail
            refine HCW.out.mono ?_
            rintro e w11 ⟨rv, rfl, hrv, b11⟩
            have HD11 : Hid (WkSt w1 (L ++ [x.path]) (.slice A9 (L.length + 1) c9) w11) := Lib.hid ⟨HD10.out.1.trans (b11.mono HD10.out.1.size), ownsRow_below HD10.out.2 b11⟩
            obtain ⟨Ar, cr, hre, hcr1, hcr2, -, hrr⟩ := ownsRow_read hrv
            subst hre
            have HRR := Lib.hid hrr
            have hb1 : L.length + 1 + (walkP t n x.path).length ≤ 40 := by
              have := HBk1
              rw [HTE.out] at this
              simp at this
              omega
            have HOW : Hid (w11.ownsRow w1.heap.size 9 1 (.slice A9 (L.length + 1) c9) (L.length + 1) ((L ++ [x.path]).map fun d => .string (bs d))) := Lib.hid (by
              have := HD11.out.2
              unfold DirsOwn at this
              rw [List.length_append] at this
              exact this)
            have hsz1 := HD11.out.1.size
            clear hrv b11 hrr HCW HBk1
            go_wp2_with (at_builtin; refine wpList_append_any _ rfl (.tmp 50) (.tmp 53) _ rfl w1.heap.size 9 i9 _ 1 16 Tryd.underlying23 hi9 hy0 hy1 hy2 rfl (by omega) _ (L.length + 1) _ rfl HOW.out _ Ar (walkP t n x.path).length cr _ rfl HRR.out (by simp [Value.oneCell']) (by simp only [maxLen]; omega) (by omega) (by omega) ?_; intro v12 w12 hown12 hg12 hat12; obtain ⟨A12, c12, hv12, -⟩ := ownsRow_read hown12; subst hv12; have HO12 := Lib.hid hown12; have HG12 := Lib.hid hg12; clear hown12 hg12 hat12)
            go_roundg (K.length - (k + 1))
            case measure => omega
            case rel =>
              refine ⟨k + 1, by omega, by omega, by go_num, Lib.hid ⟨HD11.out.1.grown HG12.out hsz1 (fun g hg => (own_typed HOW.out hg).1), ?_⟩⟩
              rw [HTE.out]
              unfold DirsOwn
              rw [List.length_append, List.length_append, List.map_append]
              exact HO12.out
          · have HTE : Hid ((K.take (k + 1)).flatMap f = L ++ [x.path]) := Lib.hid (by rw [HTK.out, HF.out]; unfold pieceW; rw [if_neg hk2])
            have q1 : (x.kind == 2) = false := by simp [hk2]
            clear hk2
            go_wp2_with fail
            go_roundg (K.length - (k + 1))
            case measure => omega
            case rel => exact ⟨k + 1, by omega, by omega, by go_num, by rw [HTE.out]; exact HD10⟩
      · obtain rfl : k = K.length := by omega
        obtain ⟨At, ct, htv, -⟩ := ownsRow_read HS.out.2
        subst htv
        have HF1 : Hid (K.take K.length = K) := Lib.hid (List.take_length)
        go_wp2_with fail
        go_ret
        have h := HS.out.2
        rw [HF1.out] at h
        refine ⟨_, rfl, ?_, B1.out.trans (HS.out.1.mono B1.out.size)⟩
        rw [HF1.out]
        exact ownsRow_mono h B1.out.size
set_option maxHeartbeats 400000 in
theorem OWalk_ok (v : Value) (t : List NodeP) (w : World) (hm : ∀ W, Below w.heap.size w W → ML W) (hl : NodesAt w v t) (ht : TreeOk t) :
    Calls Tryd.prog 34 #[v] w fun e w' => ∃ nv, e = .returned (.tuple #[nv, .int .i64 0]) ∧ DirsOwn w' w.heap.size nv (walkP t 401 []) ∧ Below w.heap.size w w' := by
  have HCK := Lib.hid (TCheck_any v t w (hm w (Below.refl _ _)) hl ht.node)
  rw [ht.chk] at HCK
  have HWK := Lib.hid (fun W (hb : Below w.heap.size w W) => OWalk_any v t w hm hl ht 401 [] W hb (.inl rfl) (by simp))
  obtain ⟨_, A, c, -, rfl, hlc, hc, -⟩ := hl
  clear hm ht
  go_enter Tryd.func34, Tryd.ntmps34
  go_wp2_with fail
  refine HCK.out.mono ?_
  rintro e w1 ⟨rfl, b1⟩
  have B1 := Lib.hid b1
  clear b1
  go_wp2_with fail
  refine (HWK.out _ B1.out).mono ?_
  rintro e w2 ⟨nv, rfl, hnv, b2⟩
  have HNV := Lib.hid hnv
  have B2 := Lib.hid (B1.out.trans (b2.mono B1.out.size))
  obtain ⟨An, cn, hne, -⟩ := ownsRow_read hnv
  subst hne
  clear hnv b2
  go_wp2_with fail
  go_ret2
  exact ⟨_, rfl, ownsRow_mono HNV.out B1.out.size, B2.out⟩
set_option maxHeartbeats 400000 in
/-- slices.Equal over strings: one row twice, not empty -/
theorem EqBs_any (v1 v2 : Value) (x : List (List UInt8)) (hx : 1 ≤ x.length) (b1 b2 : Nat) (w : World) (h1 : DirsOwn w b1 v1 x) (h2 : DirsOwn w b2 v2 x) :
    Calls Tryd.prog 28 #[v1, v2] w fun e w' => e = .returned (.bool true) ∧ Below w.heap.size w w' := by
  obtain ⟨g1, c1, rfl, k1, m1, _, q1⟩ := DirsOwn.at_ h1 hx
  obtain ⟨g2, c2, rfl, k2, m2, _, q2⟩ := DirsOwn.at_ h2 hx
  unfold maxLen at m1 m2
  have hc : ∀ {g : Nat}, (∀ k (hk : k < x.length), w.cell? ⟨g, k, none⟩ = some (.string (bs x[k]))) → ∀ j, j < (x.map bs).length → w.cell? ⟨g, 0 + j, none⟩ = some (.string ((x.map bs).getD j ByteArray.empty)) := fun {g} h j hj => by
    rw [List.length_map] at hj
    rw [Nat.zero_add, h j hj]
    simp [hj]
  refine (Tryd.slices_Equal_string g1 0 x.length c1 g2 0 x.length c2 (x.map bs) (x.map bs) w (by simp) (by simp) (by omega) (by omega) (hc q1) (hc q2)).mono ?_
  rintro e w' ⟨rfl, q, rfl⟩
  refine ⟨?_, below_drewN (Below.refl _ _) q⟩
  simp
theorem containsS_map (l : List (List UInt8)) (s : List UInt8) : Lib.containsS (l.map bs) (bs s) = decide (s ∈ l) := by
  rw [Bool.eq_iff_iff, Lib.containsS_iff]
  simp only [List.mem_map, decide_eq_true_eq]
  constructor
  · rintro ⟨x, hx, e⟩
    have := congrArg ByteArray.toList e
    rw [bs_toList, bs_toList] at this
    exact this ▸ hx
  · exact fun h => ⟨s, h, rfl⟩
theorem not_before {l : List (List UInt8)} (h : l.Nodup) {k : Nat} (hk : k < l.length) : l[k] ∉ l.take k := by
  intro hm
  obtain ⟨j, hj, e⟩ := List.getElem_of_mem hm
  rw [List.length_take] at hj
  rw [List.getElem_take] at e
  rw [List.Nodup, List.pairwise_iff_getElem] at h
  exact h j k (by omega) hk (by omega) e
theorem up_before {dir : List UInt8} {l : List (List UInt8)} (h : behindW dir l) {k : Nat} (hk : k < l.length) : upP l[k] = dir ∨ upP l[k] ∈ l.take k :=
  h (l.take k) l[k] (l.drop (k + 1)) (by rw [← List.drop_eq_getElem_cons hk, List.take_append_drop])
theorem small_walk : walkP smallP 401 [] = [[97], [97, 47, 98], [99]] := by decide
set_option maxRecDepth 100000 in
set_option maxHeartbeats 8000000 in
theorem OrderAll_walk (w : World) (hsh : w.ShapedOpen Tryd.prog) (v : Value) (l : List RawS) (hl : RawsAt w w.heap.size v l) (hok : ∀ x ∈ l, RawOk x) (hn : l.length ≤ 1048576) :
    Calls Tryd.prog 10 #[v] w fun e w' => e = .returned (.bool true) ∧ Below w.heap.size w w' := by
  have hm := ML.of_shaped hsh
  clear hsh
  have HT := Lib.hid (fun (_ : Unit) => Tree_any l v 30 w hm hl hok hn (by omega))
  have hto := treeP_ok l 30 (by omega)
  have HML : Hid (∀ W, Below w.heap.size w W → ML W) := Lib.hid (fun W hb => hm.below hb)
  clear hm hl hok hn
  generalize treeP l 30 = t at *
  have HTO := Lib.hid hto
  have hlen := hto.len
  clear hto
  have HWT : Hid (∀ s W tv, TreeOk s → Below w.heap.size w W → NodesAt W tv s → Calls Tryd.prog 34 #[tv] W fun e w' => ∃ nv, e = .returned (.tuple #[nv, .int .i64 0]) ∧ DirsOwn w' W.heap.size nv (walkP s 401 []) ∧ Below W.heap.size W w') := Lib.hid (fun s W tv hs hb h => OWalk_ok tv s W (fun W2 h2 => HML.out W2 (hb.trans (h2.mono hb.size))) h hs)
  go_enter Tryd.func10, Tryd.ntmps10
  go_wp2_with fail
  refine (HT.out ()).mono ?_
  rintro e' w1 ⟨tv, rfl, htv, b1⟩
  have B1 := Lib.hid b1
  have HTV1 := Lib.hid htv.at_
  have HWK := Lib.hid (HWT.out t w1 tv HTO.out b1 htv.at_)
  clear b1 htv HT
  obtain ⟨_, At, ct, -, hte, hct1, hct2, -⟩ := HTV1.out
  subst hte
  unfold maxLen at hct2
  obtain ⟨L, hL⟩ : ∃ L, L = walkP t 401 [] := ⟨_, rfl⟩
  have HP : Hid (L.Perm (t.map (·.path))) := Lib.hid (by rw [hL]; exact walk_perm HTO.out)
  have HND : Hid (L.Nodup) := Lib.hid (by rw [hL]; exact walk_nodup HTO.out _ _)
  have HBE : Hid (behindW [] L) := Lib.hid (by rw [hL]; exact walk_behind _ _)
  have HLN : Hid (L.length = t.length) := Lib.hid (by rw [HP.out.length_eq, List.length_map])
  rw [← hL] at HWK
  clear hL
  go_wp2_with fail
  refine HWK.out.mono ?_
  rintro e' w2 ⟨wv, rfl, hwv, b2⟩
  have B2 := Lib.hid (B1.out.trans (b2.mono B1.out.size))
  have HB12 := Lib.hid b2
  have HWV := Lib.hid hwv
  obtain ⟨An, cn, hne, hcn1, hcn2, -⟩ := ownsRow_read hwv
  rw [HLN.out] at hne hcn1
  subst hne
  unfold maxLen at hcn2
  clear b2 hwv HWK
  go_wp2_with fail
  refine (Small_any _).mono ?_
  rintro e' w3 ⟨sv, rfl, hsv, b3⟩
  have HB3 := Lib.hid b3
  have B3 := Lib.hid (B2.out.trans (b3.mono B2.out.size))
  have HSW := Lib.hid (HWT.out smallP w3 sv small_ok B3.out hsv.at_)
  rw [small_walk] at HSW
  clear b3 hsv
  go_wp2_with fail
  refine HSW.out.mono ?_
  rintro e' w4 ⟨ov, rfl, hov, b4⟩
  have HB4 := Lib.hid (HB3.out.trans (b4.mono HB3.out.size))
  have b7 := (Below.refl w4.heap.size w4).alloc (Nat.le_refl _) (.cells #[.string ⟨#[97]⟩, .string ⟨#[97, 47, 98]⟩, .string ⟨#[99]⟩] 9)
  have HB7 := Lib.hid (HB4.out.trans (b7.mono HB4.out.size))
  have HEQ := Lib.hid (EqBs_any _ _ [[97], [97, 47, 98], [99]] (by simp) _ w4.heap.size _ (ownsRow_below hov b7) (strs_lit w4 [[97], [97, 47, 98], [99]] w4.heap.size (Nat.le_refl _) (by simp)))
  obtain ⟨Ao, co, hoe, -⟩ := ownsRow_read hov
  subst hoe
  clear b4 b7 hov HSW
  go_wp2_with fail
  refine HEQ.out.mono ?_
  rintro e' w5 ⟨rfl, b5⟩
  have HB5 := Lib.hid (HB7.out.trans (b5.mono HB7.out.size))
  clear b5 HEQ
  have q1 : ((t.length : Int) != (t.length : Int)) = false := bne_self_eq_false _
  have q2 : ((t.length : Int) == (t.length : Int)) = true := beq_self_eq_true _
  go_wp2_with fail
  go_loopg [44] t.length (fun gg s44 wr => ∃ k : Nat, k ≤ t.length ∧ t.length - k ≤ gg ∧ s44 = .int .i64 k ∧ Hid (Below w5.heap.size w5 wr))
  case atStart => exact ⟨0, Nat.zero_le _, by omega, rfl, Lib.hid (Below.refl _ _)⟩
  case round =>
    obtain ⟨k, hk, hg, rfl, HV⟩ := hrel
    have HV2 := Lib.hid (HB5.out.trans (HV.out.mono HB5.out.size))
    by_cases hlt : k < t.length
    · have hltz : (k : Int) < (t.length : Int) := by omega
      have hkL : k < L.length := by rw [HLN.out]; exact hlt
      have HW3 := Lib.hid (ownsRow_below HWV.out HV2.out)
      obtain ⟨A8, c8, h8, _, _, _, hr8⟩ := ownsRow_read HW3.out
      rw [HLN.out] at h8
      have hA8 : An = A8 := by injection h8 with h _ _
      subst hA8
      clear h8
      obtain ⟨adn, u, rfl, _, hu, r1⟩ := hr8.at_ hkL
      rw [List.getElem?_map, List.getElem?_eq_getElem hkL] at hu
      simp only [Option.map_some, Option.some.injEq] at hu
      subst hu
      clear hr8
      obtain ⟨g, c2, h9, _, _, _, hcs⟩ := DirsOwn.at_ HW3.out (by omega)
      have hA9 : adn = ⟨g, 0, none⟩ := by injection h9 with h _ _; injection h
      clear h9
      have HAD := Lib.hid hA9
      have HCS := Lib.hid hcs
      clear hA9 hcs
      have HNB := Lib.hid (not_before HND.out hkL)
      have HUB := Lib.hid (up_before HBE.out hkL)
      have hmem : L[k] ∈ t.map (·.path) := HP.out.mem_iff.1 (List.getElem_mem _)
      obtain ⟨x, hxt, hxp⟩ := List.mem_map.1 hmem
      have hpl := (HTO.out.node _ hxt).path.2
      obtain ⟨i, hi, hxi⟩ := List.getElem_of_mem hxt
      have hfi : findP t x.path = some i := by rw [← hxi]; exact findP_at (sorted_nodup HTO.out.sorted) hi
      have HFI := Lib.hid (fun W (h : Below w1.heap.size w1 W) => Find_any _ t x.path W (HTV1.out.below h))
      rw [hfi] at HFI
      unfold findR at HFI
      rw [← hxp] at HNB HUB r1
      clear hmem hxt hxp hxi hfi hi
      obtain ⟨s, hs⟩ : ∃ s, s = x.path := ⟨_, rfl⟩
      rw [← hs] at HNB HUB HFI r1 hpl
      clear hs
      have k0 : (0 : Int) ≤ (k : Int) := by omega
      have k1 : (k : Int) ≤ (cn : Int) := by omega
      have k2 : k ≤ cn := by omega
      have HUP := Lib.hid (fun W => Up_any s (by omega) W)
      go_upto_region 11 with fail
      have had := HAD.out
      subst had
      clear r1
      have HC : Hid (∀ c p, Calls Tryd.prog 36 #[.slice (some ⟨g, 0, none⟩) k c, .string (bs p)] wr fun e w' => e = .returned (.bool (decide (p ∈ L.take k))) ∧ wr = w') := Lib.hid (fun c p => by
        refine (Tryd.slices_Contains_string g 0 k c (L.map bs) (bs p) wr (by rw [List.length_map]; omega) (by omega) (fun j hj => by
          rw [List.length_map] at hj
          rw [Nat.zero_add, HCS.out j hj]
          simp [hj])).mono ?_
        rintro e w' ⟨rfl, rfl⟩
        rw [← List.map_take, containsS_map]
        exact ⟨rfl, rfl⟩)
      have HC1 := Lib.hid (fun c => HC.out c s)
      rw [decide_eq_false HNB.out] at HC1
      have HF2 := Lib.hid (fun W (h : Below w5.heap.size w5 W) => HFI.out W (HB12.out.trans ((HB5.out.trans (h.mono HB5.out.size)).mono HB12.out.size)))
      rcases (by by_cases h : upP s = []; exact .inl h; exact .inr ⟨HUB.out.resolve_left h, h⟩ : upP s = [] ∨ (upP s ∈ L.take k ∧ upP s ≠ [])) with hup | ⟨hup, hue⟩
      · have t1 : (bs (upP s)).toList = [] := by rw [bs_toList]; exact hup
        have t2 : (bs (upP s)).toList.isEmpty = true := by rw [t1]; rfl
        clear hup
        go_wp2_with fail
        refine (HUP.out _).mono ?_
        rintro e w' ⟨rfl, rfl⟩
        go_wp2_with fail
        refine (HC1.out _).mono ?_
        rintro e w' ⟨rfl, rfl⟩
        go_wp2_with fail
        refine (HF2.out _ HV.out).mono ?_
        rintro e w8 ⟨rfl, b8⟩
        have HB8 := Lib.hid (HV.out.trans (b8.mono HV.out.size))
        clear b8
        go_wp2_with fail
        go_roundg (t.length - (k + 1))
        case measure => omega
        case rel => exact ⟨k + 1, by omega, by omega, by go_num, HB8⟩
      · have HC2 := Lib.hid (fun c => HC.out c (upP s))
        rw [decide_eq_true hup] at HC2
        · have t1 : ¬ (bs (upP s)).toList = [] := by rw [bs_toList]; exact hue
          have t2 : (bs (upP s)).toList.isEmpty = false := by rw [bs_toList]; exact List.isEmpty_eq_false_iff.2 hue
          clear hup hue
          go_wp2_with fail
          refine (HUP.out _).mono ?_
          rintro e w' ⟨rfl, rfl⟩
          go_wp2_with fail
          refine (HC1.out _).mono ?_
          rintro e w' ⟨rfl, rfl⟩
          go_wp2_with fail
          refine (HC2.out _).mono ?_
          rintro e w' ⟨rfl, rfl⟩
          go_wp2_with fail
          refine (HF2.out _ HV.out).mono ?_
          rintro e w8 ⟨rfl, b8⟩
          have HB8 := Lib.hid (HV.out.trans (b8.mono HV.out.size))
          clear b8
          go_wp2_with fail
          go_roundg (t.length - (k + 1))
          case measure => omega
          case rel => exact ⟨k + 1, by omega, by omega, by go_num, HB8⟩
    · obtain rfl : k = t.length := by omega
      have HB9 := Lib.hid (B2.out.trans (HV2.out.mono B2.out.size))
      go_wp2_with fail
      go_ret
      exact ⟨rfl, HB9.out⟩
end Go.Proofs.YtngkfelhlabloaaDoor
