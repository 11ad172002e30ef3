/-
  slices.swapRange, rotate and symMerge over nodes by path.Compare: the merge in place of two sorted parts of a row. Condition: paths of at most 400 bytes, at most 1000 nodes.
-/
import Derived.Test.YtpanjldionaaiaaDoorSwapP
import Derived.Test.YtpanjldionaaiaaDoorSortS
import Derived.Test.YtpanjldionaaiaaDoorMapsT
namespace Go.Proofs.YtpanjldionaaiaaDoor
set_option linter.all false
open Go.RowKit Go.Sort Go.Shelf Go.Lib
theorem lessA_grow (x y : NodeV) (w : World) (ha : x.1.path.length < 4294967281) (hb : y.1.path.length < 4294967281) (hm : ML w) :
    Calls Tryd.prog 29 #[.agg (nodeC x).toArray, .agg (nodeC y).toArray] w fun e w' => e = .returned (.int .i64 (cmpP x.1.path y.1.path)) ∧ ∃ q os, w' = grow (w.drewN q) os := by
  obtain ⟨⟨p, k, s, t, ⟨m1, m2, m3, m4, m5, m6, m7⟩, d⟩, dv⟩ := x
  obtain ⟨⟨p', k', s', t', ⟨n1, n2, n3, n4, n5, n6, n7⟩, d'⟩, dv'⟩ := y
  simp only at ha hb
  have HL := Lib.hid (fun w hm => Compare_grow p p' w ha hb hm)
  have HM := Lib.hid (fun o1 o2 => (hm.grow #[o1]).grow #[o2])
  clear ha hb hm
  unfold nodeC
  simp only
  generalize cmpP p p' = c at *
  generalize bs p = bp at *
  generalize bs p' = bp' at *
  go_enter Tryd.func29, Tryd.ntmps29
  go_wp2_with fail
  rw [alloc_eq_grow, alloc_eq_grow]
  refine (HL.out _ (HM.out _ _)).mono ?_
  rintro e w1 ⟨rfl, os, rfl⟩
  go_wp2_with fail
  go_ret
  exact ⟨rfl, 0, _, (grow_grow _ _ _).trans (grow_grow _ _ _)⟩
theorem lessA_lays (g size : Nat) (w : World) (hm : ML w) (hg : 0 ≠ g) : CmpLays Tryd.prog 29 #[] shortC 12 pathCmp g 0 size w :=
  fun m os dk _ x y => lessA_grow x.1 y.1 _ (by have := x.2.1; omega) (by have := y.2.1; omega) (hm.sorted hg)
theorem eg_lessA : ∀ args w, (callFunc 29 args).run Tryd.prog w = .ok (.enter 29 args) w := enters_of Tryd.func29 (by kernel_rfl) rfl
def cmN (x y : NodeV) : Int := cmpP x.1.path y.1.path
theorem ord_cm : Ord3 cmN where
  neg x y := cmpL_neg _ _
  trans x y z h1 h2 := cmpL_le _ (partsS y.1.path) _ h1 h2
theorem lessA_any (x y : NodeV) (w : World) (ha : x.1.path.length ≤ 400) (hb : y.1.path.length ≤ 400) (hm : ML w) :
    Calls Tryd.prog 29 #[.agg (nodeC x).toArray, .agg (nodeC y).toArray] w fun e w' => e = .returned (.int .i64 (cmN x y)) ∧ Below w.heap.size w w' :=
  (lessA_grow x y w (by omega) (by omega) hm).mono fun e w' ⟨h1, q, os, h2⟩ => ⟨h1, by rw [h2]; exact (below_drewN (Below.refl _ w) q).trans (show Below w.heap.size (w.drewN q) _ from below_grow (w.drewN q) os)⟩
theorem run_load {op : Oper} {a : Act} {P : Program} {W : World} (ty : TypeId) (x : Operand) (ho : op.op = .load ty x) {q v : Value} (hx : a.eval x = q) (hr : (Instr.loadAt ty q).run P W = .ok v W) : (execOp a.eval op).run P W = .ok (.value v) W := by
  unfold execOp
  simp only [ho, hx, hr, Sem.run_bind, Sem.run_pure, Result.andThen_ok]
def nD (d : List NodeV) (i : Nat) : NodeV := d.getD i default
theorem NRow.loadD {B D g n cap : Nat} {d : List NodeV} {W : World} (h : NRow B D g n cap d W) {i : Nat} (hi : i < n) : (Instr.loadAt 40 (.pointer (some ⟨g, i * 12, none⟩))).run Tryd.prog W = .ok (.agg (nodeC (nD d i)).toArray) W := by
  have := h.load hi
  unfold nD
  rw [List.getD_eq_getElem?_getD, List.getElem?_eq_getElem (by rw [h.len]; exact hi)]
  exact this
theorem NRow.shortD {B D g n cap : Nat} {d : List NodeV} {W : World} (h : NRow B D g n cap d W) {i : Nat} (hi : i < n) : (nD d i).1.path.length ≤ 400 := by
  have hil : i < d.length := by rw [h.len]; exact hi
  unfold nD
  rw [List.getD_eq_getElem?_getD, List.getElem?_eq_getElem hil]
  exact h.short _ (List.getElem_mem _)
theorem wr_ {x : Int} {y : Nat} (h : x = (y : Int)) (h2 : y ≤ 100000) : IntKind.i64.wrap x = (y : Int) := by rw [h]; exact IntWalk.i64_in _ ⟨by omega, by omega⟩
/-! ### swapRange, rotate -/
set_option maxRecDepth 100000 in
set_option maxHeartbeats 2000000 in
theorem SwapR_any (B D g n cap : Nat) (hn : n ≤ 1000) (less : Value) (d : List NodeV) (a b K : Nat) (h1 : a + K ≤ b) (h2 : b + K ≤ n) (w : World) (h : NRow B D g n cap d w) :
    Calls Tryd.prog 94 #[(.slice (some ⟨g, 0, none⟩) n cap), .int .i64 a, .int .i64 b, .int .i64 K, less] w fun e w' => e = .returned (.tuple #[]) ∧ NRow B D g n cap (swpR d a b K) w' ∧ w.grownBy w' (some g) := by
  have H0 := Lib.hid h
  clear h
  go_enter Tryd.func94, Tryd.ntmps94
  go_wp2_with fail
  go_loopg [10] K (fun gg s10 wr => ∃ k : Nat, k ≤ K ∧ K - k ≤ gg ∧ s10 = .int .i64 k ∧ Hid (NRow B D g n cap (swpR d a b k) wr ∧ w.grownBy wr (some g)))
  case atStart => exact ⟨0, Nat.zero_le _, by omega, rfl, Lib.hid ⟨H0.out, World.grownBy.refl _ _⟩⟩
  case round =>
    obtain ⟨k, hk, hg, rfl, HS⟩ := hrel
    by_cases hlt : k < K
    · have hltz : (k : Int) < (K : Int) := by omega
      have hi : a + k < n := by omega
      have hj : b + k < n := by omega
      obtain ⟨cI, cJ, lj, li, s1, s2, hgr, hrow⟩ := HS.out.1.swap hi hj
      have HN := Lib.hid (And.intro (show NRow B D g n cap (swpR d a b (k + 1)) _ from hrow) (HS.out.2.trans hgr))
      have HLJ := Lib.hid lj
      have HLI := Lib.hid li
      have HS1 := Lib.hid s1
      have HS2 := Lib.hid s2
      have hai : IntKind.i64.wrap ((a : Int) + (k : Int)) = ((a + k : Nat) : Int) := wr_ (by omega) (by omega)
      have hbj : IntKind.i64.wrap ((b : Int) + (k : Int)) = ((b + k : Nat) : Int) := wr_ (by omega) (by omega)
      have HAI := Lib.hid hai
      have HBJ := Lib.hid hbj
      clear lj li s1 s2 hgr hrow HS H0 hai hbj
      go_upto_region 3 with fail
      refine reg_sr g n cap (a + k) (b + k) cI cJ hi hj wr a b k HAI.out HBJ.out HLJ.out HLI.out HS1.out HS2.out _ (fun _ _ _ _ _ h => h) _ _ _ _ _ _ _ _ _ _ _ _ _ _ _ _ _ _ _ _ _ _ _ _ _ _ _ _ _ _ _ _ _ _ ?_
      go_wp2_with fail
      go_roundg (K - (k + 1))
      case measure => omega
      case rel => exact ⟨k + 1, by omega, by omega, by go_num, HN⟩
    · obtain rfl : k = K := by omega
      go_wp2_with fail
      go_end0
      exact ⟨rfl, HS.out⟩
theorem SwapR_parts (B D g n cap : Nat) (hn : n ≤ 1000) (less : Value) (P U M V S : List NodeV) (a b K : Nat) (ha : a = P.length) (hb : b = P.length + U.length + M.length) (hK : K = U.length) (hUV : U.length = V.length) (w : World) (h : NRow B D g n cap (P ++ (U ++ (M ++ (V ++ S)))) w) :
    Calls Tryd.prog 94 #[(.slice (some ⟨g, 0, none⟩) n cap), .int .i64 a, .int .i64 b, .int .i64 K, less] w fun e w' => e = .returned (.tuple #[]) ∧ NRow B D g n cap (P ++ (V ++ (M ++ (U ++ S)))) w' ∧ w.grownBy w' (some g) := by
  have hl := h.len
  simp only [List.length_append] at hl
  have := SwapR_any B D g n cap hn less _ a b K (by omega) (by omega) w h
  subst ha hb hK
  rw [swpR_parts P U M V S hUV] at this
  exact this
set_option maxRecDepth 100000 in
set_option maxHeartbeats 2000000 in
theorem Rot_any (B D g n cap : Nat) (hn : n ≤ 1000) (less : Value) (P X Y S : List NodeV) (a m b : Nat) (ha : a = P.length) (hm : m = a + X.length) (hb : b = m + Y.length) (hX : X ≠ []) (hY : Y ≠ []) (w : World) (h : NRow B D g n cap (P ++ (X ++ (Y ++ S))) w) :
    Calls Tryd.prog 87 #[(.slice (some ⟨g, 0, none⟩) n cap), .int .i64 a, .int .i64 m, .int .i64 b, less] w fun e w' => e = .returned (.tuple #[]) ∧ NRow B D g n cap (P ++ (Y ++ (X ++ S))) w' ∧ w.grownBy w' (some g) := by
  have hl := h.len
  simp only [List.length_append] at hl
  have hXp := List.length_pos_iff.2 hX
  have hYp := List.length_pos_iff.2 hY
  obtain ⟨x, hx⟩ : ∃ x, x = X.length := ⟨_, rfl⟩
  obtain ⟨y, hy⟩ : ∃ y, y = Y.length := ⟨_, rfl⟩
  rw [← hx] at hm hXp hl
  rw [← hy] at hb hYp hl
  have HH : Hid (∃ P' U V S' : List NodeV, U.length = x ∧ V.length = y ∧ P'.length = m - x ∧ P' ++ (V ++ (U ++ S')) = P ++ (Y ++ (X ++ S)) ∧ NRow B D g n cap (P' ++ (U ++ (V ++ S'))) w ∧ w.grownBy w (some g)) := Lib.hid ⟨P, X, Y, S, hx.symm, hy.symm, by omega, rfl, h, World.grownBy.refl _ _⟩
  obtain ⟨T, hT⟩ : ∃ T, T = P ++ (Y ++ (X ++ S)) := ⟨_, rfl⟩
  rw [← hT] at HH ⊢
  have c1 : IntKind.i64.wrap ((m : Int) - (a : Int)) = (x : Int) := wr_ (by omega) (by omega)
  have c2 : IntKind.i64.wrap ((b : Int) - (m : Int)) = (y : Int) := wr_ (by omega) (by omega)
  have hxm : x ≤ m := by omega
  have hym : m + y ≤ n := by omega
  clear h hX hY hx hy hT ha hm hb hl
  go_enter Tryd.func87, Tryd.ntmps87
  go_wp2_with fail
  go_loopg [10, 11] (x + y) (fun gg s10 s11 wr => ∃ i j : Nat, 0 < i ∧ 0 < j ∧ i + j ≤ gg ∧ i ≤ m ∧ m + j ≤ n ∧ s10 = .int .i64 i ∧ s11 = .int .i64 j ∧ Hid (∃ P' U V S' : List NodeV, U.length = i ∧ V.length = j ∧ P'.length = m - i ∧ P' ++ (V ++ (U ++ S')) = T ∧ NRow B D g n cap (P' ++ (U ++ (V ++ S'))) wr ∧ w.grownBy wr (some g)))
  case atStart => exact ⟨x, y, hXp, hYp, Nat.le_refl _, hxm, hym, rfl, rfl, HH⟩
  case round =>
    obtain ⟨i, j, hi, hj, hg, him, hjm, rfl, rfl, HS⟩ := hrel
    clear HH c1 c2 hXp hYp hxm hym
    obtain ⟨q, hq⟩ : ∃ q, q = m - i := ⟨_, rfl⟩
    have r1 : IntKind.i64.wrap ((m : Int) - (i : Int)) = (q : Int) := wr_ (by omega) (by omega)
    rw [← hq] at HS
    rcases Nat.lt_trichotomy i j with hij | hij | hij
    · have t1 : ((i : Int) == (j : Int)) = false := by rw [beq_eq_false_iff_ne]; omega
      have t2 : ((i : Int) != (j : Int)) = true := by simp; omega
      have t3 : ¬ (j : Int) < (i : Int) := by omega
      have t4 : decide (j < i) = false := by simp; omega
      obtain ⟨u, hu⟩ : ∃ u, u = m + j := ⟨_, rfl⟩
      obtain ⟨z, hz⟩ : ∃ z, z = u - i := ⟨_, rfl⟩
      obtain ⟨j2, hj2⟩ : ∃ j2, j2 = j - i := ⟨_, rfl⟩
      have r2 : IntKind.i64.wrap ((m : Int) + (j : Int)) = (u : Int) := wr_ (by omega) (by omega)
      have r3 : IntKind.i64.wrap ((u : Int) - (i : Int)) = (z : Int) := wr_ (by omega) (by omega)
      have r4 : IntKind.i64.wrap ((j : Int) - (i : Int)) = (j2 : Int) := wr_ (by omega) (by omega)
      have HC : Hid (Calls Tryd.prog 94 #[(.slice (some ⟨g, 0, none⟩) n cap), .int .i64 q, .int .i64 z, .int .i64 i, less] wr fun e w' => e = .returned (.tuple #[]) ∧ (∃ P' U V S' : List NodeV, U.length = i ∧ V.length = j2 ∧ P'.length = q ∧ P' ++ (V ++ (U ++ S')) = T ∧ NRow B D g n cap (P' ++ (U ++ (V ++ S'))) w' ∧ w.grownBy w' (some g))) := Lib.hid (by
        obtain ⟨P', U, V, S', h1, h2, h3, h4, h5, h6⟩ := HS.out
        have e : V = V.take j2 ++ V.drop j2 := (List.take_append_drop _ _).symm
        have l1 : (V.take j2).length = j2 := by rw [List.length_take]; omega
        have l2 : (V.drop j2).length = i := by rw [List.length_drop]; omega
        generalize V.take j2 = V1 at *
        generalize V.drop j2 = V2 at *
        subst e
        refine (SwapR_parts B D g n cap hn less P' U V1 V2 S' _ _ _ h3.symm (by omega) h1.symm (by omega) wr (by rw [List.append_assoc] at h5; exact h5)).mono fun e w' ⟨e1, e2, e3⟩ => ⟨e1, P', V2, V1, U ++ S', l2, l1, h3, ?_, e2, h6.trans e3⟩
        rw [← h4]; simp)
      have HQ := Lib.hid hq
      have HJ2 := Lib.hid hj2
      clear HS hq hu hz hj2
      go_wp2_with fail
      refine HC.out.mono ?_
      rintro e w2 ⟨rfl, hs⟩
      have HS2 := Lib.hid hs
      clear hs HC
      go_wp2_with fail
      have hj2 := HJ2.out
      go_roundg (i + j2)
      case measure => omega
      case rel => exact ⟨i, j2, hi, by omega, Nat.le_refl _, him, by omega, rfl, rfl, by rw [← HQ.out]; exact HS2⟩
    · subst hij
      have HC : Hid (Calls Tryd.prog 94 #[(.slice (some ⟨g, 0, none⟩) n cap), .int .i64 q, .int .i64 m, .int .i64 i, less] wr fun e w' => e = .returned (.tuple #[]) ∧ NRow B D g n cap T w' ∧ w.grownBy w' (some g)) := Lib.hid (by
        obtain ⟨P', U, V, S', h1, h2, h3, h4, h5, h6⟩ := HS.out
        refine (SwapR_parts B D g n cap hn less P' U [] V S' _ _ _ h3.symm (by rw [List.length_nil]; omega) h1.symm (by omega) wr (by rw [List.nil_append]; exact h5)).mono fun e w' ⟨e1, e2, e3⟩ => ⟨e1, ?_, h6.trans e3⟩
        rw [List.nil_append] at e2
        rw [← h4]; exact e2)
      clear HS hq
      go_wp2_with fail
      refine HC.out.mono ?_
      rintro e w2 ⟨rfl, hs⟩
      have HS2 := Lib.hid hs
      clear hs HC
      go_wp2_with fail
      go_end0
      exact ⟨rfl, HS2.out⟩
    · have t1 : ((i : Int) == (j : Int)) = false := by rw [beq_eq_false_iff_ne]; omega
      have t2 : ((i : Int) != (j : Int)) = true := by simp; omega
      have t3 : (j : Int) < (i : Int) := by omega
      have t4 : decide (j < i) = true := by simp; omega
      obtain ⟨i2, hi2⟩ : ∃ i2, i2 = i - j := ⟨_, rfl⟩
      have r4 : IntKind.i64.wrap ((i : Int) - (j : Int)) = (i2 : Int) := wr_ (by omega) (by omega)
      have HC : Hid (Calls Tryd.prog 94 #[(.slice (some ⟨g, 0, none⟩) n cap), .int .i64 q, .int .i64 m, .int .i64 j, less] wr fun e w' => e = .returned (.tuple #[]) ∧ (∃ P' U V S' : List NodeV, U.length = i2 ∧ V.length = j ∧ P'.length = m - i2 ∧ P' ++ (V ++ (U ++ S')) = T ∧ NRow B D g n cap (P' ++ (U ++ (V ++ S'))) w' ∧ w.grownBy w' (some g))) := Lib.hid (by
        obtain ⟨P', U, V, S', h1, h2, h3, h4, h5, h6⟩ := HS.out
        have e : U = U.take j ++ U.drop j := (List.take_append_drop _ _).symm
        have l1 : (U.take j).length = j := by rw [List.length_take]; omega
        have l2 : (U.drop j).length = i2 := by rw [List.length_drop]; omega
        generalize U.take j = U1 at *
        generalize U.drop j = U2 at *
        subst e
        refine (SwapR_parts B D g n cap hn less P' U1 U2 V S' _ _ _ h3.symm (by rw [List.length_append] at h1; omega) l1.symm (by omega) wr (by rw [List.append_assoc] at h5; exact h5)).mono fun e w' ⟨e1, e2, e3⟩ => ⟨e1, P' ++ V, U2, U1, S', l2, l1, by rw [List.length_append]; omega, ?_, by rw [List.append_assoc]; exact e2, h6.trans e3⟩
        rw [← h4]; simp)
      have HI2 := Lib.hid hi2
      clear HS hq hi2
      go_wp2_with fail
      refine HC.out.mono ?_
      rintro e w2 ⟨rfl, hs⟩
      have HS2 := Lib.hid hs
      clear hs HC
      go_wp2_with fail
      have hi2 := HI2.out
      go_roundg (i2 + j)
      case measure => omega
      case rel => exact ⟨i2, j, by omega, hj, Nat.le_refl _, by omega, hjm, rfl, rfl, HS2⟩
/-! ### symMerge -/
theorem take_le {Y : List NodeV} (hs : SrtC cmN Y) {k : Nat} (hk : k ≤ Y.length) {x : NodeV} (hx : k = 0 ∨ cmN (nD Y (k - 1)) x ≤ 0) : ∀ y ∈ Y.take k, cmN y x ≤ 0 := by
  intro y hy
  obtain ⟨i, hi, rfl⟩ := List.getElem_of_mem hy
  rw [List.length_take] at hi
  rw [List.getElem_take]
  rcases hx with rfl | hx
  · omega
  · unfold nD at hx
    rw [List.getD_eq_getElem?_getD, List.getElem?_eq_getElem (by omega)] at hx
    exact ord_cm.trans _ _ _ (srt_at ord_cm hs (i := i) (j := k - 1) (by omega) (by omega)) hx
theorem drop_ge {Y : List NodeV} (hs : SrtC cmN Y) {k : Nat} {x : NodeV} (hx : k = Y.length ∨ cmN x (nD Y k) ≤ 0) : ∀ y ∈ Y.drop k, cmN x y ≤ 0 := by
  intro y hy
  obtain ⟨i, hi, rfl⟩ := List.getElem_of_mem hy
  rw [List.length_drop] at hi
  rw [List.getElem_drop]
  rcases hx with rfl | hx
  · omega
  · unfold nD at hx
    rw [List.getD_eq_getElem?_getD, List.getElem?_eq_getElem (by omega)] at hx
    exact ord_cm.trans _ _ _ hx (srt_at ord_cm hs (i := k) (j := k + i) (by omega) (by omega))
theorem cross_le {X Y : List NodeV} (hX : SrtC cmN X) (hY : SrtC cmN Y) {s e : Nat} (hs : s ≤ X.length) (h : s = 0 ∨ e = Y.length ∨ cmN (nD X (s - 1)) (nD Y e) ≤ 0) : ∀ x ∈ X.take s, ∀ y ∈ Y.drop e, cmN x y ≤ 0 := by
  intro x hx y hy
  rcases h with rfl | rfl | h
  · simp at hx
  · simp at hy
  · refine drop_ge hY (.inr ?_) y hy
    have := take_le hX hs (x := nD Y e) (.inr h) x hx
    exact this
theorem nD_left {P Q : List NodeV} {i : Nat} (h : i < P.length) : nD (P ++ Q) i = nD P i := by unfold nD; rw [List.getD_eq_getElem?_getD, List.getD_eq_getElem?_getD, List.getElem?_append_left h]
theorem nD_right {P Q : List NodeV} {i : Nat} (h : P.length ≤ i) : nD (P ++ Q) i = nD Q (i - P.length) := by unfold nD; rw [List.getD_eq_getElem?_getD, List.getD_eq_getElem?_getD, List.getElem?_append_right h]
theorem nD_x {P X Y S : List NodeV} {a m c : Nat} (ha : a = P.length) (hm : m = a + X.length) (h1 : a ≤ c) (h2 : c < m) : nD (P ++ (X ++ (Y ++ S))) c = nD X (c - a) := by
  rw [nD_right (by omega), nD_left (by omega), ha]
theorem nD_y {P X Y S : List NodeV} {a m b c : Nat} (ha : a = P.length) (hm : m = a + X.length) (hb : b = m + Y.length) (h1 : m ≤ c) (h2 : c < b) : nD (P ++ (X ++ (Y ++ S))) c = nD Y (c - m) := by
  rw [nD_right (by omega), nD_right (by omega), nD_left (by omega)]
  congr 1; omega
/-- one on its way up -/
theorem step_up {P Y S : List NodeV} {x : NodeV} {a j : Nat} (ha : a = P.length) (hj : j < Y.length) :
    swap1 (P ++ (Y.take j ++ (x :: (Y.drop j ++ S)))) (a + j) (a + j + 1) = P ++ (Y.take (j + 1) ++ (x :: (Y.drop (j + 1) ++ S))) := by
  have hl1 : (Y.take j).length = j := by rw [List.length_take]; omega
  have hl2 : (Y.take (j + 1)).length = j + 1 := by rw [List.length_take]; omega
  rw [List.drop_eq_getElem_cons hj, List.take_succ_eq_append_getElem hj]
  generalize Y.take j = T at *
  generalize Y.drop (j + 1) = R at *
  generalize Y[j] = y at *
  subst ha
  apply List.ext_getElem?
  intro k
  rw [swap1_get (by simp; omega) (by simp; omega)]
  have e1 : (P ++ (T ++ (x :: (y :: R ++ S))))[P.length + j]? = some x := by
    rw [List.getElem?_append_right (by omega), List.getElem?_append_right (by omega)]
    rw [show P.length + j - P.length - T.length = 0 by omega]; rfl
  have e2 : (P ++ (T ++ (x :: (y :: R ++ S))))[P.length + j + 1]? = some y := by
    rw [List.getElem?_append_right (by omega), List.getElem?_append_right (by omega)]
    rw [show P.length + j + 1 - P.length - T.length = 1 by omega]; rfl
  rw [e1, e2]
  split
  · next h =>
    subst h
    rw [List.getElem?_append_right (by omega), List.append_assoc, List.getElem?_append_right (by omega)]
    rw [show P.length + j + 1 - P.length - T.length = 1 by omega]; rfl
  · next h1 =>
    split
    · next h =>
      subst h
      rw [List.getElem?_append_right (by omega), List.append_assoc, List.getElem?_append_right (by omega)]
      rw [show P.length + j - P.length - T.length = 0 by omega]; rfl
    · next h2 =>
      by_cases h3 : k < P.length
      · rw [List.getElem?_append_left h3, List.getElem?_append_left h3]
      · rw [List.getElem?_append_right (by omega), List.append_assoc]
        by_cases h4 : k - P.length < T.length
        · rw [List.getElem?_append_left h4, List.getElem?_append_right (by omega), List.getElem?_append_left h4]
        · rw [List.getElem?_append_right (by omega), List.getElem?_append_right (by omega), List.getElem?_append_right (by omega)]
          obtain ⟨q, hq⟩ : ∃ q, k - P.length - T.length = q + 2 := ⟨k - P.length - T.length - 2, by omega⟩
          rw [hq]; rfl
theorem swap1_comm {d : List NodeV} {i j : Nat} (hi : i < d.length) (hj : j < d.length) : swap1 d i j = swap1 d j i := by
  apply List.ext_getElem?
  intro k
  rw [swap1_get hi hj, swap1_get hj hi]
  by_cases h1 : k = j
  · subst h1
    rw [if_pos rfl]
    split
    · next h => rw [h]
    · rw [if_pos rfl]
  · rw [if_neg h1]
    split
    · rfl
    · rfl
theorem swap1_inv {d : List NodeV} {i j : Nat} (hi : i < d.length) (hj : j < d.length) : swap1 (swap1 d i j) i j = d := by
  apply List.ext_getElem?
  intro k
  have hl := swap1_length d i j
  rw [swap1_get (by omega) (by omega), swap1_get hi hj, swap1_get hi hj, swap1_get hi hj]
  repeat' split
  all_goals first | rfl | (exfalso; omega) | (congr 1; omega) | skip
/-- one on its way down -/
theorem step_down {P X S : List NodeV} {y : NodeV} {a j : Nat} (ha : a = P.length) (hj : j < X.length) :
    swap1 (P ++ (X.take (j + 1) ++ (y :: (X.drop (j + 1) ++ S)))) (a + j + 1) (a + j) = P ++ (X.take j ++ (y :: (X.drop j ++ S))) := by
  have hl : (P ++ (X.take j ++ (y :: (X.drop j ++ S)))).length = P.length + (X.length + (S.length + 1)) := by
    simp only [List.length_append, List.length_cons, List.length_take, List.length_drop]; omega
  rw [← step_up ha hj, swap1_comm (by rw [swap1_length]; omega) (by rw [swap1_length]; omega), swap1_inv (by omega) (by omega)]
theorem NRow.len3 {B D g n cap : Nat} {P X Y S : List NodeV} {W : World} (h : NRow B D g n cap (P ++ (X ++ (Y ++ S))) W) : P.length + X.length + Y.length + S.length = n := by
  have := h.len
  simp only [List.length_append] at this
  omega
theorem NRow.cmp {B D g n cap : Nat} {d : List NodeV} {W : World} (h : NRow B D g n cap d W) (hm : ∀ W', W.grownBy W' (some g) → ML W') {i j : Nat} (hi : i < n) (hj : j < n) (W' : World) (hb : Below W.heap.size W W') :
    Calls Tryd.prog 29 #[.agg (nodeC (nD d i)).toArray, .agg (nodeC (nD d j)).toArray] W' fun e w' => e = .returned (.int .i64 (cmN (nD d i) (nD d j))) ∧ Below W'.heap.size W' w' := lessA_any _ _ W' (h.shortD hi) (h.shortD hj) (hm W' (grownBy_below hb))
theorem ml_row {g : Nat} {w wr : World} (hm : ∀ W', w.grownBy W' (some g) → ML W') (h : w.grownBy wr (some g)) : ∀ W', wr.grownBy W' (some g) → ML W' := fun W' h' => hm W' (h.trans h')
set_option maxRecDepth 1000000 in
set_option maxHeartbeats 8000000 in
theorem SymM_left (B D g n cap : Nat) (hn : n ≤ 1000) (P Y S : List NodeV) (x : NodeV) (a m b : Nat) (ha : a = P.length) (hma : m = a + 1) (hb : b = m + Y.length) (hY : SrtC cmN Y) (w : World) (h : NRow B D g n cap (P ++ ([x] ++ (Y ++ S))) w) (hm : ∀ W, w.grownBy W (some g) → ML W) :
    Calls Tryd.prog 71 #[(.slice (some ⟨g, 0, none⟩) n cap), .int .i64 a, .int .i64 m, .int .i64 b, (.func (.func 29) #[] #[])] w fun e w' => e = .returned (.tuple #[]) ∧ ∃ d', Mrg cmN P [x] Y S d' ∧ NRow B D g n cap d' w' ∧ w.grownBy w' (some g) := by
  have hl := h.len3
  rw [List.length_singleton] at hl
  have hbn : b ≤ n := by omega
  have HFX : Hid (nD (P ++ ([x] ++ (Y ++ S))) a = x) := Lib.hid (by rw [nD_x (m := a + 1) ha rfl (Nat.le_refl _) (by omega), Nat.sub_self]; rfl)
  have HFY : Hid (∀ c, m ≤ c → c < b → nD (P ++ ([x] ++ (Y ++ S))) c = nD Y (c - m)) := Lib.hid (fun c h1 h2 => nD_y ha (by rw [hma]; rfl) hb h1 h2)
  have HUP : Hid (∀ j, j < Y.length → swap1 (P ++ (Y.take j ++ (x :: (Y.drop j ++ S)))) (a + j) (a + j + 1) = P ++ (Y.take (j + 1) ++ (x :: (Y.drop (j + 1) ++ S)))) := Lib.hid (fun j hj => step_up ha hj)
  have HD0 : Hid (P ++ (Y.take 0 ++ (x :: (Y.drop 0 ++ S))) = P ++ ([x] ++ (Y ++ S))) := Lib.hid (by simp)
  have HYS := Lib.hid hY
  have HHM := Lib.hid hm
  have HMA := Lib.hid hma
  have HBL := Lib.hid hb
  have H0 : Hid (NRow B D g n cap (P ++ ([x] ++ (Y ++ S))) w ∧ w.grownBy w (some g)) := Lib.hid ⟨h, World.grownBy.refl _ _⟩
  obtain ⟨d, hd⟩ : ∃ d, d = P ++ ([x] ++ (Y ++ S)) := ⟨_, rfl⟩
  rw [← hd] at HFX HFY HD0 H0
  have hmb : m ≤ b := by omega
  have ham : a < m := by omega
  have c1 : IntKind.i64.wrap ((m : Int) - (a : Int)) = 1 := by rw [show (m : Int) - (a : Int) = 1 by omega]; rfl
  have eg := eg_lessA
  clear ha hma hb hl hY hm h hd
  go_enter Tryd.func71, Tryd.ntmps71
  go_wp2_with fail
  clear c1
  go_loopg [10, 11, 12] b (fun gg s10 s11 s12 wr => ∃ i j : Nat, s10 = .int .i64 i ∧ s11 = .int .i64 j ∧ m ≤ i ∧ i ≤ j ∧ j ≤ b ∧ j - i ≤ gg ∧ Hid (NRow B D g n cap d wr ∧ w.grownBy wr (some g)) ∧ Hid (i = m ∨ cmN (nD d (i - 1)) x ≤ 0) ∧ Hid (j = b ∨ cmN x (nD d j) ≤ 0))
  case atStart => exact ⟨m, b, rfl, rfl, Nat.le_refl _, hmb, Nat.le_refl _, by omega, H0, Lib.hid (.inl rfl), Lib.hid (.inl rfl)⟩
  case round =>
    obtain ⟨i, j, rfl, rfl, hmi, hij, hjb, hg, HS, HI, HJ⟩ := hrel
    clear H0
    by_cases hlt : i < j
    · have hltz : (i : Int) < (j : Int) := by omega
      obtain ⟨hh, hhd⟩ : ∃ hh, hh = (i + j) / 2 := ⟨_, rfl⟩
      have hhz : ((i : Int) + (j : Int)) / 2 = (hh : Int) := by omega
      have hh1 : i ≤ hh := by omega
      have hh2 : hh < j := by omega
      have hhn : hh < n := by omega
      have han : a < n := by omega
      have k1 : (hh : Int) < (n : Int) := by omega
      have k2 : (a : Int) < (n : Int) := by omega
      have k3 : (0 : Int) ≤ (hh : Int) := by omega
      have k4 : (0 : Int) ≤ (a : Int) := by omega
      have LDH := Lib.hid (fun W (hb : Below wr.heap.size wr W) => (HS.out.1.below hb).loadD hhn)
      have LDA := Lib.hid (fun W (hb : Below wr.heap.size wr W) => (HS.out.1.below hb).loadD han)
      have HCM := Lib.hid (fun W (hb : Below wr.heap.size wr W) => HS.out.1.cmp (ml_row HHM.out HS.out.2) hhn han W hb)
      have HXN : Hid (¬ cmN (nD d hh) (nD d a) < 0 → cmN x (nD d hh) ≤ 0) := Lib.hid (fun h => by have := ord_cm.flip h; rw [HFX.out] at this; exact this)
      have HXP : Hid (cmN (nD d hh) (nD d a) < 0 → cmN (nD d hh) x ≤ 0) := Lib.hid (fun h => by rw [HFX.out] at h; omega)
      clear hhd
      obtain ⟨cv, hcv⟩ : ∃ cv, cv = cmN (nD d hh) (nD d a) := ⟨_, rfl⟩
      rw [← hcv] at HCM HXN HXP
      clear hcv
      generalize (nodeC (nD d hh)).toArray = cH at *
      generalize (nodeC (nD d a)).toArray = cA at *
      clear HFX HFY HUP HD0
      go_upto_region 5 with fail
      clear hhz
      refine wp_region_G (S := fun W => Below wr.heap.size wr W) (by kernel_rfl) (Below.refl _ _).drew ?_
      refine wpG_take (i := 0) (v := ?vsa0) rfl (by kernel_rfl) (by kernel_rfl) (by kernel_rfl) (fun _ _ _ h => h) (Or.inl ⟨by rfl, ?hysa0⟩) ?restsa0
      case hysa0 => (intro W hSw; left; (try dsimp only at hSw); go_simp; try with_reducible rfl)
      simp only [Act.put, List.setIfInBounds_toArray, List.set_cons_zero, List.set_cons_succ, List.getElem_toArray, List.getElem_cons_zero, List.getElem_cons_succ]
      refine wpG_take (i := 1) (v := ?vsa1) rfl (by kernel_rfl) (by kernel_rfl) (by kernel_rfl) (fun _ _ _ h => h) (Or.inl ⟨by rfl, ?hysa1⟩) ?restsa1
      case hysa1 => (intro W hSw; left; (try dsimp only at hSw); go_simp; try with_reducible rfl)
      simp only [Act.put, List.setIfInBounds_toArray, List.set_cons_zero, List.set_cons_succ, List.getElem_toArray, List.getElem_cons_zero, List.getElem_cons_succ]
      refine wpG_take (i := 2) (v := ?vsa2) rfl (by kernel_rfl) (by kernel_rfl) (by kernel_rfl) (fun _ _ _ h => h) (Or.inl ⟨by rfl, ?hysa2⟩) ?restsa2
      case hysa2 => (intro W hSw; left; (try dsimp only at hSw); go_simp; try with_reducible rfl)
      simp only [Act.put, List.setIfInBounds_toArray, List.set_cons_zero, List.set_cons_succ, List.getElem_toArray, List.getElem_cons_zero, List.getElem_cons_succ]
      refine wpG_take (i := 3) (v := ?vsa3) rfl (by kernel_rfl) (by kernel_rfl) (by kernel_rfl) (fun _ _ _ h => h) (Or.inl ⟨by rfl, ?hysa3⟩) ?restsa3
      case hysa3 => (intro W hSw; left; (try dsimp only at hSw); go_simp; try with_reducible rfl)
      simp only [Act.put, List.setIfInBounds_toArray, List.set_cons_zero, List.set_cons_succ, List.getElem_toArray, List.getElem_cons_zero, List.getElem_cons_succ]
      refine wpG_take (i := 4) (v := (.agg cH)) rfl (by kernel_rfl) (by kernel_rfl) (by kernel_rfl) (fun _ _ _ h => h) (Or.inl ⟨by rfl, ?hysa4⟩) ?restsa4
      case hysa4 => (intro W hSw; left; exact run_load _ _ rfl rfl (LDH.out W hSw))
      simp only [Act.put, List.setIfInBounds_toArray, List.set_cons_zero, List.set_cons_succ, List.getElem_toArray, List.getElem_cons_zero, List.getElem_cons_succ]
      refine wpG_take (i := 5) (v := ?vsa5) rfl (by kernel_rfl) (by kernel_rfl) (by kernel_rfl) (fun _ _ _ h => h) (Or.inl ⟨by rfl, ?hysa5⟩) ?restsa5
      case hysa5 => (intro W hSw; left; (try dsimp only at hSw); go_simp; try with_reducible rfl)
      simp only [Act.put, List.setIfInBounds_toArray, List.set_cons_zero, List.set_cons_succ, List.getElem_toArray, List.getElem_cons_zero, List.getElem_cons_succ]
      refine wpG_take (i := 6) (v := ?vsa6) rfl (by kernel_rfl) (by kernel_rfl) (by kernel_rfl) (fun _ _ _ h => h) (Or.inl ⟨by rfl, ?hysa6⟩) ?restsa6
      case hysa6 => (intro W hSw; left; (try dsimp only at hSw); go_simp; try with_reducible rfl)
      simp only [Act.put, List.setIfInBounds_toArray, List.set_cons_zero, List.set_cons_succ, List.getElem_toArray, List.getElem_cons_zero, List.getElem_cons_succ]
      refine wpG_take (i := 7) (v := ?vsa7) rfl (by kernel_rfl) (by kernel_rfl) (by kernel_rfl) (fun _ _ _ h => h) (Or.inl ⟨by rfl, ?hysa7⟩) ?restsa7
      case hysa7 => (intro W hSw; left; (try dsimp only at hSw); go_simp; try with_reducible rfl)
      simp only [Act.put, List.setIfInBounds_toArray, List.set_cons_zero, List.set_cons_succ, List.getElem_toArray, List.getElem_cons_zero, List.getElem_cons_succ]
      refine wpG_take (i := 8) (v := (.agg cA)) rfl (by kernel_rfl) (by kernel_rfl) (by kernel_rfl) (fun _ _ _ h => h) (Or.inl ⟨by rfl, ?hysa8⟩) ?restsa8
      case hysa8 => (intro W hSw; left; exact run_load _ _ rfl rfl (LDA.out W hSw))
      simp only [Act.put, List.setIfInBounds_toArray, List.set_cons_zero, List.set_cons_succ, List.getElem_toArray, List.getElem_cons_zero, List.getElem_cons_succ]
      refine wpG_take (i := 9) (v := (.int .i64 cv)) rfl (by kernel_rfl) (by kernel_rfl) (by kernel_rfl) (fun _ _ _ h => h) (Or.inl ⟨by rfl, ?hysa9⟩) ?restsa9
      case hysa9 => (intro W hSw; right; (try dsimp only at hSw); refine ⟨_, _, (by go_simp; try with_reducible rfl), (HCM.out W hSw).mono ?_⟩; rintro e w' ⟨rfl, hb⟩; exact ⟨rfl, hSw.trans (hb.mono hSw.size), hb⟩)
      simp only [Act.put, List.setIfInBounds_toArray, List.set_cons_zero, List.set_cons_succ, List.getElem_toArray, List.getElem_cons_zero, List.getElem_cons_succ]
      refine wpG_take (i := 10) (v := ?vsa10) rfl (by kernel_rfl) (by kernel_rfl) (by kernel_rfl) (fun _ _ _ h => h) (Or.inl ⟨by rfl, ?hysa10⟩) ?restsa10
      case hysa10 => (intro W hSw; left; (try dsimp only at hSw); go_simp; try with_reducible rfl)
      simp only [Act.put, List.setIfInBounds_toArray, List.set_cons_zero, List.set_cons_succ, List.getElem_toArray, List.getElem_cons_zero, List.getElem_cons_succ]
      refine wpG_done (by kernel_rfl) (fun w3 hb3 hS3 => ?_) _
      have HN := Lib.hid (And.intro (HS.out.1.below hS3) (HS.out.2.trans (grownBy_below hS3)))
      clear hb3 hS3 HS LDH LDA HCM
      by_cases hq : cv < 0
      · have q1 : decide (cv < 0) = true := decide_eq_true hq
        have HI2 := Lib.hid (HXP.out hq)
        clear HXN HXP HI
        go_wp2_with fail
        go_roundg (j - (hh + 1))
        case measure => omega
        case rel => exact ⟨hh + 1, j, by go_num, rfl, by omega, by omega, hjb, Nat.le_refl _, HN, Lib.hid (.inr (by rw [Nat.add_sub_cancel]; exact HI2.out)), HJ⟩
      · have q1 : decide (cv < 0) = false := decide_eq_false hq
        have HJ2 := Lib.hid (HXN.out hq)
        clear HXN HXP HJ
        go_wp2_with fail
        go_roundg (hh - i)
        case measure => omega
        case rel => exact ⟨i, hh, rfl, rfl, hmi, hh1, by omega, Nat.le_refl _, HN, HI, Lib.hid (.inr HJ2.out)⟩
    · obtain rfl : i = j := by omega
      have hltz : ¬ (i : Int) < (i : Int) := by omega
      have HF : Hid ((Y.take (i - m) ++ (x :: Y.drop (i - m))).Perm ([x] ++ Y) ∧ SrtC cmN (Y.take (i - m) ++ (x :: Y.drop (i - m)))) := Lib.hid (by
        have hb := HBL.out
        have := mrg_in (x := x) (X := [x]) (Y1 := Y.take (i - m)) (Y2 := Y.drop (i - m)) rfl (by rw [List.take_append_drop]; exact HYS.out) (take_le HYS.out (by omega) (by
          rcases HI.out with h | h
          · exact .inl (by omega)
          · by_cases e : i = m
            · exact .inl (by omega)
            · rw [HFY.out (i - 1) (by omega) (by omega)] at h
              rw [show i - 1 - m = i - m - 1 by omega] at h
              exact .inr h)) (drop_ge HYS.out (by
          rcases HJ.out with h | h
          · exact .inl (by omega)
          · by_cases e : i = b
            · exact .inl (by omega)
            · rw [HFY.out i hmi (by omega)] at h
              exact .inr h))
        rw [List.take_append_drop] at this
        exact this)
      obtain ⟨t, ht⟩ : ∃ t, t = i - 1 := ⟨_, rfl⟩
      have hit : i = t + 1 := by omega
      have hat : a ≤ t := by omega
      have hti : t - a = i - m := by have := HMA.out; omega
      have r1 : IntKind.i64.wrap ((i : Int) - 1) = (t : Int) := wr_ (by omega) (by omega)
      have HS1 : Hid (NRow B D g n cap (P ++ (Y.take (a - a) ++ (x :: (Y.drop (a - a) ++ S)))) wr ∧ w.grownBy wr (some g)) := Lib.hid (by rw [Nat.sub_self, HD0.out]; exact HS.out)
      have HTI := Lib.hid hti
      have hYt : t - a ≤ Y.length := by have := HBL.out; omega
      have HIT := Lib.hid hit
      have htn : t < n := by omega
      clear HS HI HJ HFX HFY HD0 ht hti hit hmi hjb hij hg
      go_wp2_with fail
      go_loopg [13] t (fun gg s13 w2 => ∃ k : Nat, a ≤ k ∧ k ≤ t ∧ t - k ≤ gg ∧ s13 = .int .i64 k ∧ Hid (NRow B D g n cap (P ++ (Y.take (k - a) ++ (x :: (Y.drop (k - a) ++ S)))) w2 ∧ w.grownBy w2 (some g)))
      case atStart => exact ⟨a, Nat.le_refl _, hat, by omega, rfl, HS1⟩
      case round =>
        obtain ⟨k, hak, hkt, hg, rfl, HS⟩ := hrel
        clear HS1
        by_cases hlt2 : k < t
        · have hlz : (k : Int) < (t : Int) := by omega
          have hi : k < n := by omega
          have hj : k + 1 < n := by omega
          obtain ⟨cI, cJ, lj, li, s1, s2, hgr, hrow⟩ := HS.out.1.swap hi hj
          have hup := HUP.out (k - a) (by omega)
          rw [show a + (k - a) = k by omega] at hup
          rw [hup, show k - a + 1 = k + 1 - a by omega] at hrow
          have HN := Lib.hid (And.intro hrow (HS.out.2.trans hgr))
          have HLJ := Lib.hid lj
          have HLI := Lib.hid li
          have HS1 := Lib.hid s1
          have HS2 := Lib.hid s2
          have HIJ : Hid (IntKind.i64.wrap ((k : Int) + 1) = ((k + 1 : Nat) : Int)) := Lib.hid (wr_ (by omega) (by omega))
          clear lj li s1 s2 hgr hrow hup HS
          go_upto_region 11 with fail
          refine reg_m1 g n cap k (k + 1) cI cJ hi hj _ HIJ.out HLJ.out HLI.out HS1.out HS2.out _ (fun _ _ _ _ _ h => h) _ _ _ _ _ _ _ _ _ _ _ _ _ _ _ _ _ _ _ _ _ _ _ _ _ _ _ _ _ _ _ _ _ _ _ _ _ _ _ _ _ _ _ _ _ _ _ _ _ _ _ _ _ _ _ _ _ _ _ _ _ _ _ _ _ _ _ _ _ _ _ _ _ _ _ _ _ _ _ _ _ _ _ _ _ _ _ _ _ _ _ _ _ _ _ _ _ _ _ _ _ _ _ _ _ _ _ _ _ _ _ _ _ _ _ _ _ _ _ _ _ _ _ _ _ _ _ _ _ _ _ _ _ _ _ _ _ _ _ _ _ _ _ _ _ _ _ _ _ _ _ _ _ _ _ _ _ _ _ _ _ _ _ _ _ _ _ _ _ _ _ _ _ _ _ _ _ _ _ _ _ _ _ _ _ _ _ _ _ _ _ _ _ _ _ _ _ _ _ _ _ _ _ _ _ _ _ _ _ _ _ _ _ _ _ _ _ _ ?_
          go_wp2_with fail
          go_roundg (t - (k + 1))
          case measure => omega
          case rel => exact ⟨k + 1, by omega, by omega, by omega, by go_num, HN⟩
        · obtain rfl : k = t := by omega
          have hlz : ¬ (k : Int) < (k : Int) := by omega
          go_wp2_with fail
          (try simp only [Exit.inBlock, Exit.then]); refine bodyPost_ret (results_none rfl _ _ _) rfl ?_
          refine ⟨rfl, _, ⟨Y.take (k - a) ++ (x :: Y.drop (k - a)), ?_, by rw [HTI.out]; exact HF.out.1, by rw [HTI.out]; exact HF.out.2⟩, HS.out.1, HS.out.2⟩
          simp
set_option maxRecDepth 1000000 in
set_option maxHeartbeats 8000000 in
theorem SymM_right (B D g n cap : Nat) (hn : n ≤ 1000) (P X S : List NodeV) (y : NodeV) (a m b : Nat) (ha : a = P.length) (hma : m = a + X.length) (hb : b = m + 1) (hX2 : 2 ≤ X.length) (hX : SrtC cmN X) (w : World) (h : NRow B D g n cap (P ++ (X ++ ([y] ++ S))) w) (hm : ∀ W, w.grownBy W (some g) → ML W) :
    Calls Tryd.prog 71 #[(.slice (some ⟨g, 0, none⟩) n cap), .int .i64 a, .int .i64 m, .int .i64 b, (.func (.func 29) #[] #[])] w fun e w' => e = .returned (.tuple #[]) ∧ ∃ d', Mrg cmN P X [y] S d' ∧ NRow B D g n cap d' w' ∧ w.grownBy w' (some g) := by
  have hl := h.len3
  rw [List.length_singleton] at hl
  have hbn : b ≤ n := by omega
  have HFX : Hid (nD (P ++ (X ++ ([y] ++ S))) m = y) := Lib.hid (by rw [nD_y (m := m) (b := m + 1) ha hma rfl (Nat.le_refl _) (by omega), Nat.sub_self]; rfl)
  have HFY : Hid (∀ c, a ≤ c → c < m → nD (P ++ (X ++ ([y] ++ S))) c = nD X (c - a)) := Lib.hid (fun c h1 h2 => nD_x ha hma h1 h2)
  have HDN : Hid (∀ j, j < X.length → swap1 (P ++ (X.take (j + 1) ++ (y :: (X.drop (j + 1) ++ S)))) (a + j + 1) (a + j) = P ++ (X.take j ++ (y :: (X.drop j ++ S)))) := Lib.hid (fun j hj => step_down ha hj)
  have HD0 : Hid (P ++ (X.take (m - a) ++ (y :: (X.drop (m - a) ++ S))) = P ++ (X ++ ([y] ++ S))) := Lib.hid (by rw [show m - a = X.length by omega, List.take_length, List.drop_length]; simp)
  have HXS := Lib.hid hX
  have HHM := Lib.hid hm
  have HMA := Lib.hid hma
  have H0 : Hid (NRow B D g n cap (P ++ (X ++ ([y] ++ S))) w ∧ w.grownBy w (some g)) := Lib.hid ⟨h, World.grownBy.refl _ _⟩
  obtain ⟨d, hd⟩ : ∃ d, d = P ++ (X ++ ([y] ++ S)) := ⟨_, rfl⟩
  rw [← hd] at HFX HFY HD0 H0
  obtain ⟨lx, hlx⟩ : ∃ lx, lx = X.length := ⟨_, rfl⟩
  have ham : a ≤ m := by omega
  have hmn : m < n := by omega
  have c1 : IntKind.i64.wrap ((m : Int) - (a : Int)) = (lx : Int) := wr_ (by omega) (by omega)
  have c2 : ((lx : Int) == 1) = false := by rw [beq_eq_false_iff_ne]; omega
  have c3 : IntKind.i64.wrap ((b : Int) - (m : Int)) = 1 := by rw [show (b : Int) - (m : Int) = 1 by omega]; rfl
  have eg := eg_lessA
  clear ha hma hb hl hX hm h hd hlx hX2
  go_enter Tryd.func71, Tryd.ntmps71
  go_wp2_with fail
  clear c1 c2 c3
  go_loopg [14, 15, 16] m (fun gg s14 s15 s16 wr => ∃ i j : Nat, s14 = .int .i64 i ∧ s15 = .int .i64 j ∧ a ≤ i ∧ i ≤ j ∧ j ≤ m ∧ j - i ≤ gg ∧ Hid (NRow B D g n cap d wr ∧ w.grownBy wr (some g)) ∧ Hid (i = a ∨ cmN (nD d (i - 1)) y ≤ 0) ∧ Hid (j = m ∨ cmN y (nD d j) ≤ 0))
  case atStart => exact ⟨a, m, rfl, rfl, Nat.le_refl _, ham, Nat.le_refl _, by omega, H0, Lib.hid (.inl rfl), Lib.hid (.inl rfl)⟩
  case round =>
    obtain ⟨i, j, rfl, rfl, hmi, hij, hjb, hg, HS, HI, HJ⟩ := hrel
    clear H0
    by_cases hlt : i < j
    · have hltz : (i : Int) < (j : Int) := by omega
      obtain ⟨hh, hhd⟩ : ∃ hh, hh = (i + j) / 2 := ⟨_, rfl⟩
      have hhz : ((i : Int) + (j : Int)) / 2 = (hh : Int) := by omega
      have hh1 : i ≤ hh := by omega
      have hh2 : hh < j := by omega
      have hhn : hh < n := by omega
      have k1 : (hh : Int) < (n : Int) := by omega
      have k2 : (m : Int) < (n : Int) := by omega
      have k3 : (0 : Int) ≤ (hh : Int) := by omega
      have k4 : (0 : Int) ≤ (m : Int) := by omega
      have LDH := Lib.hid (fun W (hb : Below wr.heap.size wr W) => (HS.out.1.below hb).loadD hhn)
      have LDM := Lib.hid (fun W (hb : Below wr.heap.size wr W) => (HS.out.1.below hb).loadD hmn)
      have HCM := Lib.hid (fun W (hb : Below wr.heap.size wr W) => HS.out.1.cmp (ml_row HHM.out HS.out.2) hmn hhn W hb)
      have HXN : Hid (¬ cmN (nD d m) (nD d hh) < 0 → cmN (nD d hh) y ≤ 0) := Lib.hid (fun h => by have := ord_cm.flip h; rw [HFX.out] at this; exact this)
      have HXP : Hid (cmN (nD d m) (nD d hh) < 0 → cmN y (nD d hh) ≤ 0) := Lib.hid (fun h => by rw [HFX.out] at h; omega)
      clear hhd
      obtain ⟨cv, hcv⟩ : ∃ cv, cv = cmN (nD d m) (nD d hh) := ⟨_, rfl⟩
      rw [← hcv] at HCM HXN HXP
      clear hcv
      generalize (nodeC (nD d hh)).toArray = cH at *
      generalize (nodeC (nD d m)).toArray = cA at *
      clear HFX HFY HDN HD0
      by_cases hq : cv < 0
      · have q1 : decide (cv < 0) = true := decide_eq_true hq
        have HJ2 := Lib.hid (HXP.out hq)
        clear HXN HXP HJ
        go_upto_region 17 with fail
        clear hhz
        refine wp_region_G (S := fun W => Below wr.heap.size wr W) (by kernel_rfl) (Below.refl _ _).drew ?_
        refine wpG_take (i := 0) (v := ?vsb0) rfl (by kernel_rfl) (by kernel_rfl) (by kernel_rfl) (fun _ _ _ h => h) (Or.inl ⟨by rfl, ?hysb0⟩) ?restsb0
        case hysb0 => (intro W hSw; left; (try dsimp only at hSw); go_simp; try with_reducible rfl)
        simp only [Act.put, List.setIfInBounds_toArray, List.set_cons_zero, List.set_cons_succ, List.getElem_toArray, List.getElem_cons_zero, List.getElem_cons_succ]
        refine wpG_take (i := 1) (v := ?vsb1) rfl (by kernel_rfl) (by kernel_rfl) (by kernel_rfl) (fun _ _ _ h => h) (Or.inl ⟨by rfl, ?hysb1⟩) ?restsb1
        case hysb1 => (intro W hSw; left; (try dsimp only at hSw); go_simp; try with_reducible rfl)
        simp only [Act.put, List.setIfInBounds_toArray, List.set_cons_zero, List.set_cons_succ, List.getElem_toArray, List.getElem_cons_zero, List.getElem_cons_succ]
        refine wpG_take (i := 2) (v := ?vsb2) rfl (by kernel_rfl) (by kernel_rfl) (by kernel_rfl) (fun _ _ _ h => h) (Or.inl ⟨by rfl, ?hysb2⟩) ?restsb2
        case hysb2 => (intro W hSw; left; (try dsimp only at hSw); go_simp; try with_reducible rfl)
        simp only [Act.put, List.setIfInBounds_toArray, List.set_cons_zero, List.set_cons_succ, List.getElem_toArray, List.getElem_cons_zero, List.getElem_cons_succ]
        refine wpG_take (i := 3) (v := ?vsb3) rfl (by kernel_rfl) (by kernel_rfl) (by kernel_rfl) (fun _ _ _ h => h) (Or.inl ⟨by rfl, ?hysb3⟩) ?restsb3
        case hysb3 => (intro W hSw; left; (try dsimp only at hSw); go_simp; try with_reducible rfl)
        simp only [Act.put, List.setIfInBounds_toArray, List.set_cons_zero, List.set_cons_succ, List.getElem_toArray, List.getElem_cons_zero, List.getElem_cons_succ]
        refine wpG_take (i := 4) (v := (.agg cA)) rfl (by kernel_rfl) (by kernel_rfl) (by kernel_rfl) (fun _ _ _ h => h) (Or.inl ⟨by rfl, ?hysb4⟩) ?restsb4
        case hysb4 => (intro W hSw; left; exact run_load _ _ rfl rfl (LDM.out W hSw))
        simp only [Act.put, List.setIfInBounds_toArray, List.set_cons_zero, List.set_cons_succ, List.getElem_toArray, List.getElem_cons_zero, List.getElem_cons_succ]
        refine wpG_take (i := 5) (v := ?vsb5) rfl (by kernel_rfl) (by kernel_rfl) (by kernel_rfl) (fun _ _ _ h => h) (Or.inl ⟨by rfl, ?hysb5⟩) ?restsb5
        case hysb5 => (intro W hSw; left; (try dsimp only at hSw); go_simp; try with_reducible rfl)
        simp only [Act.put, List.setIfInBounds_toArray, List.set_cons_zero, List.set_cons_succ, List.getElem_toArray, List.getElem_cons_zero, List.getElem_cons_succ]
        refine wpG_take (i := 6) (v := ?vsb6) rfl (by kernel_rfl) (by kernel_rfl) (by kernel_rfl) (fun _ _ _ h => h) (Or.inl ⟨by rfl, ?hysb6⟩) ?restsb6
        case hysb6 => (intro W hSw; left; (try dsimp only at hSw); go_simp; try with_reducible rfl)
        simp only [Act.put, List.setIfInBounds_toArray, List.set_cons_zero, List.set_cons_succ, List.getElem_toArray, List.getElem_cons_zero, List.getElem_cons_succ]
        refine wpG_take (i := 7) (v := ?vsb7) rfl (by kernel_rfl) (by kernel_rfl) (by kernel_rfl) (fun _ _ _ h => h) (Or.inl ⟨by rfl, ?hysb7⟩) ?restsb7
        case hysb7 => (intro W hSw; left; (try dsimp only at hSw); go_simp; try with_reducible rfl)
        simp only [Act.put, List.setIfInBounds_toArray, List.set_cons_zero, List.set_cons_succ, List.getElem_toArray, List.getElem_cons_zero, List.getElem_cons_succ]
        refine wpG_take (i := 8) (v := (.agg cH)) rfl (by kernel_rfl) (by kernel_rfl) (by kernel_rfl) (fun _ _ _ h => h) (Or.inl ⟨by rfl, ?hysb8⟩) ?restsb8
        case hysb8 => (intro W hSw; left; exact run_load _ _ rfl rfl (LDH.out W hSw))
        simp only [Act.put, List.setIfInBounds_toArray, List.set_cons_zero, List.set_cons_succ, List.getElem_toArray, List.getElem_cons_zero, List.getElem_cons_succ]
        refine wpG_take (i := 9) (v := (.int .i64 cv)) rfl (by kernel_rfl) (by kernel_rfl) (by kernel_rfl) (fun _ _ _ h => h) (Or.inl ⟨by rfl, ?hysb9⟩) ?restsb9
        case hysb9 => (intro W hSw; right; (try dsimp only at hSw); refine ⟨_, _, (by go_simp; try with_reducible rfl), (HCM.out W hSw).mono ?_⟩; rintro e w' ⟨rfl, hb⟩; exact ⟨rfl, hSw.trans (hb.mono hSw.size), hb⟩)
        simp only [Act.put, List.setIfInBounds_toArray, List.set_cons_zero, List.set_cons_succ, List.getElem_toArray, List.getElem_cons_zero, List.getElem_cons_succ]
        refine wpG_take (i := 10) (v := (.bool true)) rfl (by kernel_rfl) (by kernel_rfl) (by kernel_rfl) (fun _ _ _ h => h) (Or.inl ⟨by rfl, ?hysb10⟩) ?restsb10
        case hysb10 => (intro W hSw; left; (try dsimp only at hSw); go_simp; try with_reducible rfl)
        simp only [Act.put, List.setIfInBounds_toArray, List.set_cons_zero, List.set_cons_succ, List.getElem_toArray, List.getElem_cons_zero, List.getElem_cons_succ]
        refine wpG_take (i := 11) (v := (.bool false)) rfl (by kernel_rfl) (by kernel_rfl) (by kernel_rfl) (fun _ _ _ h => h) (Or.inl ⟨by rfl, ?hysb11⟩) ?restsb11
        case hysb11 => (intro W hSw; left; (try dsimp only at hSw); go_simp; try with_reducible rfl)
        simp only [Act.put, List.setIfInBounds_toArray, List.set_cons_zero, List.set_cons_succ, List.getElem_toArray, List.getElem_cons_zero, List.getElem_cons_succ]
        refine wpG_done (by kernel_rfl) (fun w3 hb3 hS3 => ?_) _
        have HN := Lib.hid (And.intro (HS.out.1.below hS3) (HS.out.2.trans (grownBy_below hS3)))
        clear hb3 hS3 HS LDH LDM HCM
        go_wp2_with fail
        go_roundg (hh - i)
        case measure => omega
        case rel => exact ⟨i, hh, rfl, rfl, hmi, hh1, by omega, Nat.le_refl _, HN, HI, Lib.hid (.inr HJ2.out)⟩
      · have q1 : decide (cv < 0) = false := decide_eq_false hq
        have HI2 := Lib.hid (HXN.out hq)
        clear HXN HXP HI
        go_upto_region 17 with fail
        clear hhz
        refine wp_region_G (S := fun W => Below wr.heap.size wr W) (by kernel_rfl) (Below.refl _ _).drew ?_
        refine wpG_take (i := 0) (v := ?vsc0) rfl (by kernel_rfl) (by kernel_rfl) (by kernel_rfl) (fun _ _ _ h => h) (Or.inl ⟨by rfl, ?hysc0⟩) ?restsc0
        case hysc0 => (intro W hSw; left; (try dsimp only at hSw); go_simp; try with_reducible rfl)
        simp only [Act.put, List.setIfInBounds_toArray, List.set_cons_zero, List.set_cons_succ, List.getElem_toArray, List.getElem_cons_zero, List.getElem_cons_succ]
        refine wpG_take (i := 1) (v := ?vsc1) rfl (by kernel_rfl) (by kernel_rfl) (by kernel_rfl) (fun _ _ _ h => h) (Or.inl ⟨by rfl, ?hysc1⟩) ?restsc1
        case hysc1 => (intro W hSw; left; (try dsimp only at hSw); go_simp; try with_reducible rfl)
        simp only [Act.put, List.setIfInBounds_toArray, List.set_cons_zero, List.set_cons_succ, List.getElem_toArray, List.getElem_cons_zero, List.getElem_cons_succ]
        refine wpG_take (i := 2) (v := ?vsc2) rfl (by kernel_rfl) (by kernel_rfl) (by kernel_rfl) (fun _ _ _ h => h) (Or.inl ⟨by rfl, ?hysc2⟩) ?restsc2
        case hysc2 => (intro W hSw; left; (try dsimp only at hSw); go_simp; try with_reducible rfl)
        simp only [Act.put, List.setIfInBounds_toArray, List.set_cons_zero, List.set_cons_succ, List.getElem_toArray, List.getElem_cons_zero, List.getElem_cons_succ]
        refine wpG_take (i := 3) (v := ?vsc3) rfl (by kernel_rfl) (by kernel_rfl) (by kernel_rfl) (fun _ _ _ h => h) (Or.inl ⟨by rfl, ?hysc3⟩) ?restsc3
        case hysc3 => (intro W hSw; left; (try dsimp only at hSw); go_simp; try with_reducible rfl)
        simp only [Act.put, List.setIfInBounds_toArray, List.set_cons_zero, List.set_cons_succ, List.getElem_toArray, List.getElem_cons_zero, List.getElem_cons_succ]
        refine wpG_take (i := 4) (v := (.agg cA)) rfl (by kernel_rfl) (by kernel_rfl) (by kernel_rfl) (fun _ _ _ h => h) (Or.inl ⟨by rfl, ?hysc4⟩) ?restsc4
        case hysc4 => (intro W hSw; left; exact run_load _ _ rfl rfl (LDM.out W hSw))
        simp only [Act.put, List.setIfInBounds_toArray, List.set_cons_zero, List.set_cons_succ, List.getElem_toArray, List.getElem_cons_zero, List.getElem_cons_succ]
        refine wpG_take (i := 5) (v := ?vsc5) rfl (by kernel_rfl) (by kernel_rfl) (by kernel_rfl) (fun _ _ _ h => h) (Or.inl ⟨by rfl, ?hysc5⟩) ?restsc5
        case hysc5 => (intro W hSw; left; (try dsimp only at hSw); go_simp; try with_reducible rfl)
        simp only [Act.put, List.setIfInBounds_toArray, List.set_cons_zero, List.set_cons_succ, List.getElem_toArray, List.getElem_cons_zero, List.getElem_cons_succ]
        refine wpG_take (i := 6) (v := ?vsc6) rfl (by kernel_rfl) (by kernel_rfl) (by kernel_rfl) (fun _ _ _ h => h) (Or.inl ⟨by rfl, ?hysc6⟩) ?restsc6
        case hysc6 => (intro W hSw; left; (try dsimp only at hSw); go_simp; try with_reducible rfl)
        simp only [Act.put, List.setIfInBounds_toArray, List.set_cons_zero, List.set_cons_succ, List.getElem_toArray, List.getElem_cons_zero, List.getElem_cons_succ]
        refine wpG_take (i := 7) (v := ?vsc7) rfl (by kernel_rfl) (by kernel_rfl) (by kernel_rfl) (fun _ _ _ h => h) (Or.inl ⟨by rfl, ?hysc7⟩) ?restsc7
        case hysc7 => (intro W hSw; left; (try dsimp only at hSw); go_simp; try with_reducible rfl)
        simp only [Act.put, List.setIfInBounds_toArray, List.set_cons_zero, List.set_cons_succ, List.getElem_toArray, List.getElem_cons_zero, List.getElem_cons_succ]
        refine wpG_take (i := 8) (v := (.agg cH)) rfl (by kernel_rfl) (by kernel_rfl) (by kernel_rfl) (fun _ _ _ h => h) (Or.inl ⟨by rfl, ?hysc8⟩) ?restsc8
        case hysc8 => (intro W hSw; left; exact run_load _ _ rfl rfl (LDH.out W hSw))
        simp only [Act.put, List.setIfInBounds_toArray, List.set_cons_zero, List.set_cons_succ, List.getElem_toArray, List.getElem_cons_zero, List.getElem_cons_succ]
        refine wpG_take (i := 9) (v := (.int .i64 cv)) rfl (by kernel_rfl) (by kernel_rfl) (by kernel_rfl) (fun _ _ _ h => h) (Or.inl ⟨by rfl, ?hysc9⟩) ?restsc9
        case hysc9 => (intro W hSw; right; (try dsimp only at hSw); refine ⟨_, _, (by go_simp; try with_reducible rfl), (HCM.out W hSw).mono ?_⟩; rintro e w' ⟨rfl, hb⟩; exact ⟨rfl, hSw.trans (hb.mono hSw.size), hb⟩)
        simp only [Act.put, List.setIfInBounds_toArray, List.set_cons_zero, List.set_cons_succ, List.getElem_toArray, List.getElem_cons_zero, List.getElem_cons_succ]
        refine wpG_take (i := 10) (v := (.bool false)) rfl (by kernel_rfl) (by kernel_rfl) (by kernel_rfl) (fun _ _ _ h => h) (Or.inl ⟨by rfl, ?hysc10⟩) ?restsc10
        case hysc10 => (intro W hSw; left; (try dsimp only at hSw); go_simp; try with_reducible rfl)
        simp only [Act.put, List.setIfInBounds_toArray, List.set_cons_zero, List.set_cons_succ, List.getElem_toArray, List.getElem_cons_zero, List.getElem_cons_succ]
        refine wpG_take (i := 11) (v := (.bool true)) rfl (by kernel_rfl) (by kernel_rfl) (by kernel_rfl) (fun _ _ _ h => h) (Or.inl ⟨by rfl, ?hysc11⟩) ?restsc11
        case hysc11 => (intro W hSw; left; (try dsimp only at hSw); go_simp; try with_reducible rfl)
        simp only [Act.put, List.setIfInBounds_toArray, List.set_cons_zero, List.set_cons_succ, List.getElem_toArray, List.getElem_cons_zero, List.getElem_cons_succ]
        refine wpG_done (by kernel_rfl) (fun w3 hb3 hS3 => ?_) _
        have HN := Lib.hid (And.intro (HS.out.1.below hS3) (HS.out.2.trans (grownBy_below hS3)))
        clear hb3 hS3 HS LDH LDM HCM
        go_wp2_with fail
        go_roundg (j - (hh + 1))
        case measure => omega
        case rel => exact ⟨hh + 1, j, by go_num, rfl, by omega, by omega, hjb, Nat.le_refl _, HN, Lib.hid (.inr (by rw [Nat.add_sub_cancel]; exact HI2.out)), HJ⟩
    · obtain rfl : i = j := by omega
      have hltz : ¬ (i : Int) < (i : Int) := by omega
      have HF : Hid ((X.take (i - a) ++ (y :: X.drop (i - a))).Perm (X ++ [y]) ∧ SrtC cmN (X.take (i - a) ++ (y :: X.drop (i - a)))) := Lib.hid (by
        have hma := HMA.out
        have := mrg_in2 (y := y) (Y := [y]) (X1 := X.take (i - a)) (X2 := X.drop (i - a)) rfl (by rw [List.take_append_drop]; exact HXS.out) (take_le HXS.out (by omega) (by
          rcases HI.out with h | h
          · exact .inl (by omega)
          · by_cases e : i = a
            · exact .inl (by omega)
            · rw [HFY.out (i - 1) (by omega) (by omega)] at h
              rw [show i - 1 - a = i - a - 1 by omega] at h
              exact .inr h)) (drop_ge HXS.out (by
          rcases HJ.out with h | h
          · exact .inl (by omega)
          · by_cases e : i = m
            · exact .inl (by omega)
            · rw [HFY.out i hmi (by omega)] at h
              exact .inr h))
        rw [List.take_append_drop] at this
        exact this)
      have HS1 : Hid (NRow B D g n cap (P ++ (X.take (m - a) ++ (y :: (X.drop (m - a) ++ S)))) wr ∧ w.grownBy wr (some g)) := Lib.hid (by rw [HD0.out]; exact HS.out)
      have hlX : m - a = X.length := by have := HMA.out; omega
      have HLX := Lib.hid hlX
      clear HS HI HJ HFX HFY HD0 hij hg hlX
      go_wp2_with fail
      go_loopg [17] m (fun gg s17 wr => ∃ k : Nat, i ≤ k ∧ k ≤ m ∧ k ≤ gg ∧ s17 = .int .i64 k ∧ Hid (NRow B D g n cap (P ++ (X.take (k - a) ++ (y :: (X.drop (k - a) ++ S)))) wr ∧ w.grownBy wr (some g)))
      case atStart => exact ⟨m, hjb, Nat.le_refl _, Nat.le_refl _, rfl, HS1⟩
      case round =>
        obtain ⟨k, hik, hkm, hg, rfl, HS⟩ := hrel
        clear HS1
        by_cases hlt2 : i < k
        · have hlz : (i : Int) < (k : Int) := by omega
          have hlz2 : decide (i < k) = true := decide_eq_true hlt2
          obtain ⟨q, hq⟩ : ∃ q, k = q + 1 := ⟨k - 1, by omega⟩
          have hi : k < n := by omega
          have hj : q < n := by omega
          obtain ⟨cI, cJ, lj, li, s1, s2, hgr, hrow⟩ := HS.out.1.swap hi hj
          have hdn := HDN.out (q - a) (by rw [← HLX.out]; omega)
          rw [show a + (q - a) = q by omega, show q - a + 1 = k - a by omega, ← hq] at hdn
          rw [hdn] at hrow
          have HN := Lib.hid (And.intro hrow (HS.out.2.trans hgr))
          have HLJ := Lib.hid lj
          have HLI := Lib.hid li
          have HS1 := Lib.hid s1
          have HS2 := Lib.hid s2
          have HIJ : Hid (IntKind.i64.wrap ((k : Int) - 1) = (q : Int)) := Lib.hid (wr_ (by omega) (by omega))
          have HQ := Lib.hid hq
          clear lj li s1 s2 hgr hrow hdn HS hq
          go_upto_region 23 with fail
          refine reg_m2 g n cap k q cI cJ hi hj _ HIJ.out HLJ.out HLI.out HS1.out HS2.out _ (fun _ _ _ _ _ h => h) _ _ _ _ _ _ _ _ _ _ _ _ _ _ _ _ _ _ _ _ _ _ _ _ _ _ _ _ _ _ _ _ _ _ _ _ _ _ _ _ _ _ _ _ _ _ _ _ _ _ _ _ _ _ _ _ _ _ _ _ _ _ _ _ _ _ _ _ _ _ _ _ _ _ _ _ _ _ _ _ _ _ _ _ _ _ _ _ _ _ _ _ _ _ _ _ _ _ _ _ _ _ _ _ _ _ _ _ _ _ _ _ _ _ _ _ _ _ _ _ _ _ _ _ _ _ _ _ _ _ _ _ _ _ _ _ _ _ _ _ _ _ _ _ _ _ _ _ _ _ _ _ _ _ _ _ _ _ _ _ _ _ _ _ _ _ _ _ _ _ _ _ _ _ _ _ _ _ _ _ _ _ _ _ _ _ _ _ _ _ _ _ _ _ _ _ _ _ _ _ _ _ _ _ _ _ _ _ _ _ _ _ _ _ _ _ _ _ ?_
          have hij2 := HIJ.out
          go_wp2_with fail
          go_roundg q
          case measure => have := HQ.out; omega
          case rel => exact ⟨q, by have := HQ.out; omega, by have := HQ.out; omega, Nat.le_refl _, rfl, HN⟩
        · obtain rfl : k = i := by omega
          have hlz : ¬ (k : Int) < (k : Int) := by omega
          go_wp2_with fail
          (try simp only [Exit.inBlock, Exit.then]); refine bodyPost_ret (results_none rfl _ _ _) rfl ?_
          refine ⟨rfl, _, ⟨X.take (k - a) ++ (y :: X.drop (k - a)), ?_, HF.out.1, HF.out.2⟩, HS.out.1, HS.out.2⟩
          simp
/-- what the merge says of itself, up to a bound -/
def SymC (B D g n cap bound : Nat) : Prop := ∀ (P X Y S : List NodeV) (a m b : Nat) (w : World), a = P.length → m = a + X.length → b = m + Y.length → X.length + Y.length ≤ bound → X ≠ [] → Y ≠ [] → SrtC cmN X → SrtC cmN Y → NRow B D g n cap (P ++ (X ++ (Y ++ S))) w → (∀ W, w.grownBy W (some g) → ML W) →
    Calls Tryd.prog 71 #[(.slice (some ⟨g, 0, none⟩) n cap), .int .i64 a, .int .i64 m, .int .i64 b, (.func (.func 29) #[] #[])] w fun e w' => e = .returned (.tuple #[]) ∧ ∃ d', Mrg cmN P X Y S d' ∧ NRow B D g n cap d' w' ∧ w.grownBy w' (some g)
/-- a row of nodes, in parts, one of which is what the first merge left -/
def Stg2 (B D g n cap : Nat) (P X1 Y1 R : List NodeV) (W : World) : Prop := ∃ Z1 : List NodeV, Z1.Perm (X1 ++ Y1) ∧ SrtC cmN Z1 ∧ NRow B D g n cap (P ++ (Z1 ++ R)) W
def Stg3 (B D g n cap : Nat) (P X Y S : List NodeV) (W : World) : Prop := ∃ d', Mrg cmN P X Y S d' ∧ NRow B D g n cap d' W
theorem sym_stages (B D g n cap bound : Nat) (hn : n ≤ 1000) (ih : SymC B D g n cap bound) (P X Y S : List NodeV) (a m b mid s en : Nat) (ha : a = P.length) (hm : m = a + X.length) (hb : b = m + Y.length) (hk : b - a ≤ bound + 1) (hX : SrtC cmN X) (hY : SrtC cmN Y)
    (h1 : a ≤ s) (h2 : s ≤ m) (h3 : m ≤ en) (h4 : en ≤ b) (h5 : s + en = mid + m) (h6 : a < mid) (h7 : mid < b) (hc1 : s = a ∨ en = b ∨ cmN (nD X (s - a - 1)) (nD Y (en - m)) ≤ 0) (hc2 : en = m ∨ s = m ∨ cmN (nD Y (en - m - 1)) (nD X (s - a)) ≤ 0)
    (w wr : World) (hrow : NRow B D g n cap (P ++ (X ++ (Y ++ S))) wr) (hg : w.grownBy wr (some g)) (hml : ∀ W, w.grownBy W (some g) → ML W) :
    ∃ X1 Y1 R : List NodeV, (s < m → m < en → Calls Tryd.prog 87 #[(.slice (some ⟨g, 0, none⟩) n cap), .int .i64 s, .int .i64 m, .int .i64 en, (.func (.func 29) #[] #[])] wr fun e w' => e = .returned (.tuple #[]) ∧ NRow B D g n cap (P ++ (X1 ++ (Y1 ++ R))) w' ∧ w.grownBy w' (some g)) ∧
      (¬ (s < m ∧ m < en) → NRow B D g n cap (P ++ (X1 ++ (Y1 ++ R))) wr ∧ w.grownBy wr (some g)) ∧
      (∀ W, (NRow B D g n cap (P ++ (X1 ++ (Y1 ++ R))) W ∧ w.grownBy W (some g)) → a < s → s < mid → Calls Tryd.prog 71 #[(.slice (some ⟨g, 0, none⟩) n cap), .int .i64 a, .int .i64 s, .int .i64 mid, (.func (.func 29) #[] #[])] W fun e w' => e = .returned (.tuple #[]) ∧ Stg2 B D g n cap P X1 Y1 R w' ∧ w.grownBy w' (some g)) ∧
      (∀ W, (NRow B D g n cap (P ++ (X1 ++ (Y1 ++ R))) W ∧ w.grownBy W (some g)) → ¬ (a < s ∧ s < mid) → Stg2 B D g n cap P X1 Y1 R W ∧ w.grownBy W (some g)) ∧
      (∀ W, (Stg2 B D g n cap P X1 Y1 R W ∧ w.grownBy W (some g)) → mid < en → en < b → Calls Tryd.prog 71 #[(.slice (some ⟨g, 0, none⟩) n cap), .int .i64 mid, .int .i64 en, .int .i64 b, (.func (.func 29) #[] #[])] W fun e w' => e = .returned (.tuple #[]) ∧ Stg3 B D g n cap P X Y S w' ∧ w.grownBy w' (some g)) ∧
      (∀ W, (Stg2 B D g n cap P X1 Y1 R W ∧ w.grownBy W (some g)) → ¬ (mid < en ∧ en < b) → Stg3 B D g n cap P X Y S W ∧ w.grownBy W (some g)) := by
  have eX : X = X.take (s - a) ++ X.drop (s - a) := (List.take_append_drop _ _).symm
  have eY : Y = Y.take (en - m) ++ Y.drop (en - m) := (List.take_append_drop _ _).symm
  have x1 : ∀ x ∈ X.take (s - a), ∀ y ∈ Y.drop (en - m), cmN x y ≤ 0 := cross_le hX hY (by omega) (by
    rcases hc1 with h | h | h
    · exact .inl (by omega)
    · exact .inr (.inl (by omega))
    · exact .inr (.inr h))
  have x2 : ∀ y ∈ Y.take (en - m), ∀ x ∈ X.drop (s - a), cmN y x ≤ 0 := cross_le hY hX (by omega) (by
    rcases hc2 with h | h | h
    · exact .inl (by omega)
    · exact .inr (.inl (by omega))
    · exact .inr (.inr h))
  have l1 : (X.take (s - a)).length = s - a := by rw [List.length_take]; omega
  have l2 : (X.drop (s - a)).length = m - s := by rw [List.length_drop]; omega
  have l3 : (Y.take (en - m)).length = en - m := by rw [List.length_take]; omega
  have l4 : (Y.drop (en - m)).length = b - en := by rw [List.length_drop]; omega
  generalize X.take (s - a) = X1 at *
  generalize X.drop (s - a) = X2 at *
  generalize Y.take (en - m) = Y1 at *
  generalize Y.drop (en - m) = Y2 at *
  subst eX eY
  have sX : SrtC cmN X1 ∧ SrtC cmN X2 := ⟨(List.pairwise_append.1 hX).1, (List.pairwise_append.1 hX).2.1⟩
  have sY : SrtC cmN Y1 ∧ SrtC cmN Y2 := ⟨(List.pairwise_append.1 hY).1, (List.pairwise_append.1 hY).2.1⟩
  have hrow2 : NRow B D g n cap ((P ++ X1) ++ (X2 ++ (Y1 ++ (Y2 ++ S)))) wr := by simpa using hrow
  have nz : ∀ {l : List NodeV} {k : Nat}, l.length = k → 0 < k → l ≠ [] := fun h1 h2 e => by rw [e] at h1; simp at h1; omega
  have zn : ∀ {l : List NodeV}, l.length = 0 → l = [] := fun h => List.eq_nil_of_length_eq_zero h
  refine ⟨X1, Y1, X2 ++ (Y2 ++ S), fun g1 g2 => ?_, fun g1 => ?_, fun W hW g1 g2 => ?_, fun W hW g1 => ?_, fun W hW g1 g2 => ?_, fun W hW g1 => ?_⟩
  · refine (Rot_any B D g n cap hn _ (P ++ X1) X2 Y1 (Y2 ++ S) s m en (by rw [List.length_append]; omega) (by omega) (by omega) (nz l2 (by omega)) (nz l3 (by omega)) wr hrow2).mono fun e w' ⟨e1, e2, e3⟩ => ⟨e1, ?_, hg.trans e3⟩
    simpa using e2
  · refine ⟨?_, hg⟩
    rcases Nat.lt_or_ge s m with g2 | g2
    · obtain rfl := zn (l := Y1) (by omega)
      simpa using hrow
    · obtain rfl := zn (l := X2) (by omega)
      simpa using hrow
  · refine (ih P X1 Y1 (X2 ++ (Y2 ++ S)) a s mid W ha (by omega) (by omega) (by omega) (nz l1 (by omega)) (nz l3 (by omega)) sX.1 sY.1 hW.1 (ml_row hml hW.2)).mono fun e w' ⟨e1, d', e2, e3, e4⟩ => ⟨e1, ?_, hW.2.trans e4⟩
    obtain ⟨Z, rfl, z1, z2⟩ := e2
    exact ⟨Z, z1, z2, e3⟩
  · refine ⟨?_, hW.2⟩
    rcases Nat.lt_or_ge a s with g2 | g2
    · obtain rfl := zn (l := Y1) (by omega)
      exact ⟨X1, by simp, sX.1, by simpa using hW.1⟩
    · obtain rfl := zn (l := X1) (by omega)
      exact ⟨Y1, by simp, sY.1, by simpa using hW.1⟩
  · obtain ⟨⟨Z1, z1, z2, z3⟩, hW2⟩ := hW
    have lz := z1.length_eq
    rw [List.length_append] at lz
    refine (ih (P ++ Z1) X2 Y2 S mid en b W (by rw [List.length_append]; omega) (by omega) (by omega) (by omega) (nz l2 (by omega)) (nz l4 (by omega)) sX.2 sY.2 (by simpa using z3) (ml_row hml hW2)).mono fun e w' ⟨e1, d', e2, e3, e4⟩ => ⟨e1, ⟨d', ?_, e3⟩, hW2.trans e4⟩
    exact Mrg.parts ord_cm hX hY x1 x2 (d1 := P ++ (Z1 ++ (X2 ++ (Y2 ++ S)))) ⟨Z1, rfl, z1, z2⟩ (fun Z1' e => by
      have := List.append_cancel_left e
      have := List.append_cancel_right this
      subst this
      exact e2)
  · obtain ⟨⟨Z1, z1, z2, z3⟩, hW2⟩ := hW
    refine ⟨⟨_, ?_, z3⟩, hW2⟩
    refine Mrg.parts ord_cm hX hY x1 x2 (d1 := P ++ (Z1 ++ (X2 ++ (Y2 ++ S)))) ⟨Z1, rfl, z1, z2⟩ (fun Z1' e => ?_)
    have := List.append_cancel_left e
    have := List.append_cancel_right this
    subst this
    rcases Nat.lt_or_ge mid en with g2 | g2
    · obtain rfl := zn (l := Y2) (by omega)
      have := Mrg.none_right (P := P ++ Z1) (S := S) sX.2
      simpa using this
    · obtain rfl := zn (l := X2) (by omega)
      have := Mrg.none_left (P := P ++ Z1) (S := S) sY.2
      simpa using this
set_option maxRecDepth 1000000 in
set_option maxHeartbeats 8000000 in
theorem SymM_gt (B D g n cap bound : Nat) (hn : n ≤ 1000) (ih : SymC B D g n cap bound) (P X Y S : List NodeV) (a m b mid : Nat) (ha : a = P.length) (hma : m = a + X.length) (hb : b = m + Y.length) (hk : b - a ≤ bound + 1) (hX2 : 2 ≤ X.length) (hY2 : 2 ≤ Y.length) (hmid : mid = (a + b) / 2) (hgt : mid < m)
    (hX : SrtC cmN X) (hY : SrtC cmN Y) (w : World) (h : NRow B D g n cap (P ++ (X ++ (Y ++ S))) w) (hm : ∀ W, w.grownBy W (some g) → ML W) :
    Calls Tryd.prog 71 #[(.slice (some ⟨g, 0, none⟩) n cap), .int .i64 a, .int .i64 m, .int .i64 b, (.func (.func 29) #[] #[])] w fun e w' => e = .returned (.tuple #[]) ∧ ∃ d', Mrg cmN P X Y S d' ∧ NRow B D g n cap d' w' ∧ w.grownBy w' (some g) := by
  have hl := h.len3
  have hbn : b ≤ n := by omega
  obtain ⟨nn, hnn⟩ : ∃ nn, nn = mid + m := ⟨_, rfl⟩
  obtain ⟨pp, hpp⟩ : ∃ pp, pp = nn - 1 := ⟨_, rfl⟩
  obtain ⟨s0, hs0⟩ : ∃ s0, s0 = nn - b := ⟨_, rfl⟩
  have hnum : a ≤ s0 ∧ s0 ≤ mid ∧ mid ≤ m ∧ nn ≤ s0 + b ∧ m + mid ≤ nn ∧ a < mid ∧ mid < b ∧ 1 ≤ nn := by omega
  have HST := Lib.hid (fun (s en : Nat) (h1 : s0 ≤ s) (h2 : s ≤ mid) (h5 : s + en = nn) (hI : s = s0 ∨ cmN (nD (P ++ (X ++ (Y ++ S))) (s - 1)) (nD (P ++ (X ++ (Y ++ S))) (pp - (s - 1))) ≤ 0) (hJ : s = mid ∨ cmN (nD (P ++ (X ++ (Y ++ S))) (pp - s)) (nD (P ++ (X ++ (Y ++ S))) s) ≤ 0) wr (hrow : NRow B D g n cap (P ++ (X ++ (Y ++ S))) wr) (hg : w.grownBy wr (some g)) =>
    sym_stages B D g n cap bound hn ih P X Y S a m b mid s en ha hma hb hk hX hY (by omega) (by omega) (by omega) (by omega) (by omega) (by omega) (by omega) (by
      rcases hI with h | h
      · exact .inr (.inl (by omega))
      · by_cases e : s = s0
        · exact .inr (.inl (by omega))
        · rw [nD_x ha hma (by omega) (by omega), nD_y ha hma hb (by omega) (by omega), show s - 1 - a = s - a - 1 by omega, show pp - (s - 1) - m = en - m by omega] at h
          exact .inr (.inr h)) (by
      rcases hJ with h | h
      · exact .inl (by omega)
      · by_cases e : s = mid
        · exact .inl (by omega)
        · rw [nD_x (c := s) ha hma (by omega) (by omega), nD_y ha hma hb (by omega) (by omega), show pp - s - m = en - m - 1 by omega] at h
          exact .inr (.inr h)) w wr hrow hg hm)
  have HHM := Lib.hid hm
  have H0 : Hid (NRow B D g n cap (P ++ (X ++ (Y ++ S))) w ∧ w.grownBy w (some g)) := Lib.hid ⟨h, World.grownBy.refl _ _⟩
  obtain ⟨d, hd⟩ : ∃ d, d = P ++ (X ++ (Y ++ S)) := ⟨_, rfl⟩
  rw [← hd] at HST H0
  obtain ⟨lx, hlx⟩ : ∃ lx, lx = X.length := ⟨_, rfl⟩
  obtain ⟨ly, hly⟩ : ∃ ly, ly = Y.length := ⟨_, rfl⟩
  have c1 : IntKind.i64.wrap ((m : Int) - (a : Int)) = (lx : Int) := wr_ (by omega) (by omega)
  have c2 : ((lx : Int) == 1) = false := by rw [beq_eq_false_iff_ne]; omega
  have c3 : IntKind.i64.wrap ((b : Int) - (m : Int)) = (ly : Int) := wr_ (by omega) (by omega)
  have c4 : ((ly : Int) == 1) = false := by rw [beq_eq_false_iff_ne]; omega
  have c5 : ((a : Int) + (b : Int)) / 2 = (mid : Int) := by omega
  have c6 : IntKind.i64.wrap ((mid : Int) + (m : Int)) = (nn : Int) := wr_ (by omega) (by omega)
  have c7 : ((mid : Int) < (m : Int)) := by omega
  have c8 : decide (mid < m) = true := by exact decide_eq_true hgt
  have c9 : IntKind.i64.wrap ((nn : Int) - (b : Int)) = (s0 : Int) := wr_ (by omega) (by omega)
  have c10 : IntKind.i64.wrap ((nn : Int) - 1) = (pp : Int) := wr_ (by omega) (by omega)
  have eg := eg_lessA
  have HPP := Lib.hid hpp
  have HNN := Lib.hid hnn
  have hmn : m ≤ n := by omega
  have hab : a < m ∧ m < b := by omega
  have HCI : Hid (∀ c, s0 ≤ c → c < mid → pp - c < n ∧ c < n ∧ pp = (pp - c) + c) := Lib.hid (fun c h1 h2 => by omega)
  have HND : Hid (nn ≤ 100000) := Lib.hid (by omega)
  clear ha hma hb hl hX hY hm h hd hlx hly hX2 hY2 hmid hgt hk hpp hnn ih hs0
  go_enter Tryd.func71, Tryd.ntmps71
  go_wp2_with fail
  clear c1 c2 c3 c4 c5 c6 c7 c8 c10 c9
  go_loopg [20, 21, 23] b (fun gg s20 s21 s23 wr => ∃ s r : Nat, s20 = .int .i64 s ∧ s21 = .int .i64 r ∧ s0 ≤ s ∧ s ≤ r ∧ r ≤ mid ∧ r - s ≤ gg ∧ Hid (NRow B D g n cap d wr ∧ w.grownBy wr (some g)) ∧ Hid (s = s0 ∨ cmN (nD d (s - 1)) (nD d (pp - (s - 1))) ≤ 0) ∧ Hid (r = mid ∨ cmN (nD d (pp - r)) (nD d r) ≤ 0))
  case atStart => exact ⟨s0, mid, rfl, rfl, Nat.le_refl _, by omega, Nat.le_refl _, by omega, H0, Lib.hid (.inl rfl), Lib.hid (.inl rfl)⟩
  case round =>
    obtain ⟨i, j, rfl, rfl, hmi, hij, hjb, hg, HS, HI, HJ⟩ := hrel
    clear H0
    by_cases hlt : i < j
    · have hltz : (i : Int) < (j : Int) := by omega
      obtain ⟨hh, hhd⟩ : ∃ hh, hh = (i + j) / 2 := ⟨_, rfl⟩
      have hhz : ((i : Int) + (j : Int)) / 2 = (hh : Int) := by omega
      have hh1 : i ≤ hh := by omega
      have hh2 : hh < j := by omega
      obtain ⟨hqn, hhn, hpe⟩ := HCI.out hh (by omega) (by omega)
      obtain ⟨q, hqd⟩ : ∃ q, q = pp - hh := ⟨_, rfl⟩
      rw [← hqd] at hqn hpe
      have hnd := HND.out
      have hpq := HPP.out
      have c11 : IntKind.i64.wrap ((pp : Int) - (hh : Int)) = (q : Int) := wr_ (by omega) (by omega)
      clear hpe hnd hpq
      have k1 : (hh : Int) < (n : Int) := by omega
      have k2 : (q : Int) < (n : Int) := by omega
      have k3 : (0 : Int) ≤ (hh : Int) := by omega
      have k4 : (0 : Int) ≤ (q : Int) := by omega
      have LDH := Lib.hid (fun W (hb : Below wr.heap.size wr W) => (HS.out.1.below hb).loadD hhn)
      have LDQ := Lib.hid (fun W (hb : Below wr.heap.size wr W) => (HS.out.1.below hb).loadD hqn)
      have HCM := Lib.hid (fun W (hb : Below wr.heap.size wr W) => HS.out.1.cmp (ml_row HHM.out HS.out.2) hqn hhn W hb)
      have HXN : Hid (¬ cmN (nD d q) (nD d hh) < 0 → cmN (nD d hh) (nD d (pp - hh)) ≤ 0) := Lib.hid (fun h => by rw [← hqd]; exact ord_cm.flip h)
      have HXP : Hid (cmN (nD d q) (nD d hh) < 0 → cmN (nD d (pp - hh)) (nD d hh) ≤ 0) := Lib.hid (fun h => by rw [← hqd]; omega)
      clear hhd hqd
      obtain ⟨cv, hcv⟩ : ∃ cv, cv = cmN (nD d q) (nD d hh) := ⟨_, rfl⟩
      rw [← hcv] at HCM HXN HXP
      clear hcv
      generalize (nodeC (nD d hh)).toArray = cH at *
      generalize (nodeC (nD d q)).toArray = cA at *
      clear HST
      by_cases hq : cv < 0
      · have q1 : decide (cv < 0) = true := decide_eq_true hq
        have HX2 := Lib.hid (HXP.out hq)
        clear HXN HXP HJ
        go_upto_region 35 with fail
        clear hhz
        refine wp_region_G (S := fun W => Below wr.heap.size wr W) (by kernel_rfl) (Below.refl _ _).drew ?_
        refine wpG_take (i := 0) (v := ?vgtp0) rfl (by kernel_rfl) (by kernel_rfl) (by kernel_rfl) (fun _ _ _ h => h) (Or.inl ⟨by rfl, ?hygtp0⟩) ?restgtp0
        case hygtp0 => (intro W hSw; left; (try dsimp only at hSw); go_simp; try with_reducible rfl)
        simp only [Act.put, List.setIfInBounds_toArray, List.set_cons_zero, List.set_cons_succ, List.getElem_toArray, List.getElem_cons_zero, List.getElem_cons_succ]
        refine wpG_take (i := 1) (v := ?vgtp1) rfl (by kernel_rfl) (by kernel_rfl) (by kernel_rfl) (fun _ _ _ h => h) (Or.inl ⟨by rfl, ?hygtp1⟩) ?restgtp1
        case hygtp1 => (intro W hSw; left; (try dsimp only at hSw); go_simp; try with_reducible rfl)
        simp only [Act.put, List.setIfInBounds_toArray, List.set_cons_zero, List.set_cons_succ, List.getElem_toArray, List.getElem_cons_zero, List.getElem_cons_succ]
        refine wpG_take (i := 2) (v := ?vgtp2) rfl (by kernel_rfl) (by kernel_rfl) (by kernel_rfl) (fun _ _ _ h => h) (Or.inl ⟨by rfl, ?hygtp2⟩) ?restgtp2
        case hygtp2 => (intro W hSw; left; (try dsimp only at hSw); go_simp; try with_reducible rfl)
        simp only [Act.put, List.setIfInBounds_toArray, List.set_cons_zero, List.set_cons_succ, List.getElem_toArray, List.getElem_cons_zero, List.getElem_cons_succ]
        refine wpG_take (i := 3) (v := ?vgtp3) rfl (by kernel_rfl) (by kernel_rfl) (by kernel_rfl) (fun _ _ _ h => h) (Or.inl ⟨by rfl, ?hygtp3⟩) ?restgtp3
        case hygtp3 => (intro W hSw; left; (try dsimp only at hSw); go_simp; try with_reducible rfl)
        simp only [Act.put, List.setIfInBounds_toArray, List.set_cons_zero, List.set_cons_succ, List.getElem_toArray, List.getElem_cons_zero, List.getElem_cons_succ]
        refine wpG_take (i := 4) (v := ?vgtp4) rfl (by kernel_rfl) (by kernel_rfl) (by kernel_rfl) (fun _ _ _ h => h) (Or.inl ⟨by rfl, ?hygtp4⟩) ?restgtp4
        case hygtp4 => (intro W hSw; left; (try dsimp only at hSw); go_simp; try with_reducible rfl)
        simp only [Act.put, List.setIfInBounds_toArray, List.set_cons_zero, List.set_cons_succ, List.getElem_toArray, List.getElem_cons_zero, List.getElem_cons_succ]
        refine wpG_take (i := 5) (v := ?vgtp5) rfl (by kernel_rfl) (by kernel_rfl) (by kernel_rfl) (fun _ _ _ h => h) (Or.inl ⟨by rfl, ?hygtp5⟩) ?restgtp5
        case hygtp5 => (intro W hSw; left; (try dsimp only at hSw); go_simp; try with_reducible rfl)
        simp only [Act.put, List.setIfInBounds_toArray, List.set_cons_zero, List.set_cons_succ, List.getElem_toArray, List.getElem_cons_zero, List.getElem_cons_succ]
        refine wpG_take (i := 6) (v := (.agg cA)) rfl (by kernel_rfl) (by kernel_rfl) (by kernel_rfl) (fun _ _ _ h => h) (Or.inl ⟨by rfl, ?hygtp6⟩) ?restgtp6
        case hygtp6 => (intro W hSw; left; exact run_load _ _ rfl rfl (LDQ.out W hSw))
        simp only [Act.put, List.setIfInBounds_toArray, List.set_cons_zero, List.set_cons_succ, List.getElem_toArray, List.getElem_cons_zero, List.getElem_cons_succ]
        refine wpG_take (i := 7) (v := ?vgtp7) rfl (by kernel_rfl) (by kernel_rfl) (by kernel_rfl) (fun _ _ _ h => h) (Or.inl ⟨by rfl, ?hygtp7⟩) ?restgtp7
        case hygtp7 => (intro W hSw; left; (try dsimp only at hSw); go_simp; try with_reducible rfl)
        simp only [Act.put, List.setIfInBounds_toArray, List.set_cons_zero, List.set_cons_succ, List.getElem_toArray, List.getElem_cons_zero, List.getElem_cons_succ]
        refine wpG_take (i := 8) (v := ?vgtp8) rfl (by kernel_rfl) (by kernel_rfl) (by kernel_rfl) (fun _ _ _ h => h) (Or.inl ⟨by rfl, ?hygtp8⟩) ?restgtp8
        case hygtp8 => (intro W hSw; left; (try dsimp only at hSw); go_simp; try with_reducible rfl)
        simp only [Act.put, List.setIfInBounds_toArray, List.set_cons_zero, List.set_cons_succ, List.getElem_toArray, List.getElem_cons_zero, List.getElem_cons_succ]
        refine wpG_take (i := 9) (v := ?vgtp9) rfl (by kernel_rfl) (by kernel_rfl) (by kernel_rfl) (fun _ _ _ h => h) (Or.inl ⟨by rfl, ?hygtp9⟩) ?restgtp9
        case hygtp9 => (intro W hSw; left; (try dsimp only at hSw); go_simp; try with_reducible rfl)
        simp only [Act.put, List.setIfInBounds_toArray, List.set_cons_zero, List.set_cons_succ, List.getElem_toArray, List.getElem_cons_zero, List.getElem_cons_succ]
        refine wpG_take (i := 10) (v := (.agg cH)) rfl (by kernel_rfl) (by kernel_rfl) (by kernel_rfl) (fun _ _ _ h => h) (Or.inl ⟨by rfl, ?hygtp10⟩) ?restgtp10
        case hygtp10 => (intro W hSw; left; exact run_load _ _ rfl rfl (LDH.out W hSw))
        simp only [Act.put, List.setIfInBounds_toArray, List.set_cons_zero, List.set_cons_succ, List.getElem_toArray, List.getElem_cons_zero, List.getElem_cons_succ]
        refine wpG_take (i := 11) (v := (.int .i64 cv)) rfl (by kernel_rfl) (by kernel_rfl) (by kernel_rfl) (fun _ _ _ h => h) (Or.inl ⟨by rfl, ?hygtp11⟩) ?restgtp11
        case hygtp11 => (intro W hSw; right; (try dsimp only at hSw); refine ⟨_, _, (by go_simp; try with_reducible rfl), (HCM.out W hSw).mono ?_⟩; rintro e w' ⟨rfl, hb⟩; exact ⟨rfl, hSw.trans (hb.mono hSw.size), hb⟩)
        simp only [Act.put, List.setIfInBounds_toArray, List.set_cons_zero, List.set_cons_succ, List.getElem_toArray, List.getElem_cons_zero, List.getElem_cons_succ]
        refine wpG_take (i := 12) (v := (.bool true)) rfl (by kernel_rfl) (by kernel_rfl) (by kernel_rfl) (fun _ _ _ h => h) (Or.inl ⟨by rfl, ?hygtp12⟩) ?restgtp12
        case hygtp12 => (intro W hSw; left; (try dsimp only at hSw); go_simp; try with_reducible rfl)
        simp only [Act.put, List.setIfInBounds_toArray, List.set_cons_zero, List.set_cons_succ, List.getElem_toArray, List.getElem_cons_zero, List.getElem_cons_succ]
        refine wpG_take (i := 13) (v := (.bool false)) rfl (by kernel_rfl) (by kernel_rfl) (by kernel_rfl) (fun _ _ _ h => h) (Or.inl ⟨by rfl, ?hygtp13⟩) ?restgtp13
        case hygtp13 => (intro W hSw; left; (try dsimp only at hSw); go_simp; try with_reducible rfl)
        simp only [Act.put, List.setIfInBounds_toArray, List.set_cons_zero, List.set_cons_succ, List.getElem_toArray, List.getElem_cons_zero, List.getElem_cons_succ]
        refine wpG_done (by kernel_rfl) (fun w3 hb3 hS3 => ?_) _
        have HN := Lib.hid (And.intro (HS.out.1.below hS3) (HS.out.2.trans (grownBy_below hS3)))
        clear hb3 hS3 HS LDH LDQ HCM c11
        go_wp2_with fail
        go_roundg (hh - i)
        case measure => omega
        case rel => exact ⟨i, hh, rfl, rfl, hmi, hh1, by omega, Nat.le_refl _, HN, HI, Lib.hid (.inr HX2.out)⟩
      
      · have q1 : decide (cv < 0) = false := decide_eq_false hq
        have HX2 := Lib.hid (HXN.out hq)
        clear HXN HXP HI
        go_upto_region 35 with fail
        clear hhz
        refine wp_region_G (S := fun W => Below wr.heap.size wr W) (by kernel_rfl) (Below.refl _ _).drew ?_
        refine wpG_take (i := 0) (v := ?vgtn0) rfl (by kernel_rfl) (by kernel_rfl) (by kernel_rfl) (fun _ _ _ h => h) (Or.inl ⟨by rfl, ?hygtn0⟩) ?restgtn0
        case hygtn0 => (intro W hSw; left; (try dsimp only at hSw); go_simp; try with_reducible rfl)
        simp only [Act.put, List.setIfInBounds_toArray, List.set_cons_zero, List.set_cons_succ, List.getElem_toArray, List.getElem_cons_zero, List.getElem_cons_succ]
        refine wpG_take (i := 1) (v := ?vgtn1) rfl (by kernel_rfl) (by kernel_rfl) (by kernel_rfl) (fun _ _ _ h => h) (Or.inl ⟨by rfl, ?hygtn1⟩) ?restgtn1
        case hygtn1 => (intro W hSw; left; (try dsimp only at hSw); go_simp; try with_reducible rfl)
        simp only [Act.put, List.setIfInBounds_toArray, List.set_cons_zero, List.set_cons_succ, List.getElem_toArray, List.getElem_cons_zero, List.getElem_cons_succ]
        refine wpG_take (i := 2) (v := ?vgtn2) rfl (by kernel_rfl) (by kernel_rfl) (by kernel_rfl) (fun _ _ _ h => h) (Or.inl ⟨by rfl, ?hygtn2⟩) ?restgtn2
        case hygtn2 => (intro W hSw; left; (try dsimp only at hSw); go_simp; try with_reducible rfl)
        simp only [Act.put, List.setIfInBounds_toArray, List.set_cons_zero, List.set_cons_succ, List.getElem_toArray, List.getElem_cons_zero, List.getElem_cons_succ]
        refine wpG_take (i := 3) (v := ?vgtn3) rfl (by kernel_rfl) (by kernel_rfl) (by kernel_rfl) (fun _ _ _ h => h) (Or.inl ⟨by rfl, ?hygtn3⟩) ?restgtn3
        case hygtn3 => (intro W hSw; left; (try dsimp only at hSw); go_simp; try with_reducible rfl)
        simp only [Act.put, List.setIfInBounds_toArray, List.set_cons_zero, List.set_cons_succ, List.getElem_toArray, List.getElem_cons_zero, List.getElem_cons_succ]
        refine wpG_take (i := 4) (v := ?vgtn4) rfl (by kernel_rfl) (by kernel_rfl) (by kernel_rfl) (fun _ _ _ h => h) (Or.inl ⟨by rfl, ?hygtn4⟩) ?restgtn4
        case hygtn4 => (intro W hSw; left; (try dsimp only at hSw); go_simp; try with_reducible rfl)
        simp only [Act.put, List.setIfInBounds_toArray, List.set_cons_zero, List.set_cons_succ, List.getElem_toArray, List.getElem_cons_zero, List.getElem_cons_succ]
        refine wpG_take (i := 5) (v := ?vgtn5) rfl (by kernel_rfl) (by kernel_rfl) (by kernel_rfl) (fun _ _ _ h => h) (Or.inl ⟨by rfl, ?hygtn5⟩) ?restgtn5
        case hygtn5 => (intro W hSw; left; (try dsimp only at hSw); go_simp; try with_reducible rfl)
        simp only [Act.put, List.setIfInBounds_toArray, List.set_cons_zero, List.set_cons_succ, List.getElem_toArray, List.getElem_cons_zero, List.getElem_cons_succ]
        refine wpG_take (i := 6) (v := (.agg cA)) rfl (by kernel_rfl) (by kernel_rfl) (by kernel_rfl) (fun _ _ _ h => h) (Or.inl ⟨by rfl, ?hygtn6⟩) ?restgtn6
        case hygtn6 => (intro W hSw; left; exact run_load _ _ rfl rfl (LDQ.out W hSw))
        simp only [Act.put, List.setIfInBounds_toArray, List.set_cons_zero, List.set_cons_succ, List.getElem_toArray, List.getElem_cons_zero, List.getElem_cons_succ]
        refine wpG_take (i := 7) (v := ?vgtn7) rfl (by kernel_rfl) (by kernel_rfl) (by kernel_rfl) (fun _ _ _ h => h) (Or.inl ⟨by rfl, ?hygtn7⟩) ?restgtn7
        case hygtn7 => (intro W hSw; left; (try dsimp only at hSw); go_simp; try with_reducible rfl)
        simp only [Act.put, List.setIfInBounds_toArray, List.set_cons_zero, List.set_cons_succ, List.getElem_toArray, List.getElem_cons_zero, List.getElem_cons_succ]
        refine wpG_take (i := 8) (v := ?vgtn8) rfl (by kernel_rfl) (by kernel_rfl) (by kernel_rfl) (fun _ _ _ h => h) (Or.inl ⟨by rfl, ?hygtn8⟩) ?restgtn8
        case hygtn8 => (intro W hSw; left; (try dsimp only at hSw); go_simp; try with_reducible rfl)
        simp only [Act.put, List.setIfInBounds_toArray, List.set_cons_zero, List.set_cons_succ, List.getElem_toArray, List.getElem_cons_zero, List.getElem_cons_succ]
        refine wpG_take (i := 9) (v := ?vgtn9) rfl (by kernel_rfl) (by kernel_rfl) (by kernel_rfl) (fun _ _ _ h => h) (Or.inl ⟨by rfl, ?hygtn9⟩) ?restgtn9
        case hygtn9 => (intro W hSw; left; (try dsimp only at hSw); go_simp; try with_reducible rfl)
        simp only [Act.put, List.setIfInBounds_toArray, List.set_cons_zero, List.set_cons_succ, List.getElem_toArray, List.getElem_cons_zero, List.getElem_cons_succ]
        refine wpG_take (i := 10) (v := (.agg cH)) rfl (by kernel_rfl) (by kernel_rfl) (by kernel_rfl) (fun _ _ _ h => h) (Or.inl ⟨by rfl, ?hygtn10⟩) ?restgtn10
        case hygtn10 => (intro W hSw; left; exact run_load _ _ rfl rfl (LDH.out W hSw))
        simp only [Act.put, List.setIfInBounds_toArray, List.set_cons_zero, List.set_cons_succ, List.getElem_toArray, List.getElem_cons_zero, List.getElem_cons_succ]
        refine wpG_take (i := 11) (v := (.int .i64 cv)) rfl (by kernel_rfl) (by kernel_rfl) (by kernel_rfl) (fun _ _ _ h => h) (Or.inl ⟨by rfl, ?hygtn11⟩) ?restgtn11
        case hygtn11 => (intro W hSw; right; (try dsimp only at hSw); refine ⟨_, _, (by go_simp; try with_reducible rfl), (HCM.out W hSw).mono ?_⟩; rintro e w' ⟨rfl, hb⟩; exact ⟨rfl, hSw.trans (hb.mono hSw.size), hb⟩)
        simp only [Act.put, List.setIfInBounds_toArray, List.set_cons_zero, List.set_cons_succ, List.getElem_toArray, List.getElem_cons_zero, List.getElem_cons_succ]
        refine wpG_take (i := 12) (v := (.bool false)) rfl (by kernel_rfl) (by kernel_rfl) (by kernel_rfl) (fun _ _ _ h => h) (Or.inl ⟨by rfl, ?hygtn12⟩) ?restgtn12
        case hygtn12 => (intro W hSw; left; (try dsimp only at hSw); go_simp; try with_reducible rfl)
        simp only [Act.put, List.setIfInBounds_toArray, List.set_cons_zero, List.set_cons_succ, List.getElem_toArray, List.getElem_cons_zero, List.getElem_cons_succ]
        refine wpG_take (i := 13) (v := (.bool true)) rfl (by kernel_rfl) (by kernel_rfl) (by kernel_rfl) (fun _ _ _ h => h) (Or.inl ⟨by rfl, ?hygtn13⟩) ?restgtn13
        case hygtn13 => (intro W hSw; left; (try dsimp only at hSw); go_simp; try with_reducible rfl)
        simp only [Act.put, List.setIfInBounds_toArray, List.set_cons_zero, List.set_cons_succ, List.getElem_toArray, List.getElem_cons_zero, List.getElem_cons_succ]
        refine wpG_done (by kernel_rfl) (fun w3 hb3 hS3 => ?_) _
        have HN := Lib.hid (And.intro (HS.out.1.below hS3) (HS.out.2.trans (grownBy_below hS3)))
        clear hb3 hS3 HS LDH LDQ HCM c11
        go_wp2_with fail
        go_roundg (j - (hh + 1))
        case measure => omega
        case rel => exact ⟨hh + 1, j, by go_num, rfl, by omega, by omega, hjb, Nat.le_refl _, HN, Lib.hid (.inr (by rw [Nat.add_sub_cancel]; exact HX2.out)), HJ⟩
    · obtain rfl : i = j := by omega
      have hltz : ¬ (i : Int) < (i : Int) := by omega
      have hnd := HND.out
      have hnn := HNN.out
      obtain ⟨en, hen⟩ : ∃ en, en = nn - i := ⟨_, rfl⟩
      have c12 : IntKind.i64.wrap ((nn : Int) - (i : Int)) = (en : Int) := wr_ (by omega) (by omega)
      obtain ⟨X1, Y1, R, hR, hR0, hM1, hM10, hM2, hM20⟩ := HST.out i en hmi hjb (by omega) HI.out HJ.out _ HS.out.1 HS.out.2
      have HR := Lib.hid hR
      have HR0 := Lib.hid hR0
      have HM1 := Lib.hid hM1
      have HM10 := Lib.hid hM10
      have HM2 := Lib.hid hM2
      have HM20 := Lib.hid hM20
      clear HST HS HI HJ hen hnd hnn hR hR0 hM1 hM10 hM2 hM20 HCI HND HNN HPP hg hij hjb hmi hltz
      by_cases f0 : i < m
      · by_cases e0 : m < en
        · skip
          have z_im : (i : Int) < (m : Int) := by omega
          have d_im : decide (i < m) = true := by exact decide_eq_true (by omega)
          have z_men : (m : Int) < (en : Int) := by omega
          have d_men : decide (m < en) = true := by exact decide_eq_true (by omega)
          go_wp2_with fail
          refine (HR.out f0 e0).mono ?_
          rintro e w1 ⟨rfl, hz⟩
          have HZ1 := Lib.hid hz
          clear hz HR HR0
          by_cases f1 : a < i
          · by_cases e1 : i < mid
            · skip
              have z_ai : (a : Int) < (i : Int) := by omega
              have d_ai : decide (a < i) = true := by exact decide_eq_true (by omega)
              have z_imid : (i : Int) < (mid : Int) := by omega
              have d_imid : decide (i < mid) = true := by exact decide_eq_true (by omega)
              go_wp2_with fail
              refine (HM1.out _ HZ1.out f1 e1).mono ?_
              rintro e w2 ⟨rfl, hz⟩
              have HZ2 := Lib.hid hz
              clear hz HM1 HM10 HZ1
              by_cases f2 : mid < en
              · by_cases e2 : en < b
                · skip
                  have z_miden : (mid : Int) < (en : Int) := by omega
                  have d_miden : decide (mid < en) = true := by exact decide_eq_true (by omega)
                  have z_enb : (en : Int) < (b : Int) := by omega
                  have d_enb : decide (en < b) = true := by exact decide_eq_true (by omega)
                  go_wp2_with fail
                  refine (HM2.out _ HZ2.out f2 e2).mono ?_
                  rintro e w3 ⟨rfl, hz⟩
                  have HZ3 := Lib.hid hz
                  clear hz HM2 HM20 HZ2
                  go_wp2_with fail
                  go_end0
                  exact ⟨rfl, _, HZ3.out.1.choose_spec.1, HZ3.out.1.choose_spec.2, HZ3.out.2⟩
                · have HZ3 := Lib.hid (HM20.out _ HZ2.out (fun h => e2 h.2))
                  have z_miden : (mid : Int) < (en : Int) := by omega
                  have d_miden : decide (mid < en) = true := by exact decide_eq_true (by omega)
                  have z_enb : ¬ (en : Int) < (b : Int) := by omega
                  have d_enb : decide (en < b) = false := by exact decide_eq_false (by omega)
                  clear HM2 HM20 HZ2
                  go_wp2_with fail
                  go_end0
                  exact ⟨rfl, _, HZ3.out.1.choose_spec.1, HZ3.out.1.choose_spec.2, HZ3.out.2⟩
              · have HZ3 := Lib.hid (HM20.out _ HZ2.out (fun h => f2 h.1))
                have z_miden : ¬ (mid : Int) < (en : Int) := by omega
                have d_miden : decide (mid < en) = false := by exact decide_eq_false (by omega)
                clear HM2 HM20 HZ2
                go_wp2_with fail
                go_end0
                exact ⟨rfl, _, HZ3.out.1.choose_spec.1, HZ3.out.1.choose_spec.2, HZ3.out.2⟩
            · have HZ2 := Lib.hid (HM10.out _ HZ1.out (fun h => e1 h.2))
              have z_ai : (a : Int) < (i : Int) := by omega
              have d_ai : decide (a < i) = true := by exact decide_eq_true (by omega)
              have z_imid : ¬ (i : Int) < (mid : Int) := by omega
              have d_imid : decide (i < mid) = false := by exact decide_eq_false (by omega)
              clear HM1 HM10 HZ1
              by_cases f2 : mid < en
              · by_cases e2 : en < b
                · skip
                  have z_miden : (mid : Int) < (en : Int) := by omega
                  have d_miden : decide (mid < en) = true := by exact decide_eq_true (by omega)
                  have z_enb : (en : Int) < (b : Int) := by omega
                  have d_enb : decide (en < b) = true := by exact decide_eq_true (by omega)
                  go_wp2_with fail
                  refine (HM2.out _ HZ2.out f2 e2).mono ?_
                  rintro e w3 ⟨rfl, hz⟩
                  have HZ3 := Lib.hid hz
                  clear hz HM2 HM20 HZ2
                  go_wp2_with fail
                  go_end0
                  exact ⟨rfl, _, HZ3.out.1.choose_spec.1, HZ3.out.1.choose_spec.2, HZ3.out.2⟩
                · have HZ3 := Lib.hid (HM20.out _ HZ2.out (fun h => e2 h.2))
                  have z_miden : (mid : Int) < (en : Int) := by omega
                  have d_miden : decide (mid < en) = true := by exact decide_eq_true (by omega)
                  have z_enb : ¬ (en : Int) < (b : Int) := by omega
                  have d_enb : decide (en < b) = false := by exact decide_eq_false (by omega)
                  clear HM2 HM20 HZ2
                  go_wp2_with fail
                  go_end0
                  exact ⟨rfl, _, HZ3.out.1.choose_spec.1, HZ3.out.1.choose_spec.2, HZ3.out.2⟩
              · have HZ3 := Lib.hid (HM20.out _ HZ2.out (fun h => f2 h.1))
                have z_miden : ¬ (mid : Int) < (en : Int) := by omega
                have d_miden : decide (mid < en) = false := by exact decide_eq_false (by omega)
                clear HM2 HM20 HZ2
                go_wp2_with fail
                go_end0
                exact ⟨rfl, _, HZ3.out.1.choose_spec.1, HZ3.out.1.choose_spec.2, HZ3.out.2⟩
          · have HZ2 := Lib.hid (HM10.out _ HZ1.out (fun h => f1 h.1))
            have z_ai : ¬ (a : Int) < (i : Int) := by omega
            have d_ai : decide (a < i) = false := by exact decide_eq_false (by omega)
            clear HM1 HM10 HZ1
            by_cases f2 : mid < en
            · by_cases e2 : en < b
              · skip
                have z_miden : (mid : Int) < (en : Int) := by omega
                have d_miden : decide (mid < en) = true := by exact decide_eq_true (by omega)
                have z_enb : (en : Int) < (b : Int) := by omega
                have d_enb : decide (en < b) = true := by exact decide_eq_true (by omega)
                go_wp2_with fail
                refine (HM2.out _ HZ2.out f2 e2).mono ?_
                rintro e w3 ⟨rfl, hz⟩
                have HZ3 := Lib.hid hz
                clear hz HM2 HM20 HZ2
                go_wp2_with fail
                go_end0
                exact ⟨rfl, _, HZ3.out.1.choose_spec.1, HZ3.out.1.choose_spec.2, HZ3.out.2⟩
              · have HZ3 := Lib.hid (HM20.out _ HZ2.out (fun h => e2 h.2))
                have z_miden : (mid : Int) < (en : Int) := by omega
                have d_miden : decide (mid < en) = true := by exact decide_eq_true (by omega)
                have z_enb : ¬ (en : Int) < (b : Int) := by omega
                have d_enb : decide (en < b) = false := by exact decide_eq_false (by omega)
                clear HM2 HM20 HZ2
                go_wp2_with fail
                go_end0
                exact ⟨rfl, _, HZ3.out.1.choose_spec.1, HZ3.out.1.choose_spec.2, HZ3.out.2⟩
            · have HZ3 := Lib.hid (HM20.out _ HZ2.out (fun h => f2 h.1))
              have z_miden : ¬ (mid : Int) < (en : Int) := by omega
              have d_miden : decide (mid < en) = false := by exact decide_eq_false (by omega)
              clear HM2 HM20 HZ2
              go_wp2_with fail
              go_end0
              exact ⟨rfl, _, HZ3.out.1.choose_spec.1, HZ3.out.1.choose_spec.2, HZ3.out.2⟩
        · have HZ1 := Lib.hid (HR0.out (fun h => e0 h.2))
          have z_im : (i : Int) < (m : Int) := by omega
          have d_im : decide (i < m) = true := by exact decide_eq_true (by omega)
          have z_men : ¬ (m : Int) < (en : Int) := by omega
          have d_men : decide (m < en) = false := by exact decide_eq_false (by omega)
          clear HR HR0
          by_cases f1 : a < i
          · by_cases e1 : i < mid
            · skip
              have z_ai : (a : Int) < (i : Int) := by omega
              have d_ai : decide (a < i) = true := by exact decide_eq_true (by omega)
              have z_imid : (i : Int) < (mid : Int) := by omega
              have d_imid : decide (i < mid) = true := by exact decide_eq_true (by omega)
              go_wp2_with fail
              refine (HM1.out _ HZ1.out f1 e1).mono ?_
              rintro e w2 ⟨rfl, hz⟩
              have HZ2 := Lib.hid hz
              clear hz HM1 HM10 HZ1
              by_cases f2 : mid < en
              · by_cases e2 : en < b
                · skip
                  have z_miden : (mid : Int) < (en : Int) := by omega
                  have d_miden : decide (mid < en) = true := by exact decide_eq_true (by omega)
                  have z_enb : (en : Int) < (b : Int) := by omega
                  have d_enb : decide (en < b) = true := by exact decide_eq_true (by omega)
                  go_wp2_with fail
                  refine (HM2.out _ HZ2.out f2 e2).mono ?_
                  rintro e w3 ⟨rfl, hz⟩
                  have HZ3 := Lib.hid hz
                  clear hz HM2 HM20 HZ2
                  go_wp2_with fail
                  go_end0
                  exact ⟨rfl, _, HZ3.out.1.choose_spec.1, HZ3.out.1.choose_spec.2, HZ3.out.2⟩
                · have HZ3 := Lib.hid (HM20.out _ HZ2.out (fun h => e2 h.2))
                  have z_miden : (mid : Int) < (en : Int) := by omega
                  have d_miden : decide (mid < en) = true := by exact decide_eq_true (by omega)
                  have z_enb : ¬ (en : Int) < (b : Int) := by omega
                  have d_enb : decide (en < b) = false := by exact decide_eq_false (by omega)
                  clear HM2 HM20 HZ2
                  go_wp2_with fail
                  go_end0
                  exact ⟨rfl, _, HZ3.out.1.choose_spec.1, HZ3.out.1.choose_spec.2, HZ3.out.2⟩
              · have HZ3 := Lib.hid (HM20.out _ HZ2.out (fun h => f2 h.1))
                have z_miden : ¬ (mid : Int) < (en : Int) := by omega
                have d_miden : decide (mid < en) = false := by exact decide_eq_false (by omega)
                clear HM2 HM20 HZ2
                go_wp2_with fail
                go_end0
                exact ⟨rfl, _, HZ3.out.1.choose_spec.1, HZ3.out.1.choose_spec.2, HZ3.out.2⟩
            · have HZ2 := Lib.hid (HM10.out _ HZ1.out (fun h => e1 h.2))
              have z_ai : (a : Int) < (i : Int) := by omega
              have d_ai : decide (a < i) = true := by exact decide_eq_true (by omega)
              have z_imid : ¬ (i : Int) < (mid : Int) := by omega
              have d_imid : decide (i < mid) = false := by exact decide_eq_false (by omega)
              clear HM1 HM10 HZ1
              by_cases f2 : mid < en
              · by_cases e2 : en < b
                · skip
                  have z_miden : (mid : Int) < (en : Int) := by omega
                  have d_miden : decide (mid < en) = true := by exact decide_eq_true (by omega)
                  have z_enb : (en : Int) < (b : Int) := by omega
                  have d_enb : decide (en < b) = true := by exact decide_eq_true (by omega)
                  go_wp2_with fail
                  refine (HM2.out _ HZ2.out f2 e2).mono ?_
                  rintro e w3 ⟨rfl, hz⟩
                  have HZ3 := Lib.hid hz
                  clear hz HM2 HM20 HZ2
                  go_wp2_with fail
                  go_end0
                  exact ⟨rfl, _, HZ3.out.1.choose_spec.1, HZ3.out.1.choose_spec.2, HZ3.out.2⟩
                · have HZ3 := Lib.hid (HM20.out _ HZ2.out (fun h => e2 h.2))
                  have z_miden : (mid : Int) < (en : Int) := by omega
                  have d_miden : decide (mid < en) = true := by exact decide_eq_true (by omega)
                  have z_enb : ¬ (en : Int) < (b : Int) := by omega
                  have d_enb : decide (en < b) = false := by exact decide_eq_false (by omega)
                  clear HM2 HM20 HZ2
                  go_wp2_with fail
                  go_end0
                  exact ⟨rfl, _, HZ3.out.1.choose_spec.1, HZ3.out.1.choose_spec.2, HZ3.out.2⟩
              · have HZ3 := Lib.hid (HM20.out _ HZ2.out (fun h => f2 h.1))
                have z_miden : ¬ (mid : Int) < (en : Int) := by omega
                have d_miden : decide (mid < en) = false := by exact decide_eq_false (by omega)
                clear HM2 HM20 HZ2
                go_wp2_with fail
                go_end0
                exact ⟨rfl, _, HZ3.out.1.choose_spec.1, HZ3.out.1.choose_spec.2, HZ3.out.2⟩
          · have HZ2 := Lib.hid (HM10.out _ HZ1.out (fun h => f1 h.1))
            have z_ai : ¬ (a : Int) < (i : Int) := by omega
            have d_ai : decide (a < i) = false := by exact decide_eq_false (by omega)
            clear HM1 HM10 HZ1
            by_cases f2 : mid < en
            · by_cases e2 : en < b
              · skip
                have z_miden : (mid : Int) < (en : Int) := by omega
                have d_miden : decide (mid < en) = true := by exact decide_eq_true (by omega)
                have z_enb : (en : Int) < (b : Int) := by omega
                have d_enb : decide (en < b) = true := by exact decide_eq_true (by omega)
                go_wp2_with fail
                refine (HM2.out _ HZ2.out f2 e2).mono ?_
                rintro e w3 ⟨rfl, hz⟩
                have HZ3 := Lib.hid hz
                clear hz HM2 HM20 HZ2
                go_wp2_with fail
                go_end0
                exact ⟨rfl, _, HZ3.out.1.choose_spec.1, HZ3.out.1.choose_spec.2, HZ3.out.2⟩
              · have HZ3 := Lib.hid (HM20.out _ HZ2.out (fun h => e2 h.2))
                have z_miden : (mid : Int) < (en : Int) := by omega
                have d_miden : decide (mid < en) = true := by exact decide_eq_true (by omega)
                have z_enb : ¬ (en : Int) < (b : Int) := by omega
                have d_enb : decide (en < b) = false := by exact decide_eq_false (by omega)
                clear HM2 HM20 HZ2
                go_wp2_with fail
                go_end0
                exact ⟨rfl, _, HZ3.out.1.choose_spec.1, HZ3.out.1.choose_spec.2, HZ3.out.2⟩
            · have HZ3 := Lib.hid (HM20.out _ HZ2.out (fun h => f2 h.1))
              have z_miden : ¬ (mid : Int) < (en : Int) := by omega
              have d_miden : decide (mid < en) = false := by exact decide_eq_false (by omega)
              clear HM2 HM20 HZ2
              go_wp2_with fail
              go_end0
              exact ⟨rfl, _, HZ3.out.1.choose_spec.1, HZ3.out.1.choose_spec.2, HZ3.out.2⟩
      · have HZ1 := Lib.hid (HR0.out (fun h => f0 h.1))
        have z_im : ¬ (i : Int) < (m : Int) := by omega
        have d_im : decide (i < m) = false := by exact decide_eq_false (by omega)
        clear HR HR0
        by_cases f1 : a < i
        · by_cases e1 : i < mid
          · skip
            have z_ai : (a : Int) < (i : Int) := by omega
            have d_ai : decide (a < i) = true := by exact decide_eq_true (by omega)
            have z_imid : (i : Int) < (mid : Int) := by omega
            have d_imid : decide (i < mid) = true := by exact decide_eq_true (by omega)
            go_wp2_with fail
            refine (HM1.out _ HZ1.out f1 e1).mono ?_
            rintro e w2 ⟨rfl, hz⟩
            have HZ2 := Lib.hid hz
            clear hz HM1 HM10 HZ1
            by_cases f2 : mid < en
            · by_cases e2 : en < b
              · skip
                have z_miden : (mid : Int) < (en : Int) := by omega
                have d_miden : decide (mid < en) = true := by exact decide_eq_true (by omega)
                have z_enb : (en : Int) < (b : Int) := by omega
                have d_enb : decide (en < b) = true := by exact decide_eq_true (by omega)
                go_wp2_with fail
                refine (HM2.out _ HZ2.out f2 e2).mono ?_
                rintro e w3 ⟨rfl, hz⟩
                have HZ3 := Lib.hid hz
                clear hz HM2 HM20 HZ2
                go_wp2_with fail
                go_end0
                exact ⟨rfl, _, HZ3.out.1.choose_spec.1, HZ3.out.1.choose_spec.2, HZ3.out.2⟩
              · have HZ3 := Lib.hid (HM20.out _ HZ2.out (fun h => e2 h.2))
                have z_miden : (mid : Int) < (en : Int) := by omega
                have d_miden : decide (mid < en) = true := by exact decide_eq_true (by omega)
                have z_enb : ¬ (en : Int) < (b : Int) := by omega
                have d_enb : decide (en < b) = false := by exact decide_eq_false (by omega)
                clear HM2 HM20 HZ2
                go_wp2_with fail
                go_end0
                exact ⟨rfl, _, HZ3.out.1.choose_spec.1, HZ3.out.1.choose_spec.2, HZ3.out.2⟩
            · have HZ3 := Lib.hid (HM20.out _ HZ2.out (fun h => f2 h.1))
              have z_miden : ¬ (mid : Int) < (en : Int) := by omega
              have d_miden : decide (mid < en) = false := by exact decide_eq_false (by omega)
              clear HM2 HM20 HZ2
              go_wp2_with fail
              go_end0
              exact ⟨rfl, _, HZ3.out.1.choose_spec.1, HZ3.out.1.choose_spec.2, HZ3.out.2⟩
          · have HZ2 := Lib.hid (HM10.out _ HZ1.out (fun h => e1 h.2))
            have z_ai : (a : Int) < (i : Int) := by omega
            have d_ai : decide (a < i) = true := by exact decide_eq_true (by omega)
            have z_imid : ¬ (i : Int) < (mid : Int) := by omega
            have d_imid : decide (i < mid) = false := by exact decide_eq_false (by omega)
            clear HM1 HM10 HZ1
            by_cases f2 : mid < en
            · by_cases e2 : en < b
              · skip
                have z_miden : (mid : Int) < (en : Int) := by omega
                have d_miden : decide (mid < en) = true := by exact decide_eq_true (by omega)
                have z_enb : (en : Int) < (b : Int) := by omega
                have d_enb : decide (en < b) = true := by exact decide_eq_true (by omega)
                go_wp2_with fail
                refine (HM2.out _ HZ2.out f2 e2).mono ?_
                rintro e w3 ⟨rfl, hz⟩
                have HZ3 := Lib.hid hz
                clear hz HM2 HM20 HZ2
                go_wp2_with fail
                go_end0
                exact ⟨rfl, _, HZ3.out.1.choose_spec.1, HZ3.out.1.choose_spec.2, HZ3.out.2⟩
              · have HZ3 := Lib.hid (HM20.out _ HZ2.out (fun h => e2 h.2))
                have z_miden : (mid : Int) < (en : Int) := by omega
                have d_miden : decide (mid < en) = true := by exact decide_eq_true (by omega)
                have z_enb : ¬ (en : Int) < (b : Int) := by omega
                have d_enb : decide (en < b) = false := by exact decide_eq_false (by omega)
                clear HM2 HM20 HZ2
                go_wp2_with fail
                go_end0
                exact ⟨rfl, _, HZ3.out.1.choose_spec.1, HZ3.out.1.choose_spec.2, HZ3.out.2⟩
            · have HZ3 := Lib.hid (HM20.out _ HZ2.out (fun h => f2 h.1))
              have z_miden : ¬ (mid : Int) < (en : Int) := by omega
              have d_miden : decide (mid < en) = false := by exact decide_eq_false (by omega)
              clear HM2 HM20 HZ2
              go_wp2_with fail
              go_end0
              exact ⟨rfl, _, HZ3.out.1.choose_spec.1, HZ3.out.1.choose_spec.2, HZ3.out.2⟩
        · have HZ2 := Lib.hid (HM10.out _ HZ1.out (fun h => f1 h.1))
          have z_ai : ¬ (a : Int) < (i : Int) := by omega
          have d_ai : decide (a < i) = false := by exact decide_eq_false (by omega)
          clear HM1 HM10 HZ1
          by_cases f2 : mid < en
          · by_cases e2 : en < b
            · skip
              have z_miden : (mid : Int) < (en : Int) := by omega
              have d_miden : decide (mid < en) = true := by exact decide_eq_true (by omega)
              have z_enb : (en : Int) < (b : Int) := by omega
              have d_enb : decide (en < b) = true := by exact decide_eq_true (by omega)
              go_wp2_with fail
              refine (HM2.out _ HZ2.out f2 e2).mono ?_
              rintro e w3 ⟨rfl, hz⟩
              have HZ3 := Lib.hid hz
              clear hz HM2 HM20 HZ2
              go_wp2_with fail
              go_end0
              exact ⟨rfl, _, HZ3.out.1.choose_spec.1, HZ3.out.1.choose_spec.2, HZ3.out.2⟩
            · have HZ3 := Lib.hid (HM20.out _ HZ2.out (fun h => e2 h.2))
              have z_miden : (mid : Int) < (en : Int) := by omega
              have d_miden : decide (mid < en) = true := by exact decide_eq_true (by omega)
              have z_enb : ¬ (en : Int) < (b : Int) := by omega
              have d_enb : decide (en < b) = false := by exact decide_eq_false (by omega)
              clear HM2 HM20 HZ2
              go_wp2_with fail
              go_end0
              exact ⟨rfl, _, HZ3.out.1.choose_spec.1, HZ3.out.1.choose_spec.2, HZ3.out.2⟩
          · have HZ3 := Lib.hid (HM20.out _ HZ2.out (fun h => f2 h.1))
            have z_miden : ¬ (mid : Int) < (en : Int) := by omega
            have d_miden : decide (mid < en) = false := by exact decide_eq_false (by omega)
            clear HM2 HM20 HZ2
            go_wp2_with fail
            go_end0
            exact ⟨rfl, _, HZ3.out.1.choose_spec.1, HZ3.out.1.choose_spec.2, HZ3.out.2⟩
set_option maxRecDepth 1000000 in
set_option maxHeartbeats 8000000 in
theorem SymM_le (B D g n cap bound : Nat) (hn : n ≤ 1000) (ih : SymC B D g n cap bound) (P X Y S : List NodeV) (a m b mid : Nat) (ha : a = P.length) (hma : m = a + X.length) (hb : b = m + Y.length) (hk : b - a ≤ bound + 1) (hX2 : 2 ≤ X.length) (hY2 : 2 ≤ Y.length) (hmid : mid = (a + b) / 2) (hgt : ¬ mid < m)
    (hX : SrtC cmN X) (hY : SrtC cmN Y) (w : World) (h : NRow B D g n cap (P ++ (X ++ (Y ++ S))) w) (hm : ∀ W, w.grownBy W (some g) → ML W) :
    Calls Tryd.prog 71 #[(.slice (some ⟨g, 0, none⟩) n cap), .int .i64 a, .int .i64 m, .int .i64 b, (.func (.func 29) #[] #[])] w fun e w' => e = .returned (.tuple #[]) ∧ ∃ d', Mrg cmN P X Y S d' ∧ NRow B D g n cap d' w' ∧ w.grownBy w' (some g) := by
  have hl := h.len3
  have hbn : b ≤ n := by omega
  obtain ⟨nn, hnn⟩ : ∃ nn, nn = mid + m := ⟨_, rfl⟩
  obtain ⟨pp, hpp⟩ : ∃ pp, pp = nn - 1 := ⟨_, rfl⟩
  
  have hnum : a ≤ a ∧ a ≤ m ∧ m ≤ m ∧ nn ≤ a + b ∧ m + m ≤ nn ∧ a < mid ∧ mid < b ∧ 1 ≤ nn := by omega
  have HST := Lib.hid (fun (s en : Nat) (h1 : a ≤ s) (h2 : s ≤ m) (h5 : s + en = nn) (hI : s = a ∨ cmN (nD (P ++ (X ++ (Y ++ S))) (s - 1)) (nD (P ++ (X ++ (Y ++ S))) (pp - (s - 1))) ≤ 0) (hJ : s = m ∨ cmN (nD (P ++ (X ++ (Y ++ S))) (pp - s)) (nD (P ++ (X ++ (Y ++ S))) s) ≤ 0) wr (hrow : NRow B D g n cap (P ++ (X ++ (Y ++ S))) wr) (hg : w.grownBy wr (some g)) =>
    sym_stages B D g n cap bound hn ih P X Y S a m b mid s en ha hma hb hk hX hY (by omega) (by omega) (by omega) (by omega) (by omega) (by omega) (by omega) (by
      rcases hI with h | h
      · exact .inl (by omega)
      · by_cases e : s = a
        · exact .inl (by omega)
        · rw [nD_x ha hma (by omega) (by omega), nD_y ha hma hb (by omega) (by omega), show s - 1 - a = s - a - 1 by omega, show pp - (s - 1) - m = en - m by omega] at h
          exact .inr (.inr h)) (by
      rcases hJ with h | h
      · exact .inr (.inl (by omega))
      · by_cases e : s = m
        · exact .inr (.inl (by omega))
        · rw [nD_x (c := s) ha hma (by omega) (by omega), nD_y ha hma hb (by omega) (by omega), show pp - s - m = en - m - 1 by omega] at h
          exact .inr (.inr h)) w wr hrow hg hm)
  have HHM := Lib.hid hm
  have H0 : Hid (NRow B D g n cap (P ++ (X ++ (Y ++ S))) w ∧ w.grownBy w (some g)) := Lib.hid ⟨h, World.grownBy.refl _ _⟩
  obtain ⟨d, hd⟩ : ∃ d, d = P ++ (X ++ (Y ++ S)) := ⟨_, rfl⟩
  rw [← hd] at HST H0
  obtain ⟨lx, hlx⟩ : ∃ lx, lx = X.length := ⟨_, rfl⟩
  obtain ⟨ly, hly⟩ : ∃ ly, ly = Y.length := ⟨_, rfl⟩
  have c1 : IntKind.i64.wrap ((m : Int) - (a : Int)) = (lx : Int) := wr_ (by omega) (by omega)
  have c2 : ((lx : Int) == 1) = false := by rw [beq_eq_false_iff_ne]; omega
  have c3 : IntKind.i64.wrap ((b : Int) - (m : Int)) = (ly : Int) := wr_ (by omega) (by omega)
  have c4 : ((ly : Int) == 1) = false := by rw [beq_eq_false_iff_ne]; omega
  have c5 : ((a : Int) + (b : Int)) / 2 = (mid : Int) := by omega
  have c6 : IntKind.i64.wrap ((mid : Int) + (m : Int)) = (nn : Int) := wr_ (by omega) (by omega)
  have c7 : ¬ ((mid : Int) < (m : Int)) := by omega
  have c8 : decide (mid < m) = false := by exact decide_eq_false hgt
  
  have c10 : IntKind.i64.wrap ((nn : Int) - 1) = (pp : Int) := wr_ (by omega) (by omega)
  have eg := eg_lessA
  have HPP := Lib.hid hpp
  have HNN := Lib.hid hnn
  have hmn : m ≤ n := by omega
  have hab : a < m ∧ m < b := by omega
  have HCI : Hid (∀ c, a ≤ c → c < m → pp - c < n ∧ c < n ∧ pp = (pp - c) + c) := Lib.hid (fun c h1 h2 => by omega)
  have HND : Hid (nn ≤ 100000) := Lib.hid (by omega)
  clear ha hma hb hl hX hY hm h hd hlx hly hX2 hY2 hmid hgt hk hpp hnn ih
  go_enter Tryd.func71, Tryd.ntmps71
  go_wp2_with fail
  clear c1 c2 c3 c4 c5 c6 c7 c8 c10
  go_loopg [20, 21, 23] b (fun gg s20 s21 s23 wr => ∃ s r : Nat, s20 = .int .i64 s ∧ s21 = .int .i64 r ∧ a ≤ s ∧ s ≤ r ∧ r ≤ m ∧ r - s ≤ gg ∧ Hid (NRow B D g n cap d wr ∧ w.grownBy wr (some g)) ∧ Hid (s = a ∨ cmN (nD d (s - 1)) (nD d (pp - (s - 1))) ≤ 0) ∧ Hid (r = m ∨ cmN (nD d (pp - r)) (nD d r) ≤ 0))
  case atStart => exact ⟨a, m, rfl, rfl, Nat.le_refl _, by omega, Nat.le_refl _, by omega, H0, Lib.hid (.inl rfl), Lib.hid (.inl rfl)⟩
  case round =>
    obtain ⟨i, j, rfl, rfl, hmi, hij, hjb, hg, HS, HI, HJ⟩ := hrel
    clear H0
    by_cases hlt : i < j
    · have hltz : (i : Int) < (j : Int) := by omega
      obtain ⟨hh, hhd⟩ : ∃ hh, hh = (i + j) / 2 := ⟨_, rfl⟩
      have hhz : ((i : Int) + (j : Int)) / 2 = (hh : Int) := by omega
      have hh1 : i ≤ hh := by omega
      have hh2 : hh < j := by omega
      obtain ⟨hqn, hhn, hpe⟩ := HCI.out hh (by omega) (by omega)
      obtain ⟨q, hqd⟩ : ∃ q, q = pp - hh := ⟨_, rfl⟩
      rw [← hqd] at hqn hpe
      have hnd := HND.out
      have hpq := HPP.out
      have c11 : IntKind.i64.wrap ((pp : Int) - (hh : Int)) = (q : Int) := wr_ (by omega) (by omega)
      clear hpe hnd hpq
      have k1 : (hh : Int) < (n : Int) := by omega
      have k2 : (q : Int) < (n : Int) := by omega
      have k3 : (0 : Int) ≤ (hh : Int) := by omega
      have k4 : (0 : Int) ≤ (q : Int) := by omega
      have LDH := Lib.hid (fun W (hb : Below wr.heap.size wr W) => (HS.out.1.below hb).loadD hhn)
      have LDQ := Lib.hid (fun W (hb : Below wr.heap.size wr W) => (HS.out.1.below hb).loadD hqn)
      have HCM := Lib.hid (fun W (hb : Below wr.heap.size wr W) => HS.out.1.cmp (ml_row HHM.out HS.out.2) hqn hhn W hb)
      have HXN : Hid (¬ cmN (nD d q) (nD d hh) < 0 → cmN (nD d hh) (nD d (pp - hh)) ≤ 0) := Lib.hid (fun h => by rw [← hqd]; exact ord_cm.flip h)
      have HXP : Hid (cmN (nD d q) (nD d hh) < 0 → cmN (nD d (pp - hh)) (nD d hh) ≤ 0) := Lib.hid (fun h => by rw [← hqd]; omega)
      clear hhd hqd
      obtain ⟨cv, hcv⟩ : ∃ cv, cv = cmN (nD d q) (nD d hh) := ⟨_, rfl⟩
      rw [← hcv] at HCM HXN HXP
      clear hcv
      generalize (nodeC (nD d hh)).toArray = cH at *
      generalize (nodeC (nD d q)).toArray = cA at *
      clear HST
      by_cases hq : cv < 0
      · have q1 : decide (cv < 0) = true := decide_eq_true hq
        have HX2 := Lib.hid (HXP.out hq)
        clear HXN HXP HJ
        go_upto_region 35 with fail
        clear hhz
        refine wp_region_G (S := fun W => Below wr.heap.size wr W) (by kernel_rfl) (Below.refl _ _).drew ?_
        refine wpG_take (i := 0) (v := ?vlep0) rfl (by kernel_rfl) (by kernel_rfl) (by kernel_rfl) (fun _ _ _ h => h) (Or.inl ⟨by rfl, ?hylep0⟩) ?restlep0
        case hylep0 => (intro W hSw; left; (try dsimp only at hSw); go_simp; try with_reducible rfl)
        simp only [Act.put, List.setIfInBounds_toArray, List.set_cons_zero, List.set_cons_succ, List.getElem_toArray, List.getElem_cons_zero, List.getElem_cons_succ]
        refine wpG_take (i := 1) (v := ?vlep1) rfl (by kernel_rfl) (by kernel_rfl) (by kernel_rfl) (fun _ _ _ h => h) (Or.inl ⟨by rfl, ?hylep1⟩) ?restlep1
        case hylep1 => (intro W hSw; left; (try dsimp only at hSw); go_simp; try with_reducible rfl)
        simp only [Act.put, List.setIfInBounds_toArray, List.set_cons_zero, List.set_cons_succ, List.getElem_toArray, List.getElem_cons_zero, List.getElem_cons_succ]
        refine wpG_take (i := 2) (v := ?vlep2) rfl (by kernel_rfl) (by kernel_rfl) (by kernel_rfl) (fun _ _ _ h => h) (Or.inl ⟨by rfl, ?hylep2⟩) ?restlep2
        case hylep2 => (intro W hSw; left; (try dsimp only at hSw); go_simp; try with_reducible rfl)
        simp only [Act.put, List.setIfInBounds_toArray, List.set_cons_zero, List.set_cons_succ, List.getElem_toArray, List.getElem_cons_zero, List.getElem_cons_succ]
        refine wpG_take (i := 3) (v := ?vlep3) rfl (by kernel_rfl) (by kernel_rfl) (by kernel_rfl) (fun _ _ _ h => h) (Or.inl ⟨by rfl, ?hylep3⟩) ?restlep3
        case hylep3 => (intro W hSw; left; (try dsimp only at hSw); go_simp; try with_reducible rfl)
        simp only [Act.put, List.setIfInBounds_toArray, List.set_cons_zero, List.set_cons_succ, List.getElem_toArray, List.getElem_cons_zero, List.getElem_cons_succ]
        refine wpG_take (i := 4) (v := ?vlep4) rfl (by kernel_rfl) (by kernel_rfl) (by kernel_rfl) (fun _ _ _ h => h) (Or.inl ⟨by rfl, ?hylep4⟩) ?restlep4
        case hylep4 => (intro W hSw; left; (try dsimp only at hSw); go_simp; try with_reducible rfl)
        simp only [Act.put, List.setIfInBounds_toArray, List.set_cons_zero, List.set_cons_succ, List.getElem_toArray, List.getElem_cons_zero, List.getElem_cons_succ]
        refine wpG_take (i := 5) (v := ?vlep5) rfl (by kernel_rfl) (by kernel_rfl) (by kernel_rfl) (fun _ _ _ h => h) (Or.inl ⟨by rfl, ?hylep5⟩) ?restlep5
        case hylep5 => (intro W hSw; left; (try dsimp only at hSw); go_simp; try with_reducible rfl)
        simp only [Act.put, List.setIfInBounds_toArray, List.set_cons_zero, List.set_cons_succ, List.getElem_toArray, List.getElem_cons_zero, List.getElem_cons_succ]
        refine wpG_take (i := 6) (v := (.agg cA)) rfl (by kernel_rfl) (by kernel_rfl) (by kernel_rfl) (fun _ _ _ h => h) (Or.inl ⟨by rfl, ?hylep6⟩) ?restlep6
        case hylep6 => (intro W hSw; left; exact run_load _ _ rfl rfl (LDQ.out W hSw))
        simp only [Act.put, List.setIfInBounds_toArray, List.set_cons_zero, List.set_cons_succ, List.getElem_toArray, List.getElem_cons_zero, List.getElem_cons_succ]
        refine wpG_take (i := 7) (v := ?vlep7) rfl (by kernel_rfl) (by kernel_rfl) (by kernel_rfl) (fun _ _ _ h => h) (Or.inl ⟨by rfl, ?hylep7⟩) ?restlep7
        case hylep7 => (intro W hSw; left; (try dsimp only at hSw); go_simp; try with_reducible rfl)
        simp only [Act.put, List.setIfInBounds_toArray, List.set_cons_zero, List.set_cons_succ, List.getElem_toArray, List.getElem_cons_zero, List.getElem_cons_succ]
        refine wpG_take (i := 8) (v := ?vlep8) rfl (by kernel_rfl) (by kernel_rfl) (by kernel_rfl) (fun _ _ _ h => h) (Or.inl ⟨by rfl, ?hylep8⟩) ?restlep8
        case hylep8 => (intro W hSw; left; (try dsimp only at hSw); go_simp; try with_reducible rfl)
        simp only [Act.put, List.setIfInBounds_toArray, List.set_cons_zero, List.set_cons_succ, List.getElem_toArray, List.getElem_cons_zero, List.getElem_cons_succ]
        refine wpG_take (i := 9) (v := ?vlep9) rfl (by kernel_rfl) (by kernel_rfl) (by kernel_rfl) (fun _ _ _ h => h) (Or.inl ⟨by rfl, ?hylep9⟩) ?restlep9
        case hylep9 => (intro W hSw; left; (try dsimp only at hSw); go_simp; try with_reducible rfl)
        simp only [Act.put, List.setIfInBounds_toArray, List.set_cons_zero, List.set_cons_succ, List.getElem_toArray, List.getElem_cons_zero, List.getElem_cons_succ]
        refine wpG_take (i := 10) (v := (.agg cH)) rfl (by kernel_rfl) (by kernel_rfl) (by kernel_rfl) (fun _ _ _ h => h) (Or.inl ⟨by rfl, ?hylep10⟩) ?restlep10
        case hylep10 => (intro W hSw; left; exact run_load _ _ rfl rfl (LDH.out W hSw))
        simp only [Act.put, List.setIfInBounds_toArray, List.set_cons_zero, List.set_cons_succ, List.getElem_toArray, List.getElem_cons_zero, List.getElem_cons_succ]
        refine wpG_take (i := 11) (v := (.int .i64 cv)) rfl (by kernel_rfl) (by kernel_rfl) (by kernel_rfl) (fun _ _ _ h => h) (Or.inl ⟨by rfl, ?hylep11⟩) ?restlep11
        case hylep11 => (intro W hSw; right; (try dsimp only at hSw); refine ⟨_, _, (by go_simp; try with_reducible rfl), (HCM.out W hSw).mono ?_⟩; rintro e w' ⟨rfl, hb⟩; exact ⟨rfl, hSw.trans (hb.mono hSw.size), hb⟩)
        simp only [Act.put, List.setIfInBounds_toArray, List.set_cons_zero, List.set_cons_succ, List.getElem_toArray, List.getElem_cons_zero, List.getElem_cons_succ]
        refine wpG_take (i := 12) (v := (.bool true)) rfl (by kernel_rfl) (by kernel_rfl) (by kernel_rfl) (fun _ _ _ h => h) (Or.inl ⟨by rfl, ?hylep12⟩) ?restlep12
        case hylep12 => (intro W hSw; left; (try dsimp only at hSw); go_simp; try with_reducible rfl)
        simp only [Act.put, List.setIfInBounds_toArray, List.set_cons_zero, List.set_cons_succ, List.getElem_toArray, List.getElem_cons_zero, List.getElem_cons_succ]
        refine wpG_take (i := 13) (v := (.bool false)) rfl (by kernel_rfl) (by kernel_rfl) (by kernel_rfl) (fun _ _ _ h => h) (Or.inl ⟨by rfl, ?hylep13⟩) ?restlep13
        case hylep13 => (intro W hSw; left; (try dsimp only at hSw); go_simp; try with_reducible rfl)
        simp only [Act.put, List.setIfInBounds_toArray, List.set_cons_zero, List.set_cons_succ, List.getElem_toArray, List.getElem_cons_zero, List.getElem_cons_succ]
        refine wpG_done (by kernel_rfl) (fun w3 hb3 hS3 => ?_) _
        have HN := Lib.hid (And.intro (HS.out.1.below hS3) (HS.out.2.trans (grownBy_below hS3)))
        clear hb3 hS3 HS LDH LDQ HCM c11
        go_wp2_with fail
        go_roundg (hh - i)
        case measure => omega
        case rel => exact ⟨i, hh, rfl, rfl, hmi, hh1, by omega, Nat.le_refl _, HN, HI, Lib.hid (.inr HX2.out)⟩
      
      · have q1 : decide (cv < 0) = false := decide_eq_false hq
        have HX2 := Lib.hid (HXN.out hq)
        clear HXN HXP HI
        go_upto_region 35 with fail
        clear hhz
        refine wp_region_G (S := fun W => Below wr.heap.size wr W) (by kernel_rfl) (Below.refl _ _).drew ?_
        refine wpG_take (i := 0) (v := ?vlen0) rfl (by kernel_rfl) (by kernel_rfl) (by kernel_rfl) (fun _ _ _ h => h) (Or.inl ⟨by rfl, ?hylen0⟩) ?restlen0
        case hylen0 => (intro W hSw; left; (try dsimp only at hSw); go_simp; try with_reducible rfl)
        simp only [Act.put, List.setIfInBounds_toArray, List.set_cons_zero, List.set_cons_succ, List.getElem_toArray, List.getElem_cons_zero, List.getElem_cons_succ]
        refine wpG_take (i := 1) (v := ?vlen1) rfl (by kernel_rfl) (by kernel_rfl) (by kernel_rfl) (fun _ _ _ h => h) (Or.inl ⟨by rfl, ?hylen1⟩) ?restlen1
        case hylen1 => (intro W hSw; left; (try dsimp only at hSw); go_simp; try with_reducible rfl)
        simp only [Act.put, List.setIfInBounds_toArray, List.set_cons_zero, List.set_cons_succ, List.getElem_toArray, List.getElem_cons_zero, List.getElem_cons_succ]
        refine wpG_take (i := 2) (v := ?vlen2) rfl (by kernel_rfl) (by kernel_rfl) (by kernel_rfl) (fun _ _ _ h => h) (Or.inl ⟨by rfl, ?hylen2⟩) ?restlen2
        case hylen2 => (intro W hSw; left; (try dsimp only at hSw); go_simp; try with_reducible rfl)
        simp only [Act.put, List.setIfInBounds_toArray, List.set_cons_zero, List.set_cons_succ, List.getElem_toArray, List.getElem_cons_zero, List.getElem_cons_succ]
        refine wpG_take (i := 3) (v := ?vlen3) rfl (by kernel_rfl) (by kernel_rfl) (by kernel_rfl) (fun _ _ _ h => h) (Or.inl ⟨by rfl, ?hylen3⟩) ?restlen3
        case hylen3 => (intro W hSw; left; (try dsimp only at hSw); go_simp; try with_reducible rfl)
        simp only [Act.put, List.setIfInBounds_toArray, List.set_cons_zero, List.set_cons_succ, List.getElem_toArray, List.getElem_cons_zero, List.getElem_cons_succ]
        refine wpG_take (i := 4) (v := ?vlen4) rfl (by kernel_rfl) (by kernel_rfl) (by kernel_rfl) (fun _ _ _ h => h) (Or.inl ⟨by rfl, ?hylen4⟩) ?restlen4
        case hylen4 => (intro W hSw; left; (try dsimp only at hSw); go_simp; try with_reducible rfl)
        simp only [Act.put, List.setIfInBounds_toArray, List.set_cons_zero, List.set_cons_succ, List.getElem_toArray, List.getElem_cons_zero, List.getElem_cons_succ]
        refine wpG_take (i := 5) (v := ?vlen5) rfl (by kernel_rfl) (by kernel_rfl) (by kernel_rfl) (fun _ _ _ h => h) (Or.inl ⟨by rfl, ?hylen5⟩) ?restlen5
        case hylen5 => (intro W hSw; left; (try dsimp only at hSw); go_simp; try with_reducible rfl)
        simp only [Act.put, List.setIfInBounds_toArray, List.set_cons_zero, List.set_cons_succ, List.getElem_toArray, List.getElem_cons_zero, List.getElem_cons_succ]
        refine wpG_take (i := 6) (v := (.agg cA)) rfl (by kernel_rfl) (by kernel_rfl) (by kernel_rfl) (fun _ _ _ h => h) (Or.inl ⟨by rfl, ?hylen6⟩) ?restlen6
        case hylen6 => (intro W hSw; left; exact run_load _ _ rfl rfl (LDQ.out W hSw))
        simp only [Act.put, List.setIfInBounds_toArray, List.set_cons_zero, List.set_cons_succ, List.getElem_toArray, List.getElem_cons_zero, List.getElem_cons_succ]
        refine wpG_take (i := 7) (v := ?vlen7) rfl (by kernel_rfl) (by kernel_rfl) (by kernel_rfl) (fun _ _ _ h => h) (Or.inl ⟨by rfl, ?hylen7⟩) ?restlen7
        case hylen7 => (intro W hSw; left; (try dsimp only at hSw); go_simp; try with_reducible rfl)
        simp only [Act.put, List.setIfInBounds_toArray, List.set_cons_zero, List.set_cons_succ, List.getElem_toArray, List.getElem_cons_zero, List.getElem_cons_succ]
        refine wpG_take (i := 8) (v := ?vlen8) rfl (by kernel_rfl) (by kernel_rfl) (by kernel_rfl) (fun _ _ _ h => h) (Or.inl ⟨by rfl, ?hylen8⟩) ?restlen8
        case hylen8 => (intro W hSw; left; (try dsimp only at hSw); go_simp; try with_reducible rfl)
        simp only [Act.put, List.setIfInBounds_toArray, List.set_cons_zero, List.set_cons_succ, List.getElem_toArray, List.getElem_cons_zero, List.getElem_cons_succ]
        refine wpG_take (i := 9) (v := ?vlen9) rfl (by kernel_rfl) (by kernel_rfl) (by kernel_rfl) (fun _ _ _ h => h) (Or.inl ⟨by rfl, ?hylen9⟩) ?restlen9
        case hylen9 => (intro W hSw; left; (try dsimp only at hSw); go_simp; try with_reducible rfl)
        simp only [Act.put, List.setIfInBounds_toArray, List.set_cons_zero, List.set_cons_succ, List.getElem_toArray, List.getElem_cons_zero, List.getElem_cons_succ]
        refine wpG_take (i := 10) (v := (.agg cH)) rfl (by kernel_rfl) (by kernel_rfl) (by kernel_rfl) (fun _ _ _ h => h) (Or.inl ⟨by rfl, ?hylen10⟩) ?restlen10
        case hylen10 => (intro W hSw; left; exact run_load _ _ rfl rfl (LDH.out W hSw))
        simp only [Act.put, List.setIfInBounds_toArray, List.set_cons_zero, List.set_cons_succ, List.getElem_toArray, List.getElem_cons_zero, List.getElem_cons_succ]
        refine wpG_take (i := 11) (v := (.int .i64 cv)) rfl (by kernel_rfl) (by kernel_rfl) (by kernel_rfl) (fun _ _ _ h => h) (Or.inl ⟨by rfl, ?hylen11⟩) ?restlen11
        case hylen11 => (intro W hSw; right; (try dsimp only at hSw); refine ⟨_, _, (by go_simp; try with_reducible rfl), (HCM.out W hSw).mono ?_⟩; rintro e w' ⟨rfl, hb⟩; exact ⟨rfl, hSw.trans (hb.mono hSw.size), hb⟩)
        simp only [Act.put, List.setIfInBounds_toArray, List.set_cons_zero, List.set_cons_succ, List.getElem_toArray, List.getElem_cons_zero, List.getElem_cons_succ]
        refine wpG_take (i := 12) (v := (.bool false)) rfl (by kernel_rfl) (by kernel_rfl) (by kernel_rfl) (fun _ _ _ h => h) (Or.inl ⟨by rfl, ?hylen12⟩) ?restlen12
        case hylen12 => (intro W hSw; left; (try dsimp only at hSw); go_simp; try with_reducible rfl)
        simp only [Act.put, List.setIfInBounds_toArray, List.set_cons_zero, List.set_cons_succ, List.getElem_toArray, List.getElem_cons_zero, List.getElem_cons_succ]
        refine wpG_take (i := 13) (v := (.bool true)) rfl (by kernel_rfl) (by kernel_rfl) (by kernel_rfl) (fun _ _ _ h => h) (Or.inl ⟨by rfl, ?hylen13⟩) ?restlen13
        case hylen13 => (intro W hSw; left; (try dsimp only at hSw); go_simp; try with_reducible rfl)
        simp only [Act.put, List.setIfInBounds_toArray, List.set_cons_zero, List.set_cons_succ, List.getElem_toArray, List.getElem_cons_zero, List.getElem_cons_succ]
        refine wpG_done (by kernel_rfl) (fun w3 hb3 hS3 => ?_) _
        have HN := Lib.hid (And.intro (HS.out.1.below hS3) (HS.out.2.trans (grownBy_below hS3)))
        clear hb3 hS3 HS LDH LDQ HCM c11
        go_wp2_with fail
        go_roundg (j - (hh + 1))
        case measure => omega
        case rel => exact ⟨hh + 1, j, by go_num, rfl, by omega, by omega, hjb, Nat.le_refl _, HN, Lib.hid (.inr (by rw [Nat.add_sub_cancel]; exact HX2.out)), HJ⟩
    · obtain rfl : i = j := by omega
      have hltz : ¬ (i : Int) < (i : Int) := by omega
      have hnd := HND.out
      have hnn := HNN.out
      obtain ⟨en, hen⟩ : ∃ en, en = nn - i := ⟨_, rfl⟩
      have c12 : IntKind.i64.wrap ((nn : Int) - (i : Int)) = (en : Int) := wr_ (by omega) (by omega)
      obtain ⟨X1, Y1, R, hR, hR0, hM1, hM10, hM2, hM20⟩ := HST.out i en hmi hjb (by omega) HI.out HJ.out _ HS.out.1 HS.out.2
      have HR := Lib.hid hR
      have HR0 := Lib.hid hR0
      have HM1 := Lib.hid hM1
      have HM10 := Lib.hid hM10
      have HM2 := Lib.hid hM2
      have HM20 := Lib.hid hM20
      clear HST HS HI HJ hen hnd hnn hR hR0 hM1 hM10 hM2 hM20 HCI HND HNN HPP hg hij hjb hmi hltz
      by_cases f0 : i < m
      · by_cases e0 : m < en
        · skip
          have z_im : (i : Int) < (m : Int) := by omega
          have d_im : decide (i < m) = true := by exact decide_eq_true (by omega)
          have z_men : (m : Int) < (en : Int) := by omega
          have d_men : decide (m < en) = true := by exact decide_eq_true (by omega)
          go_wp2_with fail
          refine (HR.out f0 e0).mono ?_
          rintro e w1 ⟨rfl, hz⟩
          have HZ1 := Lib.hid hz
          clear hz HR HR0
          by_cases f1 : a < i
          · by_cases e1 : i < mid
            · skip
              have z_ai : (a : Int) < (i : Int) := by omega
              have d_ai : decide (a < i) = true := by exact decide_eq_true (by omega)
              have z_imid : (i : Int) < (mid : Int) := by omega
              have d_imid : decide (i < mid) = true := by exact decide_eq_true (by omega)
              go_wp2_with fail
              refine (HM1.out _ HZ1.out f1 e1).mono ?_
              rintro e w2 ⟨rfl, hz⟩
              have HZ2 := Lib.hid hz
              clear hz HM1 HM10 HZ1
              by_cases f2 : mid < en
              · by_cases e2 : en < b
                · skip
                  have z_miden : (mid : Int) < (en : Int) := by omega
                  have d_miden : decide (mid < en) = true := by exact decide_eq_true (by omega)
                  have z_enb : (en : Int) < (b : Int) := by omega
                  have d_enb : decide (en < b) = true := by exact decide_eq_true (by omega)
                  go_wp2_with fail
                  refine (HM2.out _ HZ2.out f2 e2).mono ?_
                  rintro e w3 ⟨rfl, hz⟩
                  have HZ3 := Lib.hid hz
                  clear hz HM2 HM20 HZ2
                  go_wp2_with fail
                  go_end0
                  exact ⟨rfl, _, HZ3.out.1.choose_spec.1, HZ3.out.1.choose_spec.2, HZ3.out.2⟩
                · have HZ3 := Lib.hid (HM20.out _ HZ2.out (fun h => e2 h.2))
                  have z_miden : (mid : Int) < (en : Int) := by omega
                  have d_miden : decide (mid < en) = true := by exact decide_eq_true (by omega)
                  have z_enb : ¬ (en : Int) < (b : Int) := by omega
                  have d_enb : decide (en < b) = false := by exact decide_eq_false (by omega)
                  clear HM2 HM20 HZ2
                  go_wp2_with fail
                  go_end0
                  exact ⟨rfl, _, HZ3.out.1.choose_spec.1, HZ3.out.1.choose_spec.2, HZ3.out.2⟩
              · have HZ3 := Lib.hid (HM20.out _ HZ2.out (fun h => f2 h.1))
                have z_miden : ¬ (mid : Int) < (en : Int) := by omega
                have d_miden : decide (mid < en) = false := by exact decide_eq_false (by omega)
                clear HM2 HM20 HZ2
                go_wp2_with fail
                go_end0
                exact ⟨rfl, _, HZ3.out.1.choose_spec.1, HZ3.out.1.choose_spec.2, HZ3.out.2⟩
            · have HZ2 := Lib.hid (HM10.out _ HZ1.out (fun h => e1 h.2))
              have z_ai : (a : Int) < (i : Int) := by omega
              have d_ai : decide (a < i) = true := by exact decide_eq_true (by omega)
              have z_imid : ¬ (i : Int) < (mid : Int) := by omega
              have d_imid : decide (i < mid) = false := by exact decide_eq_false (by omega)
              clear HM1 HM10 HZ1
              by_cases f2 : mid < en
              · by_cases e2 : en < b
                · skip
                  have z_miden : (mid : Int) < (en : Int) := by omega
                  have d_miden : decide (mid < en) = true := by exact decide_eq_true (by omega)
                  have z_enb : (en : Int) < (b : Int) := by omega
                  have d_enb : decide (en < b) = true := by exact decide_eq_true (by omega)
                  go_wp2_with fail
                  refine (HM2.out _ HZ2.out f2 e2).mono ?_
                  rintro e w3 ⟨rfl, hz⟩
                  have HZ3 := Lib.hid hz
                  clear hz HM2 HM20 HZ2
                  go_wp2_with fail
                  go_end0
                  exact ⟨rfl, _, HZ3.out.1.choose_spec.1, HZ3.out.1.choose_spec.2, HZ3.out.2⟩
                · have HZ3 := Lib.hid (HM20.out _ HZ2.out (fun h => e2 h.2))
                  have z_miden : (mid : Int) < (en : Int) := by omega
                  have d_miden : decide (mid < en) = true := by exact decide_eq_true (by omega)
                  have z_enb : ¬ (en : Int) < (b : Int) := by omega
                  have d_enb : decide (en < b) = false := by exact decide_eq_false (by omega)
                  clear HM2 HM20 HZ2
                  go_wp2_with fail
                  go_end0
                  exact ⟨rfl, _, HZ3.out.1.choose_spec.1, HZ3.out.1.choose_spec.2, HZ3.out.2⟩
              · have HZ3 := Lib.hid (HM20.out _ HZ2.out (fun h => f2 h.1))
                have z_miden : ¬ (mid : Int) < (en : Int) := by omega
                have d_miden : decide (mid < en) = false := by exact decide_eq_false (by omega)
                clear HM2 HM20 HZ2
                go_wp2_with fail
                go_end0
                exact ⟨rfl, _, HZ3.out.1.choose_spec.1, HZ3.out.1.choose_spec.2, HZ3.out.2⟩
          · have HZ2 := Lib.hid (HM10.out _ HZ1.out (fun h => f1 h.1))
            have z_ai : ¬ (a : Int) < (i : Int) := by omega
            have d_ai : decide (a < i) = false := by exact decide_eq_false (by omega)
            clear HM1 HM10 HZ1
            by_cases f2 : mid < en
            · by_cases e2 : en < b
              · skip
                have z_miden : (mid : Int) < (en : Int) := by omega
                have d_miden : decide (mid < en) = true := by exact decide_eq_true (by omega)
                have z_enb : (en : Int) < (b : Int) := by omega
                have d_enb : decide (en < b) = true := by exact decide_eq_true (by omega)
                go_wp2_with fail
                refine (HM2.out _ HZ2.out f2 e2).mono ?_
                rintro e w3 ⟨rfl, hz⟩
                have HZ3 := Lib.hid hz
                clear hz HM2 HM20 HZ2
                go_wp2_with fail
                go_end0
                exact ⟨rfl, _, HZ3.out.1.choose_spec.1, HZ3.out.1.choose_spec.2, HZ3.out.2⟩
              · have HZ3 := Lib.hid (HM20.out _ HZ2.out (fun h => e2 h.2))
                have z_miden : (mid : Int) < (en : Int) := by omega
                have d_miden : decide (mid < en) = true := by exact decide_eq_true (by omega)
                have z_enb : ¬ (en : Int) < (b : Int) := by omega
                have d_enb : decide (en < b) = false := by exact decide_eq_false (by omega)
                clear HM2 HM20 HZ2
                go_wp2_with fail
                go_end0
                exact ⟨rfl, _, HZ3.out.1.choose_spec.1, HZ3.out.1.choose_spec.2, HZ3.out.2⟩
            · have HZ3 := Lib.hid (HM20.out _ HZ2.out (fun h => f2 h.1))
              have z_miden : ¬ (mid : Int) < (en : Int) := by omega
              have d_miden : decide (mid < en) = false := by exact decide_eq_false (by omega)
              clear HM2 HM20 HZ2
              go_wp2_with fail
              go_end0
              exact ⟨rfl, _, HZ3.out.1.choose_spec.1, HZ3.out.1.choose_spec.2, HZ3.out.2⟩
        · have HZ1 := Lib.hid (HR0.out (fun h => e0 h.2))
          have z_im : (i : Int) < (m : Int) := by omega
          have d_im : decide (i < m) = true := by exact decide_eq_true (by omega)
          have z_men : ¬ (m : Int) < (en : Int) := by omega
          have d_men : decide (m < en) = false := by exact decide_eq_false (by omega)
          clear HR HR0
          by_cases f1 : a < i
          · by_cases e1 : i < mid
            · skip
              have z_ai : (a : Int) < (i : Int) := by omega
              have d_ai : decide (a < i) = true := by exact decide_eq_true (by omega)
              have z_imid : (i : Int) < (mid : Int) := by omega
              have d_imid : decide (i < mid) = true := by exact decide_eq_true (by omega)
              go_wp2_with fail
              refine (HM1.out _ HZ1.out f1 e1).mono ?_
              rintro e w2 ⟨rfl, hz⟩
              have HZ2 := Lib.hid hz
              clear hz HM1 HM10 HZ1
              by_cases f2 : mid < en
              · by_cases e2 : en < b
                · skip
                  have z_miden : (mid : Int) < (en : Int) := by omega
                  have d_miden : decide (mid < en) = true := by exact decide_eq_true (by omega)
                  have z_enb : (en : Int) < (b : Int) := by omega
                  have d_enb : decide (en < b) = true := by exact decide_eq_true (by omega)
                  go_wp2_with fail
                  refine (HM2.out _ HZ2.out f2 e2).mono ?_
                  rintro e w3 ⟨rfl, hz⟩
                  have HZ3 := Lib.hid hz
                  clear hz HM2 HM20 HZ2
                  go_wp2_with fail
                  go_end0
                  exact ⟨rfl, _, HZ3.out.1.choose_spec.1, HZ3.out.1.choose_spec.2, HZ3.out.2⟩
                · have HZ3 := Lib.hid (HM20.out _ HZ2.out (fun h => e2 h.2))
                  have z_miden : (mid : Int) < (en : Int) := by omega
                  have d_miden : decide (mid < en) = true := by exact decide_eq_true (by omega)
                  have z_enb : ¬ (en : Int) < (b : Int) := by omega
                  have d_enb : decide (en < b) = false := by exact decide_eq_false (by omega)
                  clear HM2 HM20 HZ2
                  go_wp2_with fail
                  go_end0
                  exact ⟨rfl, _, HZ3.out.1.choose_spec.1, HZ3.out.1.choose_spec.2, HZ3.out.2⟩
              · have HZ3 := Lib.hid (HM20.out _ HZ2.out (fun h => f2 h.1))
                have z_miden : ¬ (mid : Int) < (en : Int) := by omega
                have d_miden : decide (mid < en) = false := by exact decide_eq_false (by omega)
                clear HM2 HM20 HZ2
                go_wp2_with fail
                go_end0
                exact ⟨rfl, _, HZ3.out.1.choose_spec.1, HZ3.out.1.choose_spec.2, HZ3.out.2⟩
            · have HZ2 := Lib.hid (HM10.out _ HZ1.out (fun h => e1 h.2))
              have z_ai : (a : Int) < (i : Int) := by omega
              have d_ai : decide (a < i) = true := by exact decide_eq_true (by omega)
              have z_imid : ¬ (i : Int) < (mid : Int) := by omega
              have d_imid : decide (i < mid) = false := by exact decide_eq_false (by omega)
              clear HM1 HM10 HZ1
              by_cases f2 : mid < en
              · by_cases e2 : en < b
                · skip
                  have z_miden : (mid : Int) < (en : Int) := by omega
                  have d_miden : decide (mid < en) = true := by exact decide_eq_true (by omega)
                  have z_enb : (en : Int) < (b : Int) := by omega
                  have d_enb : decide (en < b) = true := by exact decide_eq_true (by omega)
                  go_wp2_with fail
                  refine (HM2.out _ HZ2.out f2 e2).mono ?_
                  rintro e w3 ⟨rfl, hz⟩
                  have HZ3 := Lib.hid hz
                  clear hz HM2 HM20 HZ2
                  go_wp2_with fail
                  go_end0
                  exact ⟨rfl, _, HZ3.out.1.choose_spec.1, HZ3.out.1.choose_spec.2, HZ3.out.2⟩
                · have HZ3 := Lib.hid (HM20.out _ HZ2.out (fun h => e2 h.2))
                  have z_miden : (mid : Int) < (en : Int) := by omega
                  have d_miden : decide (mid < en) = true := by exact decide_eq_true (by omega)
                  have z_enb : ¬ (en : Int) < (b : Int) := by omega
                  have d_enb : decide (en < b) = false := by exact decide_eq_false (by omega)
                  clear HM2 HM20 HZ2
                  go_wp2_with fail
                  go_end0
                  exact ⟨rfl, _, HZ3.out.1.choose_spec.1, HZ3.out.1.choose_spec.2, HZ3.out.2⟩
              · have HZ3 := Lib.hid (HM20.out _ HZ2.out (fun h => f2 h.1))
                have z_miden : ¬ (mid : Int) < (en : Int) := by omega
                have d_miden : decide (mid < en) = false := by exact decide_eq_false (by omega)
                clear HM2 HM20 HZ2
                go_wp2_with fail
                go_end0
                exact ⟨rfl, _, HZ3.out.1.choose_spec.1, HZ3.out.1.choose_spec.2, HZ3.out.2⟩
          · have HZ2 := Lib.hid (HM10.out _ HZ1.out (fun h => f1 h.1))
            have z_ai : ¬ (a : Int) < (i : Int) := by omega
            have d_ai : decide (a < i) = false := by exact decide_eq_false (by omega)
            clear HM1 HM10 HZ1
            by_cases f2 : mid < en
            · by_cases e2 : en < b
              · skip
                have z_miden : (mid : Int) < (en : Int) := by omega
                have d_miden : decide (mid < en) = true := by exact decide_eq_true (by omega)
                have z_enb : (en : Int) < (b : Int) := by omega
                have d_enb : decide (en < b) = true := by exact decide_eq_true (by omega)
                go_wp2_with fail
                refine (HM2.out _ HZ2.out f2 e2).mono ?_
                rintro e w3 ⟨rfl, hz⟩
                have HZ3 := Lib.hid hz
                clear hz HM2 HM20 HZ2
                go_wp2_with fail
                go_end0
                exact ⟨rfl, _, HZ3.out.1.choose_spec.1, HZ3.out.1.choose_spec.2, HZ3.out.2⟩
              · have HZ3 := Lib.hid (HM20.out _ HZ2.out (fun h => e2 h.2))
                have z_miden : (mid : Int) < (en : Int) := by omega
                have d_miden : decide (mid < en) = true := by exact decide_eq_true (by omega)
                have z_enb : ¬ (en : Int) < (b : Int) := by omega
                have d_enb : decide (en < b) = false := by exact decide_eq_false (by omega)
                clear HM2 HM20 HZ2
                go_wp2_with fail
                go_end0
                exact ⟨rfl, _, HZ3.out.1.choose_spec.1, HZ3.out.1.choose_spec.2, HZ3.out.2⟩
            · have HZ3 := Lib.hid (HM20.out _ HZ2.out (fun h => f2 h.1))
              have z_miden : ¬ (mid : Int) < (en : Int) := by omega
              have d_miden : decide (mid < en) = false := by exact decide_eq_false (by omega)
              clear HM2 HM20 HZ2
              go_wp2_with fail
              go_end0
              exact ⟨rfl, _, HZ3.out.1.choose_spec.1, HZ3.out.1.choose_spec.2, HZ3.out.2⟩
      · have HZ1 := Lib.hid (HR0.out (fun h => f0 h.1))
        have z_im : ¬ (i : Int) < (m : Int) := by omega
        have d_im : decide (i < m) = false := by exact decide_eq_false (by omega)
        clear HR HR0
        by_cases f1 : a < i
        · by_cases e1 : i < mid
          · skip
            have z_ai : (a : Int) < (i : Int) := by omega
            have d_ai : decide (a < i) = true := by exact decide_eq_true (by omega)
            have z_imid : (i : Int) < (mid : Int) := by omega
            have d_imid : decide (i < mid) = true := by exact decide_eq_true (by omega)
            go_wp2_with fail
            refine (HM1.out _ HZ1.out f1 e1).mono ?_
            rintro e w2 ⟨rfl, hz⟩
            have HZ2 := Lib.hid hz
            clear hz HM1 HM10 HZ1
            by_cases f2 : mid < en
            · by_cases e2 : en < b
              · skip
                have z_miden : (mid : Int) < (en : Int) := by omega
                have d_miden : decide (mid < en) = true := by exact decide_eq_true (by omega)
                have z_enb : (en : Int) < (b : Int) := by omega
                have d_enb : decide (en < b) = true := by exact decide_eq_true (by omega)
                go_wp2_with fail
                refine (HM2.out _ HZ2.out f2 e2).mono ?_
                rintro e w3 ⟨rfl, hz⟩
                have HZ3 := Lib.hid hz
                clear hz HM2 HM20 HZ2
                go_wp2_with fail
                go_end0
                exact ⟨rfl, _, HZ3.out.1.choose_spec.1, HZ3.out.1.choose_spec.2, HZ3.out.2⟩
              · have HZ3 := Lib.hid (HM20.out _ HZ2.out (fun h => e2 h.2))
                have z_miden : (mid : Int) < (en : Int) := by omega
                have d_miden : decide (mid < en) = true := by exact decide_eq_true (by omega)
                have z_enb : ¬ (en : Int) < (b : Int) := by omega
                have d_enb : decide (en < b) = false := by exact decide_eq_false (by omega)
                clear HM2 HM20 HZ2
                go_wp2_with fail
                go_end0
                exact ⟨rfl, _, HZ3.out.1.choose_spec.1, HZ3.out.1.choose_spec.2, HZ3.out.2⟩
            · have HZ3 := Lib.hid (HM20.out _ HZ2.out (fun h => f2 h.1))
              have z_miden : ¬ (mid : Int) < (en : Int) := by omega
              have d_miden : decide (mid < en) = false := by exact decide_eq_false (by omega)
              clear HM2 HM20 HZ2
              go_wp2_with fail
              go_end0
              exact ⟨rfl, _, HZ3.out.1.choose_spec.1, HZ3.out.1.choose_spec.2, HZ3.out.2⟩
          · have HZ2 := Lib.hid (HM10.out _ HZ1.out (fun h => e1 h.2))
            have z_ai : (a : Int) < (i : Int) := by omega
            have d_ai : decide (a < i) = true := by exact decide_eq_true (by omega)
            have z_imid : ¬ (i : Int) < (mid : Int) := by omega
            have d_imid : decide (i < mid) = false := by exact decide_eq_false (by omega)
            clear HM1 HM10 HZ1
            by_cases f2 : mid < en
            · by_cases e2 : en < b
              · skip
                have z_miden : (mid : Int) < (en : Int) := by omega
                have d_miden : decide (mid < en) = true := by exact decide_eq_true (by omega)
                have z_enb : (en : Int) < (b : Int) := by omega
                have d_enb : decide (en < b) = true := by exact decide_eq_true (by omega)
                go_wp2_with fail
                refine (HM2.out _ HZ2.out f2 e2).mono ?_
                rintro e w3 ⟨rfl, hz⟩
                have HZ3 := Lib.hid hz
                clear hz HM2 HM20 HZ2
                go_wp2_with fail
                go_end0
                exact ⟨rfl, _, HZ3.out.1.choose_spec.1, HZ3.out.1.choose_spec.2, HZ3.out.2⟩
              · have HZ3 := Lib.hid (HM20.out _ HZ2.out (fun h => e2 h.2))
                have z_miden : (mid : Int) < (en : Int) := by omega
                have d_miden : decide (mid < en) = true := by exact decide_eq_true (by omega)
                have z_enb : ¬ (en : Int) < (b : Int) := by omega
                have d_enb : decide (en < b) = false := by exact decide_eq_false (by omega)
                clear HM2 HM20 HZ2
                go_wp2_with fail
                go_end0
                exact ⟨rfl, _, HZ3.out.1.choose_spec.1, HZ3.out.1.choose_spec.2, HZ3.out.2⟩
            · have HZ3 := Lib.hid (HM20.out _ HZ2.out (fun h => f2 h.1))
              have z_miden : ¬ (mid : Int) < (en : Int) := by omega
              have d_miden : decide (mid < en) = false := by exact decide_eq_false (by omega)
              clear HM2 HM20 HZ2
              go_wp2_with fail
              go_end0
              exact ⟨rfl, _, HZ3.out.1.choose_spec.1, HZ3.out.1.choose_spec.2, HZ3.out.2⟩
        · have HZ2 := Lib.hid (HM10.out _ HZ1.out (fun h => f1 h.1))
          have z_ai : ¬ (a : Int) < (i : Int) := by omega
          have d_ai : decide (a < i) = false := by exact decide_eq_false (by omega)
          clear HM1 HM10 HZ1
          by_cases f2 : mid < en
          · by_cases e2 : en < b
            · skip
              have z_miden : (mid : Int) < (en : Int) := by omega
              have d_miden : decide (mid < en) = true := by exact decide_eq_true (by omega)
              have z_enb : (en : Int) < (b : Int) := by omega
              have d_enb : decide (en < b) = true := by exact decide_eq_true (by omega)
              go_wp2_with fail
              refine (HM2.out _ HZ2.out f2 e2).mono ?_
              rintro e w3 ⟨rfl, hz⟩
              have HZ3 := Lib.hid hz
              clear hz HM2 HM20 HZ2
              go_wp2_with fail
              go_end0
              exact ⟨rfl, _, HZ3.out.1.choose_spec.1, HZ3.out.1.choose_spec.2, HZ3.out.2⟩
            · have HZ3 := Lib.hid (HM20.out _ HZ2.out (fun h => e2 h.2))
              have z_miden : (mid : Int) < (en : Int) := by omega
              have d_miden : decide (mid < en) = true := by exact decide_eq_true (by omega)
              have z_enb : ¬ (en : Int) < (b : Int) := by omega
              have d_enb : decide (en < b) = false := by exact decide_eq_false (by omega)
              clear HM2 HM20 HZ2
              go_wp2_with fail
              go_end0
              exact ⟨rfl, _, HZ3.out.1.choose_spec.1, HZ3.out.1.choose_spec.2, HZ3.out.2⟩
          · have HZ3 := Lib.hid (HM20.out _ HZ2.out (fun h => f2 h.1))
            have z_miden : ¬ (mid : Int) < (en : Int) := by omega
            have d_miden : decide (mid < en) = false := by exact decide_eq_false (by omega)
            clear HM2 HM20 HZ2
            go_wp2_with fail
            go_end0
            exact ⟨rfl, _, HZ3.out.1.choose_spec.1, HZ3.out.1.choose_spec.2, HZ3.out.2⟩
theorem SymM_all (B D g n cap : Nat) (hn : n ≤ 1000) : ∀ bound, SymC B D g n cap bound
  | 0 => fun P X Y S a m b w _ _ _ h4 hX hY _ _ _ _ => by
    have := List.length_pos_iff.2 hX
    omega
  | bound + 1 => fun P X Y S a m b w ha hma hb hk hX hY sX sY h hm => by
    have hx := List.length_pos_iff.2 hX
    have hy := List.length_pos_iff.2 hY
    by_cases h1 : X.length = 1
    · obtain ⟨x, rfl⟩ := List.length_eq_one_iff.1 h1
      exact SymM_left B D g n cap hn P Y S x a m b ha hma hb sY w h hm
    · by_cases h2 : Y.length = 1
      · obtain ⟨y, rfl⟩ := List.length_eq_one_iff.1 h2
        exact SymM_right B D g n cap hn P X S y a m b ha hma hb (by omega) sX w h hm
      · by_cases h3 : (a + b) / 2 < m
        · exact SymM_gt B D g n cap bound hn (SymM_all B D g n cap hn bound) P X Y S a m b _ ha hma hb (by omega) (by omega) (by omega) rfl h3 sX sY w h hm
        · exact SymM_le B D g n cap bound hn (SymM_all B D g n cap hn bound) P X Y S a m b _ ha hma hb (by omega) (by omega) (by omega) rfl h3 sX sY w h hm
end Go.Proofs.YtpanjldionaaiaaDoor
