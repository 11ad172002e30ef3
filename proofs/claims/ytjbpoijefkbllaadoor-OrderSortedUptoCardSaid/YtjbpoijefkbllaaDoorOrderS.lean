/-
  order.Sort of at most 20 nodes; order.Depth of a tree; slices.Clone of nodes. Condition: nodes that may be.
-/
import Derived.Test.YtjbpoijefkbllaaDoorSortS
import Derived.Test.YtjbpoijefkbllaaDoorTCheck
import Derived.Test.YtjbpoijefkbllaaDoorCopyS
import Derived.Lib.SliceRun
import Derived.Lib.MinMax
namespace Go.Proofs.YtjbpoijefkbllaaDoor
open Go.RowKit

theorem ML.grown_ {w w' : World} {row : Option Nat} (h : ML w) (hg : w.grownBy w' row) (hne : some 0 ≠ row) : ML w' := by
  have hl := h.lt
  obtain ⟨m, hm⟩ := h
  refine ⟨m, ?_⟩
  simp only [World.cell?] at hm ⊢
  rw [hg.block _ hl hne]
  exact hm
theorem OSort_any (v : Value) (l : List NodeP) (w : World) (hm : ML w) (hl : NodesAt w v l) (hp : ∀ x ∈ l, x.path.length ≤ 400) (hd : ∀ x ∈ l, x.data.length ≤ 100000) (hlen : l.length ≤ 20) :
    Calls Tryd.prog 14 #[v] w fun e w' => ∃ tv, e = .returned tv ∧ (∃ m : List NodeP, m.Perm l ∧ m.Pairwise (fun x y => cmpP x.path y.path ≤ 0) ∧ NodesOwn w' w.heap.size tv m) ∧ Below w.heap.size w w' := by
  have HC := Lib.hid (Copy_any v l w hl (by omega) hd)
  have hml := hm.lt
  have HML := Lib.hid hm
  have HP := Lib.hid hp
  clear hl hm hp hd
  go_enter Tryd.func14, Tryd.ntmps14
  go_wp2_with fail
  refine HC.out.mono ?_
  rintro e w1 ⟨tv, rfl, htv, b1⟩
  have hbase : ∀ g, tv.ownBlock = some g → w.heap.size ≤ g := by
    obtain ⟨xs, -, hown, -⟩ := htv
    exact fun g e => (own_typed hown e).1
  have HS := Lib.hid (SortS_any tv l w.heap.size w1 (fun W hg => (HML.out.below b1).grown_ hg (fun e => by have := hbase _ e.symm; omega)) hml htv HP.out hlen)
  have HB := Lib.hid b1
  have HBA := Lib.hid hbase
  clear htv b1 hbase HC
  go_wp2_with fail
  refine HS.out.mono ?_
  rintro e w2 ⟨rfl, hm2, hg⟩
  have HM2 := Lib.hid hm2
  have HB2 := Lib.hid (HB.out.grown hg HB.out.size HBA.out)
  clear hm2 hg HS
  go_wp2_with fail
  go_ret
  exact ⟨_, rfl, HM2.out, HB2.out⟩
theorem ones_nodes {w : World} {base : Nat} : ∀ {ys : List NodeV}, (∀ y ∈ ys, DataAt w base y.2 y.1.data) → ∀ u ∈ ys.flatMap nodeC, u.oneCell' = true := by
  intro ys h u hu
  obtain ⟨y, hy, hu⟩ := List.mem_flatMap.1 hu
  obtain ⟨A, c, e, _⟩ := h y hy
  exact one_node y (by rw [e]; rfl) u hu
/-- a row of the call's own and more nodes: append, as one law for the walk -/
def AppPost (base : Nat) (l : List NodeP) (w : World) (v' : Value) (w' : World) : Prop := NodesOwn w' base v' l ∧ Below base w w'
set_option maxRecDepth 100000 in
theorem CloneN_any (v : Value) (l : List NodeP) (w : World) (hl : NodesAt w v l) (hn : l.length ≤ 1000) :
    Calls Tryd.prog 10 #[v] w fun e w' => ∃ tv, e = .returned tv ∧ (∃ xs : List NodeV, xs.map (·.1) = l ∧ w'.ownsRow w.heap.size 31 12 tv l.length (xs.flatMap nodeC) ∧ ∀ x ∈ xs, DataAt w' 0 x.2 x.1.data) ∧ Below w.heap.size w w' := by
  obtain ⟨xs, A, c, hx, rfl, hlc, hc, hA, hr, hdat⟩ := hl
  unfold maxLen at hc
  obtain ⟨i9, hi9, hy0, hy1, hy2⟩ := info_parts nodeinfo
  have q22 : ∀ (w : World) (a : Option Addr) (n c n' c' : Nat), (binOp .eql 24 (.slice a n c) (.slice none n' c')).run Tryd.prog w = .ok (.bool a.isNone) w := fun w a n c n' c' => Lib.run_eql_slice_nil w _ _ a n c n' c' Tryd.underlying24
  rcases A with _ | ad
  · obtain rfl := hA rfl
    obtain rfl : l = [] := List.eq_nil_of_length_eq_zero (by omega)
    simp only [List.length_nil]
    clear hx hdat hr hA
    go_enter Tryd.func10, Tryd.ntmps10
    go_wp2_with fail
    go_ret
    exact ⟨_, rfl, ⟨[], rfl, World.ownsRow_nil _ _ _ _, by simp⟩, Below.refl _ _⟩
  · have HX := Lib.hid hx
    have HR := Lib.hid hr
    have HD := Lib.hid hdat
    clear hx hr hdat hA
    go_enter Tryd.func10, Tryd.ntmps10
    go_wp2_with (at_builtin; refine wpList_append_any _ rfl (.tmp 5) (.tmp 6) _ rfl w.heap.size 31 i9 _ 12 144 Tryd.underlying24 hi9 hy0 hy1 hy2 rfl (by omega) _ 0 [] rfl (World.ownsRow_made w #[] 0 (Nat.le_refl _) (Nat.zero_le _) rfl) w.heap.size (some ad) l.length c (xs.flatMap nodeC) rfl (HR.out.below ((Below.refl _ _).alloc (Nat.le_refl _) _)) (ones_nodes HD.out) (by simp only [maxLen]; omega) (by omega) (by simp) ?_; intro v9 w9 hown9 hg9 _; have HO9 := Lib.hid hown9; have HG9 := Lib.hid hg9; clear hown9 hg9)
    go_ret
    have hB := ((Below.refl w.heap.size w).alloc (Nat.le_refl _) (.cells #[] 31)).grown HG9.out (by simp) (fun k hk => by have h : some w.heap.size = some k := hk; injection h with h; omega)
    refine ⟨_, rfl, ⟨xs, HX.out, by simpa using HO9.out, fun x hx => (HD.out x hx).below hB⟩, hB⟩
theorem node_read_ {w : World} {A : Option Addr} {n c : Nat} {l : List NodeP} (h : NodesAt w (.slice A n c) l) {k : Nat} (hk : k < l.length) :
    ∃ (ad : Addr) (Ax : Option Addr) (cx : Nat), A = some ad ∧ ad.block < w.heap.size ∧ DataAt w 0 (.slice Ax l[k].data.length cx) l[k].data ∧
      w.cell? (ad.add (k * 12)) = some (.string (bs l[k].path)) ∧
      w.cell? ⟨(ad.add (k * 12)).block, (ad.add (k * 12)).off + 1, none⟩ = some (.int .i64 l[k].kind) ∧
      w.cell? ⟨(ad.add (k * 12)).block, (ad.add (k * 12)).off + 2, none⟩ = some (.int .i64 l[k].same) ∧
      w.cell? ⟨(ad.add (k * 12)).block, (ad.add (k * 12)).off + 3, none⟩ = some (.string (bs l[k].target)) ∧
      w.cell? ⟨(ad.add (k * 12)).block, (ad.add (k * 12)).off + 4, none⟩ = some (.int .i64 l[k].mt.mode) ∧
      w.cell? ⟨(ad.add (k * 12)).block, (ad.add (k * 12)).off + 5, none⟩ = some (.int .i64 l[k].mt.uid) ∧
      w.cell? ⟨(ad.add (k * 12)).block, (ad.add (k * 12)).off + 6, none⟩ = some (.int .i64 l[k].mt.gid) ∧
      w.cell? ⟨(ad.add (k * 12)).block, (ad.add (k * 12)).off + 7, none⟩ = some (.string (bs l[k].mt.user)) ∧
      w.cell? ⟨(ad.add (k * 12)).block, (ad.add (k * 12)).off + 8, none⟩ = some (.string (bs l[k].mt.group)) ∧
      w.cell? ⟨(ad.add (k * 12)).block, (ad.add (k * 12)).off + 9, none⟩ = some (.int .i64 l[k].mt.second) ∧
      w.cell? ⟨(ad.add (k * 12)).block, (ad.add (k * 12)).off + 10, none⟩ = some (.int .i64 l[k].mt.nano) ∧
      w.cell? ⟨(ad.add (k * 12)).block, (ad.add (k * 12)).off + 11, none⟩ = some (.slice Ax l[k].data.length cx) := by
  obtain ⟨xs, A', c', h0, h1, h2, h3, h4, h5, h6⟩ := h
  injection h1 with e1 e2 e3
  subst e1 e2 e3
  have hxl : xs.length = l.length := by rw [← h0, List.length_map]
  have hkx : k < xs.length := by omega
  obtain ⟨ad, e, hb, e0, e1, e2, e3, e4, e5, e6, e7, e8, e9, e10, e11⟩ := load_node h5 hkx hk
  have hxk : xs[k].1 = l[k] := by subst h0; simp
  have hd := h6 xs[k] (List.getElem_mem _)
  obtain ⟨Ax, cx, hde, -⟩ := id hd
  rw [hde] at hd e11
  rw [hxk] at hd e0 e1 e2 e3 e4 e5 e6 e7 e8 e9 e10 e11
  exact ⟨ad, Ax, cx, e, hb, hd, e0, e1, e2, e3, e4, e5, e6, e7, e8, e9, e10, e11⟩

/-! ### tree.Put -/
def PutPost (base : Nat) (l : List NodeP) (c : Int) (w : World) (e : Ending) (w' : World) : Prop :=
  (c = 0 ∧ ∃ tv, e = .returned (.tuple #[tv, .int .i64 0]) ∧ NodesOwn w' base tv l ∧ Below base w w') ∨ (c ≠ 0 ∧ e = .returned (.tuple #[.slice none 0 0, .int .i64 c]) ∧ Below base w w')
set_option maxRecDepth 100000 in
set_option maxHeartbeats 8000000 in
/-- up to the second check: what the walk hands on -/
def depthP (t : List NodeP) : Int := t.foldl (fun m x => max m ((partsS x.path).length : Int)) 0
theorem depthP_take {t : List NodeP} {k : Nat} (hk : k < t.length) : depthP (t.take (k + 1)) = max (depthP (t.take k)) ((partsS t[k].path).length : Int) := by
  unfold depthP
  rw [List.take_succ_eq_append_getElem hk, List.foldl_append]
  rfl
set_option maxRecDepth 100000 in
set_option maxHeartbeats 4000000 in
theorem Depth_any (v : Value) (t : List NodeP) (w : World) (hm : ML w) (hl : NodesAt w v t) (hok : ∀ y ∈ t, NodeOk y) (hch : chkT t = 0) :
    Calls Tryd.prog 12 #[v] w fun e w' => e = .returned (.tuple #[.int .i64 (depthP t), .int .i64 0]) ∧ Below w.heap.size w w' := by
  have hlen := (chkT_all hch).1
  have HCK := Lib.hid (TCheck_any v t w hm hl hok)
  rw [hch] at HCK
  have HML := Lib.hid (fun W (hb : Below w.heap.size w W) => hm.below hb)
  have HOK := Lib.hid hok
  have HN := Lib.hid hl
  obtain ⟨_, A, c, -, rfl, hlc, hc, -⟩ := hl
  unfold maxLen at hc
  clear hm hok hch
  go_enter Tryd.func12, Tryd.ntmps12
  go_wp2_with fail
  refine HCK.out.mono ?_
  rintro e w1 ⟨rfl, b1⟩
  have H0 := Lib.hid b1
  clear b1
  go_wp2_with fail
  go_loopg [5, 15] t.length (fun gg s5 s15 wr => ∃ k : Nat, k ≤ t.length ∧ t.length - k ≤ gg ∧ s15 = .int .i64 k ∧ s5 = .int .i64 (depthP (t.take k)) ∧ Hid (Below w.heap.size w wr))
  case atStart => exact ⟨0, Nat.zero_le _, by omega, rfl, rfl, H0⟩
  case round =>
    obtain ⟨k, hk, hg, rfl, rfl, HS⟩ := hrel
    by_cases hlt : k < t.length
    · have hltz : (k : Int) < (t.length : Int) := by omega
      obtain ⟨ad, Ax, cx, rfl, hb, hdx, e0, e1, e2, e3, e4, e5, e6, e7, e8, e9, e10, e11⟩ := node_read_ (HN.out.below HS.out) hlt
      have hpl := (HOK.out _ (List.getElem_mem hlt)).path.2
      have HTK := Lib.hid (depthP_take hlt)
      obtain ⟨x, hx⟩ : ∃ x, x = t[k] := ⟨_, rfl⟩
      rw [← hx] at hdx hpl HTK e0 e1 e2 e3 e4 e5 e6 e7 e8 e9 e10 e11
      clear hx hdx
      obtain ⟨np, nk, ns, nt, ⟨o1, o2, o3, o4, o5, o6, o7⟩, nd⟩ := x
      simp only at hpl HTK e0 e1 e2 e3 e4 e5 e6 e7 e8 e9 e10 e11
      obtain ⟨W2, hW2⟩ : ∃ W2, W2 = wr.alloc (.cells #[.string (bs np), .int .i64 nk, .int .i64 ns, .string (bs nt), .int .i64 o1, .int .i64 o2, .int .i64 o3, .string (bs o4), .string (bs o5), .int .i64 o6, .int .i64 o7, .slice Ax nd.length cx] 31) := ⟨_, rfl⟩
      have b2 : Below wr.heap.size wr W2 := by rw [hW2]; exact (Below.refl _ _).alloc (Nat.le_refl _) _
      have c0 : W2.cell? ⟨wr.heap.size, 0, none⟩ = some (.string (bs np)) := by rw [hW2]; exact (Blk.new wr 31 _).cell 0
      have HS2 := Lib.hid (HS.out.trans (b2.mono HS.out.size))
      have HPT := Lib.hid (Parts_any np W2 (by omega) (HML.out _ HS2.out))
      clear b2
      go_upto_region 8 with fail
      rw [← hW2]
      clear hW2 e0 e1 e2 e3 e4 e5 e6 e7 e8 e9 e10 e11
      generalize depthP (t.take k) = D at *
      go_wp2_with fail
      refine HPT.out.mono ?_
      rintro e w3 ⟨pv, rfl, hpv, b3⟩
      have HS3 := Lib.hid (HS2.out.trans (b3.mono HS2.out.size))
      obtain ⟨A3, c3, rfl, h31, h32, -⟩ := hpv
      unfold maxLen at h32
      clear b3 HPT
      generalize (partsS np).length = P at *
      go_wp2_with fail
      go_roundg (t.length - (k + 1))
      case measure => omega
      case rel => exact ⟨k + 1, by omega, by omega, by go_num, by rw [HTK.out], HS3⟩
    · obtain rfl : k = t.length := by omega
      rw [List.take_length]
      go_wp2_with fail
      go_ret2
      exact ⟨rfl, HS.out⟩
end Go.Proofs.YtjbpoijefkbllaaDoor
