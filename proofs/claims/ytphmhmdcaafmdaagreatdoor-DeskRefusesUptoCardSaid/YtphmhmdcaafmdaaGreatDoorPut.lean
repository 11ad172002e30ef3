/-
  slices.BinarySearchFunc over nodes, whatever the closure; the closure of tree.Put. No condition beyond short trees.
  tree.Put: a node put into a tree. Condition: a tree that passes tree.Check, its nodes and the new one each by themselves.
-/
import Derived.Test.YtphmhmdcaafmdaaGreatDoorNodesG
import Derived.Test.YtphmhmdcaafmdaaGreatDoorSame
import Derived.Test.YtphmhmdcaafmdaaGreatDoorTCheck
import Derived.Test.YtphmhmdcaafmdaaGreatDoorCopyS
import Derived.Deep.CutRange
import Derived.Deep.DeepCutAuto
namespace Go.Proofs.YtphmhmdcaafmdaaGreatDoor
set_option linter.all false
section
open Go.RowKit
set_option maxRecDepth 100000 in
set_option maxHeartbeats 4000000 in
theorem BSF_any (g : FuncId) (cb : Array Value) (eg : ∀ args w, (callFunc g args).run Tryz.prog w = .ok (.enter g args) w) (v : Value) (l : List NodeP) (s : ByteArray) (p : NodeP → Int) (w : World) (hl : NodesAt w v l) (hn : l.length ≤ 100000)
    (hp : ∀ (W : World) (x : NodeV), x.1 ∈ l → Below w.heap.size w W → Calls Tryz.prog g (#[.agg (nodeC x).toArray, .string s] ++ cb) W fun e w' => e = .returned (.int .i64 (p x.1)) ∧ Below W.heap.size W w')
    (r : Nat) (hr1 : r ≤ l.length) (hr2 : ∀ j (hj : j < l.length), j < r → p l[j] < 0) (hr3 : ∀ j (hj : j < l.length), r ≤ j → 0 ≤ p l[j]) (b : Bool) (hb1 : ∀ h : r < l.length, (p l[r] == 0) = b) (hb2 : ¬ r < l.length → b = false) :
    Calls Tryz.prog 81 #[v, .string s, .func (.func g) #[] cb] w fun e w' => e = .returned (.tuple #[.int .i64 (r : Int), .bool b]) ∧ Below w.heap.size w w' := by
  obtain ⟨xs, A, c, hx, rfl, hlc, hc, -, hr, hdx⟩ := hl
  have hxl : xs.length = l.length := by rw [← hx, List.length_map]
  unfold maxLen at hc
  have HX := Lib.hid hx
  have HR := Lib.hid hr
  have HDX := Lib.hid hdx
  have HP := Lib.hid hp
  have H2 := Lib.hid hr2
  have H3 := Lib.hid hr3
  have HB1 := Lib.hid hb1
  have HB2 := Lib.hid hb2
  have HXL := Lib.hid hxl
  clear hx hr hdx hp hr2 hr3 hxl hb1 hb2
  go_enter Tryz.func81, Tryz.ntmps81
  go_wp2_with fail
  go_loopg [9, 10] l.length (fun gg s9 s10 wr => ∃ lo hi : Nat, s9 = .int .i64 lo ∧ s10 = .int .i64 hi ∧ lo ≤ r ∧ r ≤ hi ∧ hi ≤ l.length ∧ hi - lo ≤ gg ∧ Hid (Below w.heap.size w wr))
  case atStart => exact ⟨0, l.length, rfl, rfl, Nat.zero_le _, hr1, Nat.le_refl _, by omega, Lib.hid (Below.refl _ _)⟩
  case round =>
    obtain ⟨lo, hi, rfl, rfl, hlo, hhi, hin, hg, HW⟩ := hrel
    by_cases hlt : lo < hi
    · have hm : (lo + hi) / 2 < l.length := by omega
      have hkx : (lo + hi) / 2 < xs.length := by rw [HXL.out]; exact hm
      obtain ⟨ad, rfl, hb, e0, e1, e2, e3, e4, e5, e6, e7, e8, e9, e10, e11⟩ := load_node (HR.out.below HW.out) hkx hm
      have hxk : xs[(lo + hi) / 2].1 = l[(lo + hi) / 2] := by have := HX.out; subst this; simp
      obtain ⟨Ax, cx, hde, -⟩ := HDX.out xs[(lo + hi) / 2] (List.getElem_mem _)
      have HCL := Lib.hid (HP.out wr xs[(lo + hi) / 2] (by rw [hxk]; exact List.getElem_mem _) HW.out)
      have hlow : Hid (p xs[(lo + hi) / 2].1 < 0 → (lo + hi) / 2 < r) := Lib.hid (fun h => by
        rcases Nat.lt_or_ge ((lo + hi) / 2) r with a | a
        · exact a
        · have := H3.out _ hm a
          rw [hxk] at h
          omega)
      have hhigh : Hid (¬ p xs[(lo + hi) / 2].1 < 0 → r ≤ (lo + hi) / 2) := Lib.hid (fun h => by
        rcases Nat.lt_or_ge ((lo + hi) / 2) r with a | a
        · have := H2.out _ hm a
          rw [hxk] at h
          omega
        · exact a)
      clear hxk
      generalize xs[(lo + hi) / 2] = x at *
      clear hkx
      obtain ⟨⟨np, nk, ns, nt, ⟨o1, o2, o3, o4, o5, o6, o7⟩, nd⟩, dv⟩ := x
      simp only at hde e0 e1 e2 e3 e4 e5 e6 e7 e8 e9 e10 e11 hlow hhigh
      subst hde
      unfold nodeC at HCL
      simp only at HCL
      by_cases hq : p ⟨np, nk, ns, nt, ⟨o1, o2, o3, o4, o5, o6, o7⟩, nd⟩ < 0
      · have hlr := hlow.out hq
        generalize p ⟨np, nk, ns, nt, ⟨o1, o2, o3, o4, o5, o6, o7⟩, nd⟩ = pv at *
        go_wp2_with (go_at_fn g; refine HCL.out.mono ?_; rintro e w' ⟨rfl, hb'⟩)
        go_roundg (hi - ((lo + hi) / 2 + 1))
        case measure => omega
        case rel => exact ⟨(lo + hi) / 2 + 1, hi, by rw [show ((lo : Int) + (hi : Int)) / 2 + 1 = (((lo + hi) / 2 + 1 : Nat) : Int) by omega], rfl, by omega, hhi, hin, Nat.le_refl _, Lib.hid (HW.out.trans (hb'.mono HW.out.size))⟩
      · have hlr := hhigh.out hq
        generalize p ⟨np, nk, ns, nt, ⟨o1, o2, o3, o4, o5, o6, o7⟩, nd⟩ = pv at *
        go_wp2_with (go_at_fn g; refine HCL.out.mono ?_; rintro e w' ⟨rfl, hb'⟩)
        go_roundg ((lo + hi) / 2 - lo)
        case measure => omega
        case rel => exact ⟨lo, (lo + hi) / 2, rfl, by rw [show ((lo : Int) + (hi : Int)) / 2 = (((lo + hi) / 2 : Nat) : Int) by omega], hlo, hlr, by omega, Nat.le_refl _, Lib.hid (HW.out.trans (hb'.mono HW.out.size))⟩
    · obtain rfl : lo = r := by omega
      obtain rfl : hi = lo := by omega
      by_cases hlt2 : hi < l.length
      · have hltz : (hi : Int) < (l.length : Int) := by omega
        have hkx : hi < xs.length := by rw [HXL.out]; exact hlt2
        obtain ⟨ad, rfl, hb, e0, e1, e2, e3, e4, e5, e6, e7, e8, e9, e10, e11⟩ := load_node (HR.out.below HW.out) hkx hlt2
        have hxk : xs[hi].1 = l[hi] := by have := HX.out; subst this; simp
        obtain ⟨Ax, cx, hde, -⟩ := HDX.out xs[hi] (List.getElem_mem _)
        have HCL := Lib.hid (HP.out wr xs[hi] (by rw [hxk]; exact List.getElem_mem _) HW.out)
        have HRES : Hid ((p xs[hi].1 == 0) = b) := Lib.hid (by rw [hxk]; exact HB1.out hlt2)
        clear hxk
        generalize xs[hi] = x at *
        clear hkx
        obtain ⟨⟨np, nk, ns, nt, ⟨o1, o2, o3, o4, o5, o6, o7⟩, nd⟩, dv⟩ := x
        simp only at hde e0 e1 e2 e3 e4 e5 e6 e7 e8 e9 e10 e11 HRES
        subst hde
        unfold nodeC at HCL
        simp only at HCL
        generalize p ⟨np, nk, ns, nt, ⟨o1, o2, o3, o4, o5, o6, o7⟩, nd⟩ = pv at *
        go_wp2_with (go_at_fn g; refine HCL.out.mono ?_; rintro e w' ⟨rfl, hb'⟩)
        go_ret2
        obtain rfl := HRES.out
        exact ⟨rfl, HW.out.trans (hb'.mono HW.out.size)⟩
      · have hltz : ¬ (hi : Int) < (l.length : Int) := by omega
        obtain rfl := HB2.out hlt2
        go_wp2_with fail
        go_ret2
        exact ⟨rfl, HW.out⟩
theorem eg_put : ∀ args w, (callFunc 82 args).run Tryz.prog w = .ok (.enter 82 args) w := enters_of Tryz.func82 (by kernel_rfl) rfl
set_option maxHeartbeats 1000000 in
theorem putC_any (x : NodeV) (s : List UInt8) (w : World) (hm : ML w) (hx : x.1.path.length ≤ 400) (hs : s.length ≤ 400) :
    Calls Tryz.prog 82 #[.agg (nodeC x).toArray, .string (bs s)] w fun e w' => e = .returned (.int .i64 (cmpP x.1.path s)) ∧ Below w.heap.size w w' := by
  obtain ⟨⟨np, nk, ns, nt, ⟨o1, o2, o3, o4, o5, o6, o7⟩, nd⟩, dv⟩ := x
  simp only at hx
  have hb : ∀ o, Below w.heap.size w (w.alloc o) := fun o => (Below.refl w.heap.size w).alloc (Nat.le_refl _) o
  have HC := Lib.hid (fun W (h : Below w.heap.size w W) => Compare_any np s W (by omega) (by omega) (hm.below h))
  have HB := Lib.hid hb
  clear hm hb
  unfold nodeC
  simp only
  generalize bs np = bp at *
  generalize bs s = bq at *
  generalize cmpP np s = cc at *
  go_enter Tryz.func82, Tryz.ntmps82
  go_wp2_with fail
  refine (HC.out _ (HB.out _)).mono ?_
  rintro e w1 ⟨rfl, b1⟩
  have B1 := Lib.hid ((HB.out _).trans (b1.mono (HB.out _).size))
  clear b1
  go_wp2_with fail
  go_ret
  exact ⟨rfl, B1.out⟩
end
section
open Go.RowKit
/-! ### plainly -/
def lowP (t : List NodeP) (p : List UInt8) : Nat := (t.takeWhile fun x => decide (cmpP x.path p < 0)).length
def hasAt (t : List NodeP) (p : List UInt8) : Bool := decide (∃ h : lowP t p < t.length, cmpP t[lowP t p].path p = 0)
def putP (t : List NodeP) (n : NodeP) : List NodeP := t.take (lowP t n.path) ++ n :: t.drop (if hasAt t n.path then lowP t n.path + 1 else lowP t n.path)
theorem lowP_le (t : List NodeP) (p : List UInt8) : lowP t p ≤ t.length := (List.takeWhile_sublist _).length_le
theorem lowP_lt {t : List NodeP} {p : List UInt8} {j : Nat} (hj : j < t.length) (h : j < lowP t p) : cmpP t[j].path p < 0 := by
  induction t generalizing j with
  | nil => simp at hj
  | cons x t ih =>
    unfold lowP at h
    rw [List.takeWhile_cons] at h
    split at h
    · next hx =>
      cases j with
      | zero => simpa using hx
      | succ j => exact ih (by simpa using hj) (by simpa [lowP] using h)
    · simp at h
theorem cmpP_trans_lt {a b c : List UInt8} (h1 : cmpP a b < 0) (h2 : cmpP b c ≤ 0) : cmpP a c < 0 := by
  have h3 : cmpP a c ≤ 0 := cmpL_le _ _ _ (by unfold cmpP at h1; omega) h2
  rcases Int.lt_or_eq_of_le h3 with h | h
  · exact h
  · have e : partsS a = partsS c := cmpL_zero h
    have : cmpP b a = -cmpP a b := cmpL_neg _ _
    have h4 : cmpP b c = cmpP b a := by unfold cmpP; rw [e]
    omega
theorem lowP_ge {t : List NodeP} {p : List UInt8} (hs : t.Pairwise (fun x y => cmpP x.path y.path < 0)) {j : Nat} (hj : j < t.length) (h : lowP t p ≤ j) : 0 ≤ cmpP t[j].path p := by
  induction t generalizing j with
  | nil => simp at hj
  | cons x t ih =>
    rw [List.pairwise_cons] at hs
    unfold lowP at h
    rw [List.takeWhile_cons] at h
    split at h
    · cases j with
      | zero => simp at h
      | succ j => exact ih hs.2 (by simpa using hj) (by simpa [lowP] using h)
    · next hx =>
      have hx : 0 ≤ cmpP x.path p := by simpa using hx
      cases j with
      | zero => exact hx
      | succ j =>
        have hj' : j < t.length := by simpa using hj
        have hlt := hs.1 t[j] (List.getElem_mem _)
        simp only [List.getElem_cons_succ]
        rcases Int.lt_or_le (cmpP t[j].path p) 0 with a | a
        · have := cmpP_trans_lt hlt (by omega : cmpP t[j].path p ≤ 0)
          omega
        · exact a
theorem putP_mem {t : List NodeP} {n x : NodeP} (h : x ∈ putP t n) : x = n ∨ x ∈ t := by
  unfold putP at h
  rcases List.mem_append.1 h with h | h
  · exact .inr (List.mem_of_mem_take h)
  · rcases List.mem_cons.1 h with h | h
    · exact .inl h
    · exact .inr (List.mem_of_mem_drop h)
theorem putP_length (t : List NodeP) (n : NodeP) : (putP t n).length ≤ t.length + 1 := by
  unfold putP
  have := lowP_le t n.path
  rw [List.length_append, List.length_cons, List.length_take, List.length_drop]
  split <;> omega
/-! ### memory -/
theorem NodesAt.drop {w : World} {A : Option Addr} {n c : Nat} {l : List NodeP} (h : NodesAt w (.slice A n c) l) (k : Nat) (hk : k ≤ n) : NodesAt w (.slice (if c = k then A else A.map (·.add (k * 12))) (n - k) (c - k)) (l.drop k) := by
  obtain ⟨xs, A', c', h0, h1, h2, h3, h4, h5, h6⟩ := h
  injection h1 with e1 e2 e3
  subst e1 e2 e3
  have hxl : xs.length = l.length := by rw [← h0, List.length_map]
  refine ⟨xs.drop k, _, _, by rw [List.map_drop, h0], by rw [List.length_drop], by rw [List.length_drop]; omega, by omega, ?_, ?_, fun x hx => h6 x (List.mem_of_mem_drop hx)⟩
  · intro e
    split at e
    · next hc => omega
    · rw [Option.map_eq_none_iff] at e; have := h4 e; omega
  · have h7 := h5.cut (k := k) hk h2
    have e : (xs.flatMap nodeC).drop (k * 12) = (xs.drop k).flatMap nodeC := by
      have h9 : xs.flatMap nodeC = (xs.take k).flatMap nodeC ++ (xs.drop k).flatMap nodeC := by rw [← List.flatMap_append, List.take_append_drop]
      rw [h9, List.drop_left']
      rw [flat_length nodeC_length, List.length_take]; congr 1; omega
    rw [e] at h7
    rw [List.length_drop]
    exact h7
/-- nodes appended -/
theorem NodesOwn.app {w w' : World} {base : Nat} {tv v' : Value} {l m : List NodeP} {xs ys : List NodeV} (hx : xs.map (·.1) = l) (hy : ys.map (·.1) = m) (hd : ∀ x ∈ xs, DataAt w base x.2 x.1.data) (hn : ∀ y ∈ ys, DataAt w base y.2 y.1.data) (h : w.ownsRow base 29 12 tv l.length (xs.flatMap nodeC)) (hg : w.grownBy w' tv.ownBlock)
    (ho : w'.ownsRow base 29 12 v' (l.length + m.length) (xs.flatMap nodeC ++ ys.flatMap nodeC)) : NodesOwn w' base v' (l ++ m) := by
  have hk : U8Kept w w' := U8Kept.grown hg (fun g e => by
    obtain ⟨_, C, fr, hC⟩ := own_typed h e
    exact ⟨C, _, fr, hC, by decide⟩)
  refine ⟨xs ++ ys, by rw [List.map_append, hx, hy], ?_, fun x hx2 => ?_⟩
  · rw [List.length_append, List.flatMap_append]
    exact ho
  · rcases List.mem_append.1 hx2 with h1 | h1
    · exact (hd x h1).kept hk
    · exact (hn x h1).kept hk
theorem one_nodes {w : World} {base : Nat} : ∀ {ys : List NodeV}, (∀ y ∈ ys, DataAt w base y.2 y.1.data) → ∀ u ∈ ys.flatMap nodeC, u.oneCell' = true := by
  intro ys h u hu
  obtain ⟨y, hy, hu⟩ := List.mem_flatMap.1 hu
  obtain ⟨A, c, e, _⟩ := h y hy
  exact one_node y (by rw [e]; rfl) u hu
theorem run_app {w : World} {base : Nat} {v u : Value} {l m : List NodeP} (ty : TypeId) (h : NodesOwn w base v l) (hm : NodesOwn w base u m) (hl : l.length + m.length ≤ 100000) (hb : base ≤ w.heap.size) :
    ∃ v' w', (Builtin.append_ #[23, 23] ty #[v, u]).run Tryz.prog w = .ok v' w' ∧ NodesOwn w' base v' (l ++ m) ∧ Below base w w' := by
  obtain ⟨xs, hx, hox, hdx⟩ := h
  obtain ⟨ys, hy, hoy, hdy⟩ := hm
  obtain ⟨A, c, rfl, h1, h2, h3, hr⟩ := ownsRow_read hoy
  obtain ⟨i9, hi9, hy0, hy1, hy2⟩ := info_parts nodeinfo
  obtain ⟨v', w', hrun, hown, hg, -⟩ := run_append_any (P := Tryz.prog) w base 23 ty 29 i9 _ 12 144 Tryz.underlying23 hi9 hy0 hy1 hy2 rfl (by omega) v l.length (xs.flatMap nodeC) hox w.heap.size A m.length c (ys.flatMap nodeC) hr (one_nodes hdy) (by simp only [maxLen]; omega) (by omega) hb
  exact ⟨v', w', hrun, NodesOwn.app hx hy hdx hdy hox hg hown, (Below.refl base w).grown hg hb (fun k e => (own_typed hox e).1)⟩
theorem wpList_app (w : World) {ops : Array Oper} {rest : List Oper} {o : Oper} {a : Act} {Q : Exit → Act → World → Prop} (hgd : o.guard = none) (s x : Operand)
    (ho : o.op = .call { callee := .builtin .append, args := #[s, x], argTypes := #[23, 23] })
    (base : Nat) (v u : Value) (l m : List NodeP) (hs : a.eval s = v) (hx : a.eval x = u) (h : NodesOwn w base v l) (hm : NodesOwn w base u m) (hl : l.length + m.length ≤ 100000) (hb : base ≤ w.heap.size)
    (hK : ∀ v' w', NodesOwn w' base v' (l ++ m) → Below base w w' → wpList Tryz.prog ops Q rest (a.put o.dst v') w') : wpList Tryz.prog ops Q (o :: rest) a w :=
  wpList_plain hgd fun _ hK' => by
    obtain ⟨v', w', hrun, h1, h2⟩ := run_app (ty := o.type) h hm hl hb
    unfold Oper.wp execOp
    simp only [ho, resolve, invoke, builtin, Sem.run_bind, Sem.run_pure, Result.andThen_ok, List.map_toArray, List.map_cons, List.map_nil, hs, hx, hrun]
    exact hK' _ _ (hK v' w' h1 h2)
/-- a node, read: its cells and its data's slice -/
theorem node_read {w : World} {A : Option Addr} {n c : Nat} {l : List NodeP} (h : NodesAt w (.slice A n c) l) {k : Nat} (hk : k < l.length) :
    ∃ (ad : Addr) (Ax : Option Addr) (cx : Nat), A = some ad ∧ ad.block < w.heap.size ∧ DataAt w 0 (.slice Ax l[k].data.length cx) l[k].data ∧
      w.cell? (ad.add (k * 12)) = some (.string (bs l[k].path)) ∧
      w.cell? ⟨(ad.add (k * 12)).block, (ad.add (k * 12)).off + 1, none⟩ = some (.int .i64 l[k].kind) ∧
      w.cell? ⟨(ad.add (k * 12)).block, (ad.add (k * 12)).off + 2, none⟩ = some (.int .i64 l[k].same) ∧
      w.cell? ⟨(ad.add (k * 12)).block, (ad.add (k * 12)).off + 3, none⟩ = some (.string (bs l[k].target)) ∧
      w.cell? ⟨(ad.add (k * 12)).block, (ad.add (k * 12)).off + 4, none⟩ = some (.int .i64 l[k].mt.mode) ∧
      w.cell? ⟨(ad.add (k * 12)).block, (ad.add (k * 12)).off + 5, none⟩ = some (.int .i64 l[k].mt.uid) ∧
      w.cell? ⟨(ad.add (k * 12)).block, (ad.add (k * 12)).off + 6, none⟩ = some (.int .i64 l[k].mt.gid) ∧
      w.cell? ⟨(ad.add (k * 12)).block, (ad.add (k * 12)).off + 7, none⟩ = some (.string (bs l[k].mt.user)) ∧
      w.cell? ⟨(ad.add (k * 12)).block, (ad.add (k * 12)).off + 8, none⟩ = some (.string (bs l[k].mt.group)) ∧
      w.cell? ⟨(ad.add (k * 12)).block, (ad.add (k * 12)).off + 9, none⟩ = some (.int .i64 l[k].mt.second) ∧
      w.cell? ⟨(ad.add (k * 12)).block, (ad.add (k * 12)).off + 10, none⟩ = some (.int .i64 l[k].mt.nano) ∧
      w.cell? ⟨(ad.add (k * 12)).block, (ad.add (k * 12)).off + 11, none⟩ = some (.slice Ax l[k].data.length cx) := by
  obtain ⟨xs, A', c', h0, h1, h2, h3, h4, h5, h6⟩ := h
  injection h1 with e1 e2 e3
  subst e1 e2 e3
  have hxl : xs.length = l.length := by rw [← h0, List.length_map]
  have hkx : k < xs.length := by omega
  obtain ⟨ad, e, hb, e0, e1, e2, e3, e4, e5, e6, e7, e8, e9, e10, e11⟩ := load_node h5 hkx hk
  have hxk : xs[k].1 = l[k] := by subst h0; simp
  have hd := h6 xs[k] (List.getElem_mem _)
  obtain ⟨Ax, cx, hde, -⟩ := id hd
  rw [hde] at hd e11
  rw [hxk] at hd e0 e1 e2 e3 e4 e5 e6 e7 e8 e9 e10 e11
  exact ⟨ad, Ax, cx, e, hb, hd, e0, e1, e2, e3, e4, e5, e6, e7, e8, e9, e10, e11⟩
/-! ### tree.Put -/
def PutPost (base : Nat) (l : List NodeP) (c : Int) (w : World) (e : Ending) (w' : World) : Prop :=
  (c = 0 ∧ ∃ tv, e = .returned (.tuple #[tv, .int .i64 0]) ∧ NodesOwn w' base tv l ∧ Below base w w') ∨ (c ≠ 0 ∧ e = .returned (.tuple #[.slice none 0 0, .int .i64 c]) ∧ Below base w w')
set_option maxRecDepth 100000 in
set_option maxHeartbeats 8000000 in
/-- up to the second check: what the walk hands on -/
theorem Put_any (v : Value) (t : List NodeP) (x : NodeV) (w : World) (hm : ML w) (hl : NodesAt w v t) (hok : ∀ y ∈ t, NodeOk y) (hx : NodeOk x.1) (hdx : DataAt w 0 x.2 x.1.data) (hch : chkT t = 0) (cc : Int) (hput : chkT (putP t x.1) = cc) :
    Calls Tryz.prog 42 #[v, .agg (nodeC x).toArray] w (PutPost w.heap.size (putP t x.1) cc w) := by
  have hlen := (chkT_all hch).1
  have hso := chk_sorted hch
  have hpl := putP_length t x.1
  have hpm : ∀ y ∈ putP t x.1, NodeOk y := fun y hy => by
    rcases putP_mem hy with rfl | h
    · exact hx
    · exact hok y h
  have HCK : Hid (∀ l W tv, (∀ y ∈ l, NodeOk y) → chkT l = 0 → Below w.heap.size w W → NodesAt W tv l → Calls Tryz.prog 37 #[tv] W fun e w' => e = .returned (.int .i64 0) ∧ Below W.heap.size W w') := Lib.hid (fun l W tv h1 h2 hb h3 => by
    have := TCheck_any tv l W (hm.below hb) h3 h1
    rw [h2] at this
    exact this)
  have HCP : Hid (∀ l W tv, (∀ y ∈ l, NodeOk y) → l.length ≤ 1000 → NodesAt W tv l → Calls Tryz.prog 77 #[tv] W fun e w' => ∃ cv, e = .returned cv ∧ NodesOwn w' W.heap.size cv l ∧ Below W.heap.size W w') := Lib.hid (fun l W tv h1 h2 h3 => Copy_any tv l W h3 h2 (fun y hy => by have := (h1 y hy).data.1; omega))
  have HBS : Hid (∀ W, Below w.heap.size w W → Calls Tryz.prog 81 #[v, .string (bs x.1.path), .func (.func 82) #[] #[]] W fun e w' => e = .returned (.tuple #[.int .i64 (lowP t x.1.path : Int), .bool (hasAt t x.1.path)]) ∧ Below W.heap.size W w') := Lib.hid (fun W hb =>
    BSF_any 82 #[] eg_put v t (bs x.1.path) (fun y => cmpP y.path x.1.path) W (hl.below hb) (by omega) (fun W2 y hy hb2 => putC_any y x.1.path W2 (hm.below (hb.trans (hb2.mono hb.size))) (hok y.1 hy).path.2 hx.path.2) (lowP t x.1.path) (lowP_le _ _) (fun j hj h => lowP_lt hj h) (fun j hj h => lowP_ge hso hj h) (hasAt t x.1.path)
      (fun h => by unfold hasAt; rw [Bool.eq_iff_iff]; simp [h]) (fun h => by unfold hasAt; exact decide_eq_false (fun ⟨a, _⟩ => h a)))
  have HOK := Lib.hid hok
  have HPM := Lib.hid hpm
  have HPUT := Lib.hid hput
  have HCK2 : Hid (∀ W tv, Below w.heap.size w W → NodesAt W tv (putP t x.1) → Calls Tryz.prog 37 #[tv] W fun e w' => e = .returned (.int .i64 cc) ∧ Below W.heap.size W w') := Lib.hid (fun W tv hb h3 => by
    have := TCheck_any tv _ W (hm.below hb) h3 hpm
    rw [hput] at this
    exact this)
  have HCH := Lib.hid hch
  have HNX := Lib.hid hx
  have HDX := Lib.hid hdx
  have HN := Lib.hid hl
  have hle := lowP_le t x.1.path
  have hPP : Hid (putP t x.1 = t.take (lowP t x.1.path) ++ x.1 :: t.drop (if hasAt t x.1.path then lowP t x.1.path + 1 else lowP t x.1.path)) := Lib.hid rfl
  have hhas : Hid (hasAt t x.1.path = true → lowP t x.1.path < t.length) := Lib.hid (fun h => by unfold hasAt at h; rw [decide_eq_true_eq] at h; exact h.1)
  obtain ⟨_, A, c, -, rfl, hlc, hc, -⟩ := hl
  unfold maxLen at hc
  clear hm hok hx hdx hch hput hso hpm
  generalize putP t x.1 = PP at *
  obtain ⟨⟨np, nk, ns, nt, ⟨o1, o2, o3, o4, o5, o6, o7⟩, nd⟩, dv⟩ := x
  simp only at HBS HNX HDX hPP hle hhas
  obtain ⟨Ax, cx, hde, -⟩ := HDX.out
  subst hde
  generalize hasAt t np = fnd at *
  generalize lowP t np = lo at *
  obtain ⟨W0, hW0⟩ : ∃ W0, W0 = w.alloc (.cells #[.string (bs np), .int .i64 nk, .int .i64 ns, .string (bs nt), .int .i64 o1, .int .i64 o2, .int .i64 o3, .string (bs o4), .string (bs o5), .int .i64 o6, .int .i64 o7, .slice Ax nd.length cx] 29) := ⟨_, rfl⟩
  have b0 : Below w.heap.size w W0 := by rw [hW0]; exact (Below.refl _ _).alloc (Nat.le_refl _) _
  have K0 : Blk W0 w.heap.size 29 (nodeC (⟨np, nk, ns, nt, ⟨o1, o2, o3, o4, o5, o6, o7⟩, nd⟩, .slice Ax nd.length cx)).toArray := by rw [hW0]; exact Blk.new _ _ _
  have B0 := Lib.hid b0
  have HK0 := Lib.hid K0
  clear b0 K0
  unfold nodeC
  go_enter Tryz.func42, Tryz.ntmps42
  go_upto_region 1 with fail
  rw [← hW0]
  clear hW0
  go_wp2_with fail
  refine (HCK.out t _ _ HOK.out HCH.out B0.out (HN.out.below B0.out)).mono ?_
  rintro e w1 ⟨rfl, b1⟩
  have B1 := Lib.hid (B0.out.trans (b1.mono B0.out.size))
  have HK1 := Lib.hid (HK0.out.below b1 HK0.out.lt)
  have k0 : w1.cell? ⟨w.heap.size, 0, none⟩ = some (.string (bs np)) := HK1.out.cell 0
  clear b1
  go_wp2_with fail
  refine (HBS.out _ B1.out).mono ?_
  rintro e w2 ⟨rfl, b2⟩
  have B2 := Lib.hid (B1.out.trans (b2.mono B1.out.size))
  have HK2 := Lib.hid (HK1.out.below b2 HK1.out.lt)
  have HTK := Lib.hid ((HN.out.below B2.out).take lo hle)
  have i1 : (0 : Int) ≤ (lo : Int) := by omega
  have i2 : (lo : Int) ≤ (c : Int) := by omega
  clear b2 k0
  go_wp2_with fail
  refine (HCP.out _ _ _ (fun y hy => HOK.out y (List.mem_of_mem_take hy)) (by rw [List.length_take]; omega) HTK.out).mono ?_
  rintro e w3 ⟨cv, rfl, hcv, b3⟩
  have hw23 := b3.size
  have HB23 := Lib.hid b3
  have B3 := Lib.hid (B2.out.trans (b3.mono B2.out.size))
  have HK3 := Lib.hid (HK2.out.below b3 HK2.out.lt)
  have HCV := Lib.hid hcv
  obtain ⟨_, A3, c3, -, hcve, -⟩ := hcv.at_
  rw [List.length_take, Nat.min_eq_left hle] at hcve
  subst hcve
  obtain ⟨d0, d1, d2, d3, d4, d5, d6, d7, d8, d9, d10, d11⟩ := HK3.out.node
  clear b3 hcv
  -- the new one, by itself, in a row
  obtain ⟨W4, hW4⟩ : ∃ W4, W4 = w3.alloc (.cells (nodeC (⟨np, nk, ns, nt, ⟨o1, o2, o3, o4, o5, o6, o7⟩, nd⟩, .slice Ax nd.length cx)).toArray 29) := ⟨_, rfl⟩
  have b4 : Below w3.heap.size w3 W4 := by rw [hW4]; exact (Below.refl _ _).alloc (Nat.le_refl _) _
  have HN4 : Hid (NodesAt W4 (.slice (some ⟨w3.heap.size, 0, none⟩) 1 1) [⟨np, nk, ns, nt, ⟨o1, o2, o3, o4, o5, o6, o7⟩, nd⟩]) := Lib.hid ⟨[(⟨np, nk, ns, nt, ⟨o1, o2, o3, o4, o5, o6, o7⟩, nd⟩, .slice Ax nd.length cx)], _, _, rfl, rfl, Nat.le_refl _, by simp [maxLen], (fun h => by cases h), by
    have h := new_row w3 29 (nodeC (⟨np, nk, ns, nt, ⟨o1, o2, o3, o4, o5, o6, o7⟩, nd⟩, .slice Ax nd.length cx)) 1 12 rfl
    rw [← hW4] at h
    have hz : W4.heap.size = w3.heap.size + 1 := by rw [hW4]; simp
    rw [hz]
    simpa using h, by
    intro y hy
    rw [List.mem_singleton] at hy
    subst hy
    exact HDX.out.below (B3.out.trans (b4.mono B3.out.size))⟩
  have hw34 := b4.size
  have HB24 := Lib.hid (HB23.out.trans (b4.mono HB23.out.size))
  have B4 := Lib.hid (B3.out.trans (b4.mono B3.out.size))
  have HCV4 := Lib.hid (HCV.out.below b4)
  clear b4
  unfold nodeC at hW4
  simp only at hW4
  go_wp2_with fail
  rw [← hW4]
  clear hW4 d0 d1 d2 d3 d4 d5 d6 d7 d8 d9 d10 d11
  refine (HCP.out _ _ _ (fun y hy => by rw [List.mem_singleton] at hy; rw [hy]; exact HNX.out) (by simp) HN4.out).mono ?_
  rintro e w5 ⟨uv, rfl, huv, b5⟩
  have B5 := Lib.hid (B4.out.trans (b5.mono B4.out.size))
  have HCV5 := Lib.hid (HCV4.out.below b5)
  have hle23 : w2.heap.size ≤ W4.heap.size := by omega
  have HUV5 := Lib.hid (huv.mono hle23)
  have hle5 : w2.heap.size ≤ w5.heap.size := Nat.le_trans hle23 b5.size
  have hlt1 : (t.take lo).length + [(⟨np, nk, ns, nt, ⟨o1, o2, o3, o4, o5, o6, o7⟩, nd⟩ : NodeP)].length ≤ 100000 := by rw [List.length_take]; simp; omega
  have HL1 := Lib.hid hlt1
  have hb25 : Below w2.heap.size w2 w5 := by
    have h1 : Below w2.heap.size w2 W4 := HB24.out
    exact h1.trans (b5.mono hle23)
  clear b5 huv hlt1 HCV HCV4 HN4
  have HLEN : Hid ((t.take lo ++ [(⟨np, nk, ns, nt, ⟨o1, o2, o3, o4, o5, o6, o7⟩, nd⟩ : NodeP)]).length = lo + 1) := Lib.hid (by rw [List.length_append, List.length_take, Nat.min_eq_left hle]; rfl)
  go_upto_if 32 with (at_builtin; refine wpList_app _ rfl (.tmp 27) (.tmp 30) rfl w2.heap.size _ _ _ _ rfl rfl HCV5.out HUV5.out HL1.out hle5 ?_; intro v6 w6 hv6 b6; obtain ⟨_, A6, c6, -, hv6e, hc61, hc62, -⟩ := hv6.at_; rw [HLEN.out] at hv6e; subst hv6e; have HV6 := Lib.hid hv6; have B6 := Lib.hid b6; clear hv6 b6)
  obtain ⟨r, hrd⟩ : ∃ r, r = if fnd then lo + 1 else lo := ⟨_, rfl⟩
  have hrt : fnd = true → (lo : Int) + 1 = (r : Int) := fun h => by rw [hrd, if_pos h]; omega
  have hrf : fnd = false → lo = r := fun h => by rw [hrd, h]; rfl
  have hrl : r ≤ t.length := by
    rw [hrd]
    split
    · next h => exact hhas.out h
    · exact hle
  have HPP : Hid (PP = t.take lo ++ ⟨np, nk, ns, nt, ⟨o1, o2, o3, o4, o5, o6, o7⟩, nd⟩ :: t.drop r) := Lib.hid (by rw [hPP.out, hrd])
  have HRT := Lib.hid hrt
  have HRF := Lib.hid hrf
  clear hrd hrt hrf hPP hhas
  go_cut [7] (fun s7 wx => s7 = .int .i64 r ∧ wx = w6)
  case first =>
    cases fnd with
    | true =>
      have HV := Lib.hid (HRT.out rfl)
      go_wp2_with fail
      go_meet
      case rel => exact ⟨by rw [← HV.out], rfl⟩
    | false =>
      have HV := Lib.hid (HRF.out rfl)
      go_wp2_with fail
      go_meet
      case rel => exact ⟨by rw [← HV.out], rfl⟩
  case rest =>
    obtain ⟨rfl, rfl⟩ := hcut
    have hb2w : Below w2.heap.size w2 wc := hb25.trans B6.out
    have b26 : Below w.heap.size w wc := B2.out.trans (hb2w.mono B2.out.size)
    have B26 := Lib.hid b26
    have hd0 := (HN.out.below b26).drop r hrl
    have hlt2 : (t.take lo ++ [(⟨np, nk, ns, nt, ⟨o1, o2, o3, o4, o5, o6, o7⟩, nd⟩ : NodeP)]).length + (t.drop r).length ≤ 100000 := by rw [List.length_append, List.length_take, List.length_drop]; simp; omega
    have HL2 := Lib.hid hlt2
    have hle6 : w2.heap.size ≤ wc.heap.size := hb2w.size
    have HB2W := Lib.hid hb2w
    have HOD : Hid (∀ y ∈ t.drop r, NodeOk y) := Lib.hid (fun y hy => HOK.out y (List.mem_of_mem_drop hy))
    have hld : (t.drop r).length ≤ 1000 := by rw [List.length_drop]; omega
    have HLD := Lib.hid hld
    have i3 : (0 : Int) ≤ (r : Int) := by omega
    have i4 : (r : Int) ≤ (t.length : Int) := by omega
    have i5 : (r : Int) ≤ (c : Int) := by omega
    have HEND : Hid (∀ W tv, NodesOwn W w2.heap.size tv (t.take lo ++ [⟨np, nk, ns, nt, ⟨o1, o2, o3, o4, o5, o6, o7⟩, nd⟩] ++ t.drop r) → NodesOwn W w.heap.size tv PP) := Lib.hid (fun W tv h => by
      rw [HPP.out]
      have e : t.take lo ++ [(⟨np, nk, ns, nt, ⟨o1, o2, o3, o4, o5, o6, o7⟩, nd⟩ : NodeP)] ++ t.drop r = t.take lo ++ ⟨np, nk, ns, nt, ⟨o1, o2, o3, o4, o5, o6, o7⟩, nd⟩ :: t.drop r := by simp
      rw [e] at h
      exact h.mono B2.out.size)
    clear b26 hlt2 hb2w hld hb25 hw23 hw34 hle23
    by_cases hcap : c = r
    · rw [if_pos hcap, show t.length - r = 0 by omega, show c - r = 0 by omega] at hd0
      have HD := Lib.hid hd0
      subst hcap
      clear hd0
      go_wp2_with fail
      refine (HCP.out _ _ _ HOD.out HLD.out HD.out).mono ?_
      rintro e w7 ⟨yv, rfl, hyv, b7⟩
      have HV7 := Lib.hid (HV6.out.below b7)
      have HY7 := Lib.hid (hyv.mono hle6)
      have HB27 := Lib.hid (HB2W.out.trans (b7.mono hle6))
      have hle7 : w2.heap.size ≤ w7.heap.size := HB27.out.size
      clear b7 hyv
      go_wp2_with (at_builtin; refine wpList_app _ rfl (.tmp 35) (.tmp 39) rfl w2.heap.size _ _ _ _ rfl rfl HV7.out HY7.out HL2.out hle7 ?_; intro v8 w8 hv8 b8; have HV8 := Lib.hid (HEND.out _ _ hv8); have B8 := Lib.hid (B2.out.trans ((HB27.out.trans b8).mono B2.out.size)); clear hv8 b8)
      refine (HCK2.out _ _ B8.out HV8.out.at_).mono ?_
      rintro e w9 ⟨rfl, b9⟩
      have B9 := Lib.hid (B8.out.trans (b9.mono B8.out.size))
      have HV9 := Lib.hid (HV8.out.below b9)
      clear b9
      by_cases h0 : cc = 0
      · subst h0
        go_wp2_with fail
        go_ret2
        exact .inl ⟨rfl, _, rfl, HV9.out, B9.out⟩
      · have q1 : (cc == 0) = false := by simp [h0]
        have q2 : (cc != 0) = true := by simp [h0]
        have HNZ := Lib.hid h0
        clear h0
        go_wp2_with fail
        go_ret2
        exact .inr ⟨HNZ.out, rfl, B9.out⟩
    · rw [if_neg hcap] at hd0
      have HD := Lib.hid hd0
      clear hd0
      go_wp2_with fail
      refine (HCP.out _ _ _ HOD.out HLD.out HD.out).mono ?_
      rintro e w7 ⟨yv, rfl, hyv, b7⟩
      have HV7 := Lib.hid (HV6.out.below b7)
      have HY7 := Lib.hid (hyv.mono hle6)
      have HB27 := Lib.hid (HB2W.out.trans (b7.mono hle6))
      have hle7 : w2.heap.size ≤ w7.heap.size := HB27.out.size
      clear b7 hyv
      go_wp2_with (at_builtin; refine wpList_app _ rfl (.tmp 35) (.tmp 39) rfl w2.heap.size _ _ _ _ rfl rfl HV7.out HY7.out HL2.out hle7 ?_; intro v8 w8 hv8 b8; have HV8 := Lib.hid (HEND.out _ _ hv8); have B8 := Lib.hid (B2.out.trans ((HB27.out.trans b8).mono B2.out.size)); clear hv8 b8)
      refine (HCK2.out _ _ B8.out HV8.out.at_).mono ?_
      rintro e w9 ⟨rfl, b9⟩
      have B9 := Lib.hid (B8.out.trans (b9.mono B8.out.size))
      have HV9 := Lib.hid (HV8.out.below b9)
      clear b9
      by_cases h0 : cc = 0
      · subst h0
        go_wp2_with fail
        go_ret2
        exact .inl ⟨rfl, _, rfl, HV9.out, B9.out⟩
      · have q1 : (cc == 0) = false := by simp [h0]
        have q2 : (cc != 0) = true := by simp [h0]
        have HNZ := Lib.hid h0
        clear h0
        go_wp2_with fail
        go_ret2
        exact .inr ⟨HNZ.out, rfl, B9.out⟩
end
end Go.Proofs.YtphmhmdcaafmdaaGreatDoor
