/-
  order.Names: what is in a directory; slices.IsSorted over strings. Condition: a tree that passes tree.Check, its nodes each by themselves.
  slices.IsSorted over strings that are sorted; slices.Equal over strings. No condition beyond short rows.
  The names in a tree's directories, plainly: sorted, found, all nodes once. No program in sight, no condition.
-/
import Derived.Test.YtngkfelhlabloaaDoorTCheck
import Derived.Test.YtngkfelhlabloaaDoorPut
import Derived.Test.YtngkfelhlabloaaDoorTreeSt
import Derived.Deep.QuietTactic
import Derived.BigQuiet
import Derived.Test.YtngkfelhlabloaaDoorNear
import Derived.Test.YtngkfelhlabloaaDoorRemove
namespace Go.Proofs.YtngkfelhlabloaaDoor
section
open Go.RowKit

theorem Base_of (p : List UInt8) (hs : p.length < 4611686018427387000) (w : World) :
    Calls Tryd.prog 62 #[.string (bs p)] w fun e w' => e = .returned (.string (bs (baseP p))) ∧ w = w' := by
  rcases cutLast p with h | ⟨a, b, rfl, h⟩
  · rw [baseP_none h]; exact Base_none p (by omega) h w
  · rw [baseP_some h]; exact Base_some a b (by simp at hs; omega) h w
def inDir (dir : List UInt8) (x : NodeP) : Bool := upP x.path == dir
def namesP (t : List NodeP) (dir : List UInt8) : List (List UInt8) := (t.filter (inDir dir)).map fun x => baseP x.path
theorem namesP_length (t : List NodeP) (dir : List UInt8) : (namesP t dir).length ≤ t.length := by unfold namesP; rw [List.length_map]; exact List.length_filter_le _ _
theorem namesP_in {t : List NodeP} {dir : List UInt8} {k : Nat} (hk : k < t.length) (h : upP t[k].path = dir) : namesP (t.take (k + 1)) dir = namesP (t.take k) dir ++ [baseP t[k].path] := by
  unfold namesP
  rw [List.take_succ_eq_append_getElem hk, List.filter_append, List.map_append]
  simp [inDir, h]
theorem namesP_out {t : List NodeP} {dir : List UInt8} {k : Nat} (hk : k < t.length) (h : upP t[k].path ≠ dir) : namesP (t.take (k + 1)) dir = namesP (t.take k) dir := by
  unfold namesP
  rw [List.take_succ_eq_append_getElem hk, List.filter_append, List.map_append]
  simp [inDir, h]
def OnSt (w : World) (t : List NodeP) (dir : List UInt8) (k : Nat) (v : Value) (W : World) : Prop := Below w.heap.size w W ∧ DirsOwn W w.heap.size v (namesP (t.take k) dir)
theorem OnSt.below {w W W' : World} {t : List NodeP} {dir : List UInt8} {k : Nat} {v : Value} (h : OnSt w t dir k v W) (hb : Below W.heap.size W W') : OnSt w t dir k v W' := ⟨h.1.trans (hb.mono h.1.size), ownsRow_below h.2 hb⟩
/-- may the names of it be asked for? -/
def dirIn (t : List NodeP) (dir : List UInt8) : Prop := dir = [] ∨ ∃ (i : Nat) (hi : i < t.length), findP t dir = some i ∧ t[i].kind = 2
set_option maxRecDepth 100000 in
set_option maxHeartbeats 8000000 in
theorem ONames_any (v : Value) (t : List NodeP) (dir : List UInt8) (w : World) (hm : ML w) (hl : NodesAt w v t) (hok : ∀ y ∈ t, NodeOk y) (hch : chkT t = 0) (hd : dirIn t dir) :
    Calls Tryd.prog 25 #[v, .string (bs dir)] w fun e w' => ∃ nv, e = .returned (.tuple #[nv, .int .i64 0]) ∧ DirsOwn w' w.heap.size nv (namesP t dir) ∧ Below w.heap.size w w' := by
  have hlen := (chkT_all hch).1
  have HCK := Lib.hid (TCheck_any v t w hm hl hok)
  rw [hch] at HCK
  have HFI := Lib.hid (fun W (hb : Below w.heap.size w W) => Find_any v t dir W (hl.below hb))
  have HOK := Lib.hid hok
  obtain ⟨i9, hi9, hy0, hy1, hy2⟩ := info_parts strinfo
  have HN := Lib.hid hl
  obtain ⟨_, A, c, -, rfl, hlc, hc, -⟩ := hl
  unfold maxLen at hc
  clear hm hok hch
  go_enter Tryd.func25, Tryd.ntmps25
  go_wp2_with fail
  refine HCK.out.mono ?_
  rintro e w1 ⟨rfl, b1⟩
  have B1 := Lib.hid b1
  clear b1
  go_upto_if 18 with fail
  go_cut [7, 8] (fun _ _ wx => Hid (Below w.heap.size w wx))
  case first =>
    by_cases h0 : dir = []
    · have t1 : (bs dir).toList = [] := by rw [bs_toList]; exact h0
      have t2 : (bs dir).toList.isEmpty = true := by rw [t1]; rfl
      clear h0 hd
      simp only [t2, Bool.not_true]
      go_wp2_with fail
      go_meet
      case rel => exact B1
    · have t1 : ¬ (bs dir).toList = [] := by rw [bs_toList]; exact h0
      have t2 : (bs dir).toList.isEmpty = false := by rw [bs_toList]; cases dir with | nil => exact absurd rfl h0 | cons => rfl
      rcases hd with h | ⟨i, hi, hf, hk⟩
      · exact absurd h h0
      rw [hf] at HFI
      unfold findR at HFI
      clear hf h0
      have i1 : (i : Int) < t.length := by omega
      have i0 : (0 : Int) ≤ (i : Int) := by omega
      simp only [t2, Bool.not_false]
      go_wp2_with fail
      refine (HFI.out _ B1.out).mono ?_
      rintro e w2 ⟨rfl, b2⟩
      have B2 := Lib.hid (B1.out.trans (b2.mono B1.out.size))
      clear b2
      obtain ⟨ad, Ax, cx, rfl, _, -, -, e1, -⟩ := node_read (HN.out.below B2.out) hi
      rw [hk] at e1
      clear hk
      go_wp2_with fail
      go_meet
      case rel => exact B2
  case rest =>
    have HW := hcut
    have H0 : Hid (OnSt w t dir 0 (.slice none 0 0) wc) := Lib.hid ⟨HW.out, by simp only [List.take_zero]; exact World.ownsRow_nil _ _ _ _⟩
    clear hd
    go_wp2_with fail
    go_loopg [9, 36] t.length (fun gg s9 s36 wr => ∃ k : Nat, k ≤ t.length ∧ t.length - k ≤ gg ∧ s36 = .int .i64 k ∧ Hid (OnSt w t dir k s9 wr))
    case atStart => exact ⟨0, Nat.zero_le _, by omega, rfl, H0⟩
    case round =>
      obtain ⟨k, hk, hg, rfl, HS⟩ := hrel
      by_cases hlt : k < t.length
      · have hltz : (k : Int) < (t.length : Int) := by omega
        obtain ⟨ad, Ax, cx, rfl, hb, hdx, e0, e1, e2, e3, e4, e5, e6, e7, e8, e9, e10, e11⟩ := node_read (HN.out.below HS.out.1) hlt
        have hpl := (HOK.out _ (List.getElem_mem hlt)).path.2
        have HIN := Lib.hid (namesP_in (dir := dir) hlt)
        have HOUT := Lib.hid (namesP_out (dir := dir) hlt)
        obtain ⟨x, hx⟩ : ∃ x, x = t[k] := ⟨_, rfl⟩
        rw [← hx] at hdx hpl HIN HOUT e0 e1 e2 e3 e4 e5 e6 e7 e8 e9 e10 e11
        clear hx hdx
        obtain ⟨np, nk, ns, nt, ⟨o1, o2, o3, o4, o5, o6, o7⟩, nd⟩ := x
        simp only at hpl HIN HOUT e0 e1 e2 e3 e4 e5 e6 e7 e8 e9 e10 e11
        obtain ⟨W2, hW2⟩ : ∃ W2, W2 = wr.alloc (.cells #[.string (bs np), .int .i64 nk, .int .i64 ns, .string (bs nt), .int .i64 o1, .int .i64 o2, .int .i64 o3, .string (bs o4), .string (bs o5), .int .i64 o6, .int .i64 o7, .slice Ax nd.length cx] 46) := ⟨_, rfl⟩
        have b2 : Below wr.heap.size wr W2 := by rw [hW2]; exact (Below.refl _ _).alloc (Nat.le_refl _) _
        have c0 : W2.cell? ⟨wr.heap.size, 0, none⟩ = some (.string (bs np)) := by rw [hW2]; exact (Blk.new wr 46 _).cell 0
        have HS2 := Lib.hid (HS.out.below b2)
        have HUP := Lib.hid (fun W => Up_any np (by omega) W)
        have HBA := Lib.hid (fun W => Base_of np (by omega) W)
        have hnl := Nat.le_trans (namesP_length (t.take k) dir) (by rw [List.length_take]; exact Nat.min_le_left _ _ : (t.take k).length ≤ k)
        clear b2
        go_upto_region 14 with fail
        rw [← hW2]
        clear hW2 e0 e1 e2 e3 e4 e5 e6 e7 e8 e9 e10 e11
        by_cases hu : upP np = dir
        · have HTK := Lib.hid (HIN.out hu)
          subst hu
          obtain ⟨At, ct, htv, -⟩ := ownsRow_read HS2.out.2
          subst htv
          have HO := Lib.hid HS2.out.2
          have hsz : w.heap.size ≤ W2.heap.size := HS2.out.1.size
          generalize namesP (t.take k) (upP np) = L at *
          go_wp2_with fail
          refine (HUP.out _).mono ?_
          rintro e w' ⟨rfl, rfl⟩
          go_wp2_with fail
          refine (HBA.out _).mono ?_
          rintro e w' ⟨rfl, rfl⟩
          go_wp2_with (at_builtin; refine wpList_append_any _ rfl (.tmp 45) (.tmp 49) _ rfl w.heap.size 9 i9 _ 1 16 Tryd.underlying23 hi9 hy0 hy1 hy2 rfl (by omega) _ L.length (L.map fun d => .string (bs d)) rfl (ownsRow_below HO.out ((Below.refl _ _).alloc (Nat.le_refl _) _)) (W2.heap.size + 1) (some ⟨W2.heap.size, 0, none⟩) 1 1 [.string (bs (baseP np))] rfl (new_row W2 9 [.string (bs (baseP np))] 1 1 rfl) (by simp [Value.oneCell']) (by simp only [maxLen]; omega) (by omega) (by simp; omega) ?_; intro v9 w9 hown9 hg9 hat9; obtain ⟨A9, c9, hv9, -⟩ := ownsRow_read hown9; subst hv9; have HO9 := Lib.hid hown9; have HG9 := Lib.hid hg9; clear hown9 hg9 hat9)
          go_roundg (t.length - (k + 1))
          case measure => omega
          case rel =>
            have bA := (Below.refl W2.heap.size W2).alloc (Nat.le_refl _) (.cells #[.string (bs (baseP np))] 9)
            have hO6 := ownsRow_below HO.out bA
            refine ⟨k + 1, by omega, by omega, by go_num, Lib.hid ⟨(HS2.out.1.trans (bA.mono hsz)).grown HG9.out (Nat.le_trans hsz bA.size) (fun g hg => (own_typed hO6 hg).1), ?_⟩⟩
            rw [HTK.out]
            unfold DirsOwn
            rw [List.length_append, List.map_append]
            exact HO9.out
        · have HTK := Lib.hid (HOUT.out hu)
          have q1 : ((bs (upP np)).toList == (bs dir).toList) = false := by rw [bs_beq]; simp [hu]
          clear hu
          go_wp2_with fail
          refine (HUP.out _).mono ?_
          rintro e w' ⟨rfl, rfl⟩
          go_wp2_with fail
          go_roundg (t.length - (k + 1))
          case measure => omega
          case rel => exact ⟨k + 1, by omega, by omega, by go_num, Lib.hid ⟨HS2.out.1, by rw [HTK.out]; exact HS2.out.2⟩⟩
      · obtain rfl : k = t.length := by omega
        obtain ⟨At, ct, htv, -⟩ := ownsRow_read HS.out.2
        subst htv
        have HF : Hid (t.take t.length = t) := Lib.hid (List.take_length)
        go_wp2_with fail
        go_ret2
        refine ⟨_, rfl, ?_, HS.out.1⟩
        have h := HS.out.2
        rw [HF.out] at h
        rw [HF.out]
        exact h
end
section
open Go.RowKit

set_option maxHeartbeats 400000 in
theorem Less_any (a b : List UInt8) (w : World) :
    Calls Tryd.prog 63 #[.string (bs a), .string (bs b)] w fun e w' => e = .returned (.bool (Op.bytesLess a b)) ∧ w = w' := by
  have t1 := bs_toList a
  have t2 := bs_toList b
  cases h : Op.bytesLess a b with
  | true =>
    have u1 : Op.bytesLess (bs a).toList (bs b).toList = true := by rw [t1, t2]; exact h
    clear t1 t2 h
    go_enter Tryd.func63, Tryd.ntmps63
    go_wp2
    go_ret
    exact ⟨rfl, rfl⟩
  | false =>
    have u1 : Op.bytesLess (bs a).toList (bs b).toList = false := by rw [t1, t2]; exact h
    clear t1 t2 h
    go_enter Tryd.func63, Tryd.ntmps63
    go_wp2
    go_ret
    exact ⟨rfl, rfl⟩
set_option maxRecDepth 100000 in
set_option maxHeartbeats 4000000 in
theorem IsSorted_ok (v : Value) (l : List (List UInt8)) (B : Nat) (w : World) (hB : B ≤ w.heap.size) (hl : StrsAt w B v l) (hn : l.length ≤ 1000) (hs : ∀ i (h : i + 1 < l.length), Op.bytesLess l[i + 1] l[i] = false) :
    Calls Tryd.prog 26 #[v] w fun e w' => e = .returned (.bool true) ∧ Below w.heap.size w w' := by
  obtain ⟨A, c, rfl, h1, h2, -, hr⟩ := hl
  unfold maxLen at h2
  have HR := Lib.hid hr
  have HS := Lib.hid hs
  have HB := Lib.hid hB
  clear hr hs hB
  rcases Nat.eq_zero_or_pos l.length with h0 | h0
  · rw [h0]
    clear h1 hn
    go_enter Tryd.func26, Tryd.ntmps26
    go_wp2_with fail
    go_loopg [3] 0 (fun gg s3 wr => s3 = .int .i64 (-1) ∧ wr = w)
    case atStart => exact ⟨rfl, rfl⟩
    case round =>
      obtain ⟨rfl, rfl⟩ := hrel
      go_wp2_with fail
      go_ret
      exact ⟨rfl, Below.refl _ _⟩
  · obtain ⟨n, hn1⟩ : ∃ n, l.length = n + 1 := ⟨l.length - 1, by omega⟩
    rw [hn1] at h1 ⊢
    have HN := Lib.hid hn1
    clear hn1 h0
    have hn3 : n ≤ 1000 := by have := HN.out; omega
    clear hn
    go_enter Tryd.func26, Tryd.ntmps26
    go_wp2_with fail
    go_loopg [3] n (fun gg s3 wr => ∃ i : Nat, i ≤ n ∧ i ≤ gg ∧ s3 = .int .i64 i ∧ Hid (Below w.heap.size w wr))
    case atStart => exact ⟨n, Nat.le_refl _, by omega, by go_num, Lib.hid (Below.refl _ _)⟩
    case round =>
      obtain ⟨i, hi, hg, rfl, HW⟩ := hrel
      rcases Nat.eq_zero_or_pos i with h0 | h0
      · subst h0
        go_wp2_with fail
        go_ret
        exact ⟨rfl, HW.out⟩
      · obtain ⟨m, rfl⟩ : ∃ m, i = m + 1 := ⟨i - 1, by omega⟩
        clear h0
        have hm1 : m + 1 < l.length := by have := HN.out; omega
        obtain ⟨ad, u, rfl, hb, hu, e1⟩ := (HR.out.keep (w' := wr) (fun p hp => HW.out.cell (by have := HB.out; omega))).at_ hm1
        obtain ⟨ad2, u2, had, _, hu2, e2⟩ := (HR.out.keep (w' := wr) (fun p hp => HW.out.cell (by have := HB.out; omega))).at_ (show m < l.length by omega)
        injection had with had
        subst had
        rw [List.getElem?_map, List.getElem?_eq_getElem hm1] at hu
        rw [List.getElem?_map, List.getElem?_eq_getElem (by omega)] at hu2
        simp only [Option.map_some, Option.some.injEq] at hu hu2
        subst hu hu2
        have hcmp := HS.out m hm1
        have f1 := e1
        have f2 := e2
        obtain ⟨ad3, u3, had, _, _, e3⟩ := (HR.out.keep (w' := wr) (fun p hp => HW.out.cell (by have := HB.out; omega))).at_ (show 0 < l.length by omega)
        injection had with had
        subst had
        have hsp : ad.spot = none := by have := spot_of e3; simpa [Addr.add] using this
        rw [add_step hsp] at f1
        clear e3
        have HLS : Hid (∀ W, Calls Tryd.prog 63 #[.string (bs l[m + 1]), .string (bs l[m])] W fun e w' => e = .returned (.bool false) ∧ ∃ q, w' = W.drewN q) := Lib.hid (fun W => by
          have := Less_any l[m + 1] l[m] W
          rw [hcmp] at this
          exact this.mono fun e w' ⟨a1, a2⟩ => ⟨a1, 0, a2.symm⟩)
        have hw : IntKind.i64.wrap (m : Int) = m := IntWalk.i64_in _ (by omega)
        have i1 : (m : Int) < (n : Int) + 1 := by omega
        have i2 : (0 : Int) ≤ (m : Int) := by omega
        have i3 : (m : Int) + 1 < (n : Int) + 1 := by omega
        have i4 : (0 : Int) < (m : Int) + 1 := by omega
        have i5 : (m : Int) < (n : Int) := by omega
        have i6 : m < n := by omega
        have i7 : (0 : Int) ≤ (m : Int) + 1 := by omega
        have i8 : ((m : Int) + 1).toNat = m + 1 := by omega
        clear e1 e2 hcmp
        generalize bs l[m + 1] = b1 at *
        generalize bs l[m] = b2 at *
        clear hm1
        go_upto_region 4 with fail
        go_quiet ((go_at_call 63; exact Calls.quiet_of (HLS.out _)))
        have HW2 := Lib.hid (below_drewN HW.out nq)
        clear f1 f2 hw i1 i3
        go_wp2_with fail
        go_roundg m
        case measure => omega
        case rel => exact ⟨m, by omega, Nat.le_refl _, by go_num, HW2⟩
theorem strs_lit (w : World) (l : List (List UInt8)) (base : Nat) (h : base ≤ w.heap.size) (hl : l.length ≤ 1000) : DirsOwn (w.alloc (.cells (l.map fun s => Value.string (bs s)).toArray 9)) base (.slice (some ⟨w.heap.size, 0, none⟩) l.length l.length) l :=
  ⟨by simp, .inr ⟨w.heap.size, l.length, _, rfl, h, heap_alloc_new w _, Nat.le_refl _, by simp only [maxLen]; omega, by simp, by simp [List.take_of_length_le]⟩⟩
theorem DirsOwn.strs {w : World} {base : Nat} {v : Value} {l : List (List UInt8)} (h : DirsOwn w base v l) : StrsAt w w.heap.size v l := by
  obtain ⟨A, c, e, h1, h2, h3, h4⟩ := ownsRow_read h
  exact ⟨A, c, e, h1, h2, h3, h4⟩
end
section
open Go.RowKit

theorem cmpL_last : ∀ (p : List (List UInt8)) (a b : List UInt8), cmpL (p ++ [a]) (p ++ [b]) = cmpB a b
  | [], a, b => by
    have := cmpB_bd a b
    simp only [List.nil_append, cmpL]
    split <;> omega
  | x :: p, a, b => by
    simp only [List.cons_append, cmpL, cmpB_self]
    rw [cmpL_last p a b]
    simp
/-- a path by its parent and its last part -/
theorem path_cut {p : List UInt8} (h : checkS p = 0) : (upP p = [] ∧ baseP p = p ∧ partsS p = [p]) ∨ (upP p ≠ [] ∧ p = upP p ++ 47 :: baseP p ∧ partsS p = splitC 47 (upP p) ++ [baseP p]) := by
  have hne : p ≠ [] := by
    rintro rfl
    revert h
    decide
  rcases cutLast p with h1 | ⟨a, b, rfl, h1⟩
  · exact .inl ⟨upP_none h1, baseP_none h1, by unfold partsS; rw [if_neg hne, splitC_miss h1]⟩
  · rw [upP_some h1, baseP_some h1]
    have hs : partsS (a ++ 47 :: b) = splitC 47 a ++ [b] := by unfold partsS; rw [if_neg hne, splitC_append, splitC_miss h1]
    by_cases ha : a = []
    · subst ha
      exfalso
      unfold checkS at h
      have hb : (splitC 47 ([] ++ 47 :: b)).any badPart = true := by
        rw [splitC_append]
        rfl
      split at h
      · cases h
      · split at h
        · cases h
        · first | (rw [if_pos hb] at h; cases h) | exact absurd h (by decide)
    · exact .inr ⟨ha, rfl, hs⟩
theorem base_less {p q : List UInt8} (hp : checkS p = 0) (hq : checkS q = 0) (hu : upP p = upP q) (h : cmpP p q < 0) : Op.bytesLess (baseP q) (baseP p) = false := by
  have key : cmpB (baseP p) (baseP q) < 0 := by
    unfold cmpP at h
    rcases path_cut hp with ⟨a1, a2, a3⟩ | ⟨a1, a2, a3⟩
    · rcases path_cut hq with ⟨b1, b2, b3⟩ | ⟨b1, b2, b3⟩
      · rw [a3, b3] at h
        rw [a2, b2]
        have := cmpL_last [] p q
        simp only [List.nil_append] at this
        omega
      · exact absurd (hu ▸ a1) b1
    · rcases path_cut hq with ⟨b1, b2, b3⟩ | ⟨b1, b2, b3⟩
      · exact absurd (hu.trans b1) a1
      · rw [a3, b3, ← hu, cmpL_last] at h
        exact h
  unfold cmpB at key
  split at key
  · next h1 => exact less_asymm _ _ h1
  · split at key <;> omega
theorem names_sorted {t : List NodeP} (ht : TreeOk t) (dir : List UInt8) : ∀ i (h : i + 1 < (namesP t dir).length), Op.bytesLess (namesP t dir)[i + 1] (namesP t dir)[i] = false := by
  have hs : (t.filter (inDir dir)).Pairwise (fun x y => cmpP x.path y.path < 0) := ht.sorted.filter _
  rw [List.pairwise_iff_getElem] at hs
  intro i h
  unfold namesP at h ⊢
  rw [List.length_map] at h
  simp only [List.getElem_map]
  have hi : i < (t.filter (inDir dir)).length := by omega
  have mem : ∀ k (hk : k < (t.filter (inDir dir)).length), (t.filter (inDir dir))[k] ∈ t ∧ upP (t.filter (inDir dir))[k].path = dir := fun k hk => by
    have := List.getElem_mem hk
    rw [List.mem_filter] at this
    exact ⟨this.1, by simpa [inDir] using this.2⟩
  obtain ⟨m1, u1⟩ := mem i hi
  obtain ⟨m2, u2⟩ := mem (i + 1) h
  exact base_less (ht.node _ m1).path.1 (ht.node _ m2).path.1 (u1.trans u2.symm) (hs i (i + 1) hi h (by omega))
/-- a name, with its directory ahead of it -/
def withDir (dir b : List UInt8) : List UInt8 := if dir = [] then b else dir ++ 47 :: b
theorem names_found {t : List NodeP} (ht : TreeOk t) (dir : List UInt8) {b : List UInt8} (hb : b ∈ namesP t dir) : (withDir dir b).length ≤ 400 ∧ ∃ k, findP t (withDir dir b) = some k := by
  unfold namesP at hb
  rw [List.mem_map] at hb
  obtain ⟨x, hx, rfl⟩ := hb
  rw [List.mem_filter] at hx
  have hu : upP x.path = dir := by simpa [inDir] using hx.2
  have he : withDir dir (baseP x.path) = x.path := by
    unfold withDir
    rcases path_cut (ht.node _ hx.1).path.1 with ⟨a1, a2, _⟩ | ⟨a1, a2, _⟩
    · rw [hu] at a1
      rw [if_pos a1, a2]
    · rw [hu] at a1 a2
      rw [if_neg a1, ← a2]
  rw [he]
  refine ⟨(ht.node _ hx.1).path.2, ?_⟩
  obtain ⟨i, hi, e⟩ := List.getElem_of_mem hx.1
  exact ⟨i, by rw [← e]; exact findP_at (sorted_nodup ht.sorted) hi⟩
/-! ### all of them, once -/
def rootN : NodeP := ⟨[], 2, 0, [], metaZ, []⟩
def manyP (t r : List NodeP) : Nat := (r.map fun n => if n.kind = 2 then (namesP t n.path).length else 0).sum
theorem manyP_snoc (t r : List NodeP) (n : NodeP) : manyP t (r ++ [n]) = manyP t r + if n.kind = 2 then (namesP t n.path).length else 0 := by simp [manyP]
theorem sum_in (r : List NodeP) : ∀ t : List NodeP, manyP t r = (t.map fun x => r.countP fun n => decide (n.kind = 2) && (upP x.path == n.path)).sum
  | [] => by
    unfold manyP
    induction r with
    | nil => rfl
    | cons n r ih =>
      rw [List.map_cons, List.sum_cons, ih]
      simp [namesP]
  | x :: t => by
    rw [List.map_cons, List.sum_cons, ← sum_in r t]
    unfold manyP
    induction r with
    | nil => rfl
    | cons n r ih =>
      simp only [List.map_cons, List.sum_cons, List.countP_cons]
      rw [ih]
      have e : (namesP (x :: t) n.path).length = (namesP t n.path).length + if upP x.path == n.path then 1 else 0 := by
        unfold namesP
        rw [List.length_map, List.length_map, List.filter_cons]
        by_cases h : inDir n.path x = true
        · have h2 : (upP x.path == n.path) = true := h
          rw [if_pos h, h2]; simp
        · have h2 : (upP x.path == n.path) = false := by simpa [inDir] using h
          rw [if_neg h, h2]; simp
      by_cases hk : n.kind = 2
      · rw [if_pos hk, if_pos hk, e]
        simp [hk]
        omega
      · rw [if_neg hk, if_neg hk]
        simp [hk]
theorem sum_ones : ∀ (l : List Nat), (∀ x ∈ l, x = 1) → l.sum = l.length
  | [], _ => rfl
  | x :: l, h => by
    rw [List.sum_cons, sum_ones l (fun y hy => h y (List.mem_cons_of_mem _ hy)), h x (List.mem_cons_self ..), List.length_cons]; omega
theorem many_all {t : List NodeP} (ht : TreeOk t) : manyP t (rootN :: t) = t.length := by
  rw [sum_in, sum_ones, List.length_map]
  intro c hc
  rw [List.mem_map] at hc
  obtain ⟨x, hx, rfl⟩ := hc
  rw [List.countP_cons]
  have hnd := sorted_nodup ht.sorted
  by_cases hu : upP x.path = []
  · have e1 : t.countP (fun n => decide (n.kind = 2) && (upP x.path == n.path)) = 0 := by
      rw [List.countP_eq_zero]
      intro n hn
      rw [hu]
      have := path_ne (ht.node n hn)
      simp only [Bool.and_eq_true, decide_eq_true_eq, beq_iff_eq, not_and]
      exact fun _ e => this e.symm
    rw [e1]
    simp [rootN, hu]
  · obtain ⟨y, hy, h1, h2⟩ := (ht.up x hx).resolve_left hu
    have e0 : (decide (rootN.kind = 2) && (upP x.path == rootN.path)) = false := by simp [rootN, hu]
    rw [e0]
    simp only [Bool.false_eq_true, if_false, Nat.add_zero]
    obtain ⟨i, hi, rfl⟩ := List.getElem_of_mem hy
    have split : t = t.take i ++ t[i] :: t.drop (i + 1) := by rw [← List.drop_eq_getElem_cons hi, List.take_append_drop]
    have none : ∀ n ∈ t.take i ++ t.drop (i + 1), (decide (n.kind = 2) && (upP x.path == n.path)) = false := fun n hn => by
      cases hq : (decide (n.kind = 2) && (upP x.path == n.path)) with
      | false => rfl
      | true =>
        rw [Bool.and_eq_true, beq_iff_eq, ← h1] at hq
        exfalso
        rcases List.mem_append.1 hn with hn | hn
        · obtain ⟨j, hj, rfl⟩ := List.getElem_of_mem hn
          rw [List.length_take] at hj
          have := nodup_at hnd hi (by omega : j < t.length) (by rw [hq.2]; simp)
          omega
        · obtain ⟨j, hj, rfl⟩ := List.getElem_of_mem hn
          rw [List.length_drop] at hj
          have := nodup_at hnd hi (by omega : i + 1 + j < t.length) (by rw [hq.2]; simp)
          omega
    have e2 : (decide (t[i].kind = 2) && (upP x.path == t[i].path)) = true := by simp [h1, h2]
    rw [split, List.countP_append, List.countP_cons]
    have a1 : (t.take i).countP (fun n => decide (n.kind = 2) && (upP x.path == n.path)) = 0 := by
      rw [List.countP_eq_zero]
      intro n hn; rw [none n (List.mem_append_left _ hn)]; simp
    have a2 : (t.drop (i + 1)).countP (fun n => decide (n.kind = 2) && (upP x.path == n.path)) = 0 := by
      rw [List.countP_eq_zero]
      intro n hn; rw [none n (List.mem_append_right _ hn)]; simp
    rw [a1, a2, e2]; simp
end
end Go.Proofs.YtngkfelhlabloaaDoor
