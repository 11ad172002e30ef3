/-
  diff.Of: the changes that make the second tree of the first one. Condition: two trees that may be.
-/
import Derived.Test.YtpanjldionaaiaaDoorNote
import Derived.Test.YtpanjldionaaiaaDoorTCheck
import Derived.Deep.QuietTactic
import Derived.BigQuiet
namespace Go.Proofs.YtpanjldionaaiaaDoor
set_option linter.all false
open Go.RowKit
/-! ### the changes, one by one -/
theorem diffP_new (y : NodeP) (b : List NodeP) : diffP [] (y :: b) = (2, y) :: diffP [] b := by rw [diffP, diffP]; rfl
theorem diffP_gone (x : NodeP) (a : List NodeP) : diffP (x :: a) [] = (1, x) :: diffP a [] := by
  cases a with
  | nil => rw [diffP, diffP]; rfl
  | cons z a => rw [diffP, diffP]; rfl
theorem diffP_less {x y : NodeP} (a b : List NodeP) (h : cmpP x.path y.path < 0) : diffP (x :: a) (y :: b) = (1, x) :: diffP a (y :: b) := by rw [diffP, if_pos h]
theorem diffP_more {x y : NodeP} (a b : List NodeP) (h : 0 < cmpP x.path y.path) : diffP (x :: a) (y :: b) = (2, y) :: diffP (x :: a) b := by rw [diffP, if_neg (by omega), if_pos h]
theorem diffP_stay {x y : NodeP} (a b : List NodeP) (h : cmpP x.path y.path = 0) (hs : stayB x y = true) : diffP (x :: a) (y :: b) = diffP a b := by rw [diffP, if_neg (by omega), if_neg (by omega), if_pos hs]
theorem diffP_other {x y : NodeP} (a b : List NodeP) (h : cmpP x.path y.path = 0) (hs : stayB x y = false) : diffP (x :: a) (y :: b) = (3, y) :: diffP a b := by rw [diffP, if_neg (by omega), if_neg (by omega), if_neg (by simp [hs])]
theorem diffP_nil_nil : diffP [] [] = [] := by rw [diffP]; rfl
/-! ### what the rounds leave -/
def OfSt (w : World) (g : Nat) (a b : List NodeP) (i k : Nat) (W : World) : Prop :=
  Below w.heap.size w W ∧ w.heap.size ≤ g ∧ ∃ v l, Blk W g 25 #[v] ∧ ChOwn W (g + 1) v l ∧ l ++ diffP (a.drop i) (b.drop k) = diffP a b
theorem OfSt.below {w W W' : World} {g : Nat} {a b : List NodeP} {i k : Nat} (h : OfSt w g a b i k W) (hb : Below W.heap.size W W') : OfSt w g a b i k W' := by
  obtain ⟨h1, h2, v, l, h3, h4, h5⟩ := h
  exact ⟨h1.trans (hb.mono h1.size), h2, v, l, h3.below hb h3.lt, h4.below hb, h5⟩
theorem OfSt.quiet {w W : World} {g : Nat} {a b : List NodeP} {i k i' k' : Nat} (h : OfSt w g a b i k W) (he : diffP (a.drop i) (b.drop k) = diffP (a.drop i') (b.drop k')) : OfSt w g a b i' k' W := by
  obtain ⟨h1, h2, v, l, h3, h4, h5⟩ := h
  exact ⟨h1, h2, v, l, h3, h4, by rw [← he]; exact h5⟩
theorem OfSt.note {w W : World} {g : Nat} {a b : List NodeP} {i k i' k' : Nat} (h : OfSt w g a b i k W) (c : Int) (x : NodeV) (he : diffP (a.drop i) (b.drop k) = (c, x.1) :: diffP (a.drop i') (b.drop k')) (hx : DataAt W 0 x.2 x.1.data) (hd : x.1.data.length ≤ 100000) (hab : a.length + b.length ≤ 1000) :
    Calls Tryd.prog 22 #[.int .i64 c, .agg (nodeC x).toArray, .pointer (some ⟨g, 0, none⟩)] W fun e w' => e = .returned (.tuple #[]) ∧ OfSt w g a b i' k' w' := by
  obtain ⟨h1, h2, v, l, h3, h4, h5⟩ := h
  have hl : l.length ≤ 1000 := by
    have e1 := congrArg List.length h5
    rw [List.length_append] at e1
    have e2 := diffP_length a b
    omega
  refine (Note_any c x W g v l hx hd h3 h4 hl).mono ?_
  rintro e w' ⟨rfl, ⟨v', r1, r2⟩, r3⟩
  refine ⟨rfl, h1.trans (r3.mono h2), h2, v', _, r1, r2, ?_⟩
  rw [List.append_assoc, List.singleton_append, ← he]
  exact h5
theorem OfSt.start {w W : World} (a b : List NodeP) (hb : Below w.heap.size w W) : OfSt w W.heap.size a b 0 0 (W.alloc (.cells #[.slice none 0 0] 25)) :=
  ⟨hb.trans ((Below.refl W.heap.size W).alloc (Nat.le_refl _) _ |>.mono hb.size), hb.size, _, [], Blk.new _ _ _, ChOwn.nil _ _, rfl⟩
theorem OfSt.done {w W : World} {g : Nat} {a b : List NodeP} (h : OfSt w g a b a.length b.length W) : ∃ v, W.cell? ⟨g, 0, none⟩ = some v ∧ ChOwn W w.heap.size v (diffP a b) ∧ Below w.heap.size w W := by
  obtain ⟨h1, h2, v, l, h3, h4, h5⟩ := h
  rw [List.drop_length, List.drop_length, diffP_nil_nil, List.append_nil] at h5
  subst h5
  exact ⟨v, h3.cell 0, h4.mono (by omega), h1⟩
set_option maxRecDepth 100000 in
set_option maxHeartbeats 16000000 in
theorem Of_any (v1 v2 : Value) (a b : List NodeP) (w : World) (hm : ML w) (ha : NodesAt w v1 a) (hb : NodesAt w v2 b) (hoa : TreeOk a) (hob : TreeOk b) :
    Calls Tryd.prog 5 #[v1, v2] w fun e w' => ∃ cv, e = .returned (.tuple #[cv, .int .i64 0]) ∧ ChOwn w' w.heap.size cv (diffP a b) ∧ Below w.heap.size w w' := by
  have HCA := Lib.hid (TCheck_any v1 a w hm ha hoa.node)
  rw [hoa.chk] at HCA
  have HCB : Hid (∀ W, Below w.heap.size w W → Calls Tryd.prog 21 #[v2] W fun e w' => e = .returned (.int .i64 0) ∧ Below W.heap.size W w') := Lib.hid (fun W hW => by
    have h := TCheck_any v2 b W (hm.below hW) (hb.below hW) hob.node
    rw [hob.chk] at h
    exact h)
  have HML : Hid (∀ W, Below w.heap.size w W → ML W) := Lib.hid (fun W hb => hm.below hb)
  have HA := Lib.hid ha
  have HB := Lib.hid hb
  have HOA := Lib.hid hoa
  have HOB := Lib.hid hob
  have hla := hoa.len
  have hlb := hob.len
  obtain ⟨_, A, c, -, rfl, hac, hcc, -⟩ := ha
  obtain ⟨_, B, d, -, rfl, hbd, hdd, -⟩ := hb
  unfold maxLen at hcc hdd
  clear hm hoa hob
  go_enter Tryd.func5, Tryd.ntmps5
  go_wp2_with fail
  refine HCA.out.mono ?_
  rintro e w1 ⟨rfl, b1⟩
  have B1 := Lib.hid b1
  clear b1
  go_wp2_with fail
  refine (HCB.out _ B1.out).mono ?_
  rintro e w2 ⟨rfl, b2⟩
  have B2 := Lib.hid (B1.out.trans (b2.mono B1.out.size))
  clear b2
  have H0 := Lib.hid (OfSt.start a b B2.out)
  clear HCA HCB
  go_wp2_with fail
  obtain ⟨g8, hg8⟩ : ∃ g8, g8 = w2.heap.size := ⟨_, rfl⟩
  rw [← hg8] at H0 ⊢
  clear hg8
  go_loopg [10, 11] (a.length + b.length) (fun gg s10 s11 wr => ∃ i k : Nat, i ≤ a.length ∧ k ≤ b.length ∧ (a.length - i) + (b.length - k) ≤ gg ∧ s10 = .int .i64 i ∧ s11 = .int .i64 k ∧ Hid (OfSt w g8 a b i k wr))
  case atStart => exact ⟨0, 0, Nat.zero_le _, Nat.zero_le _, by omega, rfl, rfl, H0⟩
  case round =>
    obtain ⟨i, k, hi, hk, hg, rfl, rfl, HS⟩ := hrel
    by_cases hlt : i < a.length
    · have hltz : (i : Int) < (a.length : Int) := by omega
      have hi0 : (0 : Int) ≤ (i : Int) := by omega
      have nei : ((i : Int) == (a.length : Int)) = false := by simp; omega
      have nei2 : (i == a.length) = false := by simp; omega
      have hda := Lib.hid (List.drop_eq_getElem_cons hlt)
      by_cases hlk : k < b.length
      · have hlkz : (k : Int) < (b.length : Int) := by omega
        have hk0 : (0 : Int) ≤ (k : Int) := by omega
        have nek : ((k : Int) == (b.length : Int)) = false := by simp; omega
        have nek2 : (k == b.length) = false := by simp; omega
        have hdb := Lib.hid (List.drop_eq_getElem_cons hlk)
        obtain ⟨ad, Ax, cx, rfl, -, hdx, e0, -⟩ := node_read (HA.out.below HS.out.1) hlt
        obtain ⟨bd, Ay, cy, rfl, -, hdy, f0, -⟩ := node_read (HB.out.below HS.out.1) hlk
        have hpa := (HOA.out.node _ (List.getElem_mem hlt)).path.2
        have hpb := (HOB.out.node _ (List.getElem_mem hlk)).path.2
        have HCO := Lib.hid (fun d os => Calls.regrown_of (w := wr) (d := d) (os := os) (Compare_any a[i].path b[k].path _ (by omega) (by omega) (HML.out _ (HS.out.1.trans ((below_regrown wr d os).mono HS.out.1.size)))))
        have e0 := fun d os => cell_regrown e0 d os
        have f0 := fun d os => cell_regrown f0 d os
        obtain ⟨cc, hcc0⟩ : ∃ cc, cc = cmpP a[i].path b[k].path := ⟨_, rfl⟩
        have HC0 := Lib.hid hcc0
        rw [← hcc0] at HCO
        clear hcc0 hdx hdy hpa hpb
        generalize hbp : bs a[i].path = bp at *
        generalize hbq : bs b[k].path = bq at *
        clear hbp hbq
        go_upto_region 12 with fail
        refine wp_region_quiet_below mixed_ok (by kernel_rfl) ?_
        repeat (go_big_quiet_step (exact HCO.out _ _))
        refine wpQuiet_nil ?_
        intro _ hw'
        obtain ⟨⟨dq, osq⟩, hw''⟩ := hw'
        subst hw''
        clear e0 f0 HCO
        have HS4 := Lib.hid (HS.out.below (below_regrown wr dq osq))
        generalize Sort.grow (redrawn wr dq) osq = w4 at *
        clear nei nei2 nek nek2
        rcases Int.lt_trichotomy cc 0 with hneg | hzero | hpos
        · -- gone
          obtain ⟨ad2, Ax, cx, had2, -, hdx, e0, e1, e2, e3, e4, e5, e6, e7, e8, e9, e10, e11⟩ := node_read (HA.out.below HS4.out.1) hlt
          injection had2 with had2
          subst had2
          have HE := Lib.hid (show diffP (a.drop i) (b.drop k) = (1, a[i]) :: diffP (a.drop (i + 1)) (b.drop k) by rw [hda.out, hdb.out]; exact diffP_less _ _ (by rw [← HC0.out]; exact hneg))
          have hnd := (HOA.out.node _ (List.getElem_mem hlt)).data.1
          obtain ⟨z, hz⟩ : ∃ z, z = a[i] := ⟨_, rfl⟩
          rw [← hz] at hdx hnd HE e0 e1 e2 e3 e4 e5 e6 e7 e8 e9 e10 e11
          clear hz
          obtain ⟨np, nk, ns, nt, ⟨o1, o2, o3, o4, o5, o6, o7⟩, nd⟩ := z
          simp only at hdx hnd HE e0 e1 e2 e3 e4 e5 e6 e7 e8 e9 e10 e11
          have HN := Lib.hid (HS4.out.note (i' := i + 1) (k' := k) 1 (⟨np, nk, ns, nt, ⟨o1, o2, o3, o4, o5, o6, o7⟩, nd⟩, .slice Ax nd.length cx) HE.out hdx (by simp only; omega) (by omega))
          unfold nodeC at HN
          simp only at HN
          clear hdx HE hnd
          go_wp2_with fail
          refine HN.out.mono ?_
          rintro e' w9 ⟨rfl, h9⟩
          have H9 := Lib.hid h9
          clear h9 HN e0 e1 e2 e3 e4 e5 e6 e7 e8 e9 e10 e11
          go_wp2_with fail
          go_roundg ((a.length - (i + 1)) + (b.length - (k)))
          case measure => omega
          case rel => exact ⟨i + 1, k, by omega, by omega, Nat.le_refl _, by go_num, by go_num, H9⟩
        · -- both
          subst hzero
          obtain ⟨ad2, Ax, cx, had2, -, hdx, e0, e1, e2, e3, e4, e5, e6, e7, e8, e9, e10, e11⟩ := node_read (HA.out.below HS4.out.1) hlt
          injection had2 with had2
          subst had2
          obtain ⟨bd2, Ay, cy, had2, -, hdy, f0, f1, f2, f3, f4, f5, f6, f7, f8, f9, f10, f11⟩ := node_read (HB.out.below HS4.out.1) hlk
          injection had2 with had2
          subst had2
          have HSN0 := Lib.hid (fun d os => Calls.regrown_of (w := w4) (d := d) (os := os) (DSame_any (a[i], .slice Ax a[i].data.length cx) (b[k], .slice Ay b[k].data.length cy) _ (hdx.below (below_regrown w4 d os)) (hdy.below (below_regrown w4 d os))))
          have HST : Hid (stayB a[i] b[k] = (dsameB a[i] b[k] && a[i].same == b[k].same)) := Lib.hid rfl
          have HE0 : Hid (∀ s, stayB a[i] b[k] = s → if s then diffP (a.drop i) (b.drop k) = diffP (a.drop (i + 1)) (b.drop (k + 1)) else diffP (a.drop i) (b.drop k) = (3, b[k]) :: diffP (a.drop (i + 1)) (b.drop (k + 1))) := Lib.hid (fun s hs => by
            rw [hda.out, hdb.out]
            cases s with
            | true => exact diffP_stay _ _ HC0.out.symm hs
            | false => exact diffP_other _ _ HC0.out.symm hs)
          clear hdx hdy
          obtain ⟨x, hx⟩ : ∃ x, x = a[i] := ⟨_, rfl⟩
          obtain ⟨y, hy⟩ : ∃ y, y = b[k] := ⟨_, rfl⟩
          rw [← hx] at HSN0 HST HE0 e0 e1 e2 e3 e4 e5 e6 e7 e8 e9 e10 e11
          rw [← hy] at HSN0 HST HE0 f0 f1 f2 f3 f4 f5 f6 f7 f8 f9 f10 f11
          clear hx
          have HY := Lib.hid hy
          clear hy
          obtain ⟨np, nk, ns, nt, ⟨o1, o2, o3, o4, o5, o6, o7⟩, nd⟩ := x
          obtain ⟨mp, mk, ms, mt, ⟨p1, p2, p3, p4, p5, p6, p7⟩, md⟩ := y
          simp only at HST e0 e1 e2 e3 e4 e5 e6 e7 e8 e9 e10 e11 f0 f1 f2 f3 f4 f5 f6 f7 f8 f9 f10 f11
          unfold nodeC at HSN0
          simp only at HSN0
          have e0 := fun d os => cell_regrown e0 d os
          have f0 := fun d os => cell_regrown f0 d os
          have e1 := fun d os => cell_regrown e1 d os
          have f1 := fun d os => cell_regrown f1 d os
          have e2 := fun d os => cell_regrown e2 d os
          have f2 := fun d os => cell_regrown f2 d os
          have e3 := fun d os => cell_regrown e3 d os
          have f3 := fun d os => cell_regrown f3 d os
          have e4 := fun d os => cell_regrown e4 d os
          have f4 := fun d os => cell_regrown f4 d os
          have e5 := fun d os => cell_regrown e5 d os
          have f5 := fun d os => cell_regrown f5 d os
          have e6 := fun d os => cell_regrown e6 d os
          have f6 := fun d os => cell_regrown f6 d os
          have e7 := fun d os => cell_regrown e7 d os
          have f7 := fun d os => cell_regrown f7 d os
          have e8 := fun d os => cell_regrown e8 d os
          have f8 := fun d os => cell_regrown f8 d os
          have e9 := fun d os => cell_regrown e9 d os
          have f9 := fun d os => cell_regrown f9 d os
          have e10 := fun d os => cell_regrown e10 d os
          have f10 := fun d os => cell_regrown f10 d os
          have e11 := fun d os => cell_regrown e11 d os
          have f11 := fun d os => cell_regrown f11 d os
          generalize dsameB (⟨np, nk, ns, nt, ⟨o1, o2, o3, o4, o5, o6, o7⟩, nd⟩ : NodeP) ⟨mp, mk, ms, mt, ⟨p1, p2, p3, p4, p5, p6, p7⟩, md⟩ = ds at *
          have hways : (ds = false ∧ (ds && ns == ms) = false) ∨ (ds = true ∧ ns = ms ∧ (ds && ns == ms) = true) ∨ (ds = true ∧ (ns == ms) = false ∧ (ns != ms) = true ∧ (ds && ns == ms) = false) := by
            cases ds with
            | false => exact .inl ⟨rfl, rfl⟩
            | true =>
              by_cases h : ns = ms
              · exact .inr (.inl ⟨rfl, h, by simp [h]⟩)
              · exact .inr (.inr ⟨rfl, by simp [h], by simp [h], by simp [h]⟩)
          rcases hways with ⟨rfl, hst⟩ | ⟨rfl, rfl, hst⟩ | ⟨rfl, hn1, hn2, hst⟩
          · have HE := Lib.hid (HE0.out false (HST.out.trans hst))
            clear hst HST HE0
            go_upto_region 17 with fail
            refine wp_region_quiet_below mixed_ok (by kernel_rfl) ?_
            repeat (go_big_quiet_step (exact HSN0.out _ _))
            refine wpQuiet_nil ?_
            intro _ hw'
            obtain ⟨⟨dq, osq⟩, hw''⟩ := hw'
            subst hw''
            clear e0 e1 e2 e3 e4 e5 e6 e7 e8 e9 e10 e11 f0 f1 f2 f3 f4 f5 f6 f7 f8 f9 f10 f11 HSN0
            have HS5 := Lib.hid (HS4.out.below (below_regrown w4 dq osq))
            generalize Sort.grow (redrawn w4 dq) osq = w5 at *
            obtain ⟨bd2, Ay2, cy2, had2, -, hdy, f0, f1, f2, f3, f4, f5, f6, f7, f8, f9, f10, f11⟩ := node_read (HB.out.below HS5.out.1) hlk
            injection had2 with had2
            subst had2
            have hnd := (HOB.out.node _ (List.getElem_mem hlk)).data.1
            rw [← HY.out] at hdy hnd f0 f1 f2 f3 f4 f5 f6 f7 f8 f9 f10 f11
            simp only at hdy hnd HE f0 f1 f2 f3 f4 f5 f6 f7 f8 f9 f10 f11
            have HN := Lib.hid (HS5.out.note (i' := i + 1) (k' := k + 1) 3 (⟨mp, mk, ms, mt, ⟨p1, p2, p3, p4, p5, p6, p7⟩, md⟩, .slice Ay2 md.length cy2) (by simpa using HE.out) hdy (by simp only; omega) (by omega))
            unfold nodeC at HN
            simp only at HN
            clear hdy HE hnd HY
            go_wp2_with fail
            refine HN.out.mono ?_
            rintro e' w9 ⟨rfl, h9⟩
            have H9 := Lib.hid h9
            clear h9 HN f0 f1 f2 f3 f4 f5 f6 f7 f8 f9 f10 f11
            go_wp2_with fail
            go_roundg ((a.length - (i + 1)) + (b.length - (k + 1)))
            case measure => omega
            case rel => exact ⟨i + 1, k + 1, by omega, by omega, Nat.le_refl _, by go_num, by go_num, H9⟩
          · have HE := Lib.hid (HE0.out true (HST.out.trans hst))
            clear hst HST HE0
            go_upto_region 17 with fail
            refine wp_region_quiet_below mixed_ok (by kernel_rfl) ?_
            repeat (go_big_quiet_step (exact HSN0.out _ _))
            refine wpQuiet_nil ?_
            intro _ hw'
            obtain ⟨⟨dq, osq⟩, hw''⟩ := hw'
            subst hw''
            clear e0 e1 e2 e3 e4 e5 e6 e7 e8 e9 e10 e11 f0 f1 f2 f3 f4 f5 f6 f7 f8 f9 f10 f11 HSN0
            have HS5 := Lib.hid (HS4.out.below (below_regrown w4 dq osq))
            generalize Sort.grow (redrawn w4 dq) osq = w5 at *
            have HQ := Lib.hid (HS5.out.quiet (i' := i + 1) (k' := k + 1) (by simpa using HE.out))
            clear HE HY
            go_wp2_with fail
            go_roundg ((a.length - (i + 1)) + (b.length - (k + 1)))
            case measure => omega
            case rel => exact ⟨i + 1, k + 1, by omega, by omega, Nat.le_refl _, by go_num, by go_num, HQ⟩
          · have HE := Lib.hid (HE0.out false (HST.out.trans hst))
            clear hst HST HE0
            go_upto_region 17 with fail
            refine wp_region_quiet_below mixed_ok (by kernel_rfl) ?_
            repeat (go_big_quiet_step (exact HSN0.out _ _))
            refine wpQuiet_nil ?_
            intro _ hw'
            obtain ⟨⟨dq, osq⟩, hw''⟩ := hw'
            subst hw''
            clear e0 e1 e2 e3 e4 e5 e6 e7 e8 e9 e10 e11 f0 f1 f2 f3 f4 f5 f6 f7 f8 f9 f10 f11 HSN0
            have HS5 := Lib.hid (HS4.out.below (below_regrown w4 dq osq))
            generalize Sort.grow (redrawn w4 dq) osq = w5 at *
            clear hn1 hn2
            obtain ⟨bd2, Ay2, cy2, had2, -, hdy, f0, f1, f2, f3, f4, f5, f6, f7, f8, f9, f10, f11⟩ := node_read (HB.out.below HS5.out.1) hlk
            injection had2 with had2
            subst had2
            have hnd := (HOB.out.node _ (List.getElem_mem hlk)).data.1
            rw [← HY.out] at hdy hnd f0 f1 f2 f3 f4 f5 f6 f7 f8 f9 f10 f11
            simp only at hdy hnd HE f0 f1 f2 f3 f4 f5 f6 f7 f8 f9 f10 f11
            have HN := Lib.hid (HS5.out.note (i' := i + 1) (k' := k + 1) 3 (⟨mp, mk, ms, mt, ⟨p1, p2, p3, p4, p5, p6, p7⟩, md⟩, .slice Ay2 md.length cy2) (by simpa using HE.out) hdy (by simp only; omega) (by omega))
            unfold nodeC at HN
            simp only at HN
            clear hdy HE hnd HY
            go_wp2_with fail
            refine HN.out.mono ?_
            rintro e' w9 ⟨rfl, h9⟩
            have H9 := Lib.hid h9
            clear h9 HN f0 f1 f2 f3 f4 f5 f6 f7 f8 f9 f10 f11
            go_wp2_with fail
            go_roundg ((a.length - (i + 1)) + (b.length - (k + 1)))
            case measure => omega
            case rel => exact ⟨i + 1, k + 1, by omega, by omega, Nat.le_refl _, by go_num, by go_num, H9⟩
        · -- new
          have hnn : ¬ cc < 0 := by omega
          obtain ⟨bd2, Ay, cy, had2, -, hdy, f0, f1, f2, f3, f4, f5, f6, f7, f8, f9, f10, f11⟩ := node_read (HB.out.below HS4.out.1) hlk
          injection had2 with had2
          subst had2
          have HE := Lib.hid (show diffP (a.drop i) (b.drop k) = (2, b[k]) :: diffP (a.drop i) (b.drop (k + 1)) by rw [hda.out, hdb.out]; exact diffP_more _ _ (by rw [← HC0.out]; exact hpos))
          have hnd := (HOB.out.node _ (List.getElem_mem hlk)).data.1
          obtain ⟨z, hz⟩ : ∃ z, z = b[k] := ⟨_, rfl⟩
          rw [← hz] at hdy hnd HE f0 f1 f2 f3 f4 f5 f6 f7 f8 f9 f10 f11
          clear hz
          obtain ⟨mp, mk, ms, mt, ⟨p1, p2, p3, p4, p5, p6, p7⟩, md⟩ := z
          simp only at hdy hnd HE f0 f1 f2 f3 f4 f5 f6 f7 f8 f9 f10 f11
          have HN := Lib.hid (HS4.out.note (i' := i) (k' := k + 1) 2 (⟨mp, mk, ms, mt, ⟨p1, p2, p3, p4, p5, p6, p7⟩, md⟩, .slice Ay md.length cy) HE.out hdy (by simp only; omega) (by omega))
          unfold nodeC at HN
          simp only at HN
          clear hdy HE hnd
          go_wp2_with fail
          refine HN.out.mono ?_
          rintro e' w9 ⟨rfl, h9⟩
          have H9 := Lib.hid h9
          clear h9 HN f0 f1 f2 f3 f4 f5 f6 f7 f8 f9 f10 f11
          go_wp2_with fail
          go_roundg ((a.length - (i)) + (b.length - (k + 1)))
          case measure => omega
          case rel => exact ⟨i, k + 1, by omega, by omega, Nat.le_refl _, by go_num, by go_num, H9⟩
      · obtain rfl : k = b.length := by omega
        have HDB : Hid (b.drop b.length = []) := Lib.hid List.drop_length
        obtain ⟨ad, Ax, cx, rfl, -, hdx, e0, e1, e2, e3, e4, e5, e6, e7, e8, e9, e10, e11⟩ := node_read (HA.out.below HS.out.1) hlt
        have HE := Lib.hid (show diffP (a.drop i) (b.drop b.length) = (1, a[i]) :: diffP (a.drop (i + 1)) (b.drop b.length) by rw [hda.out, HDB.out]; exact diffP_gone _ _)
        have hnd := (HOA.out.node _ (List.getElem_mem hlt)).data.1
        obtain ⟨z, hz⟩ : ∃ z, z = a[i] := ⟨_, rfl⟩
        rw [← hz] at hdx hnd HE e0 e1 e2 e3 e4 e5 e6 e7 e8 e9 e10 e11
        clear hz
        obtain ⟨np, nk, ns, nt, ⟨o1, o2, o3, o4, o5, o6, o7⟩, nd⟩ := z
        simp only at hdx hnd HE e0 e1 e2 e3 e4 e5 e6 e7 e8 e9 e10 e11
        have HN := Lib.hid (HS.out.note (i' := i + 1) (k' := b.length) 1 (⟨np, nk, ns, nt, ⟨o1, o2, o3, o4, o5, o6, o7⟩, nd⟩, .slice Ax nd.length cx) HE.out hdx (by simp only; omega) (by omega))
        unfold nodeC at HN
        simp only at HN
        clear hdx HE hnd
        go_wp2_with fail
        refine HN.out.mono ?_
        rintro e' w9 ⟨rfl, h9⟩
        have H9 := Lib.hid h9
        clear h9 HN e0 e1 e2 e3 e4 e5 e6 e7 e8 e9 e10 e11
        go_wp2_with fail
        go_roundg ((a.length - (i + 1)) + (b.length - (b.length)))
        case measure => omega
        case rel => exact ⟨i + 1, b.length, by omega, by omega, Nat.le_refl _, by go_num, by go_num, H9⟩
    · obtain rfl : i = a.length := by omega
      have HDA : Hid (a.drop a.length = []) := Lib.hid List.drop_length
      by_cases hlk : k < b.length
      · have hlkz : (k : Int) < (b.length : Int) := by omega
        have hk0 : (0 : Int) ≤ (k : Int) := by omega
        have hdb := Lib.hid (List.drop_eq_getElem_cons hlk)
        obtain ⟨bd, Ay, cy, rfl, -, hdy, f0, f1, f2, f3, f4, f5, f6, f7, f8, f9, f10, f11⟩ := node_read (HB.out.below HS.out.1) hlk
        have HE := Lib.hid (show diffP (a.drop a.length) (b.drop k) = (2, b[k]) :: diffP (a.drop a.length) (b.drop (k + 1)) by rw [hdb.out, HDA.out]; exact diffP_new _ _)
        have hnd := (HOB.out.node _ (List.getElem_mem hlk)).data.1
        obtain ⟨z, hz⟩ : ∃ z, z = b[k] := ⟨_, rfl⟩
        rw [← hz] at hdy hnd HE f0 f1 f2 f3 f4 f5 f6 f7 f8 f9 f10 f11
        clear hz
        obtain ⟨mp, mk, ms, mt, ⟨p1, p2, p3, p4, p5, p6, p7⟩, md⟩ := z
        simp only at hdy hnd HE f0 f1 f2 f3 f4 f5 f6 f7 f8 f9 f10 f11
        have HN := Lib.hid (HS.out.note (i' := a.length) (k' := k + 1) 2 (⟨mp, mk, ms, mt, ⟨p1, p2, p3, p4, p5, p6, p7⟩, md⟩, .slice Ay md.length cy) HE.out hdy (by simp only; omega) (by omega))
        unfold nodeC at HN
        simp only at HN
        clear hdy HE hnd
        go_wp2_with fail
        refine HN.out.mono ?_
        rintro e' w9 ⟨rfl, h9⟩
        have H9 := Lib.hid h9
        clear h9 HN f0 f1 f2 f3 f4 f5 f6 f7 f8 f9 f10 f11
        go_wp2_with fail
        go_roundg ((a.length - (a.length)) + (b.length - (k + 1)))
        case measure => omega
        case rel => exact ⟨a.length, k + 1, by omega, by omega, Nat.le_refl _, by go_num, by go_num, H9⟩
      · obtain rfl : k = b.length := by omega
        obtain ⟨cv, hcv, hch, hbl⟩ := HS.out.done
        have HCH := Lib.hid (And.intro hch hbl)
        obtain ⟨_, -, hox, -⟩ := id hch
        obtain ⟨A9, c9, h9, -⟩ := ownsRow_read hox
        subst h9
        clear hch hbl hox
        go_wp2_with fail
        go_ret2
        exact ⟨_, rfl, HCH.out.1, HCH.out.2⟩
end Go.Proofs.YtpanjldionaaiaaDoor
