/-
  The law FaultFirst: what it computes is true. Condition: raw things and numbers of the second form's bound.
-/
import Derived.Test.YtpanjldionaaiaaGreatDoorFaultO
import Derived.Test.YtpanjldionaaiaaGreatDoorArchW
namespace Go.Proofs.YtpanjldionaaiaaGreatDoor
set_option linter.all false
open Go.RowKit
theorem EntsAt.take_ {w : World} {ad : Addr} {n c : Nat} {l : List EntP} {xs : List EntV} (h : EntsAt w (.slice (some ad) n c) l xs) (k : Nat) (hk : k ≤ n) : EntsAt w (.slice (some ad) k c) (l.take k) (xs.take k) := by
  obtain ⟨A, c', h0, h1, h2, h3, h5, h6⟩ := h
  injection h1 with e1 e2 e3
  subst e1 e2 e3
  have hkl : (l.take k).length = k := by rw [List.length_take]; omega
  have hxl : xs.length = l.length := by rw [← h0, List.length_map]
  have hkx : (xs.take k).length = k := by rw [List.length_take]; omega
  refine ⟨some ad, c, by rw [← h0, List.map_take], by rw [hkl], by rw [hkl]; omega, h3, ?_, fun x hx => h6 x (List.mem_of_mem_take hx)⟩
  rw [hkl]
  have e : (xs.take k).flatMap entV = (xs.flatMap entV).take (k * 11) := by
    have h9 : xs.flatMap entV = (xs.take k).flatMap entV ++ (xs.drop k).flatMap entV := by rw [← List.flatMap_append, List.take_append_drop]
    rw [h9, List.take_left']
    rw [flat_length entV_length, hkx]
  rw [e]
  obtain ⟨q1, q2⟩ := h5
  refine ⟨by rw [List.length_take, q1]; omega, fun hn => ?_⟩
  obtain ⟨ad', e1, hb, hc⟩ := q2 (by omega)
  refine ⟨ad', e1, hb, fun j u hu => hc j u ?_⟩
  rw [List.getElem?_take] at hu
  split at hu
  · exact hu
  · cases hu
theorem idxE_none {p : EntP → Bool} {l : List EntP} (h : ∀ x ∈ l, p x = false) : decide (0 ≤ idxE p l) = false := by
  rw [idxE_miss (fun j hj => h _ (List.getElem_mem hj))]
  rfl
theorem idxE_take {p : EntP → Bool} {l : List EntP} {k : Nat} (h : l.findIdx? p = some k) : ∃ hk : k < l.length, p l[k] = true ∧ decide (0 ≤ idxE p (l.take k)) = false := by
  rw [List.findIdx?_eq_some_iff_getElem] at h
  obtain ⟨hk, h1, h2⟩ := h
  refine ⟨hk, h1, idxE_none fun x hx => ?_⟩
  obtain ⟨j, hj, rfl⟩ := List.getElem_of_mem hx
  rw [List.length_take] at hj
  rw [List.getElem_take]
  simpa using h2 j (by omega)
theorem idxE_no {p : EntP → Bool} {l : List EntP} (h : l.findIdx? p = none) : decide (0 ≤ idxE p l) = false := idxE_none (by rw [List.findIdx?_eq_none_iff] at h; exact fun x hx => by simpa using h x hx)
def litE : EntP := ⟨[97], 1, [], metaZ, []⟩
def litF : FltP := ⟨[97], 1⟩
theorem litE_ok : EntsOk [litE] := by
  refine ⟨by decide, fun x hx => ?_, List.pairwise_singleton _ _, fun i hi => ?_, fun i hi h => ?_⟩
  · rw [List.mem_singleton] at hx
    subst hx
    exact ⟨by decide, metaZ_ok, .inl rfl, by decide, fun _ => rfl, by decide⟩
  · obtain rfl : i = 0 := by simpa using hi
    exact .inl (show upP litE.path = [] by decide)
  · obtain rfl : i = 0 := by simpa using hi
    exact absurd (show litE.kind = 4 from h) (by decide)
theorem litF_ok : FltOk [litF] := by
  refine ⟨by decide, fun f hf => ?_, fun f hf => ?_, fun k hk => ?_⟩
  · rw [List.mem_singleton] at hf
    subst hf
    decide
  · rw [List.mem_singleton] at hf
    subst hf
    decide
  · obtain rfl : k = 0 := by simpa using hk
    show idxP [] litF.path = -1
    decide
def litEC : Array Value := #[.string ⟨#[97]⟩, .int .i64 1, .string ⟨#[]⟩, .int .i64 0, .int .i64 0, .int .i64 0, .string ⟨#[]⟩, .string ⟨#[]⟩, .int .i64 0, .int .i64 0, .slice none 0 0]
def litFC : Array Value := #[.string ⟨#[97]⟩, .int .i64 1]
theorem litE_at (w : World) : EntsAt (w.alloc (.cells litEC 40)) (.slice (some ⟨w.heap.size, 0, none⟩) 1 1) [litE] [(litE, .slice none 0 0)] := by
  refine ⟨some ⟨w.heap.size, 0, none⟩, 1, rfl, rfl, Nat.le_refl _, by simp [maxLen], ?_, fun x hx => ?_⟩
  · have h := new_row w 40 (entV (litE, .slice none 0 0)) 1 11 rfl
    have hz : (w.alloc (.cells litEC 40)).heap.size = w.heap.size + 1 := by simp
    rw [hz]
    exact h
  · rw [List.mem_singleton] at hx
    subst hx
    exact DataAt.nil _ _
theorem litF_at (w : World) : FltsAt (w.alloc (.cells litFC 32)) (.slice (some ⟨w.heap.size, 0, none⟩) 1 1) [litF] := by
  refine ⟨some ⟨w.heap.size, 0, none⟩, 1, rfl, Nat.le_refl _, by simp [maxLen], (fun h => by cases h), ?_⟩
  have h := new_row w 32 (fltC litF) 1 2 rfl
  have hz : (w.alloc (.cells litFC 32)).heap.size = w.heap.size + 1 := by simp
  rw [hz]
  exact h
theorem lits_at (w : World) : Below w.heap.size w ((w.alloc (.cells litEC 40)).alloc (.cells litFC 32)) ∧ EntsAt ((w.alloc (.cells litEC 40)).alloc (.cells litFC 32)) (.slice (some ⟨w.heap.size, 0, none⟩) 1 1) [litE] [(litE, .slice none 0 0)] ∧ FltsAt ((w.alloc (.cells litEC 40)).alloc (.cells litFC 32)) (.slice (some ⟨w.heap.size + 1, 0, none⟩) 1 1) [litF] := by
  have h := litF_at (w.alloc (.cells litEC 40))
  rw [show (w.alloc (.cells litEC 40)).heap.size = w.heap.size + 1 by simp] at h
  exact ⟨((Below.refl _ _).alloc (Nat.le_refl _) _).alloc (by simp) _, (litE_at w).below ((Below.refl _ _).alloc (Nat.le_refl _) _), h⟩
theorem lit_post (w w' : World) (e : Ending) (h : FFPost [litE] [litF] w e w') : Below w.heap.size w w' ∧ ∃ f : FltP, e = .returned (.tuple #[.agg #[.string (bs f.path), .int .i64 f.code], .int .i64 0, .int .i64 0]) := by
  obtain ⟨hb, h⟩ := h
  rw [show ([litE] : List EntP).findIdx? (hasF [litF]) = some 0 by decide] at h
  obtain ⟨f, -, h⟩ := h
  exact ⟨hb, f, h⟩
set_option maxRecDepth 100000 in
set_option maxHeartbeats 8000000 in
theorem FaultFirst_walk (w : World) (hsh : w.ShapedOpen Tryz.prog) (v : Value) (l : List RawS) (hl : RawsAt w w.heap.size v l) (hok : ∀ x ∈ l, RawOk x) (hn : l.length ≤ 1048576) (v2 : Value) (ps : List Int) (hl2 : IntsAt .i64 w w.heap.size v2 ps) (hps : ∀ p ∈ ps, I64 p) (hn2 : ps.length ≤ 1048576) :
    Calls Tryz.prog 3 #[v, v2] w fun e w' => e = .returned (.bool true) ∧ Below w.heap.size w w' := by
  have hm := ML.of_shaped hsh
  clear hsh
  have HML : Hid (∀ W, Below w.heap.size w W → ML W) := Lib.hid (fun W hb => hm.below hb)
  have HT := Lib.hid (fun (_ : Unit) => Tree_any l v 20 w hm hl hok hn (by omega))
  have HE : Hid (∀ W, Below w.heap.size w W → Calls Tryz.prog 11 #[v, .int .i64 20] W fun e w' => ∃ ev, e = .returned (.tuple #[ev, .bool true]) ∧ EntsOwn w' W.heap.size ev (planP (treeP l 20)) ∧ Below W.heap.size W w') := Lib.hid (fun W hb => entriesOf_any l v 20 W (HML.out W hb) ((hl.below hb).more hb.size) hok hn (by omega))
  have hto := treeP_ok l 20 (by omega)
  obtain ⟨Al, cl, rfl, -⟩ := hl
  have HFO := Lib.hid (fun W v1 (hb : Below w.heap.size w W) (h : NodesAt W v1 (treeP l 20)) => FaultsOf_any v1 v2 (treeP l 20) ps W h hto ((hl2.below hb).more hb.size) hps hn2)
  have HFOK := Lib.hid (fltsP_ok hto ps)
  have HXOK := Lib.hid (plan_ok hto)
  obtain ⟨Ap, cp, rfl, -⟩ := hl2
  clear hm hok hn hps hn2 hto
  generalize fltsP (treeP l 20) ps = F at *
  generalize planP (treeP l 20) = x at *
  generalize treeP l 20 = t at *
  have HFF := Lib.hid (fun W v1 xs v2 (hb : Below w.heap.size w W) (h1 : EntsAt W v1 x xs) (h2 : FltsAt W v2 F) => FFirst_ok v1 v2 x xs F W (fun W' hb' => HML.out W' (hb.trans (hb'.mono hb.size))) h1 HXOK.out h2 HFOK.out)
  have HLT := Lib.hid (fun W v1 xs v2 (hb : Below w.heap.size w W) (h1 : EntsAt W v1 [litE] xs) (h2 : FltsAt W v2 [litF]) => (FFirst_ok v1 v2 [litE] xs [litF] W (fun W' hb' => HML.out W' (hb.trans (hb'.mono hb.size))) h1 litE_ok h2 litF_ok).mono fun e w' h => lit_post W w' e h)
  have hxl := HXOK.out.len
  clear HML HFOK HXOK
  go_enter Tryz.func3, Tryz.ntmps3
  go_wp2_with fail
  refine (HT.out ()).mono ?_
  rintro e w1 ⟨tv, rfl, htv, b1⟩
  have HB1 := Lib.hid b1
  have HT1 := Lib.hid htv.at_
  clear htv b1 HT
  go_wp2_with fail
  refine (HE.out _ HB1.out).mono ?_
  rintro e w2 ⟨ev, rfl, hev, b2⟩
  have HB2 := Lib.hid (HB1.out.trans (b2.mono HB1.out.size))
  obtain ⟨xs, hxs⟩ := EntsRow.at_ hev
  have HX2 := Lib.hid hxs
  have HT2 := Lib.hid (HT1.out.below b2)
  clear hev b2 hxs HE HT1 HB1
  go_wp2_with fail
  refine (HFO.out _ _ HB2.out HT2.out).mono ?_
  rintro e w3 ⟨fv, rfl, hfv, b3⟩
  have HX3 := Lib.hid (HX2.out.below b3)
  have HF3 := Lib.hid hfv.at_
  have HB3 := Lib.hid (HB2.out.trans (b3.mono HB2.out.size))
  clear hfv b3 HFO HT2 HB2 HX2
  obtain ⟨A2, c2, hf0, hc21, hc22, -, -⟩ := HF3.out
  obtain ⟨A1, c1, hx0, rfl, hc11, hc12, -⟩ := HX3.out
  obtain ⟨W4, hW4⟩ : ∃ W4, W4 = w3.alloc (.cells #[fv] 29) := ⟨_, rfl⟩
  obtain ⟨g8, hg8⟩ : ∃ g8, g8 = w3.heap.size := ⟨_, rfl⟩
  have hb4 : Below w3.heap.size w3 W4 := by rw [hW4]; exact (Below.refl _ _).alloc (Nat.le_refl _) _
  have hk4 : Blk W4 g8 29 #[fv] := by rw [hW4, hg8]; exact Blk.new _ _ _
  subst hf0
  have HX4 := Lib.hid (HX3.out.below hb4)
  have HF4 := Lib.hid (HF3.out.below hb4)
  have HB4 := Lib.hid (HB3.out.trans (hb4.mono HB3.out.size))
  have HK4 := Lib.hid hk4
  clear hb4 HX3 HF3 HB3
  go_upto_region 4 with fail
  rw [← hW4, ← hg8]
  clear hW4 hg8
  have k4 : W4.cell? ⟨g8, 0, none⟩ = some (.slice A2 F.length c2) := hk4.cell 0
  clear hk4
  go_wp2_with fail
  refine (HFF.out _ _ _ _ HB4.out HX4.out HF4.out).mono ?_
  rintro e w5 ⟨b5, hpost⟩
  have HX5 := Lib.hid (HX4.out.below b5)
  have HF5 := Lib.hid (HF4.out.below b5)
  have HB5 := Lib.hid (HB4.out.trans (b5.mono HB4.out.size))
  have hk5 := HK4.out.below b5 HK4.out.lt
  have HK5 := Lib.hid hk5
  clear b5 HX4 HF4 HB4 HK4 HFF k4
  cases hq : x.findIdx? (hasF F) with
  | none =>
    rw [hq] at hpost
    simp only at hpost
    subst hpost
    have HNO := Lib.hid (idxE_no hq)
    clear hq
    obtain ⟨W6, hW6⟩ : ∃ W6, W6 = w5.alloc (.cells #[.string ⟨#[]⟩, .int .i64 0] 32) := ⟨_, rfl⟩
    obtain ⟨g9, hg9⟩ : ∃ g9, g9 = w5.heap.size := ⟨_, rfl⟩
    have hb6 : Below w5.heap.size w5 W6 := by rw [hW6]; exact (Below.refl _ _).alloc (Nat.le_refl _) _
    have HK6 : Hid (Blk W6 g9 32 #[.string ⟨#[]⟩, .int .i64 0]) := Lib.hid (by rw [hW6, hg9]; exact Blk.new _ _ _)
    have HX6 := Lib.hid (HX5.out.below hb6)
    have HF6 := Lib.hid (HF5.out.below hb6)
    have HB6 := Lib.hid (HB5.out.trans (hb6.mono HB5.out.size))
    have HC6 := Lib.hid (HK5.out.below hb6 HK5.out.lt)
    clear HX5 HF5 HB5 HK5 hb6 hk5
    go_upto_region 5 with fail
    rw [← hW6, ← hg9]
    clear hW6 hg9
    obtain ⟨bl, hle, hlf⟩ := lits_at W6
    have HX7 := Lib.hid (HX6.out.below bl)
    have HF7 := Lib.hid (HF6.out.below bl)
    have HB7 := Lib.hid (HB6.out.trans (bl.mono HB6.out.size))
    have HC7 := Lib.hid (HC6.out.below bl HC6.out.lt)
    have HK7 := Lib.hid (HK6.out.below bl HK6.out.lt)
    have HL := Lib.hid (HLT.out _ _ _ _ HB7.out hle hlf)
    clear HLT bl hle hlf HX6 HF6 HB6 HC6 HK6
    go_wp2_with fail
    refine HL.out.mono ?_
    rintro e w8 ⟨b8, f8, rfl⟩
    have HX8 := Lib.hid (HX7.out.below b8)
    have HF8 := Lib.hid (HF7.out.below b8)
    have HB8 := Lib.hid (HB7.out.trans (b8.mono HB7.out.size))
    have HC8 := Lib.hid (HC7.out.below b8 HC7.out.lt)
    have HK8 := Lib.hid (HK7.out.below b8 HK7.out.lt)
    clear b8 HL HX7 HF7 HB7 HC7 HK7
    obtain ⟨W9, hW9⟩ : ∃ W9, W9 = w8.alloc (.cells #[.string (bs f8.path), .int .i64 f8.code] 32) := ⟨_, rfl⟩
    have hb9 : Below w8.heap.size w8 W9 := by rw [hW9]; exact (Below.refl _ _).alloc (Nat.le_refl _) _
    have HX9 := Lib.hid (HX8.out.below hb9)
    have HF9 := Lib.hid (HF8.out.below hb9)
    have HB9 := Lib.hid (HB8.out.trans (hb9.mono HB8.out.size))
    have HC9 := Lib.hid (HC8.out.below hb9 HC8.out.lt)
    have HK9 := Lib.hid (HK8.out.below hb9 HK8.out.lt)
    clear hb9 HX8 HF8 HB8 HC8 HK8
    go_upto_region 6 with fail
    rw [← hW9]
    clear hW9
    have HP9 := Lib.hid (fun W y A n c (hb : Below W9.heap.size W9 W) => (ffp_any y A n c g8 (.slice A2 F.length c2) F W (HC9.out.below hb HC9.out.lt).lt ((HC9.out.below hb HC9.out.lt).cell 0) (HF9.out.below hb)).mono fun e w' ⟨h1, h2⟩ => (show e = Ending.returned (.bool (hasF F y)) ∧ Below W9.heap.size W9 w' from ⟨h1, hb.trans (h2.mono hb.size)⟩))
    have HH := Lib.hid (HasE_any 14 #[.pointer (some ⟨g8, 0, none⟩)] eg_ffp (.slice A1 x.length c1) x xs (hasF F) W9 HX9.out HP9.out)
    rw [HNO.out] at HH
    go_wp2_with fail
    refine HH.out.mono ?_
    rintro e w10 ⟨rfl, b10⟩
    have HB10 := Lib.hid (HB9.out.trans (b10.mono HB9.out.size))
    clear b10 HH HP9
    go_wp2_with fail
    go_ret
    exact ⟨rfl, HB10.out⟩
  | some k =>
    rw [hq] at hpost
    obtain ⟨f, hfp, hpost⟩ := hpost
    replace hpost : e = .returned (.tuple #[.agg #[.string (bs f.path), .int .i64 f.code], .int .i64 (k : Int), .int .i64 0]) := hpost
    subst hpost
    obtain ⟨hk, hhas, hno⟩ := idxE_take hq
    obtain ⟨W6, hW6⟩ : ∃ W6, W6 = w5.alloc (.cells #[.string (bs f.path), .int .i64 f.code] 32) := ⟨_, rfl⟩
    obtain ⟨g9, hg9⟩ : ∃ g9, g9 = w5.heap.size := ⟨_, rfl⟩
    have hb6 : Below w5.heap.size w5 W6 := by rw [hW6]; exact (Below.refl _ _).alloc (Nat.le_refl _) _
    have HK6 : Hid (Blk W6 g9 32 #[.string (bs f.path), .int .i64 f.code]) := Lib.hid (by rw [hW6, hg9]; exact Blk.new _ _ _)
    have HX6 := Lib.hid (HX5.out.below hb6)
    have HF6 := Lib.hid (HF5.out.below hb6)
    have HB6 := Lib.hid (HB5.out.trans (hb6.mono HB5.out.size))
    have HC6 := Lib.hid (HK5.out.below hb6 HK5.out.lt)
    clear HX5 HF5 HB5 HK5 hb6 hk5
    go_upto_region 5 with fail
    rw [← hW6, ← hg9]
    clear hW6 hg9
    obtain ⟨bl, hle, hlf⟩ := lits_at W6
    have HX7 := Lib.hid (HX6.out.below bl)
    have HF7 := Lib.hid (HF6.out.below bl)
    have HB7 := Lib.hid (HB6.out.trans (bl.mono HB6.out.size))
    have HC7 := Lib.hid (HC6.out.below bl HC6.out.lt)
    have HK7 := Lib.hid (HK6.out.below bl HK6.out.lt)
    have HL := Lib.hid (HLT.out _ _ _ _ HB7.out hle hlf)
    clear HLT bl hle hlf HX6 HF6 HB6 HC6 HK6
    go_wp2_with fail
    refine HL.out.mono ?_
    rintro e w8 ⟨b8, f8, rfl⟩
    have HX8 := Lib.hid (HX7.out.below b8)
    have HF8 := Lib.hid (HF7.out.below b8)
    have HB8 := Lib.hid (HB7.out.trans (b8.mono HB7.out.size))
    have HC8 := Lib.hid (HC7.out.below b8 HC7.out.lt)
    have HK8 := Lib.hid (HK7.out.below b8 HK7.out.lt)
    clear b8 HL HX7 HF7 HB7 HC7 HK7
    obtain ⟨W9, hW9⟩ : ∃ W9, W9 = w8.alloc (.cells #[.string (bs f8.path), .int .i64 f8.code] 32) := ⟨_, rfl⟩
    have hb9 : Below w8.heap.size w8 W9 := by rw [hW9]; exact (Below.refl _ _).alloc (Nat.le_refl _) _
    have HX9 := Lib.hid (HX8.out.below hb9)
    have HF9 := Lib.hid (HF8.out.below hb9)
    have HB9 := Lib.hid (HB8.out.trans (hb9.mono HB8.out.size))
    have HC9 := Lib.hid (HC8.out.below hb9 HC8.out.lt)
    have HK9 := Lib.hid (HK8.out.below hb9 HK8.out.lt)
    clear hb9 HX8 HF8 HB8 HC8 HK8
    go_upto_region 6 with fail
    rw [← hW9]
    clear hW9
    obtain ⟨ad, hxk, Ax, cx, hA, had, -, -, e0, e1, e2, e3, e4, e5, e6, e7, e8, e9, e10⟩ := HX9.out.read hk
    subst hA
    have HTK := Lib.hid (HX9.out.take_ k (by omega))
    have HPE : Hid (f.path = x[k].path) := Lib.hid (by
      rw [List.getElem?_eq_getElem hk] at hfp
      simpa using hfp.symm)
    have HFN := Lib.hid (fun W (hb : Below W9.heap.size W9 W) y A n c => (ffp_any y A n c g8 (.slice A2 F.length c2) F W (HC9.out.below hb HC9.out.lt).lt ((HC9.out.below hb HC9.out.lt).cell 0) (HF9.out.below hb)).mono fun e w' ⟨h1, h2⟩ => (show e = Ending.returned (.bool (hasF F y)) ∧ Below W.heap.size W w' from ⟨h1, h2⟩))
    have HXH := Lib.hid (fun W (hb : Below W9.heap.size W9 W) => (show Calls Tryz.prog 14 #[.agg (entC x[k] (.slice Ax x[k].data.length cx)).toArray, .pointer (some ⟨g8, 0, none⟩)] W fun e w' => e = Ending.returned (.bool true) ∧ Below W.heap.size W w' by
      have h := HFN.out W hb x[k] Ax x[k].data.length cx
      rw [hhas] at h
      exact h))
    have HTH := Lib.hid (fun W (hb : Below W9.heap.size W9 W) => (show Calls Tryz.prog 17 #[.slice (some ad) k c1, .func (.func 14) #[] #[.pointer (some ⟨g8, 0, none⟩)]] W fun e w' => e = Ending.returned (.bool false) ∧ Below W.heap.size W w' by
      have h := HasE_any 14 #[.pointer (some ⟨g8, 0, none⟩)] eg_ffp (.slice (some ad) k c1) (x.take k) (xs.take k) (hasF F) W (HTK.out.below hb) (fun W' y A n c hb' => (HFN.out W' (hb.trans (hb'.mono hb.size)) y A n c).mono fun e w' ⟨h1, h2⟩ => ⟨h1, hb'.trans (h2.mono hb'.size)⟩)
      rw [hno] at h
      exact h))
    rw [HPE.out] at HK9 ⊢
    have hkc : k ≤ c1 := by omega
    have had : (ad.add (k * 11)).block < W9.heap.size := by
      rw [show (ad.add (k * 11)).block = ad.block by cases ad; simp only [Addr.add]; split <;> rfl]
      exact had
    clear hhas hno hfp HPE HFN HTK HX9 HF9 HC9 hx0 hq
    generalize x[k] = y at *
    generalize x.length = xn at *
    clear hxk
    obtain ⟨xp, xk, xt, ⟨m1, m2, m3, m4, m5, m6, m7⟩, xd⟩ := y
    unfold entC at HXH
    simp only at HXH HK9 e0 e1 e2 e3 e4 e5 e6 e7 e8 e9 e10
    generalize bs xp = bx at *
    generalize bs xt = bt at *
    generalize bs m4 = bm4 at *
    generalize bs m5 = bm5 at *
    generalize xd.length = dn at *
    generalize f.code = fcd at *
    have u1 : (k : Int) < (xn : Int) := by omega
    have u2 : (0 : Int) ≤ (k : Int) := by omega
    have u3 : (k : Int) ≤ (c1 : Int) := by omega
    have u4 : decide ((k : Int) < (xn : Int)) = true := decide_eq_true u1
    have v0 : W9.cell? ⟨g9, 0, none⟩ = some (.string bx) := HK9.out.cell 0
    have HCC : Hid (∀ W W' : World, Below W9.heap.size W9 W → Below W.heap.size W W' → Below W9.heap.size W9 W') := Lib.hid (fun W W' h1 h2 => h1.trans (h2.mono h1.size))
    have HCE : Hid (∀ W : World, Below W9.heap.size W9 W → ∀ j u, W9.cell? ⟨(ad.add (k * 11)).block, (ad.add (k * 11)).off + j, none⟩ = some u → W.cell? ⟨(ad.add (k * 11)).block, (ad.add (k * 11)).off + j, none⟩ = some u) := Lib.hid (fun W hb j u h => (hb.cell (p := ⟨(ad.add (k * 11)).block, (ad.add (k * 11)).off + j, none⟩) had).trans h)
    have HC0 : Hid (∀ W : World, Below W9.heap.size W9 W → W.cell? (ad.add (k * 11)) = some (.string bx)) := Lib.hid (fun W hb => (hb.cell (p := ad.add (k * 11)) had).trans e0)
    have HC9 : Hid (∀ W : World, Below W9.heap.size W9 W → W.cell? ⟨g9, 0, none⟩ = some (.string bx)) := Lib.hid (fun W hb => (hb.cell (p := ⟨g9, 0, none⟩) HK9.out.lt).trans v0)
    clear HK9 v0
    go_upto_region 11 with fail
    refine wp_region_G (S := fun W => Below W9.heap.size W9 W) (by kernel_rfl) (Below.refl _ _).drew ?_
    refine wpG_take (i := 0) (v := ?vz1) rfl (by kernel_rfl) (by kernel_rfl) (by kernel_rfl) (fun _ _ _ h => h) (Or.inl ⟨by rfl, ?hyz1⟩) ?restz1
    case hyz1 => (intro W hSw; left; (try dsimp only at hSw); go_simp; try with_reducible rfl)
    simp only [Act.put, List.setIfInBounds_toArray, List.set_cons_zero, List.set_cons_succ, List.getElem_toArray, List.getElem_cons_zero, List.getElem_cons_succ]
    refine wpG_take (i := 1) (v := ?vz2) rfl (by kernel_rfl) (by kernel_rfl) (by kernel_rfl) (fun _ _ _ h => h) (Or.inl ⟨by rfl, ?hyz2⟩) ?restz2
    case hyz2 => (intro W hSw; left; (try dsimp only at hSw); go_simp; try with_reducible rfl)
    simp only [Act.put, List.setIfInBounds_toArray, List.set_cons_zero, List.set_cons_succ, List.getElem_toArray, List.getElem_cons_zero, List.getElem_cons_succ]
    refine wpG_take (i := 2) (v := ?vz3) rfl (by kernel_rfl) (by kernel_rfl) (by kernel_rfl) (fun _ _ _ h => h) (Or.inl ⟨by rfl, ?hyz3⟩) ?restz3
    case hyz3 => (intro W hSw; left; (try dsimp only at hSw); go_simp; try with_reducible rfl)
    simp only [Act.put, List.setIfInBounds_toArray, List.set_cons_zero, List.set_cons_succ, List.getElem_toArray, List.getElem_cons_zero, List.getElem_cons_succ]
    refine wpG_take (i := 3) (v := .bool true) rfl (by kernel_rfl) (by kernel_rfl) (by kernel_rfl) (fun _ _ _ h => h) (Or.inl ⟨by rfl, ?hyz4⟩) ?restz4
    case hyz4 => (intro W hSw; left; (try dsimp only at hSw); go_simp; try with_reducible rfl)
    simp only [Act.put, List.setIfInBounds_toArray, List.set_cons_zero, List.set_cons_succ, List.getElem_toArray, List.getElem_cons_zero, List.getElem_cons_succ]
    refine wpG_take (i := 4) (v := ?vz5) rfl (by kernel_rfl) (by kernel_rfl) (by kernel_rfl) (fun _ _ _ h => h) (Or.inl ⟨by rfl, ?hyz5⟩) ?restz5
    case hyz5 => (intro W hSw; left; (try dsimp only at hSw); go_simp; try with_reducible rfl)
    simp only [Act.put, List.setIfInBounds_toArray, List.set_cons_zero, List.set_cons_succ, List.getElem_toArray, List.getElem_cons_zero, List.getElem_cons_succ]
    refine wpG_take (i := 5) (v := ?vz6) rfl (by kernel_rfl) (by kernel_rfl) (by kernel_rfl) (fun _ _ _ h => h) (Or.inl ⟨by rfl, ?hyz6⟩) ?restz6
    case hyz6 => (intro W hSw; left; (try dsimp only at hSw); go_simp; try with_reducible rfl)
    simp only [Act.put, List.setIfInBounds_toArray, List.set_cons_zero, List.set_cons_succ, List.getElem_toArray, List.getElem_cons_zero, List.getElem_cons_succ]
    refine wpG_take (i := 6) (v := ?vz7) rfl (by kernel_rfl) (by kernel_rfl) (by kernel_rfl) (fun _ _ _ h => h) (Or.inl ⟨by rfl, ?hyz7⟩) ?restz7
    case hyz7 => (intro W hSw; left; (try dsimp only at hSw); go_simp; try with_reducible rfl)
    simp only [Act.put, List.setIfInBounds_toArray, List.set_cons_zero, List.set_cons_succ, List.getElem_toArray, List.getElem_cons_zero, List.getElem_cons_succ]
    refine wpG_take (i := 7) (v := ?vz8) rfl (by kernel_rfl) (by kernel_rfl) (by kernel_rfl) (fun _ _ _ h => h) (Or.inl ⟨by rfl, ?hyz8⟩) ?restz8
    case hyz8 => (intro W hSw; left; (try dsimp only at hSw); go_simp; try with_reducible rfl)
    simp only [Act.put, List.setIfInBounds_toArray, List.set_cons_zero, List.set_cons_succ, List.getElem_toArray, List.getElem_cons_zero, List.getElem_cons_succ]
    refine wpG_take (i := 8) (v := ?vz9) rfl (by kernel_rfl) (by kernel_rfl) (by kernel_rfl) (fun _ _ _ h => h) (Or.inl ⟨by rfl, ?hyz9⟩) ?restz9
    case hyz9 => (intro W hSw; left; (try dsimp only at hSw); go_simp; try with_reducible rfl)
    simp only [Act.put, List.setIfInBounds_toArray, List.set_cons_zero, List.set_cons_succ, List.getElem_toArray, List.getElem_cons_zero, List.getElem_cons_succ]
    refine wpG_take (i := 9) (v := ?vz10) rfl (by kernel_rfl) (by kernel_rfl) (by kernel_rfl) (fun _ _ _ h => h) (Or.inl ⟨by rfl, ?hyz10⟩) ?restz10
    case hyz10 => (intro W hSw; left; (try dsimp only at hSw); have c0 := HC0.out W hSw; go_simp; try with_reducible rfl)
    simp only [Act.put, List.setIfInBounds_toArray, List.set_cons_zero, List.set_cons_succ, List.getElem_toArray, List.getElem_cons_zero, List.getElem_cons_succ]
    refine wpG_take (i := 10) (v := ?vz11) rfl (by kernel_rfl) (by kernel_rfl) (by kernel_rfl) (fun _ _ _ h => h) (Or.inl ⟨by rfl, ?hyz11⟩) ?restz11
    case hyz11 => (intro W hSw; left; (try dsimp only at hSw); go_simp; try with_reducible rfl)
    simp only [Act.put, List.setIfInBounds_toArray, List.set_cons_zero, List.set_cons_succ, List.getElem_toArray, List.getElem_cons_zero, List.getElem_cons_succ]
    refine wpG_take (i := 11) (v := ?vz12) rfl (by kernel_rfl) (by kernel_rfl) (by kernel_rfl) (fun _ _ _ h => h) (Or.inl ⟨by rfl, ?hyz12⟩) ?restz12
    case hyz12 => (intro W hSw; left; (try dsimp only at hSw); have c9 := HC9.out W hSw; go_simp; try with_reducible rfl)
    simp only [Act.put, List.setIfInBounds_toArray, List.set_cons_zero, List.set_cons_succ, List.getElem_toArray, List.getElem_cons_zero, List.getElem_cons_succ]
    refine wpG_take (i := 12) (v := .bool true) rfl (by kernel_rfl) (by kernel_rfl) (by kernel_rfl) (fun _ _ _ h => h) (Or.inl ⟨by rfl, ?hyz13⟩) ?restz13
    case hyz13 => (intro W hSw; left; (try dsimp only at hSw); go_simp; try with_reducible rfl)
    simp only [Act.put, List.setIfInBounds_toArray, List.set_cons_zero, List.set_cons_succ, List.getElem_toArray, List.getElem_cons_zero, List.getElem_cons_succ]
    refine wpG_take (i := 13) (v := ?vz14) rfl (by kernel_rfl) (by kernel_rfl) (by kernel_rfl) (fun _ _ _ h => h) (Or.inl ⟨by rfl, ?hyz14⟩) ?restz14
    case hyz14 => (intro W hSw; left; (try dsimp only at hSw); go_simp; try with_reducible rfl)
    simp only [Act.put, List.setIfInBounds_toArray, List.set_cons_zero, List.set_cons_succ, List.getElem_toArray, List.getElem_cons_zero, List.getElem_cons_succ]
    refine wpG_take (i := 14) (v := ?vz15) rfl (by kernel_rfl) (by kernel_rfl) (by kernel_rfl) (fun _ _ _ h => h) (Or.inl ⟨by rfl, ?hyz15⟩) ?restz15
    case hyz15 => (intro W hSw; left; (try dsimp only at hSw); go_simp; try with_reducible rfl)
    simp only [Act.put, List.setIfInBounds_toArray, List.set_cons_zero, List.set_cons_succ, List.getElem_toArray, List.getElem_cons_zero, List.getElem_cons_succ]
    refine wpG_take (i := 15) (v := ?vz16) rfl (by kernel_rfl) (by kernel_rfl) (by kernel_rfl) (fun _ _ _ h => h) (Or.inl ⟨by rfl, ?hyz16⟩) ?restz16
    case hyz16 => (intro W hSw; left; (try dsimp only at hSw); go_simp; try with_reducible rfl)
    simp only [Act.put, List.setIfInBounds_toArray, List.set_cons_zero, List.set_cons_succ, List.getElem_toArray, List.getElem_cons_zero, List.getElem_cons_succ]
    refine wpG_take (i := 16) (v := ?vz17) rfl (by kernel_rfl) (by kernel_rfl) (by kernel_rfl) (fun _ _ _ h => h) (Or.inl ⟨by rfl, ?hyz17⟩) ?restz17
    case hyz17 => (intro W hSw; left; (try dsimp only at hSw); go_simp; try with_reducible rfl)
    simp only [Act.put, List.setIfInBounds_toArray, List.set_cons_zero, List.set_cons_succ, List.getElem_toArray, List.getElem_cons_zero, List.getElem_cons_succ]
    refine wpG_take (i := 17) (v := ?vz18) rfl (by kernel_rfl) (by kernel_rfl) (by kernel_rfl) (fun _ _ _ h => h) (Or.inl ⟨by rfl, ?hyz18⟩) ?restz18
    case hyz18 => (intro W hSw; left; (try dsimp only at hSw); go_simp; try with_reducible rfl)
    simp only [Act.put, List.setIfInBounds_toArray, List.set_cons_zero, List.set_cons_succ, List.getElem_toArray, List.getElem_cons_zero, List.getElem_cons_succ]
    refine wpG_take (i := 18) (v := ?vz19) rfl (by kernel_rfl) (by kernel_rfl) (by kernel_rfl) (fun _ _ _ h => h) (Or.inl ⟨by rfl, ?hyz19⟩) ?restz19
    case hyz19 => (intro W hSw; left; (try dsimp only at hSw); go_simp; try with_reducible rfl)
    simp only [Act.put, List.setIfInBounds_toArray, List.set_cons_zero, List.set_cons_succ, List.getElem_toArray, List.getElem_cons_zero, List.getElem_cons_succ]
    refine wpG_take (i := 19) (v := ?vz20) rfl (by kernel_rfl) (by kernel_rfl) (by kernel_rfl) (fun _ _ _ h => h) (Or.inl ⟨by rfl, ?hyz20⟩) ?restz20
    case hyz20 => (intro W hSw; left; (try dsimp only at hSw); have c0 := HC0.out W hSw; have c1 := HCE.out W hSw 1 _ e1; have c2 := HCE.out W hSw 2 _ e2; have c3 := HCE.out W hSw 3 _ e3; have c4 := HCE.out W hSw 4 _ e4; have c5 := HCE.out W hSw 5 _ e5; have c6 := HCE.out W hSw 6 _ e6; have c7 := HCE.out W hSw 7 _ e7; have c8 := HCE.out W hSw 8 _ e8; have c9 := HCE.out W hSw 9 _ e9; have c10 := HCE.out W hSw 10 _ e10; go_simp; try with_reducible rfl)
    simp only [Act.put, List.setIfInBounds_toArray, List.set_cons_zero, List.set_cons_succ, List.getElem_toArray, List.getElem_cons_zero, List.getElem_cons_succ]
    refine wpG_take (i := 20) (v := (.bool true)) rfl (by kernel_rfl) (by kernel_rfl) (by kernel_rfl) (fun _ _ _ h => h) (Or.inl ⟨by rfl, ?hyz21⟩) ?restz21
    case hyz21 => (intro W hSw; right; (try dsimp only at hSw); refine ⟨_, _, (by go_simp; try with_reducible rfl), (HXH.out W hSw).mono ?_⟩; rintro e w' ⟨rfl, hb⟩; exact ⟨rfl, HCC.out _ _ hSw hb, hb⟩)
    simp only [Act.put, List.setIfInBounds_toArray, List.set_cons_zero, List.set_cons_succ, List.getElem_toArray, List.getElem_cons_zero, List.getElem_cons_succ]
    refine wpG_take (i := 21) (v := ?vz22) rfl (by kernel_rfl) (by kernel_rfl) (by kernel_rfl) (fun _ _ _ h => h) (Or.inl ⟨by rfl, ?hyz22⟩) ?restz22
    case hyz22 => (intro W hSw; left; (try dsimp only at hSw); go_simp; try with_reducible rfl)
    simp only [Act.put, List.setIfInBounds_toArray, List.set_cons_zero, List.set_cons_succ, List.getElem_toArray, List.getElem_cons_zero, List.getElem_cons_succ]
    refine wpG_take (i := 22) (v := ?vz23) rfl (by kernel_rfl) (by kernel_rfl) (by kernel_rfl) (fun _ _ _ h => h) (Or.inl ⟨by rfl, ?hyz23⟩) ?restz23
    case hyz23 => (intro W hSw; left; (try dsimp only at hSw); go_simp; try with_reducible rfl)
    simp only [Act.put, List.setIfInBounds_toArray, List.set_cons_zero, List.set_cons_succ, List.getElem_toArray, List.getElem_cons_zero, List.getElem_cons_succ]
    refine wpG_take (i := 23) (v := ?vz24) rfl (by kernel_rfl) (by kernel_rfl) (by kernel_rfl) (fun _ _ _ h => h) (Or.inl ⟨by rfl, ?hyz24⟩) ?restz24
    case hyz24 => (intro W hSw; left; (try dsimp only at hSw); go_simp; try with_reducible rfl)
    simp only [Act.put, List.setIfInBounds_toArray, List.set_cons_zero, List.set_cons_succ, List.getElem_toArray, List.getElem_cons_zero, List.getElem_cons_succ]
    refine wpG_take (i := 24) (v := ?vz25) rfl (by kernel_rfl) (by kernel_rfl) (by kernel_rfl) (fun _ _ _ h => h) (Or.inl ⟨by rfl, ?hyz25⟩) ?restz25
    case hyz25 => (intro W hSw; left; (try dsimp only at hSw); go_simp; try with_reducible rfl)
    simp only [Act.put, List.setIfInBounds_toArray, List.set_cons_zero, List.set_cons_succ, List.getElem_toArray, List.getElem_cons_zero, List.getElem_cons_succ]
    refine wpG_take (i := 25) (v := ?vz26) rfl (by kernel_rfl) (by kernel_rfl) (by kernel_rfl) (fun _ _ _ h => h) (Or.inl ⟨by rfl, ?hyz26⟩) ?restz26
    case hyz26 => (intro W hSw; left; (try dsimp only at hSw); go_simp; try with_reducible rfl)
    simp only [Act.put, List.setIfInBounds_toArray, List.set_cons_zero, List.set_cons_succ, List.getElem_toArray, List.getElem_cons_zero, List.getElem_cons_succ]
    refine wpG_take (i := 26) (v := ?vz27) rfl (by kernel_rfl) (by kernel_rfl) (by kernel_rfl) (fun _ _ _ h => h) (Or.inl ⟨by rfl, ?hyz27⟩) ?restz27
    case hyz27 => (intro W hSw; left; (try dsimp only at hSw); go_simp; try with_reducible rfl)
    simp only [Act.put, List.setIfInBounds_toArray, List.set_cons_zero, List.set_cons_succ, List.getElem_toArray, List.getElem_cons_zero, List.getElem_cons_succ]
    refine wpG_take (i := 27) (v := (.bool false)) rfl (by kernel_rfl) (by kernel_rfl) (by kernel_rfl) (fun _ _ _ h => h) (Or.inl ⟨by rfl, ?hyz28⟩) ?restz28
    case hyz28 => (intro W hSw; right; (try dsimp only at hSw); refine ⟨_, _, (by go_simp; try with_reducible rfl), (HTH.out W hSw).mono ?_⟩; rintro e w' ⟨rfl, hb⟩; exact ⟨rfl, HCC.out _ _ hSw hb, hb⟩)
    simp only [Act.put, List.setIfInBounds_toArray, List.set_cons_zero, List.set_cons_succ, List.getElem_toArray, List.getElem_cons_zero, List.getElem_cons_succ]
    refine wpG_take (i := 28) (v := ?vz29) rfl (by kernel_rfl) (by kernel_rfl) (by kernel_rfl) (fun _ _ _ h => h) (Or.inl ⟨by rfl, ?hyz29⟩) ?restz29
    case hyz29 => (intro W hSw; left; (try dsimp only at hSw); go_simp; try with_reducible rfl)
    simp only [Act.put, List.setIfInBounds_toArray, List.set_cons_zero, List.set_cons_succ, List.getElem_toArray, List.getElem_cons_zero, List.getElem_cons_succ]
    refine wpG_take (i := 29) (v := ?vz30) rfl (by kernel_rfl) (by kernel_rfl) (by kernel_rfl) (fun _ _ _ h => h) (Or.inl ⟨by rfl, ?hyz30⟩) ?restz30
    case hyz30 => (intro W hSw; left; (try dsimp only at hSw); go_simp; try with_reducible rfl)
    simp only [Act.put, List.setIfInBounds_toArray, List.set_cons_zero, List.set_cons_succ, List.getElem_toArray, List.getElem_cons_zero, List.getElem_cons_succ]
    refine wpG_take (i := 30) (v := ?vz31) rfl (by kernel_rfl) (by kernel_rfl) (by kernel_rfl) (fun _ _ _ h => h) (Or.inl ⟨by rfl, ?hyz31⟩) ?restz31
    case hyz31 => (intro W hSw; left; (try dsimp only at hSw); go_simp; try with_reducible rfl)
    simp only [Act.put, List.setIfInBounds_toArray, List.set_cons_zero, List.set_cons_succ, List.getElem_toArray, List.getElem_cons_zero, List.getElem_cons_succ]
    refine wpG_done (by kernel_rfl) (fun w3 hb3 hS3 => ?_) _
    have HB10 := Lib.hid (HB9.out.trans (hS3.mono HB9.out.size))
    clear hb3 hS3
    go_wp2_with fail
    go_ret
    exact ⟨rfl, HB10.out⟩
end Go.Proofs.YtpanjldionaaiaaGreatDoor
