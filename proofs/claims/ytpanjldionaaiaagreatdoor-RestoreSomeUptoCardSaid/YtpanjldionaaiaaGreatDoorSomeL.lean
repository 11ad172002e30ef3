/-
  creelkeep.recordsOf: the records of raw things, plainly and walked. Condition: raw things of the second form's bound; the library's table of powers of ten lies as Go laid it.
  The law PaxTwice: what it computes is true. Condition: raw things of the second form's bound; the library's table of powers of ten lies as Go laid it.
  The law RestoreSome: what it computes is true. Condition: raw things of the second form's bound; the library's table of powers of ten lies as Go laid it.
-/
import Derived.Test.YtpanjldionaaiaaGreatDoorRecsQ
import Derived.Test.YtpanjldionaaiaaGreatDoorTreeE
import Derived.Deep.RegionHeld3
import Derived.Test.YtpanjldionaaiaaGreatDoorSomeW
namespace Go.Proofs.YtpanjldionaaiaaGreatDoor
set_option linter.all false
open Go.RowKit
/-- in the loop of recordsOf -/
def RoSt (w0 : World) (v : Value) (rs : List RecS) (w : World) : Prop := Below w0.heap.size w0 w ∧ RecsOwn w w0.heap.size v rs
theorem RoSt.below {w0 w w' : World} {v : Value} {rs : List RecS} (h : RoSt w0 v rs w) (hb : Below w.heap.size w w') : RoSt w0 v rs w' := ⟨h.1.trans (hb.mono h.1.size), h.2.below hb⟩
theorem RoSt.snoc {w0 w w' : World} {v v' : Value} {rs : List RecS} {x : RecS} (h : RoSt w0 v rs w) (hg : w.grownBy w' v.ownBlock) (ho : w'.ownsRow w0.heap.size 198 2 v' (rs.length + 1) (rs.flatMap recC ++ recC x)) : RoSt w0 v' (rs ++ [x]) w' := by
  refine ⟨h.1.grown hg h.1.size (fun k e => (own_typed h.2 e).1), ?_⟩
  unfold RecsOwn
  rw [List.length_append, List.flatMap_append]
  simpa using ho
abbrev SRo (w0 : World) (g : Nat) (cs : Array Value) (b : Int) (bt : ByteArray) (v : Value) (rs : List RecS) (w : World) : Prop :=
  w.cell? ⟨g, 2, none⟩ = some (.int .i64 b) ∧ w.cell? ⟨g, 3, none⟩ = some (.string bt) ∧ Blk w g 54 cs ∧ RoSt w0 v rs w
theorem SRo.below {w0 w w' : World} {g : Nat} {cs : Array Value} {b : Int} {bt : ByteArray} {v : Value} {rs : List RecS} (h : SRo w0 g cs b bt v rs w) (hb : Below w.heap.size w w') : SRo w0 g cs b bt v rs w' :=
  ⟨(hb.cell (p := ⟨g, 2, none⟩) h.2.2.1.lt).trans h.1, (hb.cell (p := ⟨g, 3, none⟩) h.2.2.1.lt).trans h.2.1, h.2.2.1.below hb h.2.2.1.lt, h.2.2.2.below hb⟩
end Go.Proofs.YtpanjldionaaiaaGreatDoor
namespace Go.Proofs.YtpanjldionaaiaaGreatDoor
set_option linter.all false
open Go.RowKit
theorem rawinfo : (Tryz.prog.info? 54).map (fun i => (i.zero, i.size, i.bytes)) = some (some (.agg #[.int .i64 0, .int .i64 0, .int .i64 0, .string ⟨#[]⟩]), 4, 40) := by kernel_rfl
theorem ones_raw (l : List RawS) : ∀ u ∈ l.flatMap rawCells, u.oneCell' = true := by
  intro u hu
  obtain ⟨x, _, hx⟩ := List.mem_flatMap.1 hu
  simp only [rawCells, List.mem_cons, List.mem_nil_iff, or_false] at hx
  rcases hx with rfl | rfl | rfl | rfl <;> rfl
def RawsOwn (w : World) (base : Nat) (v : Value) (l : List RawS) : Prop := w.ownsRow base 54 4 v l.length (l.flatMap rawCells)
theorem RawsOwn.at_ {w : World} {base : Nat} {v : Value} {l : List RawS} (h : RawsOwn w base v l) : RawsAt w w.heap.size v l := by
  obtain ⟨A, c, rfl, h1, h2, h3, h4⟩ := ownsRow_read h
  exact ⟨A, c, rfl, h1, h2, h3, h4⟩
set_option maxRecDepth 100000 in
theorem CloneR_any (v : Value) (l : List RawS) (w : World) (hl : RawsAt w w.heap.size v l) (hn : l.length ≤ 1048576) :
    Calls Tryz.prog 21 #[v] w fun e w' => ∃ tv, e = .returned tv ∧ RawsOwn w' w.heap.size tv l ∧ Below w.heap.size w w' := by
  obtain ⟨A, c, rfl, hlc, hc, hA, hr⟩ := hl
  unfold maxLen at hc
  obtain ⟨i9, hi9, hy0, hy1, hy2⟩ := info_parts rawinfo
  have q22 : ∀ (w : World) (a : Option Addr) (n c n' c' : Nat), (binOp .eql 22 (.slice a n c) (.slice none n' c')).run Tryz.prog w = .ok (.bool a.isNone) w := fun w a n c n' c' => Lib.run_eql_slice_nil w _ _ a n c n' c' Tryz.underlying22
  rcases A with _ | ad
  · obtain rfl := hA rfl
    obtain rfl : l = [] := List.eq_nil_of_length_eq_zero (by omega)
    simp only [List.length_nil]
    clear hr hA
    go_enter Tryz.func21, Tryz.ntmps21
    go_wp2_with fail
    go_ret
    exact ⟨_, rfl, World.ownsRow_nil _ _ _ _, Below.refl _ _⟩
  · have HR := Lib.hid hr
    clear hr hA
    go_enter Tryz.func21, Tryz.ntmps21
    go_wp2_with (at_builtin; refine wpList_append_any _ rfl (.tmp 5) (.tmp 6) _ rfl w.heap.size 54 i9 _ 4 40 Tryz.underlying22 hi9 hy0 hy1 hy2 rfl (by omega) _ 0 [] rfl (World.ownsRow_made w #[] 0 (Nat.le_refl _) (Nat.zero_le _) rfl) w.heap.size (some ad) l.length c (l.flatMap rawCells) rfl (HR.out.below ((Below.refl _ _).alloc (Nat.le_refl _) _)) (ones_raw l) (by simp only [maxLen]; omega) (by omega) (by simp) ?_; intro v9 w9 hown9 hg9 hat9; obtain ⟨A9, c9, hv9, -⟩ := ownsRow_read hown9; subst hv9; have HO9 := Lib.hid hown9; have HG9 := Lib.hid hg9; clear hown9 hg9 hat9)
    go_ret
    have hB := ((Below.refl w.heap.size w).alloc (Nat.le_refl _) (.cells #[] 54)).grown HG9.out (by simp) (fun k hk => by have h : some w.heap.size = some k := hk; injection h with h; omega)
    exact ⟨_, rfl, by have := HO9.out; simpa [RawsOwn] using this, hB⟩
end Go.Proofs.YtpanjldionaaiaaGreatDoor
namespace Go.Proofs.YtpanjldionaaiaaGreatDoor
set_option linter.all false
open Go.RowKit
def rawO : RawS := ⟨1, 0, 0, []⟩
theorem rawO_ok : RawOk rawO := ⟨⟨by decide, by decide⟩, ⟨by decide, by decide⟩, ⟨by decide, by decide⟩, by simp [rawO]⟩
theorem growKind_ne (s : TreeS) (r : RawS) (p : List UInt8) (k : Nat) : (growKind s r p k).t ≠ [] := by
  unfold growKind
  split
  · simp
  · split
    · simp
    · split
      · cases linkAt s r <;> simp
      · simp
set_option maxRecDepth 100000 in
theorem names_short : ∀ x ∈ namesL, x.length ≤ 400 := by decide
theorem growStep_ne {most : Nat} (h0 : 0 < most) {s : TreeS} (hs : s.t ≠ [] ∨ s = ⟨[], [[]]⟩) (r : RawS) : (growStep most s r).t ≠ [] := by
  unfold growStep
  rcases hs with hs | hs
  · split
    · exact hs
    · split
      · exact hs
      · exact growKind_ne _ _ _ _
  · subst hs
    rw [if_neg (by simp; omega), if_neg ?_]
    · exact growKind_ne _ _ _ _
    · rintro (h | h)
      · have hg : growPath [[]] r = namesL.getD (pick r.a 11).toNat [] := by
          unfold growPath
          have : ([[]] : List (List UInt8)).getD (pick r.b ([[]] : List (List UInt8)).length).toNat [] = [] := by
            cases (pick r.b ([[]] : List (List UInt8)).length).toNat <;> rfl
          rw [this]
          rfl
        have hn : (namesL.getD (pick r.a 11).toNat []).length ≤ 400 := by
          rw [List.getD_eq_getElem?_getD]
          cases hq : namesL[(pick r.a 11).toNat]? with
          | none => simp
          | some x => exact names_short x (List.mem_of_getElem? hq)
        have h' : 400 < (growPath [[]] r).length := h
        rw [hg] at h'
        omega
      · simp [hasPath] at h
theorem growAll_ne {most : Nat} (h0 : 0 < most) : ∀ (l : List RawS) (s : TreeS), (s.t ≠ [] ∨ s = ⟨[], [[]]⟩) → ((l.foldl (growStep most) s).t ≠ [] ∨ l.foldl (growStep most) s = ⟨[], [[]]⟩)
  | [], _, h => h
  | r :: l, s, h => by
    rw [List.foldl_cons]
    exact growAll_ne h0 l _ (.inl (growStep_ne h0 h r))
theorem treeP_ne {most : Nat} (h0 : 0 < most) (l : List RawS) (r : RawS) : 0 < (treeP (l ++ [r]) most).length := by
  rw [(treeP_perm _ _).length_eq]
  unfold growAll
  rw [List.foldl_append]
  exact List.length_pos_iff.2 (growStep_ne h0 (growAll_ne h0 l _ (.inr rfl)) r)
set_option maxRecDepth 100000 in
set_option maxHeartbeats 8000000 in
theorem RestoreSome_walk (w : World) (hsh : w.ShapedOpen Tryz.prog) (h10 : P10 w) (v : Value) (l : List RawS) (hl : RawsAt w w.heap.size v l) (hok : ∀ x ∈ l, RawOk x) (hn : l.length ≤ 1048576) (i : Int) (hi : I64 i) :
    Calls Tryz.prog 5 #[v, .int .i64 i] w fun e w' => e = .returned (.bool true) ∧ Below w.heap.size w w' := by
  have hm := ML.of_shaped hsh
  clear hsh
  have HML : Hid (∀ W, Below w.heap.size w W → ML W) := Lib.hid (fun W hb => hm.below hb)
  have HP10 : Hid (∀ W, Below w.heap.size w W → P10 W) := Lib.hid (fun W hb => h10.below hb)
  have HC := Lib.hid (CloneR_any v l w hl hn)
  obtain ⟨Av, nv, rfl, -⟩ := hl
  have hokz : ∀ x ∈ l ++ [rawO], RawOk x := fun x hx => by
    rcases List.mem_append.1 hx with hx | hx
    · exact hok x hx
    · rw [List.mem_singleton] at hx; subst hx; exact rawO_ok
  have HTR := Lib.hid (fun v W (hb : Below w.heap.size w W) (h : RawsAt W W.heap.size v (l ++ [rawO])) => Tree_any1 (l ++ [rawO]) v 20 W (HML.out W hb) h hokz (by simp; omega) (by omega))
  have hto := treeP_ok (l ++ [rawO]) 20 (by omega)
  have hpos := treeP_ne (most := 20) (by omega) l rawO
  clear hm h10 hok hokz
  obtain ⟨RO, hRO⟩ : ∃ RO, RO = l ++ [rawO] := ⟨_, rfl⟩
  rw [← hRO] at hto hpos HTR
  have HRO := Lib.hid hRO
  clear hRO
  generalize treeP RO 20 = t at *
  obtain ⟨k, hk1, hk⟩ := pick_nat i t.length hpos
  have hlen := hto.len
  have HPK := Lib.hid (fun W => picked_any i t.length hi (by omega) (by omega) W)
  rw [hk1] at HPK
  have HFT := filter_none_ hto
  have HMK := Lib.hid (fun W v1 (hb : Below w.heap.size w W) (h : NodesAt W v1 t) => (show Calls Tryz.prog 22 #[v1, .slice none 0 0] W fun e w' => ∃ ev, e = .returned (.tuple #[ev, .int .i64 0]) ∧ EntsOwn w' W.heap.size ev (planP t) ∧ Below W.heap.size W w' by
    have h := Make_any v1 (.slice none 0 0) t [] W (fun W' hb' => HML.out W' (hb.trans (hb'.mono hb.size))) h hto (RulesAt.nil W) (by simp)
    rw [HFT] at h
    exact h))
  have HWA := Lib.hid (fun W (hb : Below w.heap.size w W) v b (h : EntsOwn W b v (planP t)) => (show Calls Tryz.prog 18 #[v] W fun e w' => ∃ bv, e = .returned (.tuple #[bv, .int .i64 0]) ∧ BytesOwn w' W.heap.size bv (arcB (planP t) ++ endB) ∧ Below W.heap.size W w' by
    obtain ⟨xs, hx⟩ := EntsRow.at_ h
    exact WArchive_ok v (planP t) xs W (fun W' hb' => HML.out W' (hb.trans (hb'.mono hb.size))) (fun W' hb' => HP10.out W' (hb.trans (hb'.mono hb.size))) hx (plan_ok hto)))
  have HRS := Lib.hid (fun W v (hb : Below w.heap.size w W) hv => RSome_ok t hto k hk v W (fun W' hb' => HML.out W' (hb.trans (hb'.mono hb.size))) (fun W' hb' => HP10.out W' (hb.trans (hb'.mono hb.size))) hv)
  have hko := hto.node t[k] (List.getElem_mem _)
  have hsl := hko.path.2
  have hsk := some_ok (anew_ok hto) (node_path_ne hko)
  have HTC := Lib.hid (fun W v (hb : Below w.heap.size w W) (h : NodesAt W v (someT (anewP t) t[k].path)) => (show Calls Tryz.prog 25 #[v] W fun e w' => e = .returned (.int .i64 0) ∧ Below W.heap.size W w' by
    have h2 := TCheck_any v _ W (HML.out W hb) h hsk.node
    rw [hsk.chk] at h2
    exact h2))
  have HSH := Lib.hid (fun j (hj : j < t.length) => some_has hto t[k].path hj)
  have HOK := Lib.hid hto.node
  obtain ⟨s, hs⟩ : ∃ s, s = t[k].path := ⟨_, rfl⟩
  have HSE := Lib.hid hs
  rw [← hs] at HRS hsl HTC HSH
  clear hs hsk hko hto HFT hk1 hi
  obtain ⟨u, hu⟩ : ∃ u, u = someT (anewP t) s := ⟨_, rfl⟩
  rw [← hu] at HRS HTC HSH
  clear hu
  have HPI := Lib.hid (fun p W => PIn_any p s (by omega) W)
  generalize planP t = x at *
  generalize arcB x ++ endB = M at *
  obtain ⟨i9, hi9, hy0, hy1, hy2⟩ := info_parts rawinfo
  have hone : ∀ u ∈ rawCells rawO, u.oneCell' = true := by have := ones_raw [rawO]; simpa using this
  have hkz : (0 : Int) ≤ (k : Int) := by omega
  have hkx : (k : Int) < (t.length : Int) := by omega
  have ht0 : ((t.length : Int) == 0) = false := by rw [beq_eq_false_iff_ne]; omega
  go_enter Tryz.func5, Tryz.ntmps5
  go_wp2_with fail
  refine HC.out.mono ?_
  rintro e w1 ⟨cv, rfl, hown, b1⟩
  obtain ⟨Ac, nc, rfl, -⟩ := ownsRow_read hown
  unfold RawsOwn at hown
  have HO1 := Lib.hid hown
  have HB1 := Lib.hid b1
  have hsz1 := b1.size
  clear hown b1 HC
  go_wp2_with (at_builtin; refine wpList_append_any _ rfl (.tmp 19) (.tmp 21) _ rfl w.heap.size 54 i9 _ 4 40 Tryz.underlying22 hi9 hy0 hy1 hy2 rfl (by omega) _ l.length (l.flatMap rawCells) rfl (ownsRow_below HO1.out ((Below.refl _ _).alloc (Nat.le_refl _) _)) (w1.heap.size + 1) (some ⟨w1.heap.size, 0, none⟩) 1 1 (rawCells rawO) rfl (new_row w1 54 (rawCells rawO) 1 4 rfl) hone (by simp only [maxLen]; omega) (by omega) (by simp; omega) ?_; intro v9 w9 hown9 hg9 hat9; obtain ⟨A9, c9, hv9, -⟩ := ownsRow_read hown9; subst hv9; have HO9 := Lib.hid hown9; have HG9 := Lib.hid hg9; clear hown9 hg9 hat9)
  have hB9 : Below w.heap.size w w9 := (HB1.out.alloc hsz1 (.cells (rawCells rawO).toArray 54)).grown HG9.out (by simp; omega) (fun k e => (own_typed HO1.out e).1)
  have HB9 := Lib.hid hB9
  have hR9 : RawsAt w9 w9.heap.size (.slice A9 (l.length + 1) c9) RO := RawsOwn.at_ (base := w.heap.size) (by
    unfold RawsOwn
    rw [HRO.out, List.length_append, List.flatMap_append]
    simpa using HO9.out)
  have HR := Lib.hid (HTR.out _ w9 hB9 hR9)
  clear hB9 hR9 HO9 HG9 HO1 HB1 HTR
  refine HR.out.mono ?_
  rintro e w2 ⟨tv, rfl, htv, b2⟩
  have HB2 := Lib.hid (HB9.out.trans (b2.mono HB9.out.size))
  have HT2 := Lib.hid htv.at_
  obtain ⟨_, At, ct, -, hte, hct1, hct2, -⟩ := htv.at_
  subst hte
  unfold maxLen at hct2
  clear htv b2 HR HB9
  go_wp2_with fail
  refine (HMK.out _ _ HB2.out HT2.out).mono ?_
  rintro e w3 ⟨ev, rfl, hev, b3⟩
  have HB3 := Lib.hid (HB2.out.trans (b3.mono HB2.out.size))
  have HT3 := Lib.hid (HT2.out.below b3)
  have HE3 := Lib.hid hev
  obtain ⟨Ae, ce, rfl, -⟩ := hev.slice
  clear hev b3 HMK HB2 HT2
  go_wp2_with fail
  refine (HWA.out _ HB3.out _ _ HE3.out).mono ?_
  rintro e w4 ⟨bv, rfl, hbv, b4⟩
  have HB4 := Lib.hid (HB3.out.trans (b4.mono HB3.out.size))
  have HT4 := Lib.hid (HT3.out.below b4)
  have HAT := Lib.hid hbv.at_
  obtain ⟨Ab, cb, evb, -⟩ := hbv.at_
  generalize (List.map ofB M).length = n2 at evb
  subst evb
  obtain ⟨ad, Ax, cx, rfl, hb, -, e0, -⟩ := node_read HT4.out hk
  rw [← HSE.out] at e0
  clear hbv b4 HWA HE3 HB3 HT3
  go_wp2_with fail
  refine (HPK.out _).mono ?_
  rintro e w' ⟨rfl, rfl⟩
  go_wp2_with fail
  refine (HRS.out _ _ HB4.out HAT.out).mono ?_
  rintro e w5 ⟨uv, rfl, huv, b5⟩
  have HB5 := Lib.hid (HB4.out.trans (b5.mono HB4.out.size))
  have HT5 := Lib.hid (HT4.out.below b5)
  have HU5 := Lib.hid huv.at_
  obtain ⟨_, Au, cu, -, hue, -⟩ := huv.at_
  subst hue
  clear huv b5 HRS HB4 HT4 HAT e0 HPK
  go_wp2_with fail
  refine (HTC.out _ _ HB5.out HU5.out).mono ?_
  rintro e w6 ⟨rfl, b6⟩
  have HB6 := Lib.hid (HB5.out.trans (b6.mono HB5.out.size))
  have HT6 := Lib.hid (HT5.out.below b6)
  have HU6 := Lib.hid (HU5.out.below b6)
  clear b6 HTC HB5 HT5 HU5
  go_wp2_with fail
  go_loopg [14, 15, 16, 17, 68] t.length (fun gg s14 s15 s16 s17 s68 wr => ∃ j : Nat, j ≤ t.length ∧ t.length - j ≤ gg ∧ s68 = .int .i64 j ∧ Hid (Below w6.heap.size w6 wr))
  case atStart => exact ⟨0, Nat.zero_le _, by omega, rfl, Lib.hid (Below.refl _ _)⟩
  case round =>
    obtain ⟨j, hj, hg, rfl, HW⟩ := hrel
    by_cases hlt : j < t.length
    · have hltz : (j : Int) < (t.length : Int) := by omega
      obtain ⟨ad2, Ax, cx, had, hb2, hdx, e0, e1, e2, e3, e4, e5, e6, e7, e8, e9, e10, e11⟩ := node_read (HT6.out.below HW.out) hlt
      injection had with had
      subst had
      have hsh := HSH.out j hlt
      have hpl := (HOK.out _ (List.getElem_mem hlt)).path.2
      generalize t[j] = n at *
      obtain ⟨np, nk, ns, nt, ⟨o1, o2, o3, o4, o5, o6, o7⟩, nd⟩ := n
      simp only at hsh hpl e0 e1 e2 e3 e4 e5 e6 e7 e8 e9 e10 e11
      obtain ⟨W2, hW2⟩ : ∃ W2, W2 = wr.alloc (.cells #[.string (bs np), .int .i64 nk, .int .i64 ns, .string (bs nt), .int .i64 o1, .int .i64 o2, .int .i64 o3, .string (bs o4), .string (bs o5), .int .i64 o6, .int .i64 o7, .slice Ax (nd.length) cx] 58) := ⟨_, rfl⟩
      obtain ⟨gn, hgn⟩ : ∃ gn, gn = wr.heap.size := ⟨_, rfl⟩
      have b2 : Below wr.heap.size wr W2 := by rw [hW2]; exact (Below.refl _ _).alloc (Nat.le_refl _) _
      have K2 : Blk W2 gn 58 (nodeC (⟨np, nk, ns, nt, ⟨o1, o2, o3, o4, o5, o6, o7⟩, nd⟩, .slice Ax nd.length cx)).toArray := by rw [hW2, hgn]; exact Blk.new _ _ _
      have HB2 := Lib.hid (HW.out.trans (b2.mono HW.out.size))
      have HFN := Lib.hid (Find_any _ _ np W2 (HU6.out.below HB2.out))
      have HPS := Lib.hid (fun W => PIn_any s np (by omega) W)
      have c0 : W2.cell? ⟨gn, 0, none⟩ = some (.string (bs np)) := K2.cell 0
      clear b2 K2 hdx HW
      go_upto_region 13 with fail
      rw [← hW2, ← hgn]
      clear hW2 hgn e0 e1 e2 e3 e4 e5 e6 e7 e8 e9 e10 e11
      rcases some_cases s np with ⟨q1, q2⟩ | ⟨q1, q3, q2⟩ | ⟨q1, q3, q4, q2⟩ | ⟨q1, q3, q4, q2⟩
      · have hfn : ∃ m, findP u np = some m := by
          cases hq : findP u np with
          | none => rw [hsh.1 hq] at q2; cases q2
          | some m => exact ⟨m, rfl⟩
        obtain ⟨m, hfn⟩ := hfn
        rw [hfn] at HFN
        unfold findR at HFN
        clear hfn hsh
        subst q1
        clear q2
        go_wp2_with fail
        refine HFN.out.mono ?_
        rintro e w5 ⟨rfl, b5⟩
        have HB5 := Lib.hid (HB2.out.trans (b5.mono HB2.out.size))
        clear b5 HFN
        go_wp2_with fail
        go_roundg (t.length - (j + 1))
        case measure => omega
        case rel => exact ⟨j + 1, by omega, by omega, by go_num, HB5⟩
      · have hfn : ∃ m, findP u np = some m := by
          cases hq : findP u np with
          | none => rw [hsh.1 hq] at q2; cases q2
          | some m => exact ⟨m, rfl⟩
        obtain ⟨m, hfn⟩ := hfn
        rw [hfn] at HFN
        unfold findR at HFN
        clear hfn hsh
        have r1 : ((bs np).toList == (bs s).toList) = false := by rw [bs_toList, bs_toList]; simpa using q1
        have HI1 := Lib.hid (fun W => HPI.out np W)
        rw [q3] at HI1
        clear q1 q2 q3
        go_wp2_with fail
        refine (HI1.out _).mono ?_
        rintro e w' ⟨rfl, rfl⟩
        go_wp2_with fail
        refine HFN.out.mono ?_
        rintro e w5 ⟨rfl, b5⟩
        have HB5 := Lib.hid (HB2.out.trans (b5.mono HB2.out.size))
        clear b5 HFN
        go_wp2_with fail
        go_roundg (t.length - (j + 1))
        case measure => omega
        case rel => exact ⟨j + 1, by omega, by omega, by go_num, HB5⟩
      · have hfn : ∃ m, findP u np = some m := by
          cases hq : findP u np with
          | none => rw [hsh.1 hq] at q2; cases q2
          | some m => exact ⟨m, rfl⟩
        obtain ⟨m, hfn⟩ := hfn
        rw [hfn] at HFN
        unfold findR at HFN
        clear hfn hsh
        have r1 : ((bs np).toList == (bs s).toList) = false := by rw [bs_toList, bs_toList]; simpa using q1
        have HI1 := Lib.hid (fun W => HPI.out np W)
        rw [q3] at HI1
        have HI2 := Lib.hid (fun W => HPS.out W)
        rw [q4] at HI2
        clear q1 q2 q3 q4
        go_wp2_with fail
        refine (HI1.out _).mono ?_
        rintro e w' ⟨rfl, rfl⟩
        go_wp2_with fail
        refine (HI2.out _).mono ?_
        rintro e w' ⟨rfl, rfl⟩
        go_wp2_with fail
        refine HFN.out.mono ?_
        rintro e w5 ⟨rfl, b5⟩
        have HB5 := Lib.hid (HB2.out.trans (b5.mono HB2.out.size))
        clear b5 HFN
        go_wp2_with fail
        go_roundg (t.length - (j + 1))
        case measure => omega
        case rel => exact ⟨j + 1, by omega, by omega, by go_num, HB5⟩
      · have hfn := hsh.2 q2
        rw [hfn] at HFN
        unfold findR at HFN
        clear hfn hsh
        have r1 : ((bs np).toList == (bs s).toList) = false := by rw [bs_toList, bs_toList]; simpa using q1
        have HI1 := Lib.hid (fun W => HPI.out np W)
        rw [q3] at HI1
        have HI2 := Lib.hid (fun W => HPS.out W)
        rw [q4] at HI2
        clear q1 q2 q3 q4
        go_wp2_with fail
        refine (HI1.out _).mono ?_
        rintro e w' ⟨rfl, rfl⟩
        go_wp2_with fail
        refine (HI2.out _).mono ?_
        rintro e w' ⟨rfl, rfl⟩
        go_wp2_with fail
        refine HFN.out.mono ?_
        rintro e w5 ⟨rfl, b5⟩
        have HB5 := Lib.hid (HB2.out.trans (b5.mono HB2.out.size))
        clear b5 HFN
        go_wp2_with fail
        go_roundg (t.length - (j + 1))
        case measure => omega
        case rel => exact ⟨j + 1, by omega, by omega, by go_num, HB5⟩
    · obtain rfl : j = t.length := by omega
      go_wp2_with fail
      go_ret
      exact ⟨rfl, HB6.out.trans (HW.out.mono HB6.out.size)⟩
end Go.Proofs.YtpanjldionaaiaaGreatDoor
