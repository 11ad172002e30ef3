/-
  The law GlobJoins: what it computes is true. Condition: raw things of the second form's bound.
-/
import Derived.Test.YtngkfelhlabloaaDoorRules
import Derived.Test.YtngkfelhlabloaaDoorGlobTree
namespace Go.Proofs.YtngkfelhlabloaaDoor
open Go.RowKit

theorem glob_append {π α : Type} {star : π → Bool} {fits : π → α → Bool} {q : List π} {t : List α} (h2 : globs.glob star fits q t = true) : ∀ {p : List π} {s : List α}, globs.glob star fits p s = true → globs.glob star fits (p ++ q) (s ++ t) = true
  | [], s, h => by
    have : s = [] := by simpa [globs.glob] using h
    subst this
    exact h2
  | x :: p, s, h => by
    by_cases hs : star x = true
    · rw [globs.glob_star hs] at h
      obtain ⟨j, hj, h⟩ := h
      rw [List.cons_append, globs.glob_star hs]
      refine ⟨j, by rw [List.length_append]; omega, ?_⟩
      rw [List.drop_append_of_le_length hj]
      exact glob_append h2 h
    · have hs : star x = false := by simpa using hs
      cases s with
      | nil => rw [globs.glob_sign_nil hs] at h; cases h
      | cons a s =>
        rw [globs.glob_sign hs, Bool.and_eq_true] at h
        rw [List.cons_append, List.cons_append, globs.glob_sign hs, Bool.and_eq_true]
        exact ⟨h.1, glob_append h2 h.2⟩
theorem pattern_append {p q : List UInt8} {ps qs : List (List Piece)} (h1 : Pattern p ps) (h2 : Pattern q qs) (hl : p.length + q.length < 400) : Pattern (p ++ 47 :: q) (ps ++ qs) := by
  refine ⟨by rw [List.length_append]; have := h1.len1; omega, by rw [List.length_append, List.length_cons]; omega, ?_, fun l hl => ?_⟩
  · rw [splitC_append, h1.split, h2.split, List.map_append]
  · rcases List.mem_append.1 hl with h | h
    · exact h1.ok l h
    · exact h2.ok l h
theorem parts_append {s t : List UInt8} (h1 : PartsOk s) (h2 : PartsOk t) : PartsOk (s ++ 47 :: t) := by
  refine ⟨by simp, fun q hq => ?_⟩
  rw [splitC_append] at hq
  rcases List.mem_append.1 hq with h | h
  · exact h1.2 q h
  · exact h2.2 q h
def aP : Piece := .inl 97
theorem patterns_are : ∀ p ∈ patternsL, ∃ ps, Pattern p ps ∧ p.length ≤ 10 := by
  have ok : ∀ {ls : List (List Piece)} {p : List UInt8}, (1 ≤ p.length ∧ p.length ≤ 10 ∧ splitC 47 p = ls.map textPs) → (∀ l ∈ ls, l ≠ [] ∧ ∀ q ∈ l, okP q) → ∃ ps, Pattern p ps ∧ p.length ≤ 10 := fun {ls p} h1 h2 => ⟨ls, ⟨h1.1, by omega, h1.2.2, h2⟩, h1.2.1⟩
  have lit : ∀ b : UInt8, b ≠ 91 → okP (.inl b) := fun b h => h
  intro p hp
  simp only [patternsL, List.mem_cons, List.mem_nil_iff, or_false] at hp
  rcases hp with rfl | rfl | rfl | rfl | rfl | rfl | rfl | rfl | rfl | rfl | rfl | rfl
  · exact ok (ls := [[.inl 97]]) (by decide) (by simp [okP])
  · exact ok (ls := [[.inl 42, .inl 42]]) (by decide) (by simp [okP])
  · exact ok (ls := [[.inl 42]]) (by decide) (by simp [okP])
  · exact ok (ls := [[.inl 97], [.inl 42, .inl 42]]) (by decide) (by simp [okP])
  · exact ok (ls := [[.inl 42, .inl 42], [.inl 98]]) (by decide) (by simp [okP])
  · exact ok (ls := [[.inl 63]]) (by decide) (by simp [okP])
  · exact ok (ls := [[.inr (false, 97, [45, 98])]]) (by decide) (by simp [okP])
  · exact ok (ls := [[.inr (true, 97, []), .inl 42]]) (by decide) (by simp [okP])
  · exact ok (ls := [[.inl 42, .inl 42], [.inl 42, .inl 46, .inl 116, .inl 120, .inl 116]]) (by decide) (by simp [okP])
  · exact ok (ls := [[.inl 120, .inl 42]]) (by decide) (by simp [okP])
  · exact ok (ls := [[.inl 97, .inl 98], [.inl 42]]) (by decide) (by simp [okP])
  · exact ok (ls := [[.inl 42, .inl 42], [.inl 110, .inl 42]]) (by decide) (by simp [okP])
theorem rules_mem (l : List RawS) (most : Nat) : ∀ x ∈ rulesP l most, x.2 ∈ patternsL := fun x hx => by
  unfold rulesP at hx
  obtain ⟨r, _, rfl⟩ := List.mem_map.1 hx
  unfold ruleOf
  have h := pick_bd r.a 12 (by omega)
  rw [List.getD_eq_getElem?_getD, List.getElem?_eq_getElem (by rw [show patternsL.length = 12 from rfl]; omega)]
  exact List.getElem_mem _
theorem rulesP_len (l : List RawS) (most : Nat) : (rulesP l most).length ≤ most := by unfold rulesP; rw [List.length_map, List.length_take]; omega
/-- a row of rules, as a walk reads it -/
theorem RulesOwn.row {w : World} {base : Nat} {v : Value} {l : List RuleP} (h : RulesOwn w base v l) (hl : 0 < l.length) : ∃ g c, v = .slice (some ⟨g, 0, none⟩) l.length c ∧ g < w.heap.size ∧ l.length ≤ c ∧ c ≤ maxLen ∧
    ∀ j, (hj : j < l.length) → w.cell? ⟨g, j * 2, none⟩ = some (.bool l[j].1) ∧ w.cell? ⟨g, j * 2 + 1, none⟩ = some (.string (bs l[j].2)) := by
  rcases id h.2 with ⟨_, h4⟩ | ⟨g, cap, cur, rfl, hb, hg, hn, hm, _⟩
  · omega
  · refine ⟨g, cap, rfl, heap_lt hg, hn, hm, fun j hj => ?_⟩
    have key : ∀ i, i < 2 → w.cell? ⟨g, j * 2 + i, none⟩ = (ruleC l[j])[i]? := fun i hi => by
      have h3 : (l.flatMap ruleC)[j * 2 + i]? = (ruleC l[j])[i]? := by
        rw [flat_get ruleC_length l j i hi, List.getElem?_eq_getElem hj]; rfl
      have hl2 : i < (ruleC l[j]).length := hi
      rw [List.getElem?_eq_getElem hl2] at h3 ⊢
      have h4 := World.ownsRow.cells h (g := g) rfl (j * 2 + i) _ h3
      rwa [add_flat, Nat.zero_add] at h4
    exact ⟨key 0 (by omega), key 1 (by omega)⟩
/-- what is asked of two patterns and two paths -/
theorem joins_key {s t p q : List UInt8} (hs : PartsOk s) (ht : PartsOk t) (hst : s.length + t.length < 400) (hp : p ∈ patternsL) (hq : q ∈ patternsL) :
    ∃ X Y Z : Bool, (X = true → Y = true → Z = true) ∧
      (∀ W, ML W → Calls Tryd.prog 19 #[.string (bs p), .string (bs s)] W fun e w' => e = .returned (.tuple #[.bool X, .int .i64 0]) ∧ Below W.heap.size W w') ∧
      (∀ W, ML W → Calls Tryd.prog 19 #[.string (bs q), .string (bs t)] W fun e w' => e = .returned (.tuple #[.bool Y, .int .i64 0]) ∧ Below W.heap.size W w') ∧
      (∀ W, ML W → Calls Tryd.prog 19 #[.string (bs (p ++ 47 :: q)), .string (bs (s ++ 47 :: t))] W fun e w' => e = .returned (.tuple #[.bool Z, .int .i64 0]) ∧ Below W.heap.size W w') := by
  obtain ⟨ps, h1, l1⟩ := patterns_are p hp
  obtain ⟨qs, h2, l2⟩ := patterns_are q hq
  have c1 := parts_check hs (by omega)
  have c2 := parts_check ht (by omega)
  have c3 := parts_check (parts_append hs ht) (by rw [List.length_append, List.length_cons]; omega)
  refine ⟨_, _, _, fun x y => ?_, fun W hm => Fits_ok p ps h1 s c1 W hm, fun W hm => Fits_ok q qs h2 t c2 W hm, fun W hm => Fits_ok _ _ (pattern_append h1 h2 (by omega)) _ c3 W hm⟩
  rw [splitC_append]
  exact glob_append y x
theorem joins_end (W : World) (hm : ML W) : Calls Tryd.prog 19 #[.string ⟨#[91, 97, 45, 99, 93, 63, 42]⟩, .string ⟨#[98, 120, 121]⟩] W fun e w' => e = .returned (.tuple #[.bool true, .int .i64 0]) ∧ Below W.heap.size W w' := by
  have h := Fits_ok [91, 97, 45, 99, 93, 63, 42] [[.inr (false, 97, [45, 99]), .inl 63, .inl 42]] ⟨by decide, by decide, by decide, by simp [okP]⟩ [98, 120, 121] (by decide) W hm
  have e : globs.glob starQ fitsQ [[.inr (false, 97, [45, 99]), .inl 63, .inl 42]] (splitC 47 [98, 120, 121]) = true := by
    rw [show splitC 47 [98, 120, 121] = [[98, 120, 121]] by decide, globs.glob_sign (by decide), Bool.and_eq_true]
    refine ⟨?_, rfl⟩
    unfold fitsQ
    rw [globs.glob_sign (by rfl), Bool.and_eq_true]
    refine ⟨by simp [fitsP, items], ?_⟩
    rw [globs.glob_sign (by rfl), Bool.and_eq_true]
    refine ⟨by decide, ?_⟩
    rw [globs.glob_star (by rfl)]
    exact ⟨1, by decide, rfl⟩
  rw [e] at h
  exact h
set_option maxRecDepth 100000 in
set_option maxHeartbeats 4000000 in
theorem GlobJoins_walk (w : World) (hsh : w.ShapedOpen Tryd.prog) (v : Value) (l : List RawS) (hl : RawsAt w w.heap.size v l) (hok : ∀ x ∈ l, RawOk x) (hn : l.length ≤ 1048576) (v2 : Value) (m : List RawS) (hl2 : RawsAt w w.heap.size v2 m) (hok2 : ∀ x ∈ m, RawOk x) (hn2 : m.length ≤ 1048576) (a : Int) (ha : I64 a) (b : Int) (hb : I64 b) :
    Calls Tryd.prog 3 #[v, v2, .int .i64 a, .int .i64 b] w fun e w' => e = .returned (.bool true) ∧ Below w.heap.size w w' := by
  have hm := ML.of_shaped hsh
  clear hsh
  have HP := Lib.hid (fun (_ : Unit) => paths_any l v 10 w hm hl hok hn (by omega))
  have HML : Hid (∀ W, Below w.heap.size w W → ML W) := Lib.hid (fun W hb => hm.below hb)
  have HR1 : Hid (∀ W, Below w.heap.size w W → Calls Tryd.prog 18 #[v2, .int .i64 3] W fun e w' => ∃ rv, e = .returned rv ∧ RulesOwn w' W.heap.size rv (rulesP m 3) ∧ Below W.heap.size W w') := Lib.hid (fun W hb => Rules_any m v2 3 W ((hl2.below hb).more hb.size) hok2 hn2 (by omega))
  have HR2 : Hid (∀ W, Below w.heap.size w W → Calls Tryd.prog 18 #[v, .int .i64 3] W fun e w' => ∃ rv, e = .returned rv ∧ RulesOwn w' W.heap.size rv (rulesP l 3) ∧ Below W.heap.size W w') := Lib.hid (fun W hb => Rules_any l v 3 W ((hl.below hb).more hb.size) hok hn (by omega))
  have hr1 := rulesP_len m 3
  have hr2 := rulesP_len l 3
  have hm1 := Lib.hid (rules_mem m 3)
  have hm2 := Lib.hid (rules_mem l 3)
  have hpl := pathsL_length l 10
  have hpo := pathsL_ok l 10
  clear hm hl hok hn hl2 hok2 hn2
  generalize rulesP m 3 = R1 at *
  generalize rulesP l 3 = R2 at *
  generalize pathsL l 10 = P at *
  obtain ⟨hp1, hp2⟩ := hpl
  obtain ⟨i, hi, Pi⟩ := pick_path hp1 (by omega) a ha
  obtain ⟨j, hj, Pj⟩ := pick_path hp1 (by omega) b hb
  have HPi := Lib.hid Pi
  have HPj := Lib.hid Pj
  clear Pi Pj
  obtain ⟨os, ls⟩ := hpo _ (List.getElem_mem hi)
  obtain ⟨ot, lt⟩ := hpo _ (List.getElem_mem hj)
  clear hpo
  obtain ⟨s, hs⟩ : ∃ s, s = P[i] := ⟨_, rfl⟩
  obtain ⟨t, ht⟩ : ∃ t, t = P[j] := ⟨_, rfl⟩
  rw [← hs] at os ls
  rw [← ht] at ot lt
  have HDX := Lib.hid (And.intro hs ht)
  clear hs ht
  have HCk : Hid (∀ W, Below w.heap.size w W → Calls Tryd.prog 17 #[.string (bs s)] W fun e w' => e = .returned (.int .i64 0) ∧ Below W.heap.size W w') := Lib.hid (fun W hW => by
    have h := Check_any s W (by omega) (HML.out W hW)
    rw [parts_check os ls] at h
    exact h)
  have HKEY : Hid (s.length + t.length < 400 → ∀ p q, p ∈ patternsL → q ∈ patternsL → _) := Lib.hid (fun hst p q hp hq => joins_key os ot hst hp hq)
  have HE : Hid (∀ W, Below w.heap.size w W → _) := Lib.hid (fun W hW => joins_end W (HML.out W hW))
  have HPT : Hid (∀ p ∈ patternsL, p.length ≤ 10) := Lib.hid (fun p hp => (patterns_are p hp).choose_spec.2)
  clear os ot
  have zs := bs_size s
  have zt := bs_size t
  go_enter Tryd.func3, Tryd.ntmps3
  go_wp2_with fail
  refine (HP.out ()).mono ?_
  rintro e' w1 ⟨pv, rfl, hpv, b1'⟩
  obtain ⟨gd, cd, rfl, hcd1, hcd2, -, hdc⟩ := hpv.at_ hp1
  unfold maxLen at hcd2
  have e1 := hdc i hi
  have e2 := hdc j hj
  obtain ⟨hs, ht⟩ := HDX.out
  rw [← hs] at e1
  rw [← ht] at e2
  have B1 := Lib.hid b1'
  clear hpv hdc hs ht b1'
  have HAP : Hid (∀ p q : List UInt8, bs p ++ (⟨#[47]⟩ : ByteArray) ++ bs q = bs (p ++ 47 :: q)) := Lib.hid (fun p q => by
    show bs p ++ bs [47] ++ bs q = _
    rw [bs_append, bs_append, List.append_assoc]; rfl)
  have hst0 := HAP.out s t
  generalize hbs : bs s = bS at *
  generalize hbt : bs t = bT at *
  have HB := Lib.hid (And.intro hbs (And.intro hbt hst0))
  clear hbs hbt hst0
  go_upto_region 2 with fail
  go_quiet ((go_at_call 16; first | (with_reducible exact Calls.quiet_of (HPi.out _)) | (with_reducible exact Calls.quiet_of (HPj.out _))))
  by_cases hbig : 400 ≤ s.length + t.length
  · have hb1 : (400 : Int) ≤ (bS.size : Int) + (bT.size : Int) := by omega
    go_wp2_with fail
    refine (HCk.out _ (below_drewN B1.out _)).mono ?_
    rintro e' w3 ⟨rfl, d3⟩
    have B3 := Lib.hid ((below_drewN B1.out _).trans (d3.mono (below_drewN B1.out _).size))
    clear d3
    go_wp2_with fail
    go_ret
    exact ⟨rfl, B3.out⟩
  · have hb1 : ¬ (400 : Int) ≤ (bS.size : Int) + (bT.size : Int) := by omega
    go_wp2_with fail
    refine (HR1.out _ (below_drewN B1.out _)).mono ?_
    rintro e' w3 ⟨rv1, rfl, hrv1, d3⟩
    have B3 := Lib.hid ((below_drewN B1.out _).trans (d3.mono (below_drewN B1.out _).size))
    clear d3
    obtain ⟨A1, c1, rfl, hc11, hc12, -⟩ := ownsRow_read hrv1
    unfold maxLen at hc12
    have hst : s.length + t.length < 400 := by omega
    have zs2 : bS.size ≤ 400 := by omega
    have zt2 : bT.size ≤ 400 := by omega
    have HV1 : Hid (Below w.heap.size w w3 ∧ RulesOwn w3 0 (.slice A1 R1.length c1) R1) := Lib.hid ⟨B3.out, ownsRow_mono hrv1 (Nat.zero_le _)⟩
    clear hrv1 zs zt hbig hb1
    go_wp2_with fail
    go_loopg [52] R1.length (fun gg s52 wr => ∃ k : Nat, k ≤ R1.length ∧ R1.length - k ≤ gg ∧ s52 = .int .i64 k ∧ Hid (Below w.heap.size w wr ∧ RulesOwn wr 0 (.slice A1 R1.length c1) R1))
    case atStart => exact ⟨0, Nat.zero_le _, by omega, rfl, HV1⟩
    case round =>
      obtain ⟨k, hk, hg, rfl, HS⟩ := hrel
      by_cases hlt : k < R1.length
      · have hltz : (k : Int) < (R1.length : Int) := by omega
        obtain ⟨g1, c1', hve, hg1, -, -, hrow⟩ := HS.out.2.row (by omega)
        obtain ⟨rfl, rfl⟩ : A1 = some ⟨g1, 0, none⟩ ∧ c1 = c1' := by injection hve with h1 _ h2; exact ⟨h1, h2⟩
        clear hve
        obtain ⟨p0, p1⟩ := hrow k hlt
        have hpm := hm1.out _ (List.getElem_mem hlt)
        clear hrow
        generalize R1[k] = ra at *
        obtain ⟨ta, pa⟩ := ra
        simp only at p0 p1 hpm
        have hpa10 : (bs pa).size ≤ 10 := by rw [bs_size]; exact HPT.out _ hpm
        have HPM := Lib.hid hpm
        clear hpm
        generalize hbpa : bs pa = bpa at *
        have HBPA := Lib.hid hbpa
        clear hbpa
        obtain ⟨g13, hg13⟩ : ∃ g13, g13 = wr.heap.size := ⟨_, rfl⟩
        obtain ⟨W1, hW1⟩ : ∃ W1, W1 = wr.alloc (.cells #[.bool ta, .string bpa] 31) := ⟨_, rfl⟩
        have b01 : Below wr.heap.size wr W1 := by rw [hW1]; exact (Below.refl _ _).alloc (Nat.le_refl _) _
        have K1 : Blk W1 g13 31 #[.bool ta, .string bpa] := by rw [hW1, hg13]; exact Blk.new _ _ _
        have BW1 := Lib.hid (HS.out.1.trans (b01.mono HS.out.1.size))
        have HS1 := Lib.hid (And.intro (HS.out.2.below b01) K1)
        clear b01 K1
        go_wp2_with fail
        rw [← hW1, ← hg13]
        clear hW1 hg13
        refine (HR2.out _ BW1.out).mono ?_
        rintro e' w4 ⟨rv2, rfl, hrv2, d4⟩
        have HI0 : Hid (Below w.heap.size w w4 ∧ RulesOwn w4 0 (.slice (some ⟨g1, 0, none⟩) R1.length c1) R1 ∧ RulesOwn w4 0 rv2 R2 ∧ Blk w4 g13 31 #[.bool ta, .string bpa]) := Lib.hid ⟨BW1.out.trans (d4.mono BW1.out.size), HS1.out.1.below d4, ownsRow_mono hrv2 (Nat.zero_le _), HS1.out.2.below d4 HS1.out.2.lt⟩
        obtain ⟨A2, c2, rfl, hc21, hc22, -⟩ := ownsRow_read hrv2
        unfold maxLen at hc22
        clear hrv2 d4 p0 p1
        go_wp2_with fail
        go_loopg [59] R2.length (fun gg2 s59 wr2 => ∃ k2 : Nat, k2 ≤ R2.length ∧ R2.length - k2 ≤ gg2 ∧ s59 = .int .i64 k2 ∧ Hid (Below w.heap.size w wr2 ∧ RulesOwn wr2 0 (.slice (some ⟨g1, 0, none⟩) R1.length c1) R1 ∧ RulesOwn wr2 0 (.slice A2 R2.length c2) R2 ∧ Blk wr2 g13 31 #[.bool ta, .string bpa]))
        case atStart => exact ⟨0, Nat.zero_le _, by omega, rfl, HI0⟩
        case round =>
          obtain ⟨k2, hk2, hg2, rfl, HT⟩ := hrel
          by_cases hlt2 : k2 < R2.length
          · have hltz2 : (k2 : Int) < (R2.length : Int) := by omega
            obtain ⟨g2, c2', hve, hg2', -, -, hrow⟩ := HT.out.2.2.1.row (by omega)
            obtain ⟨rfl, rfl⟩ : A2 = some ⟨g2, 0, none⟩ ∧ c2 = c2' := by injection hve with h1 _ h2; exact ⟨h1, h2⟩
            clear hve
            obtain ⟨q0, q1⟩ := hrow k2 hlt2
            have hqm := hm2.out _ (List.getElem_mem hlt2)
            clear hrow
            generalize R2[k2] = rb at *
            obtain ⟨tb, pb⟩ := rb
            simp only at q0 q1 hqm
            have hpb10 : (bs pb).size ≤ 10 := by rw [bs_size]; exact HPT.out _ hqm
            obtain ⟨X, Y, Z, hxyz, f1, f2, f3⟩ := HKEY.out hst pa pb HPM.out hqm
            rw [← HAP.out pa pb, ← HAP.out s t] at f3
            rw [HBPA.out] at f1 f3
            rw [HB.out.1, HB.out.2.1] at f3
            generalize bs pb = bpb at *
            have F1 := Lib.hid f1
            have F2 := Lib.hid f2
            have F3 := Lib.hid f3
            clear f1 f2 f3 hqm
            obtain ⟨g15, hg15⟩ : ∃ g15, g15 = wr.heap.size := ⟨_, rfl⟩
            obtain ⟨W2, hW2⟩ : ∃ W2, W2 = wr.alloc (.cells #[.bool tb, .string bpb] 31) := ⟨_, rfl⟩
            have b02 : Below wr.heap.size wr W2 := by rw [hW2]; exact (Below.refl _ _).alloc (Nat.le_refl _) _
            have K2 : Blk W2 g15 31 #[.bool tb, .string bpb] := by rw [hW2, hg15]; exact Blk.new _ _ _
            have K13 := HT.out.2.2.2.below b02 HT.out.2.2.2.lt
            have BW2 := Lib.hid (HT.out.1.trans (b02.mono HT.out.1.size))
            have HR12 := Lib.hid (And.intro (HT.out.2.1.below b02) (HT.out.2.2.1.below b02))
            have k131 : W2.cell? ⟨g13, 1, none⟩ = some (.string bpa) := K13.cell 1
            have hne13 : g13 ≠ wr.heap.size := by have := HT.out.2.2.2.lt; omega
            have k130 : wr.cell? ⟨g13, 1, none⟩ = some (.string bpa) := HT.out.2.2.2.cell 1
            have hlt13 : g13 < wr.heap.size := HT.out.2.2.2.lt
            have HK2 := Lib.hid K2
            have HK13 := Lib.hid K13
            clear b02 K2 K13
            go_wp2_with fail
            rw [← hW2, ← hg15]
            have HW2 := Lib.hid hW2
            have HG15 := Lib.hid hg15
            clear hW2 hg15 q0 q1 k130
            refine (F1.out _ (HML.out _ BW2.out)).mono ?_
            rintro e' w5 ⟨rfl, d5⟩
            have B5 := Lib.hid (BW2.out.trans (d5.mono BW2.out.size))
            have HK25 := Lib.hid (HK2.out.below d5 HK2.out.lt)
            have HK135 := Lib.hid (HK13.out.below d5 HK13.out.lt)
            have HR5 := Lib.hid (And.intro (HR12.out.1.below d5) (HR12.out.2.below d5))
            have k251 : w5.cell? ⟨g15, 1, none⟩ = some (.string bpb) := HK25.out.cell 1
            clear d5
            go_wp2_with fail
            refine (F2.out _ (HML.out _ B5.out)).mono ?_
            rintro e' w6 ⟨rfl, d6⟩
            have B6 := Lib.hid (B5.out.trans (d6.mono B5.out.size))
            have HK26 := Lib.hid (HK25.out.below d6 HK25.out.lt)
            have HK136 := Lib.hid (HK135.out.below d6 HK135.out.lt)
            have HR6 := Lib.hid (And.intro (HR5.out.1.below d6) (HR5.out.2.below d6))
            have k261 : w6.cell? ⟨g15, 1, none⟩ = some (.string bpb) := HK26.out.cell 1
            have k136 : w6.cell? ⟨g13, 1, none⟩ = some (.string bpa) := HK136.out.cell 1
            have nk1 : ¬ 9223372036854775807 < bpa.size + 1 := by omega
            have nk2 : ¬ 9223372036854775807 < bpa.size + 1 + bpb.size := by omega
            have nk3 : ¬ 9223372036854775807 < bS.size + 1 := by omega
            have nk4 : ¬ 9223372036854775807 < bS.size + 1 + bT.size := by omega
            clear d6
            go_wp2_with fail
            refine (F3.out _ (HML.out _ B6.out)).mono ?_
            rintro e' w7 ⟨rfl, d7⟩
            have B7 := Lib.hid (B6.out.trans (d7.mono B6.out.size))
            have HK137 := Lib.hid (HK136.out.below d7 HK136.out.lt)
            have HR7 := Lib.hid (And.intro (HR6.out.1.below d7) (HR6.out.2.below d7))
            clear d7
            have hfin : Hid (Below w.heap.size w w7 ∧ RulesOwn w7 0 (.slice (some ⟨g1, 0, none⟩) R1.length c1) R1 ∧ RulesOwn w7 0 (.slice (some ⟨g2, 0, none⟩) R2.length c2) R2 ∧ Blk w7 g13 31 #[.bool ta, .string bpa]) := Lib.hid ⟨B7.out, HR7.out.1, HR7.out.2, HK137.out⟩
            cases X
            · clear hxyz
              go_wp2_with fail
              go_roundg (R2.length - (k2 + 1))
              case measure => omega
              case rel => exact ⟨k2 + 1, by omega, by omega, by go_num, hfin⟩
            · cases Y
              · clear hxyz
                go_wp2_with fail
                go_roundg (R2.length - (k2 + 1))
                case measure => omega
                case rel => exact ⟨k2 + 1, by omega, by omega, by go_num, hfin⟩
              · obtain rfl : Z = true := hxyz rfl rfl
                clear hxyz
                go_wp2_with fail
                go_roundg (R2.length - (k2 + 1))
                case measure => omega
                case rel => exact ⟨k2 + 1, by omega, by omega, by go_num, hfin⟩
          · obtain rfl : k2 = R2.length := by omega
            go_wp2_with fail
            go_roundg (R1.length - (k + 1))
            case measure => omega
            case rel => exact ⟨k + 1, by omega, by omega, by go_num, Lib.hid ⟨HT.out.1, HT.out.2.1⟩⟩
      · obtain rfl : k = R1.length := by omega
        go_wp2_with fail
        refine (HE.out _ HS.out.1).mono ?_
        rintro e' w8 ⟨rfl, d8⟩
        have B8 := Lib.hid (HS.out.1.trans (d8.mono HS.out.1.size))
        clear d8
        go_wp2_with fail
        go_ret
        exact ⟨rfl, B8.out⟩
end Go.Proofs.YtngkfelhlabloaaDoor
