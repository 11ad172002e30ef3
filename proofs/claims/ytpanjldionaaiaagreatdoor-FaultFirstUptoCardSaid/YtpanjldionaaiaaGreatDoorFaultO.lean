/-
  creelkeep.faultsOf: faults of some paths of a good tree. Condition: at most 2^20 numbers.
-/
import Derived.Test.YtpanjldionaaiaaGreatDoorFaultE
import Derived.Test.YtpanjldionaaiaaGreatDoorTreeV
namespace Go.Proofs.YtpanjldionaaiaaGreatDoor
set_option linter.all false
open Go.RowKit
def fltStep (t : List NodeP) (out : List FltP) (i : Nat) (n : Int) : List FltP := if 0 ≤ idxP out (t.getD (pick n t.length).toNat default).path then out else out ++ [⟨(t.getD (pick n t.length).toNat default).path, 1 + (i : Int)⟩]
def fltsK (t : List NodeP) (ps : List Int) : Nat → List FltP
  | 0 => []
  | k + 1 => fltStep t (fltsK t ps k) k (ps.getD k 0)
def fltsP (t : List NodeP) (ps : List Int) : List FltP := if t.length = 0 then [] else fltsK t ps (min 5 ps.length)
theorem idxP_neg {l : List FltP} {s : List UInt8} (h : ¬ 0 ≤ idxP l s) : idxP l s = -1 := by
  unfold idxP idxF at *
  cases hf : l.findIdx? (fun x => x.path == s) with
  | none => rfl
  | some m => rw [hf] at h; simp at h
theorem FltOk.nil : FltOk [] := ⟨by simp, by simp, by simp, fun k hk => by simp at hk⟩
theorem fltStep_ok {t : List NodeP} (ht : TreeOk t) (h0 : 0 < t.length) {out : List FltP} (h : FltOk out) (hl : out.length ≤ 11) (i : Nat) (n : Int) (hp : (pick n t.length).toNat < t.length) : FltOk (fltStep t out i n) := by
  unfold fltStep
  split
  · exact h
  · next hn =>
    have hi := idxP_neg hn
    have hno := ht.node t[(pick n t.length).toNat] (List.getElem_mem _)
    rw [getD_at hp] at hi ⊢
    generalize t[(pick n t.length).toNat] = x at *
    refine ⟨by rw [List.length_append, List.length_singleton]; omega, fun f hf => ?_, fun f hf => ?_, fun k hk => ?_⟩
    · rcases List.mem_append.1 hf with hf | hf
      · exact h.path f hf
      · rw [List.mem_singleton] at hf; subst hf; exact hno.path
    · rcases List.mem_append.1 hf with hf | hf
      · exact h.code f hf
      · rw [List.mem_singleton] at hf; subst hf; show 1 ≤ 1 + (i : Int); omega
    · rw [List.length_append, List.length_singleton] at hk
      rw [List.take_append_of_le_length (by omega)]
      by_cases hlt : k < out.length
      · rw [List.getElem_append_left hlt]
        exact h.one k hlt
      · obtain rfl : k = out.length := by omega
        rw [List.take_length, List.getElem_append_right (Nat.le_refl _)]
        simpa using hi
theorem fltStep_len (t : List NodeP) (out : List FltP) (i : Nat) (n : Int) : (fltStep t out i n).length ≤ out.length + 1 := by unfold fltStep; split <;> simp
theorem fltsK_len (t : List NodeP) (ps : List Int) : ∀ k, (fltsK t ps k).length ≤ k
  | 0 => by simp [fltsK]
  | k + 1 => by
    have := fltsK_len t ps k
    have := fltStep_len t (fltsK t ps k) k (ps.getD k 0)
    unfold fltsK
    omega
theorem fltsK_ok {t : List NodeP} (ht : TreeOk t) (h0 : 0 < t.length) (ps : List Int) : ∀ k, k ≤ 10 → FltOk (fltsK t ps k)
  | 0, _ => FltOk.nil
  | k + 1, hk => by
    have hl := fltsK_len t ps k
    obtain ⟨m, hm, hm2⟩ := pick_nat (ps.getD k 0) t.length h0
    unfold fltsK
    exact fltStep_ok ht h0 (fltsK_ok ht h0 ps k (by omega)) (by omega) k _ (by rw [hm]; omega)
theorem fltsP_ok {t : List NodeP} (ht : TreeOk t) (ps : List Int) : FltOk (fltsP t ps) := by
  unfold fltsP
  split
  · exact FltOk.nil
  · exact fltsK_ok ht (by omega) ps _ (by omega)
def FltsOwn (w : World) (base : Nat) (v : Value) (l : List FltP) : Prop := w.ownsRow base 32 2 v l.length (l.flatMap fltC)
theorem FltsOwn.at_ {w : World} {base : Nat} {v : Value} {l : List FltP} (h : FltsOwn w base v l) : FltsAt w v l := by
  obtain ⟨A, c, rfl, h1, h2, h3, h4⟩ := ownsRow_read h
  exact ⟨A, c, rfl, h1, h2, h3, h4⟩
theorem fltinfo : (Tryz.prog.info? 32).map (fun i => (i.zero, i.size, i.bytes)) = some (some (.agg #[.string ⟨#[]⟩, .int .i64 0]), 2, 24) := by kernel_rfl
theorem one_flt (l : List FltP) : ∀ u ∈ l.flatMap fltC, u.oneCell' = true := by
  intro u hu
  obtain ⟨r, -, h⟩ := List.mem_flatMap.1 hu
  simp only [fltC, List.mem_cons, List.not_mem_nil, or_false] at h
  rcases h with rfl | rfl <;> rfl
theorem fo_block_ge {w : World} {base n size : Nat} {e : TypeId} {v : Value} {xs : List Value} (h : w.ownsRow base e size v n xs) {x : Nat} (hx : v.ownBlock = some x) : base ≤ x := by
  rcases h.2 with ⟨rfl, _⟩ | ⟨g, cap, cur, rfl, hbg, _⟩
  · cases hx
  · cases hx; exact hbg
def FoSt (w0 : World) (v : Value) (l : List FltP) (W : World) : Prop := Below w0.heap.size w0 W ∧ FltsOwn W w0.heap.size v l
set_option maxRecDepth 100000 in
set_option maxHeartbeats 4000000 in
theorem FaultsOf_any (v1 v2 : Value) (t : List NodeP) (ps : List Int) (w : World) (h1 : NodesAt w v1 t) (ht : TreeOk t) (h2 : IntsAt .i64 w w.heap.size v2 ps) (hps : ∀ p ∈ ps, I64 p) (hn : ps.length ≤ 1048576) :
    Calls Tryz.prog 12 #[v1, v2] w fun e w' => ∃ fv, e = .returned fv ∧ FltsOwn w' w.heap.size fv (fltsP t ps) ∧ Below w.heap.size w w' := by
  have HT1 := Lib.hid h1
  obtain ⟨i0, hi0, hz0, hz1, hz2⟩ := info_parts fltinfo
  obtain ⟨_, A1, c1, -, rfl, hc11, hc12, hA1, -⟩ := h1
  obtain ⟨A2, c2, rfl, hc21, hc22, hA2, hr2⟩ := h2
  have HR2 := Lib.hid hr2
  have HPS := Lib.hid hps
  unfold maxLen at hc12 hc22
  have htl := ht.len
  clear hr2 hps hA1 hA2
  have H0 : Hid (FoSt w (.slice none 0 0) (fltsK t ps 0) w) := Lib.hid ⟨Below.refl _ _, World.ownsRow_nil _ _ _ _⟩
  go_enter Tryz.func12, Tryz.ntmps12
  by_cases ht0 : t.length = 0
  · have HE : Hid (fltsP t ps = []) := Lib.hid (by unfold fltsP; rw [if_pos ht0])
    rw [HE.out]
    obtain rfl := List.eq_nil_of_length_eq_zero ht0
    clear ht HT1
    go_wp2_with fail
    by_cases hp0 : ps.length = 0
    · have z1 : ¬ (0 : Int) < (ps.length : Int) := by omega
      refine wp_loop_rounds 1 ?_
      rw [rounds_succ]
      go_wp2_with fail
      go_ret
      exact ⟨_, rfl, World.ownsRow_nil _ _ _ _, Below.refl _ _⟩
    · have z1 : (0 : Int) < (ps.length : Int) := by omega
      have z2 : 0 < ps.length := by omega
      obtain ⟨ad, u, rfl, hb, hx, hcell⟩ := HR2.out.at_ z2
      rw [List.getElem?_map, List.getElem?_eq_getElem z2] at hx
      obtain rfl : Value.int .i64 ps[0] = u := by simpa using hx
      clear hx
      rw [show ad.add 0 = ad by cases ad; rfl] at hcell
      refine wp_loop_rounds 1 ?_
      rw [rounds_succ]
      go_wp2_with fail
      go_ret
      exact ⟨_, rfl, World.ownsRow_nil _ _ _ _, Below.refl _ _⟩
  · have h0 : 0 < t.length := by omega
    have HE : Hid (∀ k, k = min 5 ps.length → fltsP t ps = fltsK t ps k) := Lib.hid (fun k hk => by unfold fltsP; rw [if_neg ht0, hk])
    have z3 : ((t.length : Int) == 0) = false := by rw [beq_eq_false_iff_ne]; omega
    clear ht
    go_wp2_with fail
    go_loopg [5, 6, 7, 8, 11] ps.length (fun gg s5 s6 s7 s8 s11 wr => ∃ k : Nat, k ≤ ps.length ∧ k ≤ 5 ∧ ps.length - k ≤ gg ∧ s11 = .int .i64 k ∧ Hid (FoSt w s5 (fltsK t ps k) wr))
    case atStart => exact ⟨0, Nat.zero_le _, Nat.zero_le _, by omega, rfl, H0⟩
    case round =>
      obtain ⟨k, hk, hk5, hg, rfl, HS⟩ := hrel
      clear H0
      by_cases hlt : k < ps.length
      · have hltz : (k : Int) < (ps.length : Int) := by omega
        obtain ⟨ad, u, rfl, hb, hx, hcell⟩ := (HR2.out.below HS.out.1).at_ hlt
        rw [List.getElem?_map, List.getElem?_eq_getElem hlt] at hx
        obtain rfl : Value.int .i64 ps[k] = u := by simpa using hx
        clear hx
        by_cases h5 : k < 5
        · have z4 : ¬ (5 : Int) ≤ (k : Int) := by omega
          have z5 : decide ((5 : Int) ≤ (k : Int)) = false := decide_eq_false z4
          obtain ⟨m, hm1, hm2⟩ := pick_nat ps[k] t.length h0
          have HPK := Lib.hid (fun W => picked_any ps[k] t.length (HPS.out _ (List.getElem_mem hlt)) (by omega) (by omega) W)
          rw [hm1] at HPK
          have hml : m < t.length := by omega
          have HSTEP : Hid (fltsK t ps (k + 1) = if 0 ≤ idxP (fltsK t ps k) t[m].path then fltsK t ps k else fltsK t ps k ++ [⟨t[m].path, 1 + (k : Int)⟩]) := Lib.hid (by
            show fltStep t (fltsK t ps k) k (ps.getD k 0) = _
            unfold fltStep
            rw [show ps.getD k 0 = ps[k] by rw [List.getD_eq_getElem?_getD, List.getElem?_eq_getElem hlt]; rfl, hm1, show (m : Int).toNat = m from rfl, getD_at hml])
          have hkl := fltsK_len t ps k
          obtain ⟨adt, Axt, cxt, hA1, -, -, e0, -⟩ := node_read (HT1.out.below HS.out.1) hml
          subst hA1
          clear hm1
          generalize ps[k] = pk at *
          generalize t[m] = nd at *
          generalize fltsK t ps k = out at *
          obtain ⟨sp, hsp⟩ : ∃ sp, sp = nd.path := ⟨_, rfl⟩
          rw [← hsp] at e0 HSTEP
          clear hsp
          have hmz : (m : Int) < (t.length : Int) := by omega
          have hmz0 : (0 : Int) ≤ (m : Int) := by omega
          obtain ⟨A5, c5, hv5, hc51, hc52, -⟩ := ownsRow_read HS.out.2
          subst hv5
          unfold maxLen at hc52
          go_upto_region 6 with fail
          obtain ⟨W1, hW1⟩ : ∃ W1, W1 = wr.alloc (.cells #[.string (bs sp)] 9) := ⟨_, rfl⟩
          obtain ⟨g8, hg8⟩ : ∃ g8, g8 = wr.heap.size := ⟨_, rfl⟩
          have hb1 : Below wr.heap.size wr W1 := by rw [hW1]; exact (Below.refl _ _).alloc (Nat.le_refl _) _
          have hk1 : Blk W1 g8 9 #[.string (bs sp)] := by rw [hW1, hg8]; exact Blk.new _ _ _
          have HS1 : Hid (FoSt w (.slice A5 out.length c5) out W1) := Lib.hid ⟨HS.out.1.trans (hb1.mono HS.out.1.size), ownsRow_below HS.out.2 hb1⟩
          have HI := Lib.hid (HasF_any 51 #[.pointer (some ⟨g8, 0, none⟩)] eg_fof (.slice A5 out.length c5) out (fun y => y.path == sp) W1 (FltsOwn.at_ HS1.out.2) (fun W y hb => (fof1_any y sp g8 W (hk1.below hb hk1.lt).lt ((hk1.below hb hk1.lt).cell 0)).mono fun e w' ⟨h1, h2⟩ => ⟨h1, hb.trans (h2.mono hb.size)⟩))
          change Hid (Calls _ _ _ _ fun e w' => e = .returned (.bool (decide (0 ≤ idxP out sp))) ∧ _) at HI
          have HK1 := Lib.hid hk1
          clear hb1 hk1 HS
          go_upto_region 7 with (go_at_call 23; (with_reducible refine (HPK.out _).mono ?_); rintro e w' ⟨rfl, rfl⟩)
          rw [← hW1, ← hg8]
          clear hW1 hg8 e0 HPK hcell
          by_cases hq : 0 ≤ idxP out sp
          · have HS2 := Lib.hid HSTEP.out
            rw [if_pos hq] at HS2
            rw [decide_eq_true hq] at HI
            clear hq HSTEP
            go_wp2_with fail
            refine HI.out.mono ?_
            rintro e w2 ⟨rfl, b2⟩
            have HS3 : Hid (FoSt w (.slice A5 out.length c5) (fltsK t ps (k + 1)) w2) := Lib.hid (by
              rw [HS2.out]
              exact ⟨HS1.out.1.trans (b2.mono HS1.out.1.size), ownsRow_below HS1.out.2 b2⟩)
            clear b2 HS1 HI HK1
            go_wp2_with fail
            go_roundg (ps.length - (k + 1))
            case measure => omega
            case rel => exact ⟨k + 1, by omega, by omega, Nat.le_refl _, by go_num, HS3⟩
          · have HS2 := Lib.hid HSTEP.out
            rw [if_neg hq] at HS2
            rw [decide_eq_false hq] at HI
            clear hq HSTEP
            go_wp2_with fail
            refine HI.out.mono ?_
            rintro e w2 ⟨rfl, b2⟩
            have HS3 : Hid (FoSt w (.slice A5 out.length c5) out w2) := Lib.hid ⟨HS1.out.1.trans (b2.mono HS1.out.1.size), ownsRow_below HS1.out.2 b2⟩
            have k0 : w2.cell? ⟨g8, 0, none⟩ = some (.string (bs sp)) := (HK1.out.below b2 HK1.out.lt).cell 0
            have hwb := HS3.out.1.size
            have hwr1 : IntKind.i64.wrap (1 + (k : Int)) = 1 + (k : Int) := IntWalk.i64_in _ ⟨by omega, by omega⟩
            clear b2 HS1 HI HK1
            go_wp2_with (at_builtin; refine wpList_append_any _ rfl (.tmp 35) (.tmp 40) _ rfl w.heap.size 32 i0 _ 2 24 Tryz.underlying29 hi0 hz0 hz1 hz2 rfl (by omega) _ out.length (out.flatMap fltC) rfl (ownsRow_below HS3.out.2 ((Below.refl _ _).alloc (Nat.le_refl _) _)) (w2.heap.size + 1) (some ⟨w2.heap.size, 0, none⟩) 1 1 (fltC ⟨sp, 1 + (k : Int)⟩) rfl (new_row w2 32 (fltC ⟨sp, 1 + (k : Int)⟩) 1 2 rfl) (by simpa using one_flt [⟨sp, 1 + (k : Int)⟩]) (by simp only [maxLen]; omega) (by omega) (by simp; omega) ?_; intro v9 w9 hown9 hg9 hat9; obtain ⟨A9, c9, hv9, -⟩ := ownsRow_read hown9; subst hv9; have HO9 := Lib.hid hown9; have HG9 := Lib.hid hg9; clear hown9 hg9 hat9)
            have hbA : Below w.heap.size w w9 := ((HS3.out.1.trans (((Below.refl w2.heap.size w2).alloc (Nat.le_refl _) _).mono HS3.out.1.size))).grown HG9.out (Nat.le_trans HS3.out.1.size (by simp)) (fun x hx => fo_block_ge HS3.out.2 hx)
            have HS4 : Hid (FoSt w (.slice A9 (out.length + 1) c9) (fltsK t ps (k + 1)) w9) := Lib.hid (by
              rw [HS2.out]
              refine ⟨hbA, ?_⟩
              unfold FltsOwn
              rw [List.length_append, List.flatMap_append]
              have h := HO9.out
              simpa using h)
            clear hbA HS3 HO9 HG9
            go_wp2_with fail
            go_roundg (ps.length - (k + 1))
            case measure => omega
            case rel => exact ⟨k + 1, by omega, by omega, Nat.le_refl _, by go_num, HS4⟩
        · have z4 : (5 : Int) ≤ (k : Int) := by omega
          have z5 : decide ((5 : Int) ≤ (k : Int)) = true := decide_eq_true z4
          have HEK := Lib.hid (HE.out k (by omega))
          clear h5
          generalize ps[k] = pk at *
          go_wp2_with fail
          go_ret
          exact ⟨_, rfl, by rw [HEK.out]; exact HS.out.2, HS.out.1⟩
      · obtain rfl : k = ps.length := by omega
        have hltz : ¬ (ps.length : Int) < (ps.length : Int) := by omega
        have HEK := Lib.hid (HE.out ps.length (by omega))
        go_wp2_with fail
        go_ret
        exact ⟨_, rfl, by rw [HEK.out]; exact HS.out.2, HS.out.1⟩
end Go.Proofs.YtpanjldionaaiaaGreatDoor
