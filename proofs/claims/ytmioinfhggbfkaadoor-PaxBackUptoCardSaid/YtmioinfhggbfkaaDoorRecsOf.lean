/-
  creelkeep.recordsOf: the records of raw things, plainly and walked. Condition: raw things of the second form's bound; the library's table of powers of ten lies as Go laid it.
-/
import Derived.Test.YtmioinfhggbfkaaDoorRecsQ
import Derived.Test.YtmioinfhggbfkaaDoorTreeE
import Derived.Deep.RegionHeld3
namespace Go.Proofs.YtmioinfhggbfkaaDoor
set_option linter.all false
open Go.RowKit

def recK (c : UInt8) (i : Nat) (r : RawS) : RecS := ⟨c :: Lib.decDigits i, Lib.repeatL (cleanS r.text 20) (pick r.b 25).toNat⟩
def recsK (c : UInt8) (l : List RawS) : Nat → List RecS
  | 0 => []
  | k + 1 => recsK c l k ++ (if k < 6 then [recK c k (l.getD k ⟨0, 0, 0, []⟩)] else [])
def recsP (c : UInt8) (l : List RawS) : List RecS := recsK c l l.length
theorem recsK_len (c : UInt8) (l : List RawS) : ∀ k, (recsK c l k).length = min k 6
  | 0 => rfl
  | k + 1 => by
    rw [recsK, List.length_append, recsK_len c l k]
    split
    · simp; omega
    · simp; omega
theorem recsK_next {c : UInt8} {l : List RawS} {k : Nat} (hk : k < l.length) (h6 : k < 6) : recsK c l (k + 1) = recsK c l k ++ [recK c k l[k]] := by
  rw [recsK, if_pos h6, List.getD_eq_getElem?_getD, List.getElem?_eq_getElem hk]; rfl
theorem recsK_full {c : UInt8} {l : List RawS} {k : Nat} (h6 : ¬ k < 6) : recsK c l (k + 1) = recsK c l k := by rw [recsK, if_neg h6, List.append_nil]
def keys6 (c : UInt8) : List (List UInt8) := [[c, 48], [c, 49], [c, 50], [c, 51], [c, 52], [c, 53]]
theorem recK_key (c : UInt8) (k : Nat) (h : k < 6) (r : RawS) : some (recK c k r).key = (keys6 c)[k]? := by
  unfold recK
  simp only
  rw [dec_small (by omega)]
  rcases (show k = 0 ∨ k = 1 ∨ k = 2 ∨ k = 3 ∨ k = 4 ∨ k = 5 by omega) with rfl | rfl | rfl | rfl | rfl | rfl <;> rfl
theorem recsK_keys (c : UInt8) (l : List RawS) : ∀ k, (recsK c l k).map (·.key) = (keys6 c).take k
  | 0 => rfl
  | k + 1 => by
    rw [recsK, List.map_append, recsK_keys c l k]
    split
    · next h =>
      have h2 := recK_key c k h (l.getD k ⟨0, 0, 0, []⟩)
      rw [List.take_add_one, ← h2]
      rfl
    · next h =>
      rw [List.map_nil, List.append_nil, List.take_of_length_le (by simp [keys6]; omega), List.take_of_length_le (by simp [keys6]; omega)]
theorem recK_ok {c : UInt8} (hc : c = 97 ∨ c = 98) (k : Nat) (h : k < 6) (r : RawS) : RecOk (recK c k r) := by
  obtain ⟨b1, b2⟩ := pick_bd r.b 25 (by omega)
  have hcl := cleanS_length r.text 20
  unfold recK
  rw [dec_small (by omega)]
  have hd := digB k (by omega)
  have hne : ∀ x : UInt8, (x.toNat < 48 ∨ 54 ≤ x.toNat) → x ≠ UInt8.ofNat (48 + k) := fun x hx e => by subst e; rw [hd] at hx; omega
  refine ⟨by simp, by simp, ?_, ?_, ?_, ?_, ?_⟩
  · show (Lib.repeatL _ _).length ≤ 500
    rw [repeatL_len]
    exact Nat.le_trans (Nat.mul_le_mul hcl (show (pick r.b 25).toNat ≤ 24 by omega)) (by omega)
  · simp only [List.mem_cons, List.mem_nil_iff, or_false, not_or]
    exact ⟨by rcases hc with rfl | rfl <;> decide, hne 61 (by decide)⟩
  · simp only [List.mem_cons, List.mem_nil_iff, or_false, not_or]
    exact ⟨by rcases hc with rfl | rfl <;> decide, hne 10 (by decide)⟩
  · intro b hb
    simp only [List.mem_cons, List.mem_nil_iff, or_false] at hb
    rcases hb with rfl | rfl
    · rcases hc with rfl | rfl <;> decide
    · rw [hd]; omega
  · intro h
    exact cleanS_no _ _ (repeatL_mem h)
theorem recsK_ok {c : UInt8} (hc : c = 97 ∨ c = 98) (l : List RawS) : ∀ k, ∀ r ∈ recsK c l k, RecOk r
  | 0 => by simp [recsK]
  | k + 1 => fun r hr => by
    rw [recsK] at hr
    rcases List.mem_append.1 hr with hr | hr
    · exact recsK_ok hc l k r hr
    · split at hr
      · next h =>
        rw [List.mem_singleton] at hr
        subst hr
        exact recK_ok hc k h _
      · simp at hr
theorem keys_up : (keys6 97).Pairwise (fun a b => leK b a = false) := by decide
theorem keys_two : (keys6 97 ++ keys6 98).Pairwise (fun a b => leK b a = false) := by decide
theorem recsP_asc (l : List RawS) : Asc (recsP 97 l) := asc_of_keys (by unfold recsP; rw [recsK_keys]; exact List.take_sublist _ _) keys_up
theorem recsP_asc98 (l : List RawS) : Asc (recsP 98 l) := asc_of_keys (ks := keys6 98) (by unfold recsP; rw [recsK_keys]; exact List.take_sublist _ _) (by decide)
theorem recsP_two (l m : List RawS) : Asc (recsP 97 l ++ recsP 98 m) := asc_of_keys (by unfold recsP; rw [List.map_append, recsK_keys, recsK_keys]; exact (List.take_sublist _ _).append (List.take_sublist _ _)) keys_two
theorem recsP_len (c : UInt8) (l : List RawS) : (recsP c l).length = min l.length 6 := recsK_len c l _
theorem recsP_ok {c : UInt8} (hc : c = 97 ∨ c = 98) (l : List RawS) : ∀ r ∈ recsP c l, RecOk r := recsK_ok hc l _

/-- in the loop of recordsOf -/
def RoSt (w0 : World) (v : Value) (rs : List RecS) (w : World) : Prop := Below w0.heap.size w0 w ∧ RecsOwn w w0.heap.size v rs
theorem RoSt.below {w0 w w' : World} {v : Value} {rs : List RecS} (h : RoSt w0 v rs w) (hb : Below w.heap.size w w') : RoSt w0 v rs w' := ⟨h.1.trans (hb.mono h.1.size), h.2.below hb⟩
theorem RoSt.snoc {w0 w w' : World} {v v' : Value} {rs : List RecS} {x : RecS} (h : RoSt w0 v rs w) (hg : w.grownBy w' v.ownBlock) (ho : w'.ownsRow w0.heap.size 42 2 v' (rs.length + 1) (rs.flatMap recC ++ recC x)) : RoSt w0 v' (rs ++ [x]) w' := by
  refine ⟨h.1.grown hg h.1.size (fun k e => (own_typed h.2 e).1), ?_⟩
  unfold RecsOwn
  rw [List.length_append, List.flatMap_append]
  simpa using ho
abbrev SRo (w0 : World) (g : Nat) (cs : Array Value) (b : Int) (bt : ByteArray) (v : Value) (rs : List RecS) (w : World) : Prop :=
  w.cell? ⟨g, 2, none⟩ = some (.int .i64 b) ∧ w.cell? ⟨g, 3, none⟩ = some (.string bt) ∧ Blk w g 23 cs ∧ RoSt w0 v rs w
theorem SRo.below {w0 w w' : World} {g : Nat} {cs : Array Value} {b : Int} {bt : ByteArray} {v : Value} {rs : List RecS} (h : SRo w0 g cs b bt v rs w) (hb : Below w.heap.size w w') : SRo w0 g cs b bt v rs w' :=
  ⟨(hb.cell (p := ⟨g, 2, none⟩) h.2.2.1.lt).trans h.1, (hb.cell (p := ⟨g, 3, none⟩) h.2.2.1.lt).trans h.2.1, h.2.2.1.below hb h.2.2.1.lt, h.2.2.2.below hb⟩
set_option maxRecDepth 100000 in
set_option maxHeartbeats 4000000 in
theorem recordsOf_any (l : List RawS) (v : Value) (c : UInt8) (_hc : c = 97 ∨ c = 98) (w : World) (hm : ML w) (h10 : P10 w) (hl : RawsAt w w.heap.size v l) (hok : ∀ x ∈ l, RawOk x) (hn : l.length ≤ 2097152) :
    Calls Tryd.prog 15 #[v, .string (bs [c])] w fun e w' => ∃ rv, e = .returned rv ∧ RecsOwn w' w.heap.size rv (recsP c l) ∧ Below w.heap.size w w' := by
  obtain ⟨A, cA, rfl, hlc, hc2, hA, hr⟩ := hl
  unfold maxLen at hc2
  have HR := Lib.hid hr
  have HOK := Lib.hid hok
  have HML : Hid (∀ W, Below w.heap.size w W → ML W) := Lib.hid (fun W hb => hm.below hb)
  have HP10 : Hid (∀ W, Below w.heap.size w W → P10 W) := Lib.hid (fun W hb => h10.below hb)
  have H0 : Hid (RoSt w (.slice none 0 0) (recsK c l 0) w) := Lib.hid ⟨Below.refl _ _, World.ownsRow_nil _ _ _ _⟩
  have HKL := Lib.hid (recsK_len c l)
  clear hr hok hA hm h10
  go_enter Tryd.func15, Tryd.ntmps15
  go_wp2_with fail
  go_loopg [5, 10] l.length (fun gg s5 s10 wr => ∃ k : Nat, k ≤ l.length ∧ l.length - k ≤ gg ∧ s10 = .int .i64 k ∧ Hid (RoSt w s5 (recsK c l k) wr))
  case atStart => exact ⟨0, Nat.zero_le _, by omega, rfl, H0⟩
  case round =>
    obtain ⟨k, hk, hg, rfl, HS⟩ := hrel
    by_cases hlt : k < l.length
    · obtain ⟨ad, rfl, had, q0, q1, q2, q3⟩ := load_raw (HR.out.below HS.out.1) hlt
      have hltz : (k : Int) < (l.length : Int) := by omega
      have hrk := HOK.out _ (List.getElem_mem hlt)
      by_cases h6 : k < 6
      · have h6z : (k : Int) < 6 := by omega
        have HT := Lib.hid (recsK_next (c := c) hlt h6)
        have hln : (recsK c l k).length = k := by rw [HKL.out]; omega
        obtain ⟨m, hm1, hm2⟩ := pick_nat l[k].b 25 (by omega)
        have Pb := Lib.hid (fun w => picked_any l[k].b 25 hrk.b (by omega) (by omega) w)
        rw [show pick l[k].b 25 = (m : Int) from hm1] at Pb
        have hcl := cleanS_length l[k].text 20
        have hlm : (cleanS l[k].text 20).length * m ≤ 20 * 25 := Nat.mul_le_mul hcl (by omega)
        have HCl := Lib.hid (fun w hm => clean_any l[k].text 20 w (by have := hrk.text; omega) (by omega) hm)
        have HRp := Lib.hid (fun w => Repeat_of (cleanS l[k].text 20) m w (by omega) (by omega))
        have HI := Lib.hid (fun W (h : Below w.heap.size w W) => Itoa_as k k rfl (by omega) W (HP10.out W h))
        have hkey : bs [c] ++ bs (Lib.decDigits k) = bs (c :: Lib.decDigits k) := by rw [bs_append]; rfl
        have HRO : Hid (recC (recK c k l[k]) = [.string (bs (c :: Lib.decDigits k)), .string (bs (Lib.repeatL (cleanS l[k].text 20) m))]) := Lib.hid (by
          unfold recK recC
          simp only [show pick l[k].b 25 = (m : Int) from hm1, Int.toNat_natCast])
        have zc : (bs [c]).size = 1 := rfl
        have zd := bs_size (Lib.decDigits k)
        have zd2 : (Lib.decDigits k).length = 1 := by rw [dec_small (by omega)]; rfl
        generalize recK c k l[k] = rk at *
        generalize l[k] = r at *
        clear hm1 hrk hlm hcl
        generalize bs (c :: Lib.decDigits k) = bk at *
        generalize bs (Lib.decDigits k) = bd at *
        generalize bs (Lib.repeatL (cleanS r.text 20) m) = bv at *
        generalize bs (cleanS r.text 20) = bc at *
        obtain ⟨g8, hg8⟩ : ∃ g8, g8 = wr.heap.size := ⟨_, rfl⟩
        obtain ⟨W1, hW1⟩ : ∃ W1, W1 = wr.alloc (.cells #[.int .i64 r.kind, .int .i64 r.a, .int .i64 r.b, .string (bs r.text)] 23) := ⟨_, rfl⟩
        have b01 : Below wr.heap.size wr W1 := by rw [hW1]; exact (Below.refl _ _).alloc (Nat.le_refl _) _
        have K1 : Blk W1 g8 23 #[.int .i64 r.kind, .int .i64 r.a, .int .i64 r.b, .string (bs r.text)] := by rw [hW1, hg8]; exact Blk.new _ _ _
        have hS1 := HS.out.below b01
        obtain ⟨A5, n5, hs5, -⟩ := ownsRow_read hS1.2
        subst hs5
        rw [hln] at hS1 ⊢
        obtain ⟨cs, hcs⟩ : ∃ cs : Array Value, cs = #[.int .i64 r.kind, .int .i64 r.a, .int .i64 r.b, .string (bs r.text)] := ⟨_, rfl⟩
        have HK1 : Hid (SRo w g8 cs r.b (bs r.text) (.slice A5 k n5) (recsK c l k) W1) := Lib.hid ⟨K1.cell 2, K1.cell 3, by rw [hcs]; exact K1, hS1⟩
        have HKB : Hid (∀ w1 w2, SRo w g8 cs r.b (bs r.text) (.slice A5 k n5) (recsK c l k) w1 → Below w1.heap.size w1 w2 → SRo w g8 cs r.b (bs r.text) (.slice A5 k n5) (recsK c l k) w2) := Lib.hid (fun w1 w2 h hb => h.below hb)
        have HKA : Hid (∀ w1 o, SRo w g8 cs r.b (bs r.text) (.slice A5 k n5) (recsK c l k) w1 → SRo w g8 cs r.b (bs r.text) (.slice A5 k n5) (recsK c l k) (w1.alloc o)) := Lib.hid (fun w1 o h => h.below ((Below.refl _ _).alloc (Nat.le_refl _) o))
        have HKD : Hid (∀ w1, SRo w g8 cs r.b (bs r.text) (.slice A5 k n5) (recsK c l k) w1 → SRo w g8 cs r.b (bs r.text) (.slice A5 k n5) (recsK c l k) w1.drew) := Lib.hid (fun w1 h => h.below (Below.refl _ _).drew)
        have HI2 := Lib.hid (fun W (h : SRo w g8 cs r.b (bs r.text) (.slice A5 k n5) (recsK c l k) W) => HI.out W h.2.2.2.1)
        have HC2 := Lib.hid (fun W (h : SRo w g8 cs r.b (bs r.text) (.slice A5 k n5) (recsK c l k) W) => HCl.out W (HML.out W h.2.2.2.1))
        obtain ⟨i9, hi9, hy0, hy1, hy2⟩ := info_parts recinfo
        have HLN := Lib.hid hln
        have HK3 : Hid (∀ w1, SRo w g8 cs r.b (bs r.text) (.slice A5 k n5) (recsK c l k) w1 → w1.drew.cell? ⟨g8, 2, none⟩ = some (.int .i64 r.b) ∧ w1.drew.cell? ⟨g8, 3, none⟩ = some (.string (bs r.text)) ∧ Blk w1.drew g8 23 cs) := Lib.hid (fun w1 h => ⟨h.1, h.2.1, h.2.2.1.drew⟩)
        have HK4 : Hid (∀ w1, SRo w g8 cs r.b (bs r.text) (.slice A5 k n5) (recsK c l k) w1 → w1.cell? ⟨g8, 2, none⟩ = some (.int .i64 r.b) ∧ w1.cell? ⟨g8, 3, none⟩ = some (.string (bs r.text)) ∧ Blk w1 g8 23 cs) := Lib.hid (fun w1 h => ⟨h.1, h.2.1, h.2.2.1⟩)
        have HK5 : Hid (∀ w1 o, SRo w g8 cs r.b (bs r.text) (.slice A5 k n5) (recsK c l k) w1 → (w1.alloc o).cell? ⟨g8, 2, none⟩ = some (.int .i64 r.b) ∧ (w1.alloc o).cell? ⟨g8, 3, none⟩ = some (.string (bs r.text)) ∧ Blk (w1.alloc o) g8 23 cs) := Lib.hid (fun w1 o h => by
          have h2 := h.below ((Below.refl _ _).alloc (Nat.le_refl _) o)
          exact ⟨h2.1, h2.2.1, h2.2.2.1⟩)
        have HOW : Hid (∀ w1 o, SRo w g8 cs r.b (bs r.text) (.slice A5 k n5) (recsK c l k) w1 → (w1.alloc o).ownsRow w.heap.size 42 2 (.slice A5 k n5) k ((recsK c l k).flatMap recC)) := Lib.hid (fun w1 o h => by
          have h2 := (h.below ((Below.refl _ _).alloc (Nat.le_refl _) o)).2.2.2.2
          unfold RecsOwn at h2
          rw [hln] at h2
          exact h2)
        have HOB : Hid (∀ w1 o, SRo w g8 cs r.b (bs r.text) (.slice A5 k n5) (recsK c l k) w1 → w.heap.size ≤ (w1.alloc o).heap.size) := Lib.hid (fun w1 o h => (h.below ((Below.refl _ _).alloc (Nat.le_refl _) o)).2.2.2.1.size)
        have HGR : Hid (∀ w1 o w5, SRo w g8 cs r.b (bs r.text) (.slice A5 k n5) (recsK c l k) w1 → (w1.alloc o).grownBy w5 (Value.slice A5 k n5).ownBlock → (w5.cell? ⟨g8, 2, none⟩ = some (.int .i64 r.b) ∧ w5.cell? ⟨g8, 3, none⟩ = some (.string (bs r.text)) ∧ Blk w5 g8 23 cs)) := Lib.hid (fun w1 o w5 h hg => by
          have h2 := h.below ((Below.refl _ _).alloc (Nat.le_refl _) o)
          have hb := h2.2.2.1.grown hg (fun e => own_blk_ne h2.2.2.2.2 h2.2.2.1 (by decide) e.symm)
          have e2 := h2.2.2.1.cell 2
          have e3 := h2.2.2.1.cell 3
          rw [h2.1] at e2
          rw [h2.2.1] at e3
          exact ⟨(hb.cell 2).trans e2.symm, (hb.cell 3).trans e3.symm, hb⟩)
        clear b01 K1 hS1 HI HCl hcs
        go_upto_region 6 with fail
        rw [← hW1, ← hg8]
        clear hW1 hg8 q0 q1 q2 q3
        generalize bs r.text = bt at *
        generalize r.b = rb at *
        go_region_held3 (fun w' => w'.cell? ⟨g8, 2, none⟩ = some (.int .i64 rb) ∧ w'.cell? ⟨g8, 3, none⟩ = some (.string bt) ∧ Blk w' g8 23 cs)
          (first | assumption | (exact HK3.out _ HK1.out) | (exact HK4.out _ (by assumption)) | (exact HK5.out _ _ (by assumption)) | (exact ⟨s0, s1, s2⟩) | go_keep)
          (first
            | (go_at_call 20; (with_reducible refine (Pb.out _).mono ?_); rintro e w' ⟨rfl, rfl⟩)
            | (go_at_call 30; (with_reducible refine (HI2.out _ (by first | assumption | exact HKD.out _ HK1.out)).mono ?_); rintro e w' ⟨rfl, hb1⟩; have hbn := HKB.out _ _ (by first | assumption | exact HKD.out _ HK1.out) hb1; clear hb1)
            | (go_at_call 24; refine (HC2.out _ (by first | assumption | exact HKD.out _ HK1.out)).mono ?_; rintro e w' ⟨rfl, hb1⟩; have hbn := HKB.out _ _ (by first | assumption | exact HKD.out _ HK1.out) hb1; clear hb1)
            | (go_at_call 23; (with_reducible refine (HRp.out _).mono ?_); rintro e w' ⟨rfl, hb1⟩; have hbn := HKB.out _ _ (by first | assumption | exact HKD.out _ HK1.out) hb1; clear hb1)
            | (refine step_append_any _ rfl (.tmp 17) (.tmp 30) _ rfl w.heap.size 42 i9 _ 2 32 Tryd.underlying35 hi9 hy0 hy1 hy2 rfl (by omega) (.slice A5 k n5) k _ rfl (HOW.out _ _ (by assumption)) _ _ 1 _ [.string bk, .string bv] rfl (new_row _ 42 [.string bk, .string bv] 1 2 rfl) (by simp [Value.oneCell']) (by simp only [maxLen]; omega) (by omega) (HOB.out _ _ (by assumption)) ?_; intro v5 w5 hown5 hg5 hat5; obtain ⟨s0, s1, s2⟩ := HGR.out _ _ _ (by assumption) hg5))
        all_goals
          go_wp2_with fail
          go_roundg (l.length - (k + 1))
        all_goals first
          | omega
          | (refine ⟨k + 1, by omega, by omega, by go_num, Lib.hid ?_⟩
             rw [HT.out]
             refine RoSt.snoc (HKA.out _ _ (by assumption)).2.2.2 hg5 ?_
             rw [HLN.out, HRO.out]
             exact hown5)
      · have h6z : ¬ (k : Int) < 6 := by omega
        have HT := Lib.hid (recsK_full (c := c) (l := l) h6)
        generalize l[k] = r at *
        go_wp2_with fail
        go_roundg (l.length - (k + 1))
        case measure => omega
        case rel => exact ⟨k + 1, by omega, by omega, by go_num, Lib.hid (by rw [HT.out]; exact HS.out.below ((Below.refl _ _).alloc (Nat.le_refl _) _))⟩
    · obtain rfl : k = l.length := by omega
      go_wp2_with fail
      go_ret
      exact ⟨_, rfl, HS.out.2, HS.out.1⟩
end Go.Proofs.YtmioinfhggbfkaaDoor
