/-
  creelkeep.recorded, once; the law RecordLong. Condition: the library's table of powers of ten lies as Go laid it; a text of at most 1048576 bytes.
-/
import Derived.Test.YtbjgfonlamcifaaDoorRecord
import Derived.Deep.RegionHeld3
namespace Go.Proofs.YtbjgfonlamcifaaDoor
open Go.RowKit

def recOf (r : RawS) : RecS := ⟨107 :: List.replicate (pick r.a 50).toNat 121, Lib.repeatL (cleanS r.text 20) (pick r.b 25).toNat⟩
theorem repeatL_len (l : List UInt8) (n : Nat) : (Lib.repeatL l n).length = l.length * n := by
  induction n with
  | zero => rfl
  | succ n ih => rw [Lib.repeatL, List.length_append, ih, Nat.mul_succ]; omega
theorem repeatL_mem {l : List UInt8} {n : Nat} {b : UInt8} (h : b ∈ Lib.repeatL l n) : b ∈ l := by
  induction n with
  | zero => simp [Lib.repeatL] at h
  | succ n ih =>
    rw [Lib.repeatL] at h
    rcases List.mem_append.1 h with h | h
    · exact h
    · exact ih h
theorem recOf_ok (r : RawS) : RecOk (recOf r) := by
  obtain ⟨a1, a2⟩ := pick_bd r.a 50 (by omega)
  obtain ⟨b1, b2⟩ := pick_bd r.b 25 (by omega)
  have hc := cleanS_length r.text 20
  refine ⟨by simp [recOf], by simp [recOf]; omega, ?_, ?_, ?_, ?_, ?_⟩
  · show (Lib.repeatL _ _).length ≤ 500
    rw [repeatL_len]
    exact Nat.le_trans (Nat.mul_le_mul hc (show (pick r.b 25).toNat ≤ 24 by omega)) (by omega)
  · simp [recOf, List.mem_replicate]
  · simp [recOf, List.mem_replicate]
  · intro b hb
    simp only [recOf, List.mem_cons, List.mem_replicate] at hb
    rcases hb with rfl | ⟨_, rfl⟩ <;> decide
  · intro h
    exact cleanS_no _ _ (repeatL_mem h)

/-- what a cell holds, whatever it is -/
def peek (w : World) (a : Addr) : Value := (w.cell? a).getD undef
abbrev SRec (G : Nat) (a b : Int) (bt : ByteArray) (W0 w' : World) : Prop :=
  w'.cell? ⟨G, 1, none⟩ = some (.int .i64 a) ∧ w'.cell? ⟨G, 2, none⟩ = some (.int .i64 b) ∧ w'.cell? ⟨G, 3, none⟩ = some (.string bt) ∧ w'.cell? ⟨G + 1, 0, none⟩ = some (peek w' ⟨G + 1, 0, none⟩) ∧ w'.cell? ⟨G + 1, 1, none⟩ = some (peek w' ⟨G + 1, 1, none⟩) ∧ w'.frozen? ⟨G + 1, 0, none⟩ = false ∧ w'.frozen? ⟨G + 1, 1, none⟩ = false ∧ Below (G + 1) W0 w' ∧ G + 2 ≤ w'.heap.size
theorem peek_some {w : World} {a : Addr} {v : Value} (h : w.cell? a = some v) : w.cell? a = some (peek w a) := by unfold peek; rw [h]; rfl
theorem SRec.below {G : Nat} {a b : Int} {bt : ByteArray} {W0 w1 w2 : World} (h : SRec G a b bt W0 w1) (hb : Below w1.heap.size w1 w2) : SRec G a b bt W0 w2 := by
  obtain ⟨h1, h2, h3, h4, h5, h6, h7, h8, h9⟩ := h
  have c := fun (n : Nat) => hb.cell (p := ⟨G, n, none⟩) (show G < w1.heap.size by omega)
  have d := fun (n : Nat) => hb.cell (p := ⟨G + 1, n, none⟩) (show G + 1 < w1.heap.size by omega)
  have f := fun (n : Nat) => hb.frozen (p := ⟨G + 1, n, none⟩) (show G + 1 < w1.heap.size by omega)
  exact ⟨(c 1).trans h1, (c 2).trans h2, (c 3).trans h3, peek_some ((d 0).trans h4), peek_some ((d 1).trans h5), (f 0).trans h6, (f 1).trans h7, h8.trans (hb.mono (by omega)), Nat.le_trans h9 hb.size⟩
theorem SRec.drew {G : Nat} {a b : Int} {bt : ByteArray} {W0 w1 : World} (h : SRec G a b bt W0 w1) : SRec G a b bt W0 w1.drew := h.below ((Below.refl _ _).drew)
theorem SRec.stored {G : Nat} {a b : Int} {bt : ByteArray} {W0 w1 : World} (u v : Value) (h : SRec G a b bt W0 w1) : SRec G a b bt W0 ((w1.setCell ⟨G + 1, 0, none⟩ u).setCell ⟨G + 1, 1, none⟩ v) := by
  obtain ⟨h1, h2, h3, h4, h5, h6, h7, h8, h9⟩ := h
  have hb : Below (G + 1) w1 ((w1.setCell ⟨G + 1, 0, none⟩ u).setCell ⟨G + 1, 1, none⟩ v) := ((Below.refl _ w1).setCell (p := ⟨G + 1, 0, none⟩) (Nat.le_refl _) u).setCell (p := ⟨G + 1, 1, none⟩) (Nat.le_refl _) v
  have c := fun (n : Nat) => hb.cell (p := ⟨G, n, none⟩) (Nat.lt_succ_self G)
  refine ⟨(c 1).trans h1, (c 2).trans h2, (c 3).trans h3, ?_, ?_, ?_, ?_, h8.trans hb, Nat.le_trans h9 hb.size⟩
  · obtain ⟨x, hx⟩ := cell?_setCell_some (w := w1) (p := ⟨G + 1, 0, none⟩) (x := u) (q := ⟨G + 1, 0, none⟩) h4
    obtain ⟨y, hy⟩ := cell?_setCell_some (w := w1.setCell ⟨G + 1, 0, none⟩ u) (p := ⟨G + 1, 1, none⟩) (x := v) (q := ⟨G + 1, 0, none⟩) hx
    exact peek_some hy
  · obtain ⟨x, hx⟩ := cell?_setCell_some (w := w1) (p := ⟨G + 1, 0, none⟩) (x := u) (q := ⟨G + 1, 1, none⟩) h5
    obtain ⟨y, hy⟩ := cell?_setCell_some (w := w1.setCell ⟨G + 1, 0, none⟩ u) (p := ⟨G + 1, 1, none⟩) (x := v) (q := ⟨G + 1, 1, none⟩) hx
    exact peek_some hy
  · simpa using h6
  · simpa using h7
set_option maxRecDepth 100000 in
set_option maxHeartbeats 1000000 in
theorem recorded_any (r : RawS) (h : RawOk r) (w : World) (hm : ML w) :
    Calls Tryd.prog 16 #[rawV r] w fun e w' => e = .returned (recV (recOf r)) ∧ Below w.heap.size w w' := by
  obtain ⟨kind, a, b, text⟩ := r
  obtain ⟨_, ha, hb, ht⟩ := h
  simp only at ha hb ht
  obtain ⟨k, hk, hk2⟩ := pick_nat a 50 (by omega)
  obtain ⟨m, hm1, hm2⟩ := pick_nat b 25 (by omega)
  have HPa := Lib.hid (fun w => picked_any a 50 ha (by omega) (by omega) w)
  have HPb := Lib.hid (fun w => picked_any b 25 hb (by omega) (by omega) w)
  rw [show pick a 50 = (k : Int) from hk] at HPa
  rw [show pick b 25 = (m : Int) from hm1] at HPb
  have hcl := cleanS_length text 20
  have HR1 : Hid (∀ w, Calls Tryd.prog 38 #[.string ⟨#[121]⟩, .int .i64 k] w fun e w' => e = .returned (.string (bs (List.replicate k 121))) ∧ Below w.heap.size w w') := Lib.hid (fun w => Repeat_byte 121 k w (by omega))
  have HCl := Lib.hid (fun w hm => clean_any text 20 w (by omega) (by omega) hm)
  have hlm : (cleanS text 20).length * m ≤ 20 * 25 := Nat.mul_le_mul hcl (by omega)
  have HR2 := Lib.hid (fun w => Repeat_of (cleanS text 20) m w (by omega) (by omega))
  have zR := bs_rep_size 121 k
  have hkey : (⟨#[107]⟩ : ByteArray) ++ bs (List.replicate k 121) = bs (107 :: List.replicate k 121) := by
    rw [show (⟨#[107]⟩ : ByteArray) = bs [107] from rfl, bs_append]; rfl
  have hfin : Hid (recOf ⟨kind, a, b, text⟩ = ⟨107 :: List.replicate k 121, Lib.repeatL (cleanS text 20) m⟩) := Lib.hid (by
    unfold recOf
    simp only [show pick a 50 = (k : Int) from hk, show pick b 25 = (m : Int) from hm1, Int.toNat_natCast])
  clear hk hm1 ha hb hlm hcl
  rw [hfin.out]
  unfold rawV recV
  simp only
  generalize bs (107 :: List.replicate k 121) = bk at *
  generalize bs (List.replicate k 121) = bR at *
  generalize bs (Lib.repeatL (cleanS text 20) m) = bv at *
  generalize bs (cleanS text 20) = bc at *
  generalize bs text = bt at *
  obtain ⟨W0, hW0⟩ : ∃ W0, W0 = (w.alloc (.cells #[.int .i64 kind, .int .i64 a, .int .i64 b, .string bt] 23)).alloc (.cells #[.string ⟨#[]⟩, .string ⟨#[]⟩] 28) := ⟨_, rfl⟩
  obtain ⟨G, hG⟩ : ∃ G, G = w.heap.size := ⟨_, rfl⟩
  have hBA := (Blk.new w 23 #[.int .i64 kind, .int .i64 a, .int .i64 b, .string bt]).alloc (.cells #[.string ⟨#[]⟩, .string ⟨#[]⟩] 28)
  have hBB := Blk.new (w.alloc (.cells #[.int .i64 kind, .int .i64 a, .int .i64 b, .string bt] 23)) 28 #[.string ⟨#[]⟩, .string ⟨#[]⟩]
  rw [show (w.alloc (.cells #[.int .i64 kind, .int .i64 a, .int .i64 b, .string bt] 23)).heap.size = w.heap.size + 1 by simp] at hBB
  have hsz : W0.heap.size = w.heap.size + 2 := by rw [hW0]; simp
  have hbw : Below w.heap.size w W0 := by rw [hW0]; exact ((Below.refl _ w).alloc (Nat.le_refl _) _).alloc (by simp) _
  rw [← hW0] at hBA hBB
  have hS0 : SRec G a b bt W0 W0 := by
    rw [hG]
    exact ⟨hBA.cell 1, hBA.cell 2, hBA.cell 3, peek_some (hBB.cell 0), peek_some (hBB.cell 1), hBB.frozen 0, hBB.frozen 1, Below.refl _ _, by omega⟩
  have HS := Lib.hid (fun (_ : Unit) => hS0.drew)
  have HK : Hid (∀ w1 w2, SRec G a b bt W0 w1 → Below w1.heap.size w1 w2 → SRec G a b bt W0 w2) := Lib.hid (fun w1 w2 h1 h2 => h1.below h2)
  have HST : Hid (∀ w1 u v, SRec G a b bt W0 w1 → SRec G a b bt W0 ((w1.setCell ⟨G + 1, 0, none⟩ u).setCell ⟨G + 1, 1, none⟩ v)) := Lib.hid (fun w1 u v h => h.stored u v)
  have HMM : Hid (∀ w1, SRec G a b bt W0 w1 → ML w1) := Lib.hid (fun w1 h1 => hm.below (by
    have h := h1.2.2.2.2.2.2.2.1
    rw [hG] at h
    exact hbw.trans (h.mono (by omega))))
  have HBW := Lib.hid hbw
  have HG := Lib.hid hG
  have HSZ := Lib.hid hsz
  clear hS0 hBA hBB hbw hm hsz
  go_enter Tryd.func16, Tryd.ntmps16
  go_wp2_with fail
  rw [← hG, ← hW0]
  have HW0 := Lib.hid hW0
  clear hW0 hG
  have z107 : (ByteArray.mk #[107]).size = 1 := rfl
  have nk : ¬ 9223372036854775807 < 1 + k := by omega
  go_region_held3 (fun w' => w'.cell? ⟨G, 1, none⟩ = some (.int .i64 a) ∧ w'.cell? ⟨G, 2, none⟩ = some (.int .i64 b) ∧ w'.cell? ⟨G, 3, none⟩ = some (.string bt) ∧ w'.cell? ⟨G + 1, 0, none⟩ = some (peek w' ⟨G + 1, 0, none⟩) ∧ w'.cell? ⟨G + 1, 1, none⟩ = some (peek w' ⟨G + 1, 1, none⟩) ∧ w'.frozen? ⟨G + 1, 0, none⟩ = false ∧ w'.frozen? ⟨G + 1, 1, none⟩ = false ∧ Below (G + 1) W0 w' ∧ G + 2 ≤ w'.heap.size)
    (first | assumption | (exact HS.out ()) | (exact HST.out _ _ _ (by assumption)) | go_keep)
    (first
      | (go_at_call 24; (first | (with_reducible refine (HPa.out _).mono ?_) | (with_reducible refine (HPb.out _).mono ?_)); rintro e w' ⟨rfl, rfl⟩)
      | (go_at_call 38; (first | (with_reducible refine (HR1.out _).mono ?_) | (with_reducible refine (HR2.out _).mono ?_)); rintro e w' ⟨rfl, hb1⟩; have hbn := HK.out _ _ (by assumption) hb1; clear hb1)
      | (go_at_call 41; refine (HCl.out _ (HMM.out _ (by assumption))).mono ?_; rintro e w' ⟨rfl, hb1⟩; have hbn := HK.out _ _ (by assumption) hb1; clear hb1))
  obtain ⟨_, _, _, h4, h5, h6, h7, h8, h9⟩ := hbn
  have c0 : ((w'.setCell ⟨G + 1, 0, none⟩ (.string bk)).setCell ⟨G + 1, 1, none⟩ (.string bv)).cell? ⟨G + 1, 0, none⟩ = some (.string bk) :=
    (World.cell?_setCell_other _ _ _ _ (by simp)).trans (World.cell?_setCell_same _ _ _ h4)
  have c1 : ((w'.setCell ⟨G + 1, 0, none⟩ (.string bk)).setCell ⟨G + 1, 1, none⟩ (.string bv)).cell? ⟨G + 1, 1, none⟩ = some (.string bv) :=
    World.cell?_setCell_same _ _ _ ((World.cell?_setCell_other _ _ _ _ (by simp)).trans h5)
  have hb9 : Below w.heap.size w ((w'.setCell ⟨G + 1, 0, none⟩ (.string bk)).setCell ⟨G + 1, 1, none⟩ (.string bv)) :=
    HBW.out.trans (((h8.mono (by rw [HG.out]; omega)).setCell (p := ⟨G + 1, 0, none⟩) (by rw [HG.out]; show w.heap.size ≤ w.heap.size + 1; omega) _).setCell (p := ⟨G + 1, 1, none⟩) (by rw [HG.out]; show w.heap.size ≤ w.heap.size + 1; omega) _)
  clear h4 h5 h6 h7 h8 h9
  obtain ⟨wz, hwz⟩ : ∃ wz, wz = ((w'.setCell ⟨G + 1, 0, none⟩ (.string bk)).setCell ⟨G + 1, 1, none⟩ (.string bv)) := ⟨_, rfl⟩
  rw [← hwz] at c0 c1 hb9 ⊢
  have HB9 := Lib.hid hb9
  clear hb9 hwz
  try go_wp2
  exact bodyPost_ret (v := .agg #[.string bk, .string bv]) (by simp [results, Tryd.results16, go_sem, c0, c1]) rfl ⟨rfl, HB9.out⟩
end Go.Proofs.YtbjgfonlamcifaaDoor
