/-
  creelkeep.headOf, once. Condition: a text of at most 1048576 bytes.
-/
import Derived.Test.YtnbggojmbdgkmaaDoorHeadWrite
import Derived.Test.YtnbggojmbdgkmaaDoorRaw
import Derived.Test.YtnbggojmbdgkmaaDoorFieldLaws
import Derived.Deep.RegionHeld3
namespace Go.Proofs.YtnbggojmbdgkmaaDoor
open Go.RowKit

def typeOf (k : Nat) : UInt8 := typeB.getD k 48
def headP (r : RawS) : PHead :=
  { name := 110 :: cleanS r.text 90, pre := cleanS r.text 150, link := cleanS r.text 100, mode := (pick r.a 2097152).toNat, uid := (pick r.b 2097152).toNat, gid := (pick r.a 2097152).toNat
    size := (pick r.b 8589934592).toNat, time := (pick r.a 8589934592).toNat, type := typeOf (pick r.kind 5).toNat, user := cleanS r.text 31, group := cleanS r.text 20 }
theorem typeOf_in (k : Nat) : typeOf k ∈ [48, 49, 50, 53, (120 : UInt8)] := by
  unfold typeOf typeB
  rcases k with _ | _ | _ | _ | _ | k <;> simp
theorem headP_ok (r : RawS) : HeadOk (headP r) := by
  have p := fun (x : Int) (m : Int) (h : 1 ≤ m) => pick_bd x m h
  refine ⟨?_, ?_, ?_, cleanS_no _ _, ?_, cleanS_no _ _, ?_, ?_, ?_, ?_, ?_, typeOf_in _, ?_, cleanS_no _ _, ?_, cleanS_no _ _⟩
  · have := cleanS_length r.text 90; simp [headP]; omega
  · intro h
    rcases List.mem_cons.1 h with h | h
    · exact absurd h (by decide)
    · exact cleanS_no _ _ h
  · have := cleanS_length r.text 150; simp only [headP]; omega
  · have := cleanS_length r.text 100; simp only [headP]; omega
  · have := p r.a 2097152 (by omega); simp only [headP]; omega
  · have := p r.b 2097152 (by omega); simp only [headP]; omega
  · have := p r.a 2097152 (by omega); simp only [headP]; omega
  · have := p r.b 8589934592 (by omega); simp only [headP]; omega
  · have := p r.a 8589934592 (by omega); simp only [headP]; omega
  · have := cleanS_length r.text 31; simp only [headP]; omega
  · have := cleanS_length r.text 20; simp only [headP]; omega


def HdCore (G : Nat) (kd a b : Int) (bt : ByteArray) (W0 w' : World) : Prop := Blk w' G 23 #[.int .i64 kd, .int .i64 a, .int .i64 b, .string bt] ∧ HasBlk w' (G + 1) 28 11 ∧ Below (G + 1) W0 w'
abbrev SHd (G : Nat) (kd a b : Int) (bt : ByteArray) (W0 w' : World) : Prop := w'.cell? ⟨G, 0, none⟩ = some (.int .i64 kd) ∧ w'.cell? ⟨G, 1, none⟩ = some (.int .i64 a) ∧ w'.cell? ⟨G, 2, none⟩ = some (.int .i64 b) ∧ w'.cell? ⟨G, 3, none⟩ = some (.string bt) ∧ w'.cell? ⟨G + 1, 0, none⟩ = some (peek w' ⟨G + 1, 0, none⟩) ∧ w'.cell? ⟨G + 1, 1, none⟩ = some (peek w' ⟨G + 1, 1, none⟩) ∧ w'.cell? ⟨G + 1, 2, none⟩ = some (peek w' ⟨G + 1, 2, none⟩) ∧ w'.cell? ⟨G + 1, 3, none⟩ = some (peek w' ⟨G + 1, 3, none⟩) ∧ w'.cell? ⟨G + 1, 4, none⟩ = some (peek w' ⟨G + 1, 4, none⟩) ∧ w'.cell? ⟨G + 1, 5, none⟩ = some (peek w' ⟨G + 1, 5, none⟩) ∧ w'.cell? ⟨G + 1, 6, none⟩ = some (peek w' ⟨G + 1, 6, none⟩) ∧ w'.cell? ⟨G + 1, 7, none⟩ = some (peek w' ⟨G + 1, 7, none⟩) ∧ w'.cell? ⟨G + 1, 8, none⟩ = some (peek w' ⟨G + 1, 8, none⟩) ∧ w'.cell? ⟨G + 1, 9, none⟩ = some (peek w' ⟨G + 1, 9, none⟩) ∧ w'.cell? ⟨G + 1, 10, none⟩ = some (peek w' ⟨G + 1, 10, none⟩) ∧ w'.frozen? ⟨G + 1, 0, none⟩ = false ∧ w'.frozen? ⟨G + 1, 1, none⟩ = false ∧ w'.frozen? ⟨G + 1, 2, none⟩ = false ∧ w'.frozen? ⟨G + 1, 3, none⟩ = false ∧ w'.frozen? ⟨G + 1, 4, none⟩ = false ∧ w'.frozen? ⟨G + 1, 5, none⟩ = false ∧ w'.frozen? ⟨G + 1, 6, none⟩ = false ∧ w'.frozen? ⟨G + 1, 7, none⟩ = false ∧ w'.frozen? ⟨G + 1, 8, none⟩ = false ∧ w'.frozen? ⟨G + 1, 9, none⟩ = false ∧ w'.frozen? ⟨G + 1, 10, none⟩ = false ∧ HdCore G kd a b bt W0 w'
theorem HdCore.flat {G : Nat} {kd a b : Int} {bt : ByteArray} {W0 w' : World} (h : HdCore G kd a b bt W0 w') : SHd G kd a b bt W0 w' := by
  obtain ⟨h1, h2, h3⟩ := id h
  exact ⟨h1.cell 0, h1.cell 1, h1.cell 2, h1.cell 3, h2.peek_ (by omega), h2.peek_ (by omega), h2.peek_ (by omega), h2.peek_ (by omega), h2.peek_ (by omega), h2.peek_ (by omega), h2.peek_ (by omega), h2.peek_ (by omega), h2.peek_ (by omega), h2.peek_ (by omega), h2.peek_ (by omega), h2.frozen 0, h2.frozen 1, h2.frozen 2, h2.frozen 3, h2.frozen 4, h2.frozen 5, h2.frozen 6, h2.frozen 7, h2.frozen 8, h2.frozen 9, h2.frozen 10, h⟩
theorem SHd.core {G : Nat} {kd a b : Int} {bt : ByteArray} {W0 w' : World} (h : SHd G kd a b bt W0 w') : HdCore G kd a b bt W0 w' := by
  obtain ⟨_, _, _, _, _, _, _, _, _, _, _, _, _, _, _, _, _, _, _, _, _, _, _, _, _, _, h⟩ := h
  exact h
theorem SHd.below {G : Nat} {kd a b : Int} {bt : ByteArray} {W0 w1 w2 : World} (h : SHd G kd a b bt W0 w1) (hb : Below w1.heap.size w1 w2) : SHd G kd a b bt W0 w2 := by
  obtain ⟨h1, h2, h3⟩ := h.core
  exact HdCore.flat ⟨h1.below hb h1.lt, h2.below hb, h3.trans (hb.mono (by have := h2.lt; omega))⟩
theorem HdCore.set_ {G : Nat} {kd a b : Int} {bt : ByteArray} {W0 w1 : World} (h : HdCore G kd a b bt W0 w1) (i : Nat) (u : Value) : HdCore G kd a b bt W0 (w1.setCell ⟨G + 1, i, none⟩ u) := by
  obtain ⟨h1, h2, h3⟩ := h
  exact ⟨h1.far (p := ⟨G + 1, i, none⟩) (by show G ≠ G + 1; omega) u, h2.set_ i u, h3.setCell (p := ⟨G + 1, i, none⟩) (Nat.le_refl _) u⟩
theorem SHd.stored {G : Nat} {kd a b : Int} {bt : ByteArray} {W0 w1 : World} (u0 u1 u2 u3 u4 u5 u6 u7 u8 u9 u10 : Value) (h : SHd G kd a b bt W0 w1) : SHd G kd a b bt W0 (((((((((((w1.setCell ⟨G + 1, 0, none⟩ u0).setCell ⟨G + 1, 1, none⟩ u1).setCell ⟨G + 1, 2, none⟩ u2).setCell ⟨G + 1, 3, none⟩ u3).setCell ⟨G + 1, 4, none⟩ u4).setCell ⟨G + 1, 5, none⟩ u5).setCell ⟨G + 1, 6, none⟩ u6).setCell ⟨G + 1, 7, none⟩ u7).setCell ⟨G + 1, 8, none⟩ u8).setCell ⟨G + 1, 9, none⟩ u9).setCell ⟨G + 1, 10, none⟩ u10) :=
  HdCore.flat (((((((((((h.core.set_ 0 u0).set_ 1 u1).set_ 2 u2).set_ 3 u3).set_ 4 u4).set_ 5 u5).set_ 6 u6).set_ 7 u7).set_ 8 u8).set_ 9 u9).set_ 10 u10)

set_option maxRecDepth 100000 in
set_option maxHeartbeats 4000000 in
theorem headOf_any (r : RawS) (h : RawOk r) (w : World) (hm : ML w) :
    Calls Tryd.prog 16 #[rawV r] w fun e w' => e = .returned (headV (headP r)) ∧ Below w.heap.size w w' := by
  obtain ⟨kd, a, b, text⟩ := r
  obtain ⟨hkd, ha, hb, ht⟩ := h
  simp only at hkd ha hb ht
  have cl := fun m => cleanS_length text m
  obtain ⟨md, hmd, bmd⟩ := pick_nat a 2097152 (by omega)
  have Pmd := Lib.hid (fun w => picked_any a 2097152 ha (by omega) (by omega) w)
  rw [show pick a 2097152 = (md : Int) from hmd] at Pmd
  obtain ⟨ud, hud, bud⟩ := pick_nat b 2097152 (by omega)
  have Pud := Lib.hid (fun w => picked_any b 2097152 hb (by omega) (by omega) w)
  rw [show pick b 2097152 = (ud : Int) from hud] at Pud
  obtain ⟨sz, hsz, bsz⟩ := pick_nat b 8589934592 (by omega)
  have Psz := Lib.hid (fun w => picked_any b 8589934592 hb (by omega) (by omega) w)
  rw [show pick b 8589934592 = (sz : Int) from hsz] at Psz
  obtain ⟨tm, htm, btm⟩ := pick_nat a 8589934592 (by omega)
  have Ptm := Lib.hid (fun w => picked_any a 8589934592 ha (by omega) (by omega) w)
  rw [show pick a 8589934592 = (tm : Int) from htm] at Ptm
  obtain ⟨kk, hkk, bkk⟩ := pick_nat kd 5 (by omega)
  have Pkk := Lib.hid (fun w => picked_any kd 5 hkd (by omega) (by omega) w)
  rw [show pick kd 5 = (kk : Int) from hkk] at Pkk
  have C90 : Hid (∀ w, ML w → Calls Tryd.prog 51 #[.string (bs text), .int .i64 90] w fun e w' => e = .returned (.string (bs (cleanS text 90))) ∧ Below w.heap.size w w') := Lib.hid (fun w hm => clean_any text 90 w (by omega) (by omega) hm)
  have C150 : Hid (∀ w, ML w → Calls Tryd.prog 51 #[.string (bs text), .int .i64 150] w fun e w' => e = .returned (.string (bs (cleanS text 150))) ∧ Below w.heap.size w w') := Lib.hid (fun w hm => clean_any text 150 w (by omega) (by omega) hm)
  have C100 : Hid (∀ w, ML w → Calls Tryd.prog 51 #[.string (bs text), .int .i64 100] w fun e w' => e = .returned (.string (bs (cleanS text 100))) ∧ Below w.heap.size w w') := Lib.hid (fun w hm => clean_any text 100 w (by omega) (by omega) hm)
  have C31 : Hid (∀ w, ML w → Calls Tryd.prog 51 #[.string (bs text), .int .i64 31] w fun e w' => e = .returned (.string (bs (cleanS text 31))) ∧ Below w.heap.size w w') := Lib.hid (fun w hm => clean_any text 31 w (by omega) (by omega) hm)
  have C20 : Hid (∀ w, ML w → Calls Tryd.prog 51 #[.string (bs text), .int .i64 20] w fun e w' => e = .returned (.string (bs (cleanS text 20))) ∧ Below w.heap.size w w') := Lib.hid (fun w hm => clean_any text 20 w (by omega) (by omega) hm)
  have hname : (⟨#[110]⟩ : ByteArray) ++ bs (cleanS text 90) = bs (110 :: cleanS text 90) := by
    rw [show (⟨#[110]⟩ : ByteArray) = bs [110] from rfl, bs_append]; rfl
  have z9 := bs_size (cleanS text 90)
  have z9b : (bs (cleanS text 90)).size ≤ 90 := by rw [z9]; exact cl 90
  clear z9
  obtain ⟨ty, hty⟩ : ∃ ty : Int, ((typeOf kk).toNat : Int) = ty := ⟨_, rfl⟩
  have ik : ∀ w, (Instr.index 9 (.string ⟨#[48, 49, 50, 53, 120]⟩) (.int .i64 kk)).run Tryd.prog w = .ok (.int .u8 ty) w := by
    rw [← hty]
    rcases (show kk = 0 ∨ kk = 1 ∨ kk = 2 ∨ kk = 3 ∨ kk = 4 by omega) with rfl | rfl | rfl | rfl | rfl <;> exact fun _ => by kernel_rfl
  have hfin : Hid (headV (headP ⟨kd, a, b, text⟩) = .agg #[.string (bs (110 :: cleanS text 90)), .string (bs (cleanS text 150)), .string (bs (cleanS text 100)), .int .i64 md, .int .i64 ud, .int .i64 md, .int .i64 sz, .int .i64 tm, .int .u8 ty, .string (bs (cleanS text 31)), .string (bs (cleanS text 20))]) := Lib.hid (by
    unfold headV headCells headP
    simp only [show pick a 2097152 = (md : Int) from hmd, show pick b 2097152 = (ud : Int) from hud, show pick b 8589934592 = (sz : Int) from hsz, show pick a 8589934592 = (tm : Int) from htm, show pick kd 5 = (kk : Int) from hkk, Int.toNat_natCast, hty])
  clear hmd hud hsz htm hkk hty cl hkd ha hb
  rw [hfin.out]
  unfold rawV
  simp only
  generalize bs (110 :: cleanS text 90) = bn at *
  generalize bs (cleanS text 90) = b90 at *
  generalize bs (cleanS text 150) = b150 at *
  generalize bs (cleanS text 100) = b100 at *
  generalize bs (cleanS text 31) = b31 at *
  generalize bs (cleanS text 20) = b20 at *
  generalize bs text = bt at *
  obtain ⟨W0, hW0⟩ : ∃ W0, W0 = (w.alloc (.cells #[.int .i64 kd, .int .i64 a, .int .i64 b, .string bt] 23)).alloc (.cells #[.string ⟨#[]⟩, .string ⟨#[]⟩, .string ⟨#[]⟩, .int .i64 0, .int .i64 0, .int .i64 0, .int .i64 0, .int .i64 0, .int .u8 0, .string ⟨#[]⟩, .string ⟨#[]⟩] 28) := ⟨_, rfl⟩
  obtain ⟨G, hG⟩ : ∃ G, G = w.heap.size := ⟨_, rfl⟩
  have hBA := (Blk.new w 23 #[.int .i64 kd, .int .i64 a, .int .i64 b, .string bt]).alloc (.cells #[.string ⟨#[]⟩, .string ⟨#[]⟩, .string ⟨#[]⟩, .int .i64 0, .int .i64 0, .int .i64 0, .int .i64 0, .int .i64 0, .int .u8 0, .string ⟨#[]⟩, .string ⟨#[]⟩] 28)
  have hBB := Blk.new (w.alloc (.cells #[.int .i64 kd, .int .i64 a, .int .i64 b, .string bt] 23)) 28 #[.string ⟨#[]⟩, .string ⟨#[]⟩, .string ⟨#[]⟩, .int .i64 0, .int .i64 0, .int .i64 0, .int .i64 0, .int .i64 0, .int .u8 0, .string ⟨#[]⟩, .string ⟨#[]⟩]
  rw [show (w.alloc (.cells #[.int .i64 kd, .int .i64 a, .int .i64 b, .string bt] 23)).heap.size = w.heap.size + 1 by simp] at hBB
  have hbw : Below w.heap.size w W0 := by rw [hW0]; exact ((Below.refl _ w).alloc (Nat.le_refl _) _).alloc (by simp) _
  rw [← hW0] at hBA hBB
  have hS0 : SHd G kd a b bt W0 W0 := by
    rw [hG]
    exact HdCore.flat ⟨hBA, ⟨_, rfl, hBB⟩, Below.refl _ _⟩
  have HS := Lib.hid (fun (_ : Unit) => hS0.below ((Below.refl _ _).drew))
  have HK : Hid (∀ w1 w2, SHd G kd a b bt W0 w1 → Below w1.heap.size w1 w2 → SHd G kd a b bt W0 w2) := Lib.hid (fun w1 w2 h1 h2 => h1.below h2)
  have HST : Hid (∀ w1 u0 u1 u2 u3 u4 u5 u6 u7 u8 u9 u10, SHd G kd a b bt W0 w1 → SHd G kd a b bt W0 (((((((((((w1.setCell ⟨G + 1, 0, none⟩ u0).setCell ⟨G + 1, 1, none⟩ u1).setCell ⟨G + 1, 2, none⟩ u2).setCell ⟨G + 1, 3, none⟩ u3).setCell ⟨G + 1, 4, none⟩ u4).setCell ⟨G + 1, 5, none⟩ u5).setCell ⟨G + 1, 6, none⟩ u6).setCell ⟨G + 1, 7, none⟩ u7).setCell ⟨G + 1, 8, none⟩ u8).setCell ⟨G + 1, 9, none⟩ u9).setCell ⟨G + 1, 10, none⟩ u10)) := Lib.hid (fun w1 u0 u1 u2 u3 u4 u5 u6 u7 u8 u9 u10 h => h.stored u0 u1 u2 u3 u4 u5 u6 u7 u8 u9 u10)
  have HMM : Hid (∀ w1, SHd G kd a b bt W0 w1 → ML w1) := Lib.hid (fun w1 h1 => hm.below (by
    have h := h1.core.2.2
    rw [hG] at h
    exact hbw.trans (h.mono (by omega))))
  have HBW := Lib.hid hbw
  have HG := Lib.hid hG
  clear hS0 hBA hBB hbw hm
  go_enter Tryd.func16, Tryd.ntmps16
  go_wp2_with fail
  rw [← hG, ← hW0]
  have HW0 := Lib.hid hW0
  clear hW0 hG
  have z110 : (ByteArray.mk #[110]).size = 1 := rfl
  have nk : ¬ 9223372036854775807 < 1 + b90.size := by omega
  have k0 : (0 : Int) ≤ (kk : Int) := by omega
  have k5 : (kk : Int) < 5 := by omega
  have k5' : (kk : Nat) < 5 := by omega
  go_region_held3 (fun w' => w'.cell? ⟨G, 0, none⟩ = some (.int .i64 kd) ∧ w'.cell? ⟨G, 1, none⟩ = some (.int .i64 a) ∧ w'.cell? ⟨G, 2, none⟩ = some (.int .i64 b) ∧ w'.cell? ⟨G, 3, none⟩ = some (.string bt) ∧ w'.cell? ⟨G + 1, 0, none⟩ = some (peek w' ⟨G + 1, 0, none⟩) ∧ w'.cell? ⟨G + 1, 1, none⟩ = some (peek w' ⟨G + 1, 1, none⟩) ∧ w'.cell? ⟨G + 1, 2, none⟩ = some (peek w' ⟨G + 1, 2, none⟩) ∧ w'.cell? ⟨G + 1, 3, none⟩ = some (peek w' ⟨G + 1, 3, none⟩) ∧ w'.cell? ⟨G + 1, 4, none⟩ = some (peek w' ⟨G + 1, 4, none⟩) ∧ w'.cell? ⟨G + 1, 5, none⟩ = some (peek w' ⟨G + 1, 5, none⟩) ∧ w'.cell? ⟨G + 1, 6, none⟩ = some (peek w' ⟨G + 1, 6, none⟩) ∧ w'.cell? ⟨G + 1, 7, none⟩ = some (peek w' ⟨G + 1, 7, none⟩) ∧ w'.cell? ⟨G + 1, 8, none⟩ = some (peek w' ⟨G + 1, 8, none⟩) ∧ w'.cell? ⟨G + 1, 9, none⟩ = some (peek w' ⟨G + 1, 9, none⟩) ∧ w'.cell? ⟨G + 1, 10, none⟩ = some (peek w' ⟨G + 1, 10, none⟩) ∧ w'.frozen? ⟨G + 1, 0, none⟩ = false ∧ w'.frozen? ⟨G + 1, 1, none⟩ = false ∧ w'.frozen? ⟨G + 1, 2, none⟩ = false ∧ w'.frozen? ⟨G + 1, 3, none⟩ = false ∧ w'.frozen? ⟨G + 1, 4, none⟩ = false ∧ w'.frozen? ⟨G + 1, 5, none⟩ = false ∧ w'.frozen? ⟨G + 1, 6, none⟩ = false ∧ w'.frozen? ⟨G + 1, 7, none⟩ = false ∧ w'.frozen? ⟨G + 1, 8, none⟩ = false ∧ w'.frozen? ⟨G + 1, 9, none⟩ = false ∧ w'.frozen? ⟨G + 1, 10, none⟩ = false ∧ HdCore G kd a b bt W0 w')
    (first | (with_reducible assumption) | (with_reducible exact HS.out ()) | (with_reducible exact HST.out _ _ _ _ _ _ _ _ _ _ _ _ (by with_reducible assumption)) | go_keep)
    (first
      | (go_at_call 17; (first | (with_reducible refine (Pmd.out _).mono ?_) | (with_reducible refine (Pud.out _).mono ?_) | (with_reducible refine (Psz.out _).mono ?_) | (with_reducible refine (Ptm.out _).mono ?_) | (with_reducible refine (Pkk.out _).mono ?_)); rintro e w' ⟨rfl, rfl⟩)
      | (go_at_call 51; (first | (with_reducible refine (C90.out _ (HMM.out _ (by assumption))).mono ?_) | (with_reducible refine (C150.out _ (HMM.out _ (by assumption))).mono ?_) | (with_reducible refine (C100.out _ (HMM.out _ (by assumption))).mono ?_) | (with_reducible refine (C31.out _ (HMM.out _ (by assumption))).mono ?_) | (with_reducible refine (C20.out _ (HMM.out _ (by assumption))).mono ?_)); rintro e w' ⟨rfl, hb1⟩; have hbn := HK.out _ _ (by assumption) hb1; clear hb1))

  all_goals
    have hcr := SHd.core hbn
    obtain ⟨_, hz, h3⟩ := hcr
    have hBz : Blk (((((((((((w'.setCell ⟨G + 1, 0, none⟩ (.string bn)).setCell ⟨G + 1, 1, none⟩ (.string b150)).setCell ⟨G + 1, 2, none⟩ (.string b100)).setCell ⟨G + 1, 3, none⟩ (.int .i64 md)).setCell ⟨G + 1, 4, none⟩ (.int .i64 ud)).setCell ⟨G + 1, 5, none⟩ (.int .i64 md)).setCell ⟨G + 1, 6, none⟩ (.int .i64 sz)).setCell ⟨G + 1, 7, none⟩ (.int .i64 tm)).setCell ⟨G + 1, 8, none⟩ (.int .u8 ty)).setCell ⟨G + 1, 9, none⟩ (.string b31)).setCell ⟨G + 1, 10, none⟩ (.string b20)) (G + 1) 28 #[(.string bn), (.string b150), (.string b100), (.int .i64 md), (.int .i64 ud), (.int .i64 md), (.int .i64 sz), (.int .i64 tm), (.int .u8 ty), (.string b31), (.string b20)] := hz.fill [(.string bn), (.string b150), (.string b100), (.int .i64 md), (.int .i64 ud), (.int .i64 md), (.int .i64 sz), (.int .i64 tm), (.int .u8 ty), (.string b31), (.string b20)] rfl
    have hb9 : Below w.heap.size w (((((((((((w'.setCell ⟨G + 1, 0, none⟩ (.string bn)).setCell ⟨G + 1, 1, none⟩ (.string b150)).setCell ⟨G + 1, 2, none⟩ (.string b100)).setCell ⟨G + 1, 3, none⟩ (.int .i64 md)).setCell ⟨G + 1, 4, none⟩ (.int .i64 ud)).setCell ⟨G + 1, 5, none⟩ (.int .i64 md)).setCell ⟨G + 1, 6, none⟩ (.int .i64 sz)).setCell ⟨G + 1, 7, none⟩ (.int .i64 tm)).setCell ⟨G + 1, 8, none⟩ (.int .u8 ty)).setCell ⟨G + 1, 9, none⟩ (.string b31)).setCell ⟨G + 1, 10, none⟩ (.string b20)) := HBW.out.trans (Below.setAll (g := G + 1) (by rw [HG.out]; omega) [(.string bn), (.string b150), (.string b100), (.int .i64 md), (.int .i64 ud), (.int .i64 md), (.int .i64 sz), (.int .i64 tm), (.int .u8 ty), (.string b31), (.string b20)] 0 (h3.mono (by rw [HG.out]; omega)))
    obtain ⟨wz, hwz⟩ : ∃ wz, wz = (((((((((((w'.setCell ⟨G + 1, 0, none⟩ (.string bn)).setCell ⟨G + 1, 1, none⟩ (.string b150)).setCell ⟨G + 1, 2, none⟩ (.string b100)).setCell ⟨G + 1, 3, none⟩ (.int .i64 md)).setCell ⟨G + 1, 4, none⟩ (.int .i64 ud)).setCell ⟨G + 1, 5, none⟩ (.int .i64 md)).setCell ⟨G + 1, 6, none⟩ (.int .i64 sz)).setCell ⟨G + 1, 7, none⟩ (.int .i64 tm)).setCell ⟨G + 1, 8, none⟩ (.int .u8 ty)).setCell ⟨G + 1, 9, none⟩ (.string b31)).setCell ⟨G + 1, 10, none⟩ (.string b20)) := ⟨_, rfl⟩
    rw [← hwz] at hBz hb9 ⊢
    have HB9 := Lib.hid hb9
    clear hb9 hwz hbn h3 hz
    have c0 := hBz.cell 0
    have c1 := hBz.cell 1
    have c2 := hBz.cell 2
    have c3 := hBz.cell 3
    have c4 := hBz.cell 4
    have c5 := hBz.cell 5
    have c6 := hBz.cell 6
    have c7 := hBz.cell 7
    have c8 := hBz.cell 8
    have c9 := hBz.cell 9
    have c10 := hBz.cell 10
    simp only [List.getElem?_toArray, List.getElem?_cons_zero, List.getElem?_cons_succ] at c0 c1 c2 c3 c4 c5 c6 c7 c8 c9 c10
    try go_wp2
    exact bodyPost_ret (v := .agg #[(.string bn), (.string b150), (.string b100), (.int .i64 md), (.int .i64 ud), (.int .i64 md), (.int .i64 sz), (.int .i64 tm), (.int .u8 ty), (.string b31), (.string b20)]) (by simp [results, Tryd.results16, go_sem, c0, c1, c2, c3, c4, c5, c6, c7, c8, c9, c10]) rfl ⟨rfl, HB9.out⟩
end Go.Proofs.YtnbggojmbdgkmaaDoor
