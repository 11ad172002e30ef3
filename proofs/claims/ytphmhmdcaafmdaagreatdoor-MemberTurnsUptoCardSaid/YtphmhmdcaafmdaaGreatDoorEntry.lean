/-
  creelkeep.Entry, once: the member of raw things. Condition: raw things of the second form's bound.
-/
import Derived.Test.YtphmhmdcaafmdaaGreatDoorEnts
import Derived.Test.YtphmhmdcaafmdaaGreatDoorTreeE
import Derived.Deep.RegionHeld3
import Derived.Deep.DeepCutAuto
import Derived.IntWalk
import Derived.Deep.RegionWith
import Derived.BigRegion
namespace Go.Proofs.YtphmhmdcaafmdaaGreatDoor
set_option linter.all false
open Go.RowKit
def entZ0 : Array Value := #[.string ⟨#[]⟩, .int .i64 0, .string ⟨#[]⟩, .int .i64 0, .int .i64 0, .int .i64 0, .string ⟨#[]⟩, .string ⟨#[]⟩, .int .i64 0, .int .i64 0, .slice none 0 0]
/-- in creelkeep.Entry: the raw thing's block, the result's, the member's -/
def EnSt (w0 : World) (r : RawS) (g : Nat) (ec : List Value) (W : World) : Prop :=
  Blk W w0.heap.size 55 #[.int .i64 r.kind, .int .i64 r.a, .int .i64 r.b, .string (bs r.text)] ∧ Blk W (w0.heap.size + 1) 58 entZ0 ∧ Blk W g 58 ec.toArray ∧ w0.heap.size + 2 ≤ g ∧ Below w0.heap.size w0 W
/-- ahead of the member's block -/
def EnS0 (w0 : World) (r : RawS) (W : World) : Prop :=
  Blk W w0.heap.size 55 #[.int .i64 r.kind, .int .i64 r.a, .int .i64 r.b, .string (bs r.text)] ∧ Blk W (w0.heap.size + 1) 58 entZ0 ∧ Below w0.heap.size w0 W
section
variable {w0 W W' : World} {r : RawS} {g : Nat} {ec : List Value}
theorem EnSt.below (h : EnSt w0 r g ec W) (hb : Below W.heap.size W W') : EnSt w0 r g ec W' :=
  ⟨h.1.below hb h.1.lt, h.2.1.below hb h.2.1.lt, h.2.2.1.below hb h.2.2.1.lt, h.2.2.2.1, h.2.2.2.2.trans (hb.mono h.2.2.2.2.size)⟩
theorem EnS0.below (h : EnS0 w0 r W) (hb : Below W.heap.size W W') : EnS0 w0 r W' :=
  ⟨h.1.below hb h.1.lt, h.2.1.below hb h.2.1.lt, h.2.2.trans (hb.mono h.2.2.size)⟩
theorem EnSt.set_ (h : EnSt w0 r g ec W) (i : Nat) (u : Value) : EnSt w0 r g (ec.set i u) (W.setCell ⟨g, i, none⟩ u) := by
  obtain ⟨h1, h2, h3, h4, h5⟩ := h
  refine ⟨h1.far (p := ⟨g, i, none⟩) (by show w0.heap.size ≠ g; omega) u, h2.far (p := ⟨g, i, none⟩) (by show w0.heap.size + 1 ≠ g; omega) u, ?_, h4, h5.setCell (p := ⟨g, i, none⟩) (by show w0.heap.size ≤ g; omega) u⟩
  have := h3.set_ i u
  rwa [List.setIfInBounds_toArray] at this
theorem EnS0.alloc (h : EnS0 w0 r W) (o : Obj) : EnS0 w0 r (W.alloc o) := h.below ((Below.refl _ _).alloc (Nat.le_refl _) o)
theorem EnS0.lt (h : EnS0 w0 r W) : w0.heap.size + 2 ≤ W.heap.size := h.2.1.lt
theorem EnSt.of_fill (h : EnS0 w0 r W) (hn : HasBlk W g 58 11) (hg : w0.heap.size + 2 ≤ g) (hl : ec.length = 11) : EnSt w0 r g ec (setAll W g 0 ec) := by
  refine ⟨Blk.far_setAll (by omega) ec 0 h.1, Blk.far_setAll (by omega) ec 0 h.2.1, hn.fill ec hl, hg, Below.setAll (by omega) ec 0 h.2.2⟩
theorem HasBlk.newE (W : World) : HasBlk (W.alloc (.cells entZ0 58)) W.heap.size 58 11 := ⟨_, rfl, Blk.new W _ _⟩
end
theorem wpAnyH_more {P : Program} {md : Region.Mode} {ops : Array Oper} {Q : Exit → Act → World → Prop} {S S2 : World → Prop} (h : ∀ w, S2 w → S w) : ∀ (fuel : Nat) (listed : Array Bool) (a : Act) (w : World), wpAnyH P md ops Q S2 fuel listed a w → wpAnyH P md ops Q S fuel listed a w
  | 0, _, _, _, H => H
  | fuel + 1, _, _, _, H => ⟨H.1, fun i hi => wpOp_mono (fun a' w' h' => ⟨h w' h'.1, wpAnyH_more h fuel _ a' w' h'.2⟩) (H.2 i hi)⟩
theorem cell_setAll_ {g : Nat} {q : Addr} (hq : q.block ≠ g) : ∀ (vs : List Value) (i : Nat) {W : World}, (setAll W g i vs).cell? q = W.cell? q
  | [], _, _ => rfl
  | v :: vs, i, W => (cell_setAll_ hq vs (i + 1)).trans (World.cell?_setCell_other W ⟨g, i, none⟩ q v (fun e => hq (by rw [← e])))
theorem wrapI_eq {a : Int} {k : Nat} (h : I64 a) (h1 : (0 : Int) ≤ k) (h2 : k < 5) : IntKind.i64.wrap (a + (k : Int)) = wrapI (a + k) := by
  obtain ⟨o1, o2⟩ := h
  unfold wrapI
  split
  · rw [IntKind.wrap_i64]; omega
  · exact IntWalk.i64_in _ ⟨by omega, by omega⟩
theorem wrapI_I64 {a : Int} {k : Nat} (h : I64 a) (h1 : (0 : Int) ≤ k) (h2 : k < 5) : I64 (wrapI (a + k)) := by
  obtain ⟨o1, o2⟩ := h
  unfold wrapI
  split
  · exact ⟨by omega, by omega⟩
  · exact ⟨by omega, by omega⟩
theorem ent_last (a : Int) : ∀ k, ∃ q n, entPath a k = q ++ n ∧ n ∈ namesL
  | 0 => ⟨[], nmA a, rfl, nmA_mem a⟩
  | k + 1 => ⟨entPath a k ++ [47], nmA (wrapI (a + k)), by simp [entPath], nmA_mem _⟩
theorem trim_ent (a : Int) (k : Nat) : Lib.trimSuffix (entPath a k) [47] = entPath a k := by
  obtain ⟨q, n, e, hn⟩ := ent_last a k
  obtain ⟨n1, n2, _⟩ := namesL_ok _ hn
  unfold Lib.trimSuffix
  rw [if_neg]
  unfold Lib.hasSuffix
  rw [List.isSuffixOf_iff_suffix]
  rintro ⟨t, ht⟩
  rw [e] at ht
  have hd := List.dropLast_concat_getLast n1
  rw [← hd, ← List.append_assoc] at ht
  have h2 := (List.append_inj' ht rfl).2
  have h3 := List.getLast_mem n1
  rw [← (List.singleton_inj.1 h2)] at h3
  exact n2 h3
theorem repeatL_one (b : UInt8) : ∀ n, Lib.repeatL [b] n = List.replicate n b
  | 0 => rfl
  | n + 1 => by rw [List.replicate_succ, ← repeatL_one b n]; rfl
/-- in a held region: what is held is more from here on -/
theorem shut_more {P : Program} {md : Region.Mode} {ops : Array Oper} {Q : Exit → Act → World → Prop} {S : World → Prop} (S2 : World → Prop) {fuel : Nat} {l : Array Bool} {K' : Act → World → Prop}
    (hK : Shut (∀ a w, S w → (S w → wpAnyH P md ops Q S fuel l a w) → K' a w)) (h : ∀ w, S2 w → S w) : Shut (∀ a w, S2 w → (S2 w → wpAnyH P md ops Q S2 fuel l a w) → K' a w) :=
  fun a w h2 hw => hK.out a w (h w h2) (fun _ => wpAnyH_more h _ _ _ _ (hw h2))
set_option maxRecDepth 100000 in
set_option maxHeartbeats 8000000 in
theorem Entry_any (r : RawS) (h : RawOk r) (w : World) (hm : ML w) :
    Calls Tryz.prog 14 #[rawV r] w fun e w' => ∃ A c, e = .returned (.agg (entC (entP r) (.slice A (entP r).data.length c)).toArray) ∧ DataAt w' w.heap.size (.slice A (entP r).data.length c) (entP r).data ∧ Below w.heap.size w w' := by
  have HN := Lib.hid (fun w => names_any w)
  obtain ⟨ia, hia, bia⟩ := pick_nat r.a 11 (by omega)
  have hia : pick r.a 11 = (ia : Int) := hia
  have Pia := Lib.hid (fun w => picked_any r.a 11 h.a (by omega) (by omega) w)
  rw [hia] at Pia
  obtain ⟨ik, hik, bik⟩ := pick_nat r.kind 4 (by omega)
  have hik : pick r.kind 4 = (ik : Int) := hik
  have Pik := Lib.hid (fun w => picked_any r.kind 4 h.kind (by omega) (by omega) w)
  rw [hik] at Pik
  obtain ⟨mm, hmm⟩ : ∃ mm, mm = metaOf r := ⟨_, rfl⟩
  obtain ⟨m1, m2, m3, m4, m5, m6, m7⟩ := mm
  have HMM := Lib.hid hmm
  have HMt : Hid (∀ W, ML W → Calls Tryz.prog 26 #[.agg #[.int .i64 r.kind, .int .i64 r.a, .int .i64 r.b, .string (bs r.text)]] W fun e w' => e = .returned (.agg #[.int .i64 m1, .int .i64 m2, .int .i64 m3, .string (bs m4), .string (bs m5), .int .i64 m6, .int .i64 m7]) ∧ Below W.heap.size W w') := Lib.hid (fun W hm => by
    have hh := Meta_any r h W hm
    rw [← hmm] at hh
    exact hh)
  have HNC : Hid (∀ wx b v, StrsOwn wx b v namesL → ∃ gN cN, v = .slice (some ⟨gN, 0, none⟩) 11 cN ∧ b ≤ gN ∧ 11 ≤ cN ∧ cN ≤ maxLen ∧ gN < wx.heap.size ∧ ∀ i, i < 11 → wx.cell? ⟨gN, i, none⟩ = some (.string (bs (namesL.getD i [])))) := Lib.hid (by
    rintro wx b v ⟨gN, cN, rfl, h1, h2, h3, h4, h5⟩
    refine ⟨gN, cN, rfl, h1, h3, h4, h2, fun i hi => h5 i _ ?_⟩
    rw [List.getElem?_map, List.getD_eq_getElem?_getD, List.getElem?_eq_getElem (by rw [namesL_length]; exact hi)]
    rfl)
  have hw1 : IntKind.i64.wrap (1 + (ik : Int)) = 1 + ik := IntWalk.i64_in _ ⟨by omega, by omega⟩
  obtain ⟨nb, hnb, bnb⟩ := pick_nat r.b 5 (by omega)
  have hnb : pick r.b 5 = (nb : Int) := hnb
  have P5 := Lib.hid (fun w => picked_any r.b 5 h.b (by omega) (by omega) w)
  rw [hnb] at P5
  have HNB := Lib.hid hnb
  have HIA := Lib.hid hia
  have HIK := Lib.hid hik
  have HOK := Lib.hid h
  have HML : Hid (∀ W, Below w.heap.size w W → ML W) := Lib.hid (fun W hb => hm.below hb)
  obtain ⟨W0, hW0⟩ : ∃ W0, W0 = (w.alloc (.cells #[.int .i64 r.kind, .int .i64 r.a, .int .i64 r.b, .string (bs r.text)] 55)).alloc (.cells entZ0 58) := ⟨_, rfl⟩
  have hS0 : EnS0 w r W0 := by
    have hB := Blk.new (w.alloc (.cells #[.int .i64 r.kind, .int .i64 r.a, .int .i64 r.b, .string (bs r.text)] 55)) 58 entZ0
    rw [show (w.alloc (.cells #[.int .i64 r.kind, .int .i64 r.a, .int .i64 r.b, .string (bs r.text)] 55)).heap.size = w.heap.size + 1 by simp] at hB
    rw [hW0]
    exact ⟨(Blk.new _ _ _).alloc _, hB, ((Below.refl _ _).alloc (Nat.le_refl _) _).alloc (by simp) _⟩
  have hsz0 : W0.heap.size = w.heap.size + 2 := by rw [hW0]; simp
  have HS0 := Lib.hid hS0
  have HZ0 := Lib.hid hsz0
  obtain ⟨E, hE⟩ : ∃ E, E = entP r := ⟨_, rfl⟩
  rw [← hE]
  have HEP := Lib.hid hE
  have q0 := hS0.1.cell 0
  have q1 := hS0.1.cell 1
  have q2 := hS0.1.cell 2
  have q3 := hS0.1.cell 3
  clear hS0 hsz0 hE hmm h hm hia hik hnb
  unfold rawV
  unfold entZ0 at hW0
  go_enter Tryz.func14, Tryz.ntmps14
  go_upto_region 1 with fail
  rw [← hW0]
  clear hW0
  have HK1 : Hid (∀ W W', (W.cell? ⟨w.heap.size, 0, none⟩ = some (.int .i64 r.kind) ∧ W.cell? ⟨w.heap.size, 1, none⟩ = some (.int .i64 r.a) ∧ W.cell? ⟨w.heap.size, 2, none⟩ = some (.int .i64 r.b) ∧ W.cell? ⟨w.heap.size, 3, none⟩ = some (.string (bs r.text)) ∧ Below W0.heap.size W0 W) → Below W.heap.size W W' → (W'.cell? ⟨w.heap.size, 0, none⟩ = some (.int .i64 r.kind) ∧ W'.cell? ⟨w.heap.size, 1, none⟩ = some (.int .i64 r.a) ∧ W'.cell? ⟨w.heap.size, 2, none⟩ = some (.int .i64 r.b) ∧ W'.cell? ⟨w.heap.size, 3, none⟩ = some (.string (bs r.text)) ∧ Below W0.heap.size W0 W')) := Lib.hid (fun W W' h hb => by
    obtain ⟨h0, h1, h2, h3, h5⟩ := h
    exact ⟨(hb.cell (World.block_lt_of_cell? _ _ h0)).trans h0, (hb.cell (World.block_lt_of_cell? _ _ h1)).trans h1, (hb.cell (World.block_lt_of_cell? _ _ h2)).trans h2, (hb.cell (World.block_lt_of_cell? _ _ h3)).trans h3, h5.trans (hb.mono h5.size)⟩)
  obtain ⟨bn, hbn⟩ : ∃ bn, bn = bs (namesL.getD ia []) := ⟨_, rfl⟩
  have HBN := Lib.hid hbn
  have HK2 : Hid (∀ g W W', (W.cell? ⟨w.heap.size, 0, none⟩ = some (.int .i64 r.kind) ∧ W.cell? ⟨w.heap.size, 1, none⟩ = some (.int .i64 r.a) ∧ W.cell? ⟨w.heap.size, 2, none⟩ = some (.int .i64 r.b) ∧ W.cell? ⟨w.heap.size, 3, none⟩ = some (.string (bs r.text)) ∧ Below W0.heap.size W0 W ∧ W.cell? ⟨g, ia, none⟩ = some (.string bn)) → Below W.heap.size W W' → (W'.cell? ⟨w.heap.size, 0, none⟩ = some (.int .i64 r.kind) ∧ W'.cell? ⟨w.heap.size, 1, none⟩ = some (.int .i64 r.a) ∧ W'.cell? ⟨w.heap.size, 2, none⟩ = some (.int .i64 r.b) ∧ W'.cell? ⟨w.heap.size, 3, none⟩ = some (.string (bs r.text)) ∧ Below W0.heap.size W0 W' ∧ W'.cell? ⟨g, ia, none⟩ = some (.string bn))) := Lib.hid (fun g W W' h hb => by
    obtain ⟨h0, h1, h2, h3, h5, h6⟩ := h
    exact ⟨(hb.cell (World.block_lt_of_cell? _ _ h0)).trans h0, (hb.cell (World.block_lt_of_cell? _ _ h1)).trans h1, (hb.cell (World.block_lt_of_cell? _ _ h2)).trans h2, (hb.cell (World.block_lt_of_cell? _ _ h3)).trans h3, h5.trans (hb.mono h5.size), (hb.cell (World.block_lt_of_cell? _ _ h6)).trans h6⟩)
  have HA1 : Hid (∀ W o, (W.cell? ⟨w.heap.size, 0, none⟩ = some (.int .i64 r.kind) ∧ W.cell? ⟨w.heap.size, 1, none⟩ = some (.int .i64 r.a) ∧ W.cell? ⟨w.heap.size, 2, none⟩ = some (.int .i64 r.b) ∧ W.cell? ⟨w.heap.size, 3, none⟩ = some (.string (bs r.text)) ∧ Below W0.heap.size W0 W) → ((W.alloc o).cell? ⟨w.heap.size, 0, none⟩ = some (.int .i64 r.kind) ∧ (W.alloc o).cell? ⟨w.heap.size, 1, none⟩ = some (.int .i64 r.a) ∧ (W.alloc o).cell? ⟨w.heap.size, 2, none⟩ = some (.int .i64 r.b) ∧ (W.alloc o).cell? ⟨w.heap.size, 3, none⟩ = some (.string (bs r.text)) ∧ Below W0.heap.size W0 (W.alloc o))) := Lib.hid (fun W o h => HK1.out _ _ h ((Below.refl _ _).alloc (Nat.le_refl _) o))
  have HA2 : Hid (∀ g W o, (W.cell? ⟨w.heap.size, 0, none⟩ = some (.int .i64 r.kind) ∧ W.cell? ⟨w.heap.size, 1, none⟩ = some (.int .i64 r.a) ∧ W.cell? ⟨w.heap.size, 2, none⟩ = some (.int .i64 r.b) ∧ W.cell? ⟨w.heap.size, 3, none⟩ = some (.string (bs r.text)) ∧ Below W0.heap.size W0 W ∧ W.cell? ⟨g, ia, none⟩ = some (.string bn)) → ((W.alloc o).cell? ⟨w.heap.size, 0, none⟩ = some (.int .i64 r.kind) ∧ (W.alloc o).cell? ⟨w.heap.size, 1, none⟩ = some (.int .i64 r.a) ∧ (W.alloc o).cell? ⟨w.heap.size, 2, none⟩ = some (.int .i64 r.b) ∧ (W.alloc o).cell? ⟨w.heap.size, 3, none⟩ = some (.string (bs r.text)) ∧ Below W0.heap.size W0 (W.alloc o) ∧ (W.alloc o).cell? ⟨g, ia, none⟩ = some (.string bn))) := Lib.hid (fun g W o h => HK2.out _ _ _ h ((Below.refl _ _).alloc (Nat.le_refl _) o))
  have HCS : Hid (∀ (W : World) (gn : Nat) (ec : List Value) (q : Addr), q.block ≠ gn → (setAll W gn 0 ec).cell? q = W.cell? q) := Lib.hid (fun W gn ec q hq => cell_setAll_ hq ec 0)
  have HF2 : Hid (∀ g W gn (ec : List Value), (W.cell? ⟨w.heap.size, 0, none⟩ = some (.int .i64 r.kind) ∧ W.cell? ⟨w.heap.size, 1, none⟩ = some (.int .i64 r.a) ∧ W.cell? ⟨w.heap.size, 2, none⟩ = some (.int .i64 r.b) ∧ W.cell? ⟨w.heap.size, 3, none⟩ = some (.string (bs r.text)) ∧ Below W0.heap.size W0 W ∧ W.cell? ⟨g, ia, none⟩ = some (.string bn)) → w.heap.size + 2 ≤ gn → g ≠ gn → ((setAll W gn 0 ec).cell? ⟨w.heap.size, 0, none⟩ = some (.int .i64 r.kind) ∧ (setAll W gn 0 ec).cell? ⟨w.heap.size, 1, none⟩ = some (.int .i64 r.a) ∧ (setAll W gn 0 ec).cell? ⟨w.heap.size, 2, none⟩ = some (.int .i64 r.b) ∧ (setAll W gn 0 ec).cell? ⟨w.heap.size, 3, none⟩ = some (.string (bs r.text)) ∧ Below W0.heap.size W0 (setAll W gn 0 ec) ∧ (setAll W gn 0 ec).cell? ⟨g, ia, none⟩ = some (.string bn))) := Lib.hid (fun g W gn ec h hgn hne => by
    obtain ⟨h0, h1, h2, h3, h5, h6⟩ := h
    have hz := HZ0.out
    exact ⟨(HCS.out _ _ ec _ (by show w.heap.size ≠ gn; omega)).trans h0, (HCS.out _ _ ec _ (by show w.heap.size ≠ gn; omega)).trans h1, (HCS.out _ _ ec _ (by show w.heap.size ≠ gn; omega)).trans h2, (HCS.out _ _ ec _ (by show w.heap.size ≠ gn; omega)).trans h3, Below.setAll (by omega) ec 0 h5, (HCS.out _ _ ec _ hne).trans h6⟩)
  have HQ0 : Hid (W0.drew.cell? ⟨w.heap.size, 0, none⟩ = some (.int .i64 r.kind) ∧ W0.drew.cell? ⟨w.heap.size, 1, none⟩ = some (.int .i64 r.a) ∧ W0.drew.cell? ⟨w.heap.size, 2, none⟩ = some (.int .i64 r.b) ∧ W0.drew.cell? ⟨w.heap.size, 3, none⟩ = some (.string (bs r.text)) ∧ Below W0.heap.size W0 W0.drew) := Lib.hid ⟨q0, q1, q2, q3, (Below.refl _ _).drew⟩
  have HMx : Hid (∀ g W, (W.cell? ⟨w.heap.size, 0, none⟩ = some (.int .i64 r.kind) ∧ W.cell? ⟨w.heap.size, 1, none⟩ = some (.int .i64 r.a) ∧ W.cell? ⟨w.heap.size, 2, none⟩ = some (.int .i64 r.b) ∧ W.cell? ⟨w.heap.size, 3, none⟩ = some (.string (bs r.text)) ∧ Below W0.heap.size W0 W ∧ W.cell? ⟨g, ia, none⟩ = some (.string bn)) → ML W) := Lib.hid (fun g W h => HML.out _ (HS0.out.2.2.trans (h.2.2.2.2.1.mono HS0.out.2.2.size)))
  have HSz : Hid (∀ W, (W.cell? ⟨w.heap.size, 0, none⟩ = some (.int .i64 r.kind) ∧ W.cell? ⟨w.heap.size, 1, none⟩ = some (.int .i64 r.a) ∧ W.cell? ⟨w.heap.size, 2, none⟩ = some (.int .i64 r.b) ∧ W.cell? ⟨w.heap.size, 3, none⟩ = some (.string (bs r.text)) ∧ Below W0.heap.size W0 W) → w.heap.size + 2 ≤ W.heap.size) := Lib.hid (fun W h => by have := h.2.2.2.2.size; have := HZ0.out; omega)
  have HSE : Hid (∀ g W gn (ec : List Value), (W.cell? ⟨w.heap.size, 0, none⟩ = some (.int .i64 r.kind) ∧ W.cell? ⟨w.heap.size, 1, none⟩ = some (.int .i64 r.a) ∧ W.cell? ⟨w.heap.size, 2, none⟩ = some (.int .i64 r.b) ∧ W.cell? ⟨w.heap.size, 3, none⟩ = some (.string (bs r.text)) ∧ Below W0.heap.size W0 W ∧ W.cell? ⟨g, ia, none⟩ = some (.string bn)) → HasBlk W gn 58 11 → w.heap.size + 2 ≤ gn → ec.length = 11 → EnSt w r gn ec (setAll W gn 0 ec)) := Lib.hid (fun g W gn ec h hn hg hl => EnSt.of_fill (HS0.out.below h.2.2.2.2.1) hn hg hl)
  have HNE : Hid (∀ V : World, HasBlk (V.alloc (.cells #[.string ⟨#[]⟩, .int .i64 0, .string ⟨#[]⟩, .int .i64 0, .int .i64 0, .int .i64 0, .string ⟨#[]⟩, .string ⟨#[]⟩, .int .i64 0, .int .i64 0, .slice none 0 0] 58)) V.heap.size 58 11) := Lib.hid (fun V => HasBlk.newE V)
  have HAS : Hid (∀ (V : World) (o : Obj), (V.alloc o).heap.size = V.heap.size + 1) := Lib.hid (fun V o => by simp)
  clear hbn q0 q1 q2 q3
  have i1 : (ia : Int) < 11 := by omega
  have i2 : (0 : Int) ≤ ia := by omega
  go_cut [3] from 5 to 19 (fun s3 wx => ∃ g, s3 = .pointer (some ⟨g, 0, none⟩) ∧ Hid (EnSt w r g [.string bn, .int .i64 (1 + ik), .string ⟨#[]⟩, .int .i64 m1, .int .i64 m2, .int .i64 m3, .string (bs m4), .string (bs m5), .int .i64 m6, .int .i64 m7, .slice none 0 0] wx))
  case first =>
    refine wp_region_held_drew (S := fun W => W.cell? ⟨w.heap.size, 0, none⟩ = some (.int .i64 r.kind) ∧ W.cell? ⟨w.heap.size, 1, none⟩ = some (.int .i64 r.a) ∧ W.cell? ⟨w.heap.size, 2, none⟩ = some (.int .i64 r.b) ∧ W.cell? ⟨w.heap.size, 3, none⟩ = some (.string (bs r.text)) ∧ Below W0.heap.size W0 W) (by kernel_rfl) HQ0.out (fun hHeld => ?_)
    generalize W0.drew = Wd at hHeld ⊢
    refine wpAnyH_take (i := 1) (v := ?v1) rfl (by kernel_rfl) (by kernel_rfl) (by kernel_rfl) (fun _ _ _ h => h) (Or.inl ⟨by rfl, ?hy1⟩) hHeld ?rest1
    case hy1 => (intro w hSw; (try dsimp only at hSw); go_simp; try with_reducible rfl)
    simp only [Act.put, List.setIfInBounds_toArray, List.set_cons_zero, List.set_cons_succ, List.getElem_toArray, List.getElem_cons_zero, List.getElem_cons_succ]
    refine wpAnyH_take (i := 2) (v := ?v2) rfl (by kernel_rfl) (by kernel_rfl) (by kernel_rfl) (fun _ _ _ h => h) (Or.inl ⟨by rfl, ?hy2⟩) hHeld ?rest2
    case hy2 => (intro w hSw; (try dsimp only at hSw); go_simp; try with_reducible rfl)
    simp only [Act.put, List.setIfInBounds_toArray, List.set_cons_zero, List.set_cons_succ, List.getElem_toArray, List.getElem_cons_zero, List.getElem_cons_succ]
    refine wpAnyH_take (i := 8) (v := ?v3) rfl (by kernel_rfl) (by kernel_rfl) (by kernel_rfl) (fun _ _ _ h => h) (Or.inl ⟨by rfl, ?hy3⟩) hHeld ?rest3
    case hy3 => (intro w hSw; (try dsimp only at hSw); go_simp; try with_reducible rfl)
    simp only [Act.put, List.setIfInBounds_toArray, List.set_cons_zero, List.set_cons_succ, List.getElem_toArray, List.getElem_cons_zero, List.getElem_cons_succ]
    refine wpAnyH_take (i := 9) (v := ?v4) rfl (by kernel_rfl) (by kernel_rfl) (by kernel_rfl) (fun _ _ _ h => h) (Or.inl ⟨by rfl, ?hy4⟩) hHeld ?rest4
    case hy4 => (intro w hSw; (try dsimp only at hSw); go_simp; try with_reducible rfl)
    simp only [Act.put, List.setIfInBounds_toArray, List.set_cons_zero, List.set_cons_succ, List.getElem_toArray, List.getElem_cons_zero, List.getElem_cons_succ]
    refine wpAnyH_take (i := 12) (v := ?v5) rfl (by kernel_rfl) (by kernel_rfl) (by kernel_rfl) (fun _ _ _ h => h) (Or.inl ⟨by rfl, ?hy5⟩) hHeld ?rest5
    case hy5 => (intro w hSw; (try dsimp only at hSw); go_simp; try with_reducible rfl)
    simp only [Act.put, List.setIfInBounds_toArray, List.set_cons_zero, List.set_cons_succ, List.getElem_toArray, List.getElem_cons_zero, List.getElem_cons_succ]
    refine wpAnyH_ready (rs := [0, 15]) (by kernel_rfl) (by simp) (AllReadyH.cons rfl (fun K hK => ?_) (AllReadyH.cons rfl (fun K hK => ?_) AllReadyH.nil))
    · skip
      go_simp
      go_at_call 25
      refine (HN.out _).mono ?_
      rintro e w' ⟨v, rfl, hv, hb⟩
      have hst := HK1.out _ _ hHeld hb
      obtain ⟨gN, cN, rfl, n0, n1, n2, n3, n4'⟩ := HNC.out _ _ _ hv
      have n4 := n4' ia bia
      rw [← HBN.out] at n4
      have hst1 := And.intro hst.1 (And.intro hst.2.1 (And.intro hst.2.2.1 (And.intro hst.2.2.2.1 (And.intro hst.2.2.2.2 n4))))
      have hz := HSz.out _ hst
      clear hv hb n4' n4 hst
      go_wp2_with fail
      refine (shut_more (fun W => W.cell? ⟨w.heap.size, 0, none⟩ = some (.int .i64 r.kind) ∧ W.cell? ⟨w.heap.size, 1, none⟩ = some (.int .i64 r.a) ∧ W.cell? ⟨w.heap.size, 2, none⟩ = some (.int .i64 r.b) ∧ W.cell? ⟨w.heap.size, 3, none⟩ = some (.string (bs r.text)) ∧ Below W0.heap.size W0 W ∧ W.cell? ⟨gN, ia, none⟩ = some (.string bn)) hK (fun W h => ⟨h.1, h.2.1, h.2.2.1, h.2.2.2.1, h.2.2.2.2.1⟩)).out _ _ hst1 (fun hHeld => ?_)
      clear hst1
      clear hK K
      try simp only [Act.put, List.setIfInBounds_toArray, List.set_cons_zero, List.set_cons_succ, List.getElem_toArray, List.getElem_cons_zero, List.getElem_cons_succ]
      refine wpAnyH_ready (rs := [3, 15]) (by kernel_rfl) (by simp) (AllReadyH.cons rfl (fun K hK => ?_) (AllReadyH.cons rfl (fun K hK => ?_) AllReadyH.nil))
      · skip
        go_simp
        go_at_call 25
        refine (HN.out _).mono ?_
        rintro e w' ⟨v, rfl, hv, hb⟩
        obtain ⟨gM, cM, rfl, k0, k1, k2, k3, k4⟩ := HNC.out _ _ _ hv
        have hst := HK2.out _ _ _ hHeld hb
        have n3 := Nat.lt_of_lt_of_le n3 hb.size
        clear hv hb k4
        go_wp2_with fail
        refine hK.out _ _ hst (fun hHeld => ?_)
        clear hst
        clear hK K
        try simp only [Act.put, List.setIfInBounds_toArray, List.set_cons_zero, List.set_cons_succ, List.getElem_toArray, List.getElem_cons_zero, List.getElem_cons_succ]
        refine wpAnyH_take (i := 4) (v := ?v6) rfl (by kernel_rfl) (by kernel_rfl) (by kernel_rfl) (fun _ _ _ h => h) (Or.inl ⟨by rfl, ?hy6⟩) hHeld ?rest6
        case hy6 => (intro w hSw; (try dsimp only at hSw); go_simp; try with_reducible rfl)
        simp only [Act.put, List.setIfInBounds_toArray, List.set_cons_zero, List.set_cons_succ, List.getElem_toArray, List.getElem_cons_zero, List.getElem_cons_succ]
        refine wpAnyH_ready (rs := [5, 15]) (by kernel_rfl) (by simp) (AllReadyH.cons rfl (fun K hK => ?_) (AllReadyH.cons rfl (fun K hK => ?_) AllReadyH.nil))
        · skip
          go_simp
          go_at_call 24
          refine (Pia.out _).mono ?_
          rintro e w' ⟨rfl, rfl⟩
          go_wp2_with fail
          refine hK.out _ _ hHeld (fun _ => ?_)
          clear hK K
          try simp only [Act.put, List.setIfInBounds_toArray, List.set_cons_zero, List.set_cons_succ, List.getElem_toArray, List.getElem_cons_zero, List.getElem_cons_succ]
          refine wpAnyH_take (i := 6) (v := ?v7) rfl (by kernel_rfl) (by kernel_rfl) (by kernel_rfl) (fun _ _ _ h => h) (Or.inl ⟨by rfl, ?hy7⟩) hHeld ?rest7
          case hy7 => (intro w hSw; (try dsimp only at hSw); go_simp; try with_reducible rfl)
          simp only [Act.put, List.setIfInBounds_toArray, List.set_cons_zero, List.set_cons_succ, List.getElem_toArray, List.getElem_cons_zero, List.getElem_cons_succ]
          refine wpAnyH_take (i := 7) (v := ?v8) rfl (by kernel_rfl) (by kernel_rfl) (by kernel_rfl) (fun _ _ _ h => h) (Or.inl ⟨by rfl, ?hy8⟩) hHeld ?rest8
          case hy8 => (intro w hSw; (try dsimp only at hSw); go_simp; try with_reducible rfl)
          simp only [Act.put, List.setIfInBounds_toArray, List.set_cons_zero, List.set_cons_succ, List.getElem_toArray, List.getElem_cons_zero, List.getElem_cons_succ]
          refine wpAnyH_ready (rs := [10, 15]) (by kernel_rfl) (by simp) (AllReadyH.cons rfl (fun K hK => ?_) (AllReadyH.cons rfl (fun K hK => ?_) AllReadyH.nil))
          · skip
            go_simp
            go_at_call 24
            refine (Pik.out _).mono ?_
            rintro e w' ⟨rfl, rfl⟩
            go_wp2_with fail
            refine hK.out _ _ hHeld (fun _ => ?_)
            clear hK K
            try simp only [Act.put, List.setIfInBounds_toArray, List.set_cons_zero, List.set_cons_succ, List.getElem_toArray, List.getElem_cons_zero, List.getElem_cons_succ]
            refine wpAnyH_take (i := 11) (v := ?v9) rfl (by kernel_rfl) (by kernel_rfl) (by kernel_rfl) (fun _ _ _ h => h) (Or.inl ⟨by rfl, ?hy9⟩) hHeld ?rest9
            case hy9 => (intro w hSw; (try dsimp only at hSw); go_simp; try with_reducible rfl)
            simp only [Act.put, List.setIfInBounds_toArray, List.set_cons_zero, List.set_cons_succ, List.getElem_toArray, List.getElem_cons_zero, List.getElem_cons_succ]
            refine wpAnyH_ready (rs := [13, 15]) (by kernel_rfl) (by simp) (AllReadyH.cons rfl (fun K hK => ?_) (AllReadyH.cons rfl (fun K hK => ?_) AllReadyH.nil))
            · skip
              go_simp
              go_at_call 26
              refine (HMt.out _ (HMx.out _ _ hHeld)).mono ?_
              rintro e w' ⟨rfl, hb⟩
              have hst := HK2.out _ _ _ hHeld hb
              have n3 := Nat.lt_of_lt_of_le n3 hb.size
              clear hb
              go_wp2_with fail
              refine hK.out _ _ hst (fun hHeld => ?_)
              clear hst
              clear hK K
              try simp only [Act.put, List.setIfInBounds_toArray, List.set_cons_zero, List.set_cons_succ, List.getElem_toArray, List.getElem_cons_zero, List.getElem_cons_succ]
              refine wpAnyH_take (i := 14) (v := ?v10) rfl (by kernel_rfl) (by kernel_rfl) (by kernel_rfl) (fun _ _ _ h => h) (Or.inl ⟨by rfl, ?hy10⟩) hHeld ?rest10
              case hy10 => (intro w hSw; (try dsimp only at hSw); go_simp; try with_reducible rfl)
              simp only [Act.put, List.setIfInBounds_toArray, List.set_cons_zero, List.set_cons_succ, List.getElem_toArray, List.getElem_cons_zero, List.getElem_cons_succ]
              refine wpAnyH_ready (rs := [15]) (by kernel_rfl) (by simp) (AllReadyH.cons rfl (fun K hK => ?_) AllReadyH.nil)
              go_simp
              try go_wp2_with fail
              refine hK.out _ _ (HA2.out _ _ _ hHeld) (fun hHeld2 => ?_)
              clear hK K
              obtain ⟨gn, hgn⟩ : ∃ gn, gn = w'.heap.size := ⟨_, rfl⟩
              have hnew := HNE.out w'
              have hgl : w.heap.size + 2 ≤ gn := by have := HSz.out _ ⟨hHeld.1, hHeld.2.1, hHeld.2.2.1, hHeld.2.2.2.1, hHeld.2.2.2.2.1⟩; omega
              have hne : gN ≠ gn := by rw [hgn]; omega
              obtain ⟨V1, hV1⟩ : ∃ V1, V1 = w'.alloc (.cells #[.string ⟨#[]⟩, .int .i64 0, .string ⟨#[]⟩, .int .i64 0, .int .i64 0, .int .i64 0, .string ⟨#[]⟩, .string ⟨#[]⟩, .int .i64 0, .int .i64 0, .slice none 0 0] 58) := ⟨_, rfl⟩
              rw [← hgn] at hnew ⊢
              rw [← hV1] at hnew hHeld2 ⊢
              have hgs := hnew.lt
              clear hV1 hgn hHeld n3
              have hHeld := hHeld2
              clear hHeld2
              try simp only [Act.put, List.setIfInBounds_toArray, List.set_cons_zero, List.set_cons_succ, List.getElem_toArray, List.getElem_cons_zero, List.getElem_cons_succ]
              refine wpAnyH_ready (rs := [16]) (by kernel_rfl) (by simp) (AllReadyH.cons rfl (fun K hK => ?_) AllReadyH.nil)
              have n20 := hnew.peek_ (i := 0) (by omega); have f20 := hnew.frozen 0; have n21 := hnew.peek_ (i := 1) (by omega); have f21 := hnew.frozen 1; have n22 := hnew.peek_ (i := 2) (by omega); have f22 := hnew.frozen 2; have n23 := hnew.peek_ (i := 3) (by omega); have f23 := hnew.frozen 3; have n24 := hnew.peek_ (i := 4) (by omega); have f24 := hnew.frozen 4; have n25 := hnew.peek_ (i := 5) (by omega); have f25 := hnew.frozen 5; have n26 := hnew.peek_ (i := 6) (by omega); have f26 := hnew.frozen 6; have n27 := hnew.peek_ (i := 7) (by omega); have f27 := hnew.frozen 7; have n28 := hnew.peek_ (i := 8) (by omega); have f28 := hnew.frozen 8; have n29 := hnew.peek_ (i := 9) (by omega); have f29 := hnew.frozen 9; have n30 := hnew.peek_ (i := 10) (by omega); have f30 := hnew.frozen 10
              go_simp
              refine hK.out _ _ (HF2.out _ _ gn [.string bn, .int .i64 (1 + ik), .string ⟨#[]⟩, .int .i64 m1, .int .i64 m2, .int .i64 m3, .string (bs m4), .string (bs m5), .int .i64 m6, .int .i64 m7, .slice none 0 0] hHeld hgl hne) (fun _ => ?_)
              clear hK K
              try simp only [Act.put, List.setIfInBounds_toArray, List.set_cons_zero, List.set_cons_succ, List.getElem_toArray, List.getElem_cons_zero, List.getElem_cons_succ]
              refine wpAnyH_done (by kernel_rfl) ?_ _
              go_wp2_with fail
              go_meet
              case rel => exact ⟨gn, rfl, Lib.hid (HSE.out _ _ _ _ hHeld hnew hgl rfl)⟩
            · skip
              go_simp
              try go_wp2_with fail
              refine hK.out _ _ (HA2.out _ _ _ hHeld) (fun hHeld2 => ?_)
              clear hK K
              obtain ⟨gn, hgn⟩ : ∃ gn, gn = w'.heap.size := ⟨_, rfl⟩
              have hnew := HNE.out w'
              have hgl : w.heap.size + 2 ≤ gn := by have := HSz.out _ ⟨hHeld.1, hHeld.2.1, hHeld.2.2.1, hHeld.2.2.2.1, hHeld.2.2.2.2.1⟩; omega
              have hne : gN ≠ gn := by rw [hgn]; omega
              obtain ⟨V1, hV1⟩ : ∃ V1, V1 = w'.alloc (.cells #[.string ⟨#[]⟩, .int .i64 0, .string ⟨#[]⟩, .int .i64 0, .int .i64 0, .int .i64 0, .string ⟨#[]⟩, .string ⟨#[]⟩, .int .i64 0, .int .i64 0, .slice none 0 0] 58) := ⟨_, rfl⟩
              rw [← hgn] at hnew ⊢
              rw [← hV1] at hnew hHeld2 ⊢
              have hgs := hnew.lt
              clear hV1 hgn hHeld n3
              have hHeld := hHeld2
              clear hHeld2
              try simp only [Act.put, List.setIfInBounds_toArray, List.set_cons_zero, List.set_cons_succ, List.getElem_toArray, List.getElem_cons_zero, List.getElem_cons_succ]
              refine wpAnyH_ready (rs := [13]) (by kernel_rfl) (by simp) (AllReadyH.cons rfl (fun K hK => ?_) AllReadyH.nil)
              go_simp
              go_at_call 26
              refine (HMt.out _ (HMx.out _ _ hHeld)).mono ?_
              rintro e w' ⟨rfl, hb⟩
              have hst := HK2.out _ _ _ hHeld hb
              have hnew := hnew.below hb
              clear hb
              go_wp2_with fail
              refine hK.out _ _ hst (fun hHeld => ?_)
              clear hst
              clear hK K
              try simp only [Act.put, List.setIfInBounds_toArray, List.set_cons_zero, List.set_cons_succ, List.getElem_toArray, List.getElem_cons_zero, List.getElem_cons_succ]
              refine wpAnyH_take (i := 14) (v := ?v11) rfl (by kernel_rfl) (by kernel_rfl) (by kernel_rfl) (fun _ _ _ h => h) (Or.inl ⟨by rfl, ?hy11⟩) hHeld ?rest11
              case hy11 => (intro w hSw; (try dsimp only at hSw); go_simp; try with_reducible rfl)
              simp only [Act.put, List.setIfInBounds_toArray, List.set_cons_zero, List.set_cons_succ, List.getElem_toArray, List.getElem_cons_zero, List.getElem_cons_succ]
              refine wpAnyH_ready (rs := [16]) (by kernel_rfl) (by simp) (AllReadyH.cons rfl (fun K hK => ?_) AllReadyH.nil)
              have n20 := hnew.peek_ (i := 0) (by omega); have f20 := hnew.frozen 0; have n21 := hnew.peek_ (i := 1) (by omega); have f21 := hnew.frozen 1; have n22 := hnew.peek_ (i := 2) (by omega); have f22 := hnew.frozen 2; have n23 := hnew.peek_ (i := 3) (by omega); have f23 := hnew.frozen 3; have n24 := hnew.peek_ (i := 4) (by omega); have f24 := hnew.frozen 4; have n25 := hnew.peek_ (i := 5) (by omega); have f25 := hnew.frozen 5; have n26 := hnew.peek_ (i := 6) (by omega); have f26 := hnew.frozen 6; have n27 := hnew.peek_ (i := 7) (by omega); have f27 := hnew.frozen 7; have n28 := hnew.peek_ (i := 8) (by omega); have f28 := hnew.frozen 8; have n29 := hnew.peek_ (i := 9) (by omega); have f29 := hnew.frozen 9; have n30 := hnew.peek_ (i := 10) (by omega); have f30 := hnew.frozen 10
              go_simp
              refine hK.out _ _ (HF2.out _ _ gn [.string bn, .int .i64 (1 + ik), .string ⟨#[]⟩, .int .i64 m1, .int .i64 m2, .int .i64 m3, .string (bs m4), .string (bs m5), .int .i64 m6, .int .i64 m7, .slice none 0 0] hHeld hgl hne) (fun _ => ?_)
              clear hK K
              try simp only [Act.put, List.setIfInBounds_toArray, List.set_cons_zero, List.set_cons_succ, List.getElem_toArray, List.getElem_cons_zero, List.getElem_cons_succ]
              refine wpAnyH_done (by kernel_rfl) ?_ _
              go_wp2_with fail
              go_meet
              case rel => exact ⟨gn, rfl, Lib.hid (HSE.out _ _ _ _ hHeld hnew hgl rfl)⟩
          · skip
            go_simp
            try go_wp2_with fail
            refine hK.out _ _ (HA2.out _ _ _ hHeld) (fun hHeld2 => ?_)
            clear hK K
            obtain ⟨gn, hgn⟩ : ∃ gn, gn = w'.heap.size := ⟨_, rfl⟩
            have hnew := HNE.out w'
            have hgl : w.heap.size + 2 ≤ gn := by have := HSz.out _ ⟨hHeld.1, hHeld.2.1, hHeld.2.2.1, hHeld.2.2.2.1, hHeld.2.2.2.2.1⟩; omega
            have hne : gN ≠ gn := by rw [hgn]; omega
            obtain ⟨V1, hV1⟩ : ∃ V1, V1 = w'.alloc (.cells #[.string ⟨#[]⟩, .int .i64 0, .string ⟨#[]⟩, .int .i64 0, .int .i64 0, .int .i64 0, .string ⟨#[]⟩, .string ⟨#[]⟩, .int .i64 0, .int .i64 0, .slice none 0 0] 58) := ⟨_, rfl⟩
            rw [← hgn] at hnew ⊢
            rw [← hV1] at hnew hHeld2 ⊢
            have hgs := hnew.lt
            clear hV1 hgn hHeld n3
            have hHeld := hHeld2
            clear hHeld2
            try simp only [Act.put, List.setIfInBounds_toArray, List.set_cons_zero, List.set_cons_succ, List.getElem_toArray, List.getElem_cons_zero, List.getElem_cons_succ]
            refine wpAnyH_ready (rs := [10]) (by kernel_rfl) (by simp) (AllReadyH.cons rfl (fun K hK => ?_) AllReadyH.nil)
            go_simp
            go_at_call 24
            refine (Pik.out _).mono ?_
            rintro e w' ⟨rfl, rfl⟩
            go_wp2_with fail
            refine hK.out _ _ hHeld (fun _ => ?_)
            clear hK K
            try simp only [Act.put, List.setIfInBounds_toArray, List.set_cons_zero, List.set_cons_succ, List.getElem_toArray, List.getElem_cons_zero, List.getElem_cons_succ]
            refine wpAnyH_take (i := 11) (v := ?v12) rfl (by kernel_rfl) (by kernel_rfl) (by kernel_rfl) (fun _ _ _ h => h) (Or.inl ⟨by rfl, ?hy12⟩) hHeld ?rest12
            case hy12 => (intro w hSw; (try dsimp only at hSw); go_simp; try with_reducible rfl)
            simp only [Act.put, List.setIfInBounds_toArray, List.set_cons_zero, List.set_cons_succ, List.getElem_toArray, List.getElem_cons_zero, List.getElem_cons_succ]
            refine wpAnyH_ready (rs := [13]) (by kernel_rfl) (by simp) (AllReadyH.cons rfl (fun K hK => ?_) AllReadyH.nil)
            go_simp
            go_at_call 26
            refine (HMt.out _ (HMx.out _ _ hHeld)).mono ?_
            rintro e w' ⟨rfl, hb⟩
            have hst := HK2.out _ _ _ hHeld hb
            have hnew := hnew.below hb
            clear hb
            go_wp2_with fail
            refine hK.out _ _ hst (fun hHeld => ?_)
            clear hst
            clear hK K
            try simp only [Act.put, List.setIfInBounds_toArray, List.set_cons_zero, List.set_cons_succ, List.getElem_toArray, List.getElem_cons_zero, List.getElem_cons_succ]
            refine wpAnyH_take (i := 14) (v := ?v13) rfl (by kernel_rfl) (by kernel_rfl) (by kernel_rfl) (fun _ _ _ h => h) (Or.inl ⟨by rfl, ?hy13⟩) hHeld ?rest13
            case hy13 => (intro w hSw; (try dsimp only at hSw); go_simp; try with_reducible rfl)
            simp only [Act.put, List.setIfInBounds_toArray, List.set_cons_zero, List.set_cons_succ, List.getElem_toArray, List.getElem_cons_zero, List.getElem_cons_succ]
            refine wpAnyH_ready (rs := [16]) (by kernel_rfl) (by simp) (AllReadyH.cons rfl (fun K hK => ?_) AllReadyH.nil)
            have n20 := hnew.peek_ (i := 0) (by omega); have f20 := hnew.frozen 0; have n21 := hnew.peek_ (i := 1) (by omega); have f21 := hnew.frozen 1; have n22 := hnew.peek_ (i := 2) (by omega); have f22 := hnew.frozen 2; have n23 := hnew.peek_ (i := 3) (by omega); have f23 := hnew.frozen 3; have n24 := hnew.peek_ (i := 4) (by omega); have f24 := hnew.frozen 4; have n25 := hnew.peek_ (i := 5) (by omega); have f25 := hnew.frozen 5; have n26 := hnew.peek_ (i := 6) (by omega); have f26 := hnew.frozen 6; have n27 := hnew.peek_ (i := 7) (by omega); have f27 := hnew.frozen 7; have n28 := hnew.peek_ (i := 8) (by omega); have f28 := hnew.frozen 8; have n29 := hnew.peek_ (i := 9) (by omega); have f29 := hnew.frozen 9; have n30 := hnew.peek_ (i := 10) (by omega); have f30 := hnew.frozen 10
            go_simp
            refine hK.out _ _ (HF2.out _ _ gn [.string bn, .int .i64 (1 + ik), .string ⟨#[]⟩, .int .i64 m1, .int .i64 m2, .int .i64 m3, .string (bs m4), .string (bs m5), .int .i64 m6, .int .i64 m7, .slice none 0 0] hHeld hgl hne) (fun _ => ?_)
            clear hK K
            try simp only [Act.put, List.setIfInBounds_toArray, List.set_cons_zero, List.set_cons_succ, List.getElem_toArray, List.getElem_cons_zero, List.getElem_cons_succ]
            refine wpAnyH_done (by kernel_rfl) ?_ _
            go_wp2_with fail
            go_meet
            case rel => exact ⟨gn, rfl, Lib.hid (HSE.out _ _ _ _ hHeld hnew hgl rfl)⟩
        · skip
          go_simp
          try go_wp2_with fail
          refine hK.out _ _ (HA2.out _ _ _ hHeld) (fun hHeld2 => ?_)
          clear hK K
          obtain ⟨gn, hgn⟩ : ∃ gn, gn = w'.heap.size := ⟨_, rfl⟩
          have hnew := HNE.out w'
          have hgl : w.heap.size + 2 ≤ gn := by have := HSz.out _ ⟨hHeld.1, hHeld.2.1, hHeld.2.2.1, hHeld.2.2.2.1, hHeld.2.2.2.2.1⟩; omega
          have hne : gN ≠ gn := by rw [hgn]; omega
          obtain ⟨V1, hV1⟩ : ∃ V1, V1 = w'.alloc (.cells #[.string ⟨#[]⟩, .int .i64 0, .string ⟨#[]⟩, .int .i64 0, .int .i64 0, .int .i64 0, .string ⟨#[]⟩, .string ⟨#[]⟩, .int .i64 0, .int .i64 0, .slice none 0 0] 58) := ⟨_, rfl⟩
          rw [← hgn] at hnew ⊢
          rw [← hV1] at hnew hHeld2 ⊢
          have hgs := hnew.lt
          clear hV1 hgn hHeld n3
          have hHeld := hHeld2
          clear hHeld2
          try simp only [Act.put, List.setIfInBounds_toArray, List.set_cons_zero, List.set_cons_succ, List.getElem_toArray, List.getElem_cons_zero, List.getElem_cons_succ]
          refine wpAnyH_ready (rs := [5]) (by kernel_rfl) (by simp) (AllReadyH.cons rfl (fun K hK => ?_) AllReadyH.nil)
          go_simp
          go_at_call 24
          refine (Pia.out _).mono ?_
          rintro e w' ⟨rfl, rfl⟩
          go_wp2_with fail
          refine hK.out _ _ hHeld (fun _ => ?_)
          clear hK K
          try simp only [Act.put, List.setIfInBounds_toArray, List.set_cons_zero, List.set_cons_succ, List.getElem_toArray, List.getElem_cons_zero, List.getElem_cons_succ]
          refine wpAnyH_take (i := 6) (v := ?v14) rfl (by kernel_rfl) (by kernel_rfl) (by kernel_rfl) (fun _ _ _ h => h) (Or.inl ⟨by rfl, ?hy14⟩) hHeld ?rest14
          case hy14 => (intro w hSw; (try dsimp only at hSw); go_simp; try with_reducible rfl)
          simp only [Act.put, List.setIfInBounds_toArray, List.set_cons_zero, List.set_cons_succ, List.getElem_toArray, List.getElem_cons_zero, List.getElem_cons_succ]
          refine wpAnyH_take (i := 7) (v := ?v15) rfl (by kernel_rfl) (by kernel_rfl) (by kernel_rfl) (fun _ _ _ h => h) (Or.inl ⟨by rfl, ?hy15⟩) hHeld ?rest15
          case hy15 => (intro w hSw; (try dsimp only at hSw); go_simp; try with_reducible rfl)
          simp only [Act.put, List.setIfInBounds_toArray, List.set_cons_zero, List.set_cons_succ, List.getElem_toArray, List.getElem_cons_zero, List.getElem_cons_succ]
          refine wpAnyH_ready (rs := [10]) (by kernel_rfl) (by simp) (AllReadyH.cons rfl (fun K hK => ?_) AllReadyH.nil)
          go_simp
          go_at_call 24
          refine (Pik.out _).mono ?_
          rintro e w' ⟨rfl, rfl⟩
          go_wp2_with fail
          refine hK.out _ _ hHeld (fun _ => ?_)
          clear hK K
          try simp only [Act.put, List.setIfInBounds_toArray, List.set_cons_zero, List.set_cons_succ, List.getElem_toArray, List.getElem_cons_zero, List.getElem_cons_succ]
          refine wpAnyH_take (i := 11) (v := ?v16) rfl (by kernel_rfl) (by kernel_rfl) (by kernel_rfl) (fun _ _ _ h => h) (Or.inl ⟨by rfl, ?hy16⟩) hHeld ?rest16
          case hy16 => (intro w hSw; (try dsimp only at hSw); go_simp; try with_reducible rfl)
          simp only [Act.put, List.setIfInBounds_toArray, List.set_cons_zero, List.set_cons_succ, List.getElem_toArray, List.getElem_cons_zero, List.getElem_cons_succ]
          refine wpAnyH_ready (rs := [13]) (by kernel_rfl) (by simp) (AllReadyH.cons rfl (fun K hK => ?_) AllReadyH.nil)
          go_simp
          go_at_call 26
          refine (HMt.out _ (HMx.out _ _ hHeld)).mono ?_
          rintro e w' ⟨rfl, hb⟩
          have hst := HK2.out _ _ _ hHeld hb
          have hnew := hnew.below hb
          clear hb
          go_wp2_with fail
          refine hK.out _ _ hst (fun hHeld => ?_)
          clear hst
          clear hK K
          try simp only [Act.put, List.setIfInBounds_toArray, List.set_cons_zero, List.set_cons_succ, List.getElem_toArray, List.getElem_cons_zero, List.getElem_cons_succ]
          refine wpAnyH_take (i := 14) (v := ?v17) rfl (by kernel_rfl) (by kernel_rfl) (by kernel_rfl) (fun _ _ _ h => h) (Or.inl ⟨by rfl, ?hy17⟩) hHeld ?rest17
          case hy17 => (intro w hSw; (try dsimp only at hSw); go_simp; try with_reducible rfl)
          simp only [Act.put, List.setIfInBounds_toArray, List.set_cons_zero, List.set_cons_succ, List.getElem_toArray, List.getElem_cons_zero, List.getElem_cons_succ]
          refine wpAnyH_ready (rs := [16]) (by kernel_rfl) (by simp) (AllReadyH.cons rfl (fun K hK => ?_) AllReadyH.nil)
          have n20 := hnew.peek_ (i := 0) (by omega); have f20 := hnew.frozen 0; have n21 := hnew.peek_ (i := 1) (by omega); have f21 := hnew.frozen 1; have n22 := hnew.peek_ (i := 2) (by omega); have f22 := hnew.frozen 2; have n23 := hnew.peek_ (i := 3) (by omega); have f23 := hnew.frozen 3; have n24 := hnew.peek_ (i := 4) (by omega); have f24 := hnew.frozen 4; have n25 := hnew.peek_ (i := 5) (by omega); have f25 := hnew.frozen 5; have n26 := hnew.peek_ (i := 6) (by omega); have f26 := hnew.frozen 6; have n27 := hnew.peek_ (i := 7) (by omega); have f27 := hnew.frozen 7; have n28 := hnew.peek_ (i := 8) (by omega); have f28 := hnew.frozen 8; have n29 := hnew.peek_ (i := 9) (by omega); have f29 := hnew.frozen 9; have n30 := hnew.peek_ (i := 10) (by omega); have f30 := hnew.frozen 10
          go_simp
          refine hK.out _ _ (HF2.out _ _ gn [.string bn, .int .i64 (1 + ik), .string ⟨#[]⟩, .int .i64 m1, .int .i64 m2, .int .i64 m3, .string (bs m4), .string (bs m5), .int .i64 m6, .int .i64 m7, .slice none 0 0] hHeld hgl hne) (fun _ => ?_)
          clear hK K
          try simp only [Act.put, List.setIfInBounds_toArray, List.set_cons_zero, List.set_cons_succ, List.getElem_toArray, List.getElem_cons_zero, List.getElem_cons_succ]
          refine wpAnyH_done (by kernel_rfl) ?_ _
          go_wp2_with fail
          go_meet
          case rel => exact ⟨gn, rfl, Lib.hid (HSE.out _ _ _ _ hHeld hnew hgl rfl)⟩
      · skip
        go_simp
        try go_wp2_with fail
        refine hK.out _ _ (HA2.out _ _ _ hHeld) (fun hHeld2 => ?_)
        clear hK K
        obtain ⟨gn, hgn⟩ : ∃ gn, gn = w'.heap.size := ⟨_, rfl⟩
        have hnew := HNE.out w'
        have hgl : w.heap.size + 2 ≤ gn := by have := HSz.out _ ⟨hHeld.1, hHeld.2.1, hHeld.2.2.1, hHeld.2.2.2.1, hHeld.2.2.2.2.1⟩; omega
        have hne : gN ≠ gn := by rw [hgn]; omega
        obtain ⟨V1, hV1⟩ : ∃ V1, V1 = w'.alloc (.cells #[.string ⟨#[]⟩, .int .i64 0, .string ⟨#[]⟩, .int .i64 0, .int .i64 0, .int .i64 0, .string ⟨#[]⟩, .string ⟨#[]⟩, .int .i64 0, .int .i64 0, .slice none 0 0] 58) := ⟨_, rfl⟩
        rw [← hgn] at hnew ⊢
        rw [← hV1] at hnew hHeld2 ⊢
        have hgs := hnew.lt
        clear hV1 hgn hHeld n3
        have hHeld := hHeld2
        clear hHeld2
        try simp only [Act.put, List.setIfInBounds_toArray, List.set_cons_zero, List.set_cons_succ, List.getElem_toArray, List.getElem_cons_zero, List.getElem_cons_succ]
        refine wpAnyH_ready (rs := [3]) (by kernel_rfl) (by simp) (AllReadyH.cons rfl (fun K hK => ?_) AllReadyH.nil)
        go_simp
        go_at_call 25
        refine (HN.out _).mono ?_
        rintro e w' ⟨v, rfl, hv, hb⟩
        have hnew := hnew.below hb
        obtain ⟨gM, cM, rfl, k0, k1, k2, k3, k4⟩ := HNC.out _ _ _ hv
        have hst := HK2.out _ _ _ hHeld hb
        clear hv hb k4
        go_wp2_with fail
        refine hK.out _ _ hst (fun hHeld => ?_)
        clear hst
        clear hK K
        try simp only [Act.put, List.setIfInBounds_toArray, List.set_cons_zero, List.set_cons_succ, List.getElem_toArray, List.getElem_cons_zero, List.getElem_cons_succ]
        refine wpAnyH_take (i := 4) (v := ?v18) rfl (by kernel_rfl) (by kernel_rfl) (by kernel_rfl) (fun _ _ _ h => h) (Or.inl ⟨by rfl, ?hy18⟩) hHeld ?rest18
        case hy18 => (intro w hSw; (try dsimp only at hSw); go_simp; try with_reducible rfl)
        simp only [Act.put, List.setIfInBounds_toArray, List.set_cons_zero, List.set_cons_succ, List.getElem_toArray, List.getElem_cons_zero, List.getElem_cons_succ]
        refine wpAnyH_ready (rs := [5]) (by kernel_rfl) (by simp) (AllReadyH.cons rfl (fun K hK => ?_) AllReadyH.nil)
        go_simp
        go_at_call 24
        refine (Pia.out _).mono ?_
        rintro e w' ⟨rfl, rfl⟩
        go_wp2_with fail
        refine hK.out _ _ hHeld (fun _ => ?_)
        clear hK K
        try simp only [Act.put, List.setIfInBounds_toArray, List.set_cons_zero, List.set_cons_succ, List.getElem_toArray, List.getElem_cons_zero, List.getElem_cons_succ]
        refine wpAnyH_take (i := 6) (v := ?v19) rfl (by kernel_rfl) (by kernel_rfl) (by kernel_rfl) (fun _ _ _ h => h) (Or.inl ⟨by rfl, ?hy19⟩) hHeld ?rest19
        case hy19 => (intro w hSw; (try dsimp only at hSw); go_simp; try with_reducible rfl)
        simp only [Act.put, List.setIfInBounds_toArray, List.set_cons_zero, List.set_cons_succ, List.getElem_toArray, List.getElem_cons_zero, List.getElem_cons_succ]
        refine wpAnyH_take (i := 7) (v := ?v20) rfl (by kernel_rfl) (by kernel_rfl) (by kernel_rfl) (fun _ _ _ h => h) (Or.inl ⟨by rfl, ?hy20⟩) hHeld ?rest20
        case hy20 => (intro w hSw; (try dsimp only at hSw); go_simp; try with_reducible rfl)
        simp only [Act.put, List.setIfInBounds_toArray, List.set_cons_zero, List.set_cons_succ, List.getElem_toArray, List.getElem_cons_zero, List.getElem_cons_succ]
        refine wpAnyH_ready (rs := [10]) (by kernel_rfl) (by simp) (AllReadyH.cons rfl (fun K hK => ?_) AllReadyH.nil)
        go_simp
        go_at_call 24
        refine (Pik.out _).mono ?_
        rintro e w' ⟨rfl, rfl⟩
        go_wp2_with fail
        refine hK.out _ _ hHeld (fun _ => ?_)
        clear hK K
        try simp only [Act.put, List.setIfInBounds_toArray, List.set_cons_zero, List.set_cons_succ, List.getElem_toArray, List.getElem_cons_zero, List.getElem_cons_succ]
        refine wpAnyH_take (i := 11) (v := ?v21) rfl (by kernel_rfl) (by kernel_rfl) (by kernel_rfl) (fun _ _ _ h => h) (Or.inl ⟨by rfl, ?hy21⟩) hHeld ?rest21
        case hy21 => (intro w hSw; (try dsimp only at hSw); go_simp; try with_reducible rfl)
        simp only [Act.put, List.setIfInBounds_toArray, List.set_cons_zero, List.set_cons_succ, List.getElem_toArray, List.getElem_cons_zero, List.getElem_cons_succ]
        refine wpAnyH_ready (rs := [13]) (by kernel_rfl) (by simp) (AllReadyH.cons rfl (fun K hK => ?_) AllReadyH.nil)
        go_simp
        go_at_call 26
        refine (HMt.out _ (HMx.out _ _ hHeld)).mono ?_
        rintro e w' ⟨rfl, hb⟩
        have hst := HK2.out _ _ _ hHeld hb
        have hnew := hnew.below hb
        clear hb
        go_wp2_with fail
        refine hK.out _ _ hst (fun hHeld => ?_)
        clear hst
        clear hK K
        try simp only [Act.put, List.setIfInBounds_toArray, List.set_cons_zero, List.set_cons_succ, List.getElem_toArray, List.getElem_cons_zero, List.getElem_cons_succ]
        refine wpAnyH_take (i := 14) (v := ?v22) rfl (by kernel_rfl) (by kernel_rfl) (by kernel_rfl) (fun _ _ _ h => h) (Or.inl ⟨by rfl, ?hy22⟩) hHeld ?rest22
        case hy22 => (intro w hSw; (try dsimp only at hSw); go_simp; try with_reducible rfl)
        simp only [Act.put, List.setIfInBounds_toArray, List.set_cons_zero, List.set_cons_succ, List.getElem_toArray, List.getElem_cons_zero, List.getElem_cons_succ]
        refine wpAnyH_ready (rs := [16]) (by kernel_rfl) (by simp) (AllReadyH.cons rfl (fun K hK => ?_) AllReadyH.nil)
        have n20 := hnew.peek_ (i := 0) (by omega); have f20 := hnew.frozen 0; have n21 := hnew.peek_ (i := 1) (by omega); have f21 := hnew.frozen 1; have n22 := hnew.peek_ (i := 2) (by omega); have f22 := hnew.frozen 2; have n23 := hnew.peek_ (i := 3) (by omega); have f23 := hnew.frozen 3; have n24 := hnew.peek_ (i := 4) (by omega); have f24 := hnew.frozen 4; have n25 := hnew.peek_ (i := 5) (by omega); have f25 := hnew.frozen 5; have n26 := hnew.peek_ (i := 6) (by omega); have f26 := hnew.frozen 6; have n27 := hnew.peek_ (i := 7) (by omega); have f27 := hnew.frozen 7; have n28 := hnew.peek_ (i := 8) (by omega); have f28 := hnew.frozen 8; have n29 := hnew.peek_ (i := 9) (by omega); have f29 := hnew.frozen 9; have n30 := hnew.peek_ (i := 10) (by omega); have f30 := hnew.frozen 10
        go_simp
        refine hK.out _ _ (HF2.out _ _ gn [.string bn, .int .i64 (1 + ik), .string ⟨#[]⟩, .int .i64 m1, .int .i64 m2, .int .i64 m3, .string (bs m4), .string (bs m5), .int .i64 m6, .int .i64 m7, .slice none 0 0] hHeld hgl hne) (fun _ => ?_)
        clear hK K
        try simp only [Act.put, List.setIfInBounds_toArray, List.set_cons_zero, List.set_cons_succ, List.getElem_toArray, List.getElem_cons_zero, List.getElem_cons_succ]
        refine wpAnyH_done (by kernel_rfl) ?_ _
        go_wp2_with fail
        go_meet
        case rel => exact ⟨gn, rfl, Lib.hid (HSE.out _ _ _ _ hHeld hnew hgl rfl)⟩
    · skip
      go_simp
      try go_wp2_with fail
      refine hK.out _ _ (HA1.out _ _ hHeld) (fun hHeld2 => ?_)
      clear hK K
      obtain ⟨gn, hgn⟩ : ∃ gn, gn = Wd.heap.size := ⟨_, rfl⟩
      have hnew := HNE.out Wd
      have hgl : w.heap.size + 2 ≤ gn := by have := HSz.out _ hHeld; omega
      obtain ⟨V1, hV1⟩ : ∃ V1, V1 = Wd.alloc (.cells #[.string ⟨#[]⟩, .int .i64 0, .string ⟨#[]⟩, .int .i64 0, .int .i64 0, .int .i64 0, .string ⟨#[]⟩, .string ⟨#[]⟩, .int .i64 0, .int .i64 0, .slice none 0 0] 58) := ⟨_, rfl⟩
      rw [← hgn] at hnew ⊢
      rw [← hV1] at hnew hHeld2 ⊢
      have hgs := hnew.lt
      clear hV1 hgn hHeld
      have hHeld := hHeld2
      clear hHeld2
      try simp only [Act.put, List.setIfInBounds_toArray, List.set_cons_zero, List.set_cons_succ, List.getElem_toArray, List.getElem_cons_zero, List.getElem_cons_succ]
      refine wpAnyH_ready (rs := [0]) (by kernel_rfl) (by simp) (AllReadyH.cons rfl (fun K hK => ?_) AllReadyH.nil)
      go_simp
      go_at_call 25
      refine (HN.out _).mono ?_
      rintro e w' ⟨v, rfl, hv, hb⟩
      have hnew := hnew.below hb
      have hst := HK1.out _ _ hHeld hb
      obtain ⟨gN, cN, rfl, n0, n1, n2, n3, n4'⟩ := HNC.out _ _ _ hv
      have n4 := n4' ia bia
      rw [← HBN.out] at n4
      have hst1 := And.intro hst.1 (And.intro hst.2.1 (And.intro hst.2.2.1 (And.intro hst.2.2.2.1 (And.intro hst.2.2.2.2 n4))))
      have hne : gN ≠ gn := by omega
      have hz := HSz.out _ hst
      clear hv hb n4' n4 hst
      go_wp2_with fail
      refine (shut_more (fun W => W.cell? ⟨w.heap.size, 0, none⟩ = some (.int .i64 r.kind) ∧ W.cell? ⟨w.heap.size, 1, none⟩ = some (.int .i64 r.a) ∧ W.cell? ⟨w.heap.size, 2, none⟩ = some (.int .i64 r.b) ∧ W.cell? ⟨w.heap.size, 3, none⟩ = some (.string (bs r.text)) ∧ Below W0.heap.size W0 W ∧ W.cell? ⟨gN, ia, none⟩ = some (.string bn)) hK (fun W h => ⟨h.1, h.2.1, h.2.2.1, h.2.2.2.1, h.2.2.2.2.1⟩)).out _ _ hst1 (fun hHeld => ?_)
      clear hst1
      clear hK K
      try simp only [Act.put, List.setIfInBounds_toArray, List.set_cons_zero, List.set_cons_succ, List.getElem_toArray, List.getElem_cons_zero, List.getElem_cons_succ]
      refine wpAnyH_ready (rs := [3]) (by kernel_rfl) (by simp) (AllReadyH.cons rfl (fun K hK => ?_) AllReadyH.nil)
      go_simp
      go_at_call 25
      refine (HN.out _).mono ?_
      rintro e w' ⟨v, rfl, hv, hb⟩
      have hnew := hnew.below hb
      obtain ⟨gM, cM, rfl, k0, k1, k2, k3, k4⟩ := HNC.out _ _ _ hv
      have hst := HK2.out _ _ _ hHeld hb
      clear hv hb k4
      go_wp2_with fail
      refine hK.out _ _ hst (fun hHeld => ?_)
      clear hst
      clear hK K
      try simp only [Act.put, List.setIfInBounds_toArray, List.set_cons_zero, List.set_cons_succ, List.getElem_toArray, List.getElem_cons_zero, List.getElem_cons_succ]
      refine wpAnyH_take (i := 4) (v := ?v23) rfl (by kernel_rfl) (by kernel_rfl) (by kernel_rfl) (fun _ _ _ h => h) (Or.inl ⟨by rfl, ?hy23⟩) hHeld ?rest23
      case hy23 => (intro w hSw; (try dsimp only at hSw); go_simp; try with_reducible rfl)
      simp only [Act.put, List.setIfInBounds_toArray, List.set_cons_zero, List.set_cons_succ, List.getElem_toArray, List.getElem_cons_zero, List.getElem_cons_succ]
      refine wpAnyH_ready (rs := [5]) (by kernel_rfl) (by simp) (AllReadyH.cons rfl (fun K hK => ?_) AllReadyH.nil)
      go_simp
      go_at_call 24
      refine (Pia.out _).mono ?_
      rintro e w' ⟨rfl, rfl⟩
      go_wp2_with fail
      refine hK.out _ _ hHeld (fun _ => ?_)
      clear hK K
      try simp only [Act.put, List.setIfInBounds_toArray, List.set_cons_zero, List.set_cons_succ, List.getElem_toArray, List.getElem_cons_zero, List.getElem_cons_succ]
      refine wpAnyH_take (i := 6) (v := ?v24) rfl (by kernel_rfl) (by kernel_rfl) (by kernel_rfl) (fun _ _ _ h => h) (Or.inl ⟨by rfl, ?hy24⟩) hHeld ?rest24
      case hy24 => (intro w hSw; (try dsimp only at hSw); go_simp; try with_reducible rfl)
      simp only [Act.put, List.setIfInBounds_toArray, List.set_cons_zero, List.set_cons_succ, List.getElem_toArray, List.getElem_cons_zero, List.getElem_cons_succ]
      refine wpAnyH_take (i := 7) (v := ?v25) rfl (by kernel_rfl) (by kernel_rfl) (by kernel_rfl) (fun _ _ _ h => h) (Or.inl ⟨by rfl, ?hy25⟩) hHeld ?rest25
      case hy25 => (intro w hSw; (try dsimp only at hSw); go_simp; try with_reducible rfl)
      simp only [Act.put, List.setIfInBounds_toArray, List.set_cons_zero, List.set_cons_succ, List.getElem_toArray, List.getElem_cons_zero, List.getElem_cons_succ]
      refine wpAnyH_ready (rs := [10]) (by kernel_rfl) (by simp) (AllReadyH.cons rfl (fun K hK => ?_) AllReadyH.nil)
      go_simp
      go_at_call 24
      refine (Pik.out _).mono ?_
      rintro e w' ⟨rfl, rfl⟩
      go_wp2_with fail
      refine hK.out _ _ hHeld (fun _ => ?_)
      clear hK K
      try simp only [Act.put, List.setIfInBounds_toArray, List.set_cons_zero, List.set_cons_succ, List.getElem_toArray, List.getElem_cons_zero, List.getElem_cons_succ]
      refine wpAnyH_take (i := 11) (v := ?v26) rfl (by kernel_rfl) (by kernel_rfl) (by kernel_rfl) (fun _ _ _ h => h) (Or.inl ⟨by rfl, ?hy26⟩) hHeld ?rest26
      case hy26 => (intro w hSw; (try dsimp only at hSw); go_simp; try with_reducible rfl)
      simp only [Act.put, List.setIfInBounds_toArray, List.set_cons_zero, List.set_cons_succ, List.getElem_toArray, List.getElem_cons_zero, List.getElem_cons_succ]
      refine wpAnyH_ready (rs := [13]) (by kernel_rfl) (by simp) (AllReadyH.cons rfl (fun K hK => ?_) AllReadyH.nil)
      go_simp
      go_at_call 26
      refine (HMt.out _ (HMx.out _ _ hHeld)).mono ?_
      rintro e w' ⟨rfl, hb⟩
      have hst := HK2.out _ _ _ hHeld hb
      have hnew := hnew.below hb
      clear hb
      go_wp2_with fail
      refine hK.out _ _ hst (fun hHeld => ?_)
      clear hst
      clear hK K
      try simp only [Act.put, List.setIfInBounds_toArray, List.set_cons_zero, List.set_cons_succ, List.getElem_toArray, List.getElem_cons_zero, List.getElem_cons_succ]
      refine wpAnyH_take (i := 14) (v := ?v27) rfl (by kernel_rfl) (by kernel_rfl) (by kernel_rfl) (fun _ _ _ h => h) (Or.inl ⟨by rfl, ?hy27⟩) hHeld ?rest27
      case hy27 => (intro w hSw; (try dsimp only at hSw); go_simp; try with_reducible rfl)
      simp only [Act.put, List.setIfInBounds_toArray, List.set_cons_zero, List.set_cons_succ, List.getElem_toArray, List.getElem_cons_zero, List.getElem_cons_succ]
      refine wpAnyH_ready (rs := [16]) (by kernel_rfl) (by simp) (AllReadyH.cons rfl (fun K hK => ?_) AllReadyH.nil)
      have n20 := hnew.peek_ (i := 0) (by omega); have f20 := hnew.frozen 0; have n21 := hnew.peek_ (i := 1) (by omega); have f21 := hnew.frozen 1; have n22 := hnew.peek_ (i := 2) (by omega); have f22 := hnew.frozen 2; have n23 := hnew.peek_ (i := 3) (by omega); have f23 := hnew.frozen 3; have n24 := hnew.peek_ (i := 4) (by omega); have f24 := hnew.frozen 4; have n25 := hnew.peek_ (i := 5) (by omega); have f25 := hnew.frozen 5; have n26 := hnew.peek_ (i := 6) (by omega); have f26 := hnew.frozen 6; have n27 := hnew.peek_ (i := 7) (by omega); have f27 := hnew.frozen 7; have n28 := hnew.peek_ (i := 8) (by omega); have f28 := hnew.frozen 8; have n29 := hnew.peek_ (i := 9) (by omega); have f29 := hnew.frozen 9; have n30 := hnew.peek_ (i := 10) (by omega); have f30 := hnew.frozen 10
      go_simp
      refine hK.out _ _ (HF2.out _ _ gn [.string bn, .int .i64 (1 + ik), .string ⟨#[]⟩, .int .i64 m1, .int .i64 m2, .int .i64 m3, .string (bs m4), .string (bs m5), .int .i64 m6, .int .i64 m7, .slice none 0 0] hHeld hgl hne) (fun _ => ?_)
      clear hK K
      try simp only [Act.put, List.setIfInBounds_toArray, List.set_cons_zero, List.set_cons_succ, List.getElem_toArray, List.getElem_cons_zero, List.getElem_cons_succ]
      refine wpAnyH_done (by kernel_rfl) ?_ _
      go_wp2_with fail
      go_meet
      case rel => exact ⟨gn, rfl, Lib.hid (HSE.out _ _ _ _ hHeld hnew hgl rfl)⟩
  case rest =>
    obtain ⟨g, rfl, HE⟩ := hcut
    have q2 := HE.out.1.cell 2
    go_wp2_with fail
    refine (P5.out _).mono ?_
    rintro e w' ⟨rfl, rfl⟩
    clear q2
    have HE0 : Hid (EnSt w r g [.string (bs (entPath r.a 0)), .int .i64 (1 + ik), .string ⟨#[]⟩, .int .i64 m1, .int .i64 m2, .int .i64 m3, .string (bs m4), .string (bs m5), .int .i64 m6, .int .i64 m7, .slice none 0 0] wc) := Lib.hid (by
      have h := HE.out
      rw [HBN.out] at h
      unfold entPath nmA
      rw [HIA.out, Int.toNat_natCast]
      exact h)
    clear HE
    have HD5 := Lib.hid entPath_ok
    have HEL := Lib.hid (entPath_length r.a HOK.out.a)
    go_wp2_with fail
    go_loopg [4, 23] nb (fun gg s4 s23 wr => ∃ k : Nat, k ≤ nb ∧ nb - k ≤ gg ∧ s23 = .int .i64 k ∧ Hid (EnSt w r g [.string (bs (entPath r.a k)), .int .i64 (1 + ik), .string ⟨#[]⟩, .int .i64 m1, .int .i64 m2, .int .i64 m3, .string (bs m4), .string (bs m5), .int .i64 m6, .int .i64 m7, .slice none 0 0] wr))
    case atStart => exact ⟨0, Nat.zero_le _, by omega, rfl, HE0⟩
    case round =>
      obtain ⟨k, hk, hg, rfl, HE⟩ := hrel
      by_cases hlt : k < nb
      · have hltz : (k : Int) < (nb : Int) := by omega
        have hoa := HOK.out.a
        obtain ⟨o1, o2⟩ := hoa
        have hwa : IntKind.i64.wrap (r.a + (k : Int)) = wrapI (r.a + k) := wrapI_eq ⟨o1, o2⟩ (by omega) (by omega)
        have hw9 : I64 (wrapI (r.a + k)) := wrapI_I64 ⟨o1, o2⟩ (by omega) (by omega)
        obtain ⟨j, hj, bj⟩ := pick_nat (wrapI (r.a + k)) 11 (by omega)
        have hj : pick (wrapI (r.a + k)) 11 = (j : Int) := hj
        have Pj := Lib.hid (fun w => picked_any (wrapI (r.a + k)) 11 hw9 (by omega) (by omega) w)
        rw [hj] at Pj
        have hle := HEL.out (k + 1) (by omega)
        have hnx : entPath r.a (k + 1) = entPath r.a k ++ 47 :: namesL.getD j [] := by
          show entPath r.a k ++ 47 :: nmA (wrapI (r.a + k)) = _
          unfold nmA
          rw [hj, Int.toNat_natCast]
        rw [hnx] at hle
        have HNX := Lib.hid hnx
        rw [List.length_append, List.length_cons] at hle
        have HCAT : Hid (bs (entPath r.a k) ++ ((⟨#[47]⟩ : ByteArray) ++ bs (namesL.getD j [])) = bs (entPath r.a (k + 1))) := Lib.hid (by
          rw [hnx]
          exact (congrArg (bs (entPath r.a k) ++ ·) (bs_append [47] (namesL.getD j [])).symm).trans (bs_append _ _).symm)
        clear hnx o1 o2 hw9 hj
        have hbz : (bs (entPath r.a k)).size + ((bs (namesL.getD j [])).size + 1) ≤ 400 := by rw [bs_size, bs_size]; exact hle
        clear hle
        obtain ⟨bp, hbp⟩ : ∃ bp, bp = bs (entPath r.a k) := ⟨_, rfl⟩
        obtain ⟨bj2, hbj⟩ : ∃ bj2, bj2 = bs (namesL.getD j []) := ⟨_, rfl⟩
        rw [← hbp, ← hbj] at hbz HCAT
        rw [← hbp] at HE
        have HBJ := Lib.hid hbj
        clear hbp hbj
        have nk1 : ¬ 9223372036854775807 < 1 + bj2.size := by omega
        have nk2 : ¬ 9223372036854775807 < bp.size + (1 + bj2.size) := by omega
        have i1 : (j : Int) < 11 := by omega
        have i2 : (0 : Int) ≤ j := by omega
        clear hbz
        go_upto_region 5 with fail
        refine wp_region_held_drew (S := fun W => W.cell? ⟨w.heap.size, 1, none⟩ = some (.int .i64 r.a)) (by kernel_rfl) (HE.out.1.cell 1) (fun hHeld => ?_)
        have hE : EnSt w r g [.string bp, .int .i64 (1 + ik), .string ⟨#[]⟩, .int .i64 m1, .int .i64 m2, .int .i64 m3, .string (bs m4), .string (bs m5), .int .i64 m6, .int .i64 m7, .slice none 0 0] wr.drew := HE.out.below (Below.refl _ _).drew
        generalize wr.drew = Wd at hHeld hE ⊢
        refine wpAnyH_take (i := 0) (v := ?v28) rfl (by kernel_rfl) (by kernel_rfl) (by kernel_rfl) (fun _ _ _ h => h) (Or.inl ⟨by rfl, ?hy28⟩) hHeld ?rest28
        case hy28 => (intro w hSw; (try dsimp only at hSw); go_simp; try with_reducible rfl)
        simp only [Act.put, List.setIfInBounds_toArray, List.set_cons_zero, List.set_cons_succ, List.getElem_toArray, List.getElem_cons_zero]
        refine wpAnyH_take (i := 3) (v := ?v29) rfl (by kernel_rfl) (by kernel_rfl) (by kernel_rfl) (fun _ _ _ h => h) (Or.inl ⟨by rfl, ?hy29⟩) hHeld ?rest29
        case hy29 => (intro w hSw; (try dsimp only at hSw); go_simp; try with_reducible rfl)
        simp only [Act.put, List.setIfInBounds_toArray, List.set_cons_zero, List.set_cons_succ, List.getElem_toArray, List.getElem_cons_zero, List.getElem_cons_succ]
        refine wpAnyH_take (i := 4) (v := ?v30) rfl (by kernel_rfl) (by kernel_rfl) (by kernel_rfl) (fun _ _ _ h => h) (Or.inl ⟨by rfl, ?hy30⟩) hHeld ?rest30
        case hy30 => (intro w hSw; (try dsimp only at hSw); go_simp; try with_reducible rfl)
        simp only [Act.put, List.setIfInBounds_toArray, List.set_cons_zero, List.set_cons_succ, List.getElem_toArray, List.getElem_cons_zero, List.getElem_cons_succ]
        refine wpAnyH_take (i := 5) (v := ?v31) rfl (by kernel_rfl) (by kernel_rfl) (by kernel_rfl) (fun _ _ _ h => h) (Or.inl ⟨by rfl, ?hy31⟩) hHeld ?rest31
        case hy31 => (intro w hSw; (try dsimp only at hSw); go_simp; try with_reducible rfl)
        simp only [Act.put, List.setIfInBounds_toArray, List.set_cons_zero, List.set_cons_succ, List.getElem_toArray, List.getElem_cons_zero, List.getElem_cons_succ]
        refine wpAnyH_take (i := 6) (v := ?v32) rfl (by kernel_rfl) (by kernel_rfl) (by kernel_rfl) (fun _ _ _ h => h) (Or.inl ⟨by rfl, ?hy32⟩) hHeld ?rest32
        case hy32 => (intro w hSw; (try dsimp only at hSw); go_simp; try with_reducible rfl)
        simp only [Act.put, List.setIfInBounds_toArray, List.set_cons_zero, List.set_cons_succ, List.getElem_toArray, List.getElem_cons_zero, List.getElem_cons_succ]
        refine wpAnyH_ready (rs := [1, 2]) (by kernel_rfl) (by simp) (AllReadyH.cons rfl (fun K hK => ?_) (AllReadyH.cons rfl (fun K hK => ?_) AllReadyH.nil))
        · skip
          have p0 := hE.2.2.1.cell 0
          go_simp
          try go_wp2_with fail
          refine hK.out _ _ hHeld (fun _ => ?_)
          clear hK K p0
          try simp only [Act.put, List.setIfInBounds_toArray, List.set_cons_zero, List.set_cons_succ, List.getElem_toArray, List.getElem_cons_zero, List.getElem_cons_succ]
          refine wpAnyH_ready (rs := [2]) (by kernel_rfl) (by simp) (AllReadyH.cons rfl (fun K hK => ?_) AllReadyH.nil)
          go_simp
          go_at_call 25
          refine (HN.out _).mono ?_
          rintro e w' ⟨v, rfl, hv, hb⟩
          have hgW := hE.2.2.1.lt
          have hE := hE.below hb
          obtain ⟨gN, cN, rfl, n0, n1, n2, n3, n4'⟩ := HNC.out _ _ _ hv
          have n4 := n4' j bj
          rw [← HBJ.out] at n4
          have hne : g ≠ gN := by omega
          have hst1 := And.intro (hE.1.cell 1) n4
          go_wp2_with fail
          refine (shut_more (fun W => W.cell? ⟨w.heap.size, 1, none⟩ = some (.int .i64 r.a) ∧ W.cell? ⟨gN, j, none⟩ = some (.string bj2)) hK (fun W h => h.1)).out _ _ hst1 (fun hHeld => ?_)
          clear hst1 hv n4' n4
          clear hK K
          try simp only [Act.put, List.setIfInBounds_toArray, List.set_cons_zero, List.set_cons_succ, List.getElem_toArray, List.getElem_cons_zero, List.getElem_cons_succ]
          refine wpAnyH_ready (rs := [7]) (by kernel_rfl) (by simp) (AllReadyH.cons rfl (fun K hK => ?_) AllReadyH.nil)
          go_simp
          go_at_call 25
          refine (HN.out _).mono ?_
          rintro e w' ⟨v, rfl, hv, hb⟩
          have hE := hE.below hb
          obtain ⟨gM, cM, rfl, k0, k1, k2, k3, k4⟩ := HNC.out _ _ _ hv
          have hst := And.intro (hE.1.cell 1) ((hb.cell (World.block_lt_of_cell? _ _ hHeld.2)).trans hHeld.2)
          clear hv hb k4
          go_wp2_with fail
          refine hK.out _ _ hst (fun hHeld => ?_)
          clear hst
          clear hK K
          try simp only [Act.put, List.setIfInBounds_toArray, List.set_cons_zero, List.set_cons_succ, List.getElem_toArray, List.getElem_cons_zero, List.getElem_cons_succ]
          refine wpAnyH_take (i := 8) (v := ?v33) rfl (by kernel_rfl) (by kernel_rfl) (by kernel_rfl) (fun _ _ _ h => h) (Or.inl ⟨by rfl, ?hy33⟩) hHeld ?rest33
          case hy33 => (intro w hSw; (try dsimp only at hSw); go_simp; try with_reducible rfl)
          simp only [Act.put, List.setIfInBounds_toArray, List.set_cons_zero, List.set_cons_succ, List.getElem_toArray, List.getElem_cons_zero, List.getElem_cons_succ]
          refine wpAnyH_ready (rs := [9]) (by kernel_rfl) (by simp) (AllReadyH.cons rfl (fun K hK => ?_) AllReadyH.nil)
          go_simp
          go_at_call 24
          refine (Pj.out _).mono ?_
          rintro e w' ⟨rfl, rfl⟩
          go_wp2_with fail
          refine hK.out _ _ hHeld (fun _ => ?_)
          clear hK K
          try simp only [Act.put, List.setIfInBounds_toArray, List.set_cons_zero, List.set_cons_succ, List.getElem_toArray, List.getElem_cons_zero, List.getElem_cons_succ]
          refine wpAnyH_take (i := 10) (v := ?v34) rfl (by kernel_rfl) (by kernel_rfl) (by kernel_rfl) (fun _ _ _ h => h) (Or.inl ⟨by rfl, ?hy34⟩) hHeld ?rest34
          case hy34 => (intro w hSw; (try dsimp only at hSw); go_simp; try with_reducible rfl)
          simp only [Act.put, List.setIfInBounds_toArray, List.set_cons_zero, List.set_cons_succ, List.getElem_toArray, List.getElem_cons_zero, List.getElem_cons_succ]
          refine wpAnyH_take (i := 11) (v := ?v35) rfl (by kernel_rfl) (by kernel_rfl) (by kernel_rfl) (fun _ _ _ h => h) (Or.inl ⟨by rfl, ?hy35⟩) hHeld ?rest35
          case hy35 => (intro w hSw; (try dsimp only at hSw); go_simp; try with_reducible rfl)
          simp only [Act.put, List.setIfInBounds_toArray, List.set_cons_zero, List.set_cons_succ, List.getElem_toArray, List.getElem_cons_zero, List.getElem_cons_succ]
          refine wpAnyH_take (i := 12) (v := ?v36) rfl (by kernel_rfl) (by kernel_rfl) (by kernel_rfl) (fun _ _ _ h => h) (Or.inl ⟨by rfl, ?hy36⟩) hHeld ?rest36
          case hy36 => (intro w hSw; (try dsimp only at hSw); go_simp; try with_reducible rfl)
          simp only [Act.put, List.setIfInBounds_toArray, List.set_cons_zero, List.set_cons_succ, List.getElem_toArray, List.getElem_cons_zero, List.getElem_cons_succ]
          refine wpAnyH_take (i := 13) (v := ?v37) rfl (by kernel_rfl) (by kernel_rfl) (by kernel_rfl) (fun _ _ _ h => h) (Or.inl ⟨by rfl, ?hy37⟩) hHeld ?rest37
          case hy37 => (intro w hSw; (try dsimp only at hSw); go_simp; try with_reducible rfl)
          simp only [Act.put, List.setIfInBounds_toArray, List.set_cons_zero, List.set_cons_succ, List.getElem_toArray, List.getElem_cons_zero, List.getElem_cons_succ]
          refine wpAnyH_take (i := 14) (v := ?v38) rfl (by kernel_rfl) (by kernel_rfl) (by kernel_rfl) (fun _ _ _ h => h) (Or.inl ⟨by rfl, ?hy38⟩) hHeld ?rest38
          case hy38 => (intro w hSw; (try dsimp only at hSw); go_simp; try with_reducible rfl)
          simp only [Act.put, List.setIfInBounds_toArray, List.set_cons_zero, List.set_cons_succ, List.getElem_toArray, List.getElem_cons_zero, List.getElem_cons_succ]
          refine wpAnyH_ready (rs := [15]) (by kernel_rfl) (by simp) (AllReadyH.cons rfl (fun K hK => ?_) AllReadyH.nil)
          have p0 := hE.2.2.1.cell 0
          have f0 := hE.2.2.1.frozen 0
          have hgl := hE.2.2.2.1
          have hEN := hE.set_ 0 (.string (bp ++ ((⟨#[47]⟩ : ByteArray) ++ bj2)))
          go_simp
          refine hK.out _ _ ⟨hEN.1.cell 1, (World.cell?_setCell_other _ _ _ _ (by intro e; exact hne (congrArg Addr.block e))).trans hHeld.2⟩ (fun _ => ?_)
          clear hK K p0 f0
          try simp only [Act.put, List.setIfInBounds_toArray, List.set_cons_zero, List.set_cons_succ, List.getElem_toArray, List.getElem_cons_zero, List.getElem_cons_succ]
          rw [HCAT.out] at hEN ⊢
          have HEN := Lib.hid hEN
          clear hEN hE
          refine wpAnyH_done (by kernel_rfl) ?_ _
          go_wp2_with fail
          go_roundg (nb - (k + 1))
          case measure => omega
          case rel => exact ⟨k + 1, by omega, by omega, by go_num, HEN⟩
        · skip
          go_simp
          go_at_call 25
          refine (HN.out _).mono ?_
          rintro e w' ⟨v, rfl, hv, hb⟩
          have hgW := hE.2.2.1.lt
          have hE := hE.below hb
          obtain ⟨gN, cN, rfl, n0, n1, n2, n3, n4'⟩ := HNC.out _ _ _ hv
          have n4 := n4' j bj
          rw [← HBJ.out] at n4
          have hne : g ≠ gN := by omega
          have hst1 := And.intro (hE.1.cell 1) n4
          go_wp2_with fail
          refine (shut_more (fun W => W.cell? ⟨w.heap.size, 1, none⟩ = some (.int .i64 r.a) ∧ W.cell? ⟨gN, j, none⟩ = some (.string bj2)) hK (fun W h => h.1)).out _ _ hst1 (fun hHeld => ?_)
          clear hst1 hv n4' n4
          clear hK K
          try simp only [Act.put, List.setIfInBounds_toArray, List.set_cons_zero, List.set_cons_succ, List.getElem_toArray, List.getElem_cons_zero, List.getElem_cons_succ]
          refine wpAnyH_ready (rs := [1, 7]) (by kernel_rfl) (by simp) (AllReadyH.cons rfl (fun K hK => ?_) (AllReadyH.cons rfl (fun K hK => ?_) AllReadyH.nil))
          · skip
            have p0 := hE.2.2.1.cell 0
            go_simp
            try go_wp2_with fail
            refine hK.out _ _ hHeld (fun _ => ?_)
            clear hK K p0
            try simp only [Act.put, List.setIfInBounds_toArray, List.set_cons_zero, List.set_cons_succ, List.getElem_toArray, List.getElem_cons_zero, List.getElem_cons_succ]
            refine wpAnyH_ready (rs := [7]) (by kernel_rfl) (by simp) (AllReadyH.cons rfl (fun K hK => ?_) AllReadyH.nil)
            go_simp
            go_at_call 25
            refine (HN.out _).mono ?_
            rintro e w' ⟨v, rfl, hv, hb⟩
            have hE := hE.below hb
            obtain ⟨gM, cM, rfl, k0, k1, k2, k3, k4⟩ := HNC.out _ _ _ hv
            have hst := And.intro (hE.1.cell 1) ((hb.cell (World.block_lt_of_cell? _ _ hHeld.2)).trans hHeld.2)
            clear hv hb k4
            go_wp2_with fail
            refine hK.out _ _ hst (fun hHeld => ?_)
            clear hst
            clear hK K
            try simp only [Act.put, List.setIfInBounds_toArray, List.set_cons_zero, List.set_cons_succ, List.getElem_toArray, List.getElem_cons_zero, List.getElem_cons_succ]
            refine wpAnyH_take (i := 8) (v := ?v39) rfl (by kernel_rfl) (by kernel_rfl) (by kernel_rfl) (fun _ _ _ h => h) (Or.inl ⟨by rfl, ?hy39⟩) hHeld ?rest39
            case hy39 => (intro w hSw; (try dsimp only at hSw); go_simp; try with_reducible rfl)
            simp only [Act.put, List.setIfInBounds_toArray, List.set_cons_zero, List.set_cons_succ, List.getElem_toArray, List.getElem_cons_zero, List.getElem_cons_succ]
            refine wpAnyH_ready (rs := [9]) (by kernel_rfl) (by simp) (AllReadyH.cons rfl (fun K hK => ?_) AllReadyH.nil)
            go_simp
            go_at_call 24
            refine (Pj.out _).mono ?_
            rintro e w' ⟨rfl, rfl⟩
            go_wp2_with fail
            refine hK.out _ _ hHeld (fun _ => ?_)
            clear hK K
            try simp only [Act.put, List.setIfInBounds_toArray, List.set_cons_zero, List.set_cons_succ, List.getElem_toArray, List.getElem_cons_zero, List.getElem_cons_succ]
            refine wpAnyH_take (i := 10) (v := ?v40) rfl (by kernel_rfl) (by kernel_rfl) (by kernel_rfl) (fun _ _ _ h => h) (Or.inl ⟨by rfl, ?hy40⟩) hHeld ?rest40
            case hy40 => (intro w hSw; (try dsimp only at hSw); go_simp; try with_reducible rfl)
            simp only [Act.put, List.setIfInBounds_toArray, List.set_cons_zero, List.set_cons_succ, List.getElem_toArray, List.getElem_cons_zero, List.getElem_cons_succ]
            refine wpAnyH_take (i := 11) (v := ?v41) rfl (by kernel_rfl) (by kernel_rfl) (by kernel_rfl) (fun _ _ _ h => h) (Or.inl ⟨by rfl, ?hy41⟩) hHeld ?rest41
            case hy41 => (intro w hSw; (try dsimp only at hSw); go_simp; try with_reducible rfl)
            simp only [Act.put, List.setIfInBounds_toArray, List.set_cons_zero, List.set_cons_succ, List.getElem_toArray, List.getElem_cons_zero, List.getElem_cons_succ]
            refine wpAnyH_take (i := 12) (v := ?v42) rfl (by kernel_rfl) (by kernel_rfl) (by kernel_rfl) (fun _ _ _ h => h) (Or.inl ⟨by rfl, ?hy42⟩) hHeld ?rest42
            case hy42 => (intro w hSw; (try dsimp only at hSw); go_simp; try with_reducible rfl)
            simp only [Act.put, List.setIfInBounds_toArray, List.set_cons_zero, List.set_cons_succ, List.getElem_toArray, List.getElem_cons_zero, List.getElem_cons_succ]
            refine wpAnyH_take (i := 13) (v := ?v43) rfl (by kernel_rfl) (by kernel_rfl) (by kernel_rfl) (fun _ _ _ h => h) (Or.inl ⟨by rfl, ?hy43⟩) hHeld ?rest43
            case hy43 => (intro w hSw; (try dsimp only at hSw); go_simp; try with_reducible rfl)
            simp only [Act.put, List.setIfInBounds_toArray, List.set_cons_zero, List.set_cons_succ, List.getElem_toArray, List.getElem_cons_zero, List.getElem_cons_succ]
            refine wpAnyH_take (i := 14) (v := ?v44) rfl (by kernel_rfl) (by kernel_rfl) (by kernel_rfl) (fun _ _ _ h => h) (Or.inl ⟨by rfl, ?hy44⟩) hHeld ?rest44
            case hy44 => (intro w hSw; (try dsimp only at hSw); go_simp; try with_reducible rfl)
            simp only [Act.put, List.setIfInBounds_toArray, List.set_cons_zero, List.set_cons_succ, List.getElem_toArray, List.getElem_cons_zero, List.getElem_cons_succ]
            refine wpAnyH_ready (rs := [15]) (by kernel_rfl) (by simp) (AllReadyH.cons rfl (fun K hK => ?_) AllReadyH.nil)
            have p0 := hE.2.2.1.cell 0
            have f0 := hE.2.2.1.frozen 0
            have hgl := hE.2.2.2.1
            have hEN := hE.set_ 0 (.string (bp ++ ((⟨#[47]⟩ : ByteArray) ++ bj2)))
            go_simp
            refine hK.out _ _ ⟨hEN.1.cell 1, (World.cell?_setCell_other _ _ _ _ (by intro e; exact hne (congrArg Addr.block e))).trans hHeld.2⟩ (fun _ => ?_)
            clear hK K p0 f0
            try simp only [Act.put, List.setIfInBounds_toArray, List.set_cons_zero, List.set_cons_succ, List.getElem_toArray, List.getElem_cons_zero, List.getElem_cons_succ]
            rw [HCAT.out] at hEN ⊢
            have HEN := Lib.hid hEN
            clear hEN hE
            refine wpAnyH_done (by kernel_rfl) ?_ _
            go_wp2_with fail
            go_roundg (nb - (k + 1))
            case measure => omega
            case rel => exact ⟨k + 1, by omega, by omega, by go_num, HEN⟩
          · skip
            go_simp
            go_at_call 25
            refine (HN.out _).mono ?_
            rintro e w' ⟨v, rfl, hv, hb⟩
            have hE := hE.below hb
            obtain ⟨gM, cM, rfl, k0, k1, k2, k3, k4⟩ := HNC.out _ _ _ hv
            have hst := And.intro (hE.1.cell 1) ((hb.cell (World.block_lt_of_cell? _ _ hHeld.2)).trans hHeld.2)
            clear hv hb k4
            go_wp2_with fail
            refine hK.out _ _ hst (fun hHeld => ?_)
            clear hst
            clear hK K
            try simp only [Act.put, List.setIfInBounds_toArray, List.set_cons_zero, List.set_cons_succ, List.getElem_toArray, List.getElem_cons_zero, List.getElem_cons_succ]
            refine wpAnyH_take (i := 8) (v := ?v45) rfl (by kernel_rfl) (by kernel_rfl) (by kernel_rfl) (fun _ _ _ h => h) (Or.inl ⟨by rfl, ?hy45⟩) hHeld ?rest45
            case hy45 => (intro w hSw; (try dsimp only at hSw); go_simp; try with_reducible rfl)
            simp only [Act.put, List.setIfInBounds_toArray, List.set_cons_zero, List.set_cons_succ, List.getElem_toArray, List.getElem_cons_zero, List.getElem_cons_succ]
            refine wpAnyH_ready (rs := [1, 9]) (by kernel_rfl) (by simp) (AllReadyH.cons rfl (fun K hK => ?_) (AllReadyH.cons rfl (fun K hK => ?_) AllReadyH.nil))
            · skip
              have p0 := hE.2.2.1.cell 0
              go_simp
              try go_wp2_with fail
              refine hK.out _ _ hHeld (fun _ => ?_)
              clear hK K p0
              try simp only [Act.put, List.setIfInBounds_toArray, List.set_cons_zero, List.set_cons_succ, List.getElem_toArray, List.getElem_cons_zero, List.getElem_cons_succ]
              refine wpAnyH_ready (rs := [9]) (by kernel_rfl) (by simp) (AllReadyH.cons rfl (fun K hK => ?_) AllReadyH.nil)
              go_simp
              go_at_call 24
              refine (Pj.out _).mono ?_
              rintro e w' ⟨rfl, rfl⟩
              go_wp2_with fail
              refine hK.out _ _ hHeld (fun _ => ?_)
              clear hK K
              try simp only [Act.put, List.setIfInBounds_toArray, List.set_cons_zero, List.set_cons_succ, List.getElem_toArray, List.getElem_cons_zero, List.getElem_cons_succ]
              refine wpAnyH_take (i := 10) (v := ?v46) rfl (by kernel_rfl) (by kernel_rfl) (by kernel_rfl) (fun _ _ _ h => h) (Or.inl ⟨by rfl, ?hy46⟩) hHeld ?rest46
              case hy46 => (intro w hSw; (try dsimp only at hSw); go_simp; try with_reducible rfl)
              simp only [Act.put, List.setIfInBounds_toArray, List.set_cons_zero, List.set_cons_succ, List.getElem_toArray, List.getElem_cons_zero, List.getElem_cons_succ]
              refine wpAnyH_take (i := 11) (v := ?v47) rfl (by kernel_rfl) (by kernel_rfl) (by kernel_rfl) (fun _ _ _ h => h) (Or.inl ⟨by rfl, ?hy47⟩) hHeld ?rest47
              case hy47 => (intro w hSw; (try dsimp only at hSw); go_simp; try with_reducible rfl)
              simp only [Act.put, List.setIfInBounds_toArray, List.set_cons_zero, List.set_cons_succ, List.getElem_toArray, List.getElem_cons_zero, List.getElem_cons_succ]
              refine wpAnyH_take (i := 12) (v := ?v48) rfl (by kernel_rfl) (by kernel_rfl) (by kernel_rfl) (fun _ _ _ h => h) (Or.inl ⟨by rfl, ?hy48⟩) hHeld ?rest48
              case hy48 => (intro w hSw; (try dsimp only at hSw); go_simp; try with_reducible rfl)
              simp only [Act.put, List.setIfInBounds_toArray, List.set_cons_zero, List.set_cons_succ, List.getElem_toArray, List.getElem_cons_zero, List.getElem_cons_succ]
              refine wpAnyH_take (i := 13) (v := ?v49) rfl (by kernel_rfl) (by kernel_rfl) (by kernel_rfl) (fun _ _ _ h => h) (Or.inl ⟨by rfl, ?hy49⟩) hHeld ?rest49
              case hy49 => (intro w hSw; (try dsimp only at hSw); go_simp; try with_reducible rfl)
              simp only [Act.put, List.setIfInBounds_toArray, List.set_cons_zero, List.set_cons_succ, List.getElem_toArray, List.getElem_cons_zero, List.getElem_cons_succ]
              refine wpAnyH_take (i := 14) (v := ?v50) rfl (by kernel_rfl) (by kernel_rfl) (by kernel_rfl) (fun _ _ _ h => h) (Or.inl ⟨by rfl, ?hy50⟩) hHeld ?rest50
              case hy50 => (intro w hSw; (try dsimp only at hSw); go_simp; try with_reducible rfl)
              simp only [Act.put, List.setIfInBounds_toArray, List.set_cons_zero, List.set_cons_succ, List.getElem_toArray, List.getElem_cons_zero, List.getElem_cons_succ]
              refine wpAnyH_ready (rs := [15]) (by kernel_rfl) (by simp) (AllReadyH.cons rfl (fun K hK => ?_) AllReadyH.nil)
              have p0 := hE.2.2.1.cell 0
              have f0 := hE.2.2.1.frozen 0
              have hgl := hE.2.2.2.1
              have hEN := hE.set_ 0 (.string (bp ++ ((⟨#[47]⟩ : ByteArray) ++ bj2)))
              go_simp
              refine hK.out _ _ ⟨hEN.1.cell 1, (World.cell?_setCell_other _ _ _ _ (by intro e; exact hne (congrArg Addr.block e))).trans hHeld.2⟩ (fun _ => ?_)
              clear hK K p0 f0
              try simp only [Act.put, List.setIfInBounds_toArray, List.set_cons_zero, List.set_cons_succ, List.getElem_toArray, List.getElem_cons_zero, List.getElem_cons_succ]
              rw [HCAT.out] at hEN ⊢
              have HEN := Lib.hid hEN
              clear hEN hE
              refine wpAnyH_done (by kernel_rfl) ?_ _
              go_wp2_with fail
              go_roundg (nb - (k + 1))
              case measure => omega
              case rel => exact ⟨k + 1, by omega, by omega, by go_num, HEN⟩
            · skip
              go_simp
              go_at_call 24
              refine (Pj.out _).mono ?_
              rintro e w' ⟨rfl, rfl⟩
              go_wp2_with fail
              refine hK.out _ _ hHeld (fun _ => ?_)
              clear hK K
              try simp only [Act.put, List.setIfInBounds_toArray, List.set_cons_zero, List.set_cons_succ, List.getElem_toArray, List.getElem_cons_zero, List.getElem_cons_succ]
              refine wpAnyH_take (i := 10) (v := ?v51) rfl (by kernel_rfl) (by kernel_rfl) (by kernel_rfl) (fun _ _ _ h => h) (Or.inl ⟨by rfl, ?hy51⟩) hHeld ?rest51
              case hy51 => (intro w hSw; (try dsimp only at hSw); go_simp; try with_reducible rfl)
              simp only [Act.put, List.setIfInBounds_toArray, List.set_cons_zero, List.set_cons_succ, List.getElem_toArray, List.getElem_cons_zero, List.getElem_cons_succ]
              refine wpAnyH_take (i := 11) (v := ?v52) rfl (by kernel_rfl) (by kernel_rfl) (by kernel_rfl) (fun _ _ _ h => h) (Or.inl ⟨by rfl, ?hy52⟩) hHeld ?rest52
              case hy52 => (intro w hSw; (try dsimp only at hSw); go_simp; try with_reducible rfl)
              simp only [Act.put, List.setIfInBounds_toArray, List.set_cons_zero, List.set_cons_succ, List.getElem_toArray, List.getElem_cons_zero, List.getElem_cons_succ]
              refine wpAnyH_take (i := 12) (v := ?v53) rfl (by kernel_rfl) (by kernel_rfl) (by kernel_rfl) (fun _ _ _ h => h) (Or.inl ⟨by rfl, ?hy53⟩) hHeld ?rest53
              case hy53 => (intro w hSw; (try dsimp only at hSw); go_simp; try with_reducible rfl)
              simp only [Act.put, List.setIfInBounds_toArray, List.set_cons_zero, List.set_cons_succ, List.getElem_toArray, List.getElem_cons_zero, List.getElem_cons_succ]
              refine wpAnyH_ready (rs := [1]) (by kernel_rfl) (by simp) (AllReadyH.cons rfl (fun K hK => ?_) AllReadyH.nil)
              have p0 := hE.2.2.1.cell 0
              go_simp
              try go_wp2_with fail
              refine hK.out _ _ hHeld (fun _ => ?_)
              clear hK K p0
              try simp only [Act.put, List.setIfInBounds_toArray, List.set_cons_zero, List.set_cons_succ, List.getElem_toArray, List.getElem_cons_zero, List.getElem_cons_succ]
              refine wpAnyH_take (i := 13) (v := ?v54) rfl (by kernel_rfl) (by kernel_rfl) (by kernel_rfl) (fun _ _ _ h => h) (Or.inl ⟨by rfl, ?hy54⟩) hHeld ?rest54
              case hy54 => (intro w hSw; (try dsimp only at hSw); go_simp; try with_reducible rfl)
              simp only [Act.put, List.setIfInBounds_toArray, List.set_cons_zero, List.set_cons_succ, List.getElem_toArray, List.getElem_cons_zero, List.getElem_cons_succ]
              refine wpAnyH_take (i := 14) (v := ?v55) rfl (by kernel_rfl) (by kernel_rfl) (by kernel_rfl) (fun _ _ _ h => h) (Or.inl ⟨by rfl, ?hy55⟩) hHeld ?rest55
              case hy55 => (intro w hSw; (try dsimp only at hSw); go_simp; try with_reducible rfl)
              simp only [Act.put, List.setIfInBounds_toArray, List.set_cons_zero, List.set_cons_succ, List.getElem_toArray, List.getElem_cons_zero, List.getElem_cons_succ]
              refine wpAnyH_ready (rs := [15]) (by kernel_rfl) (by simp) (AllReadyH.cons rfl (fun K hK => ?_) AllReadyH.nil)
              have p0 := hE.2.2.1.cell 0
              have f0 := hE.2.2.1.frozen 0
              have hgl := hE.2.2.2.1
              have hEN := hE.set_ 0 (.string (bp ++ ((⟨#[47]⟩ : ByteArray) ++ bj2)))
              go_simp
              refine hK.out _ _ ⟨hEN.1.cell 1, (World.cell?_setCell_other _ _ _ _ (by intro e; exact hne (congrArg Addr.block e))).trans hHeld.2⟩ (fun _ => ?_)
              clear hK K p0 f0
              try simp only [Act.put, List.setIfInBounds_toArray, List.set_cons_zero, List.set_cons_succ, List.getElem_toArray, List.getElem_cons_zero, List.getElem_cons_succ]
              rw [HCAT.out] at hEN ⊢
              have HEN := Lib.hid hEN
              clear hEN hE
              refine wpAnyH_done (by kernel_rfl) ?_ _
              go_wp2_with fail
              go_roundg (nb - (k + 1))
              case measure => omega
              case rel => exact ⟨k + 1, by omega, by omega, by go_num, HEN⟩
      · obtain rfl : k = nb := by omega
        obtain ⟨P, hP⟩ : ∃ P, P = entPath r.a k := ⟨_, rfl⟩
        have hPl : (bs P).size ≤ 400 := by rw [bs_size, hP]; exact HEL.out k (by omega)
        have HTS : Hid (∀ W, Calls Tryz.prog 51 #[.string (bs P), .string ⟨#[47]⟩] W fun e w' => e = .returned (.string (bs P)) ∧ W = w') := Lib.hid (fun W => by
          have h := Tryz.strings_TrimSuffix (bs P) ⟨#[47]⟩ W (by omega)
          refine h.mono ?_
          rintro e w' ⟨h1, h2⟩
          refine ⟨?_, h2.symm⟩
          rw [h1, bs_data, show (⟨#[47]⟩ : ByteArray).data.toList = [47] from rfl, hP, trim_ent]
          rfl)
        rw [← hP] at HE
        have HP := Lib.hid hP
        have hE := HE.out
        have p0 := hE.2.2.1.cell 0
        have f0 := hE.2.2.1.frozen 0
        have p1 := hE.2.2.1.cell 1
        have hEN := Lib.hid (hE.set_ 0 (.string (bs P)))
        have d400 : ¬ (400 : Int) < ((bs P).size : Int) := by omega
        clear hP hE
        go_wp2_with fail
        refine (HTS.out _).mono ?_
        rintro e w' ⟨rfl, rfl⟩
        obtain ⟨W9, hW9⟩ : ∃ W9, W9 = wr.setCell ⟨g, 0, none⟩ (.string (bs P)) := ⟨_, rfl⟩
        rw [← hW9] at hEN
        have hEN : Hid (EnSt w r g [.string (bs P), .int .i64 (1 + ik), .string ⟨#[]⟩, .int .i64 m1, .int .i64 m2, .int .i64 m3, .string (bs m4), .string (bs m5), .int .i64 m6, .int .i64 m7, .slice none 0 0] W9) := hEN
        have q1 := hEN.out.2.2.1.cell 1
        have HX : Hid (P = entPath r.a k ∧ (pick r.b 5).toNat = k ∧ pick r.kind 4 = (ik : Int)) := Lib.hid ⟨HP.out, by rw [HNB.out, Int.toNat_natCast], HIK.out⟩
        rcases (show ik = 0 ∨ ik = 1 ∨ ik = 2 ∨ ik = 3 by omega) with rfl | rfl | rfl | rfl
        · have HEQ : Hid (E = ⟨P, 1, [], ⟨m1, m2, m3, m4, m5, m6, m7⟩, Lib.repeatL (cleanS r.text 40) (pick r.b 40).toNat⟩) := Lib.hid (by
            rw [HEP.out]; unfold entP; rw [HX.out.2.1, HX.out.2.2, ← HX.out.1, ← HMM.out]; simp)
          rw [show (1 : Int) + ((0 : Nat) : Int) = 1 from rfl] at q1 p1 hEN
          obtain ⟨i40, hi40, b40⟩ := pick_nat r.b 40 (by omega)
          have hi40 : pick r.b 40 = (i40 : Int) := hi40
          have P40 := Lib.hid (fun w => picked_any r.b 40 HOK.out.b (by omega) (by omega) w)
          rw [hi40] at P40
          have hcl := cleanS_length r.text 40
          have h40 : (cleanS r.text 40).length * i40 ≤ 40 * 40 := Nat.mul_le_mul hcl (by omega)
          have C40 : Hid (∀ W, ML W → Calls Tryz.prog 28 #[.string (bs r.text), .int .i64 40] W fun e w' => e = .returned (.string (bs (cleanS r.text 40))) ∧ Below W.heap.size W w') := Lib.hid (fun W hm => clean_any r.text 40 W (by have := HOK.out.text; omega) (by omega) hm)
          have HRp : Hid (∀ W, Calls Tryz.prog 27 #[.string (bs (cleanS r.text 40)), .int .i64 i40] W fun e w' => e = .returned (.string (bs (Lib.repeatL (cleanS r.text 40) i40))) ∧ Below W.heap.size W w') := Lib.hid (fun W => Repeat_of _ _ W (by omega) (by omega))
          obtain ⟨D, hD⟩ : ∃ D, D = Lib.repeatL (cleanS r.text 40) i40 := ⟨_, rfl⟩
          have hDl : D.length ≤ 1600 := by
            have h1 : (Lib.repeatL (cleanS r.text 40) i40).length = (cleanS r.text 40).length * i40 := (Lib.repeatL_length _ _).trans (Nat.mul_comm _ _)
            rw [hD]; omega
          rw [hi40, Int.toNat_natCast, ← hD] at HEQ
          rw [← hD] at HRp
          generalize cleanS r.text 40 = CS at *
          clear hi40 hcl h40 hD
          go_wp2_with fail
          rw [← hW9]
          clear hW9 p0 f0 p1 q1
          refine wp_region_held_drew (S := fun W => W.cell? ⟨w.heap.size, 2, none⟩ = some (.int .i64 r.b) ∧ W.cell? ⟨w.heap.size, 3, none⟩ = some (.string (bs r.text))) (by kernel_rfl) ⟨hEN.out.1.cell 2, hEN.out.1.cell 3⟩ (fun hHeld => ?_)
          have hE : EnSt w r g [.string (bs P), .int .i64 1, .string ⟨#[]⟩, .int .i64 m1, .int .i64 m2, .int .i64 m3, .string (bs m4), .string (bs m5), .int .i64 m6, .int .i64 m7, .slice none 0 0] W9.drew := hEN.out.below (Below.refl _ _).drew
          generalize W9.drew = Wd at hHeld hE ⊢
          refine wpAnyH_take (i := 0) (v := ?v56) rfl (by kernel_rfl) (by kernel_rfl) (by kernel_rfl) (fun _ _ _ h => h) (Or.inl ⟨by rfl, ?hy56⟩) hHeld ?rest56
          case hy56 => (intro w hSw; (try dsimp only at hSw); go_simp; try with_reducible rfl)
          simp only [Act.put, List.setIfInBounds_toArray, List.set_cons_zero, List.set_cons_succ, List.getElem_toArray, List.getElem_cons_zero]
          refine wpAnyH_take (i := 1) (v := ?v57) rfl (by kernel_rfl) (by kernel_rfl) (by kernel_rfl) (fun _ _ _ h => h) (Or.inl ⟨by rfl, ?hy57⟩) hHeld ?rest57
          case hy57 => (intro w hSw; (try dsimp only at hSw); go_simp; try with_reducible rfl)
          simp only [Act.put, List.setIfInBounds_toArray, List.set_cons_zero, List.set_cons_succ, List.getElem_toArray, List.getElem_cons_zero, List.getElem_cons_succ]
          refine wpAnyH_take (i := 3) (v := ?v58) rfl (by kernel_rfl) (by kernel_rfl) (by kernel_rfl) (fun _ _ _ h => h) (Or.inl ⟨by rfl, ?hy58⟩) hHeld ?rest58
          case hy58 => (intro w hSw; (try dsimp only at hSw); go_simp; try with_reducible rfl)
          simp only [Act.put, List.setIfInBounds_toArray, List.set_cons_zero, List.set_cons_succ, List.getElem_toArray, List.getElem_cons_zero, List.getElem_cons_succ]
          refine wpAnyH_take (i := 4) (v := ?v59) rfl (by kernel_rfl) (by kernel_rfl) (by kernel_rfl) (fun _ _ _ h => h) (Or.inl ⟨by rfl, ?hy59⟩) hHeld ?rest59
          case hy59 => (intro w hSw; (try dsimp only at hSw); go_simp; try with_reducible rfl)
          simp only [Act.put, List.setIfInBounds_toArray, List.set_cons_zero, List.set_cons_succ, List.getElem_toArray, List.getElem_cons_zero, List.getElem_cons_succ]
          refine wpAnyH_ready (rs := [2]) (by kernel_rfl) (by simp) (AllReadyH.cons rfl (fun K hK => ?_) AllReadyH.nil)
          go_simp
          go_at_call 28
          refine (C40.out _ (HML.out _ hE.2.2.2.2)).mono ?_
          rintro e w' ⟨rfl, hb⟩
          have hE := hE.below hb
          clear hb
          go_wp2_with fail
          refine hK.out _ _ ⟨hE.1.cell 2, hE.1.cell 3⟩ (fun hHeld => ?_)
          clear hK K
          try simp only [Act.put, List.setIfInBounds_toArray, List.set_cons_zero, List.set_cons_succ, List.getElem_toArray, List.getElem_cons_zero, List.getElem_cons_succ]
          refine wpAnyH_ready (rs := [5]) (by kernel_rfl) (by simp) (AllReadyH.cons rfl (fun K hK => ?_) AllReadyH.nil)
          go_simp
          go_at_call 24
          refine (P40.out _).mono ?_
          rintro e w' ⟨rfl, rfl⟩
          go_wp2_with fail
          refine hK.out _ _ ⟨hE.1.cell 2, hE.1.cell 3⟩ (fun hHeld => ?_)
          clear hK K
          try simp only [Act.put, List.setIfInBounds_toArray, List.set_cons_zero, List.set_cons_succ, List.getElem_toArray, List.getElem_cons_zero, List.getElem_cons_succ]
          refine wpAnyH_ready (rs := [6]) (by kernel_rfl) (by simp) (AllReadyH.cons rfl (fun K hK => ?_) AllReadyH.nil)
          go_simp
          go_at_call 27
          refine (HRp.out _).mono ?_
          rintro e w' ⟨rfl, hb⟩
          have hE := hE.below hb
          clear hb
          go_wp2_with fail
          refine hK.out _ _ ⟨hE.1.cell 2, hE.1.cell 3⟩ (fun hHeld => ?_)
          clear hK K
          try simp only [Act.put, List.setIfInBounds_toArray, List.set_cons_zero, List.set_cons_succ, List.getElem_toArray, List.getElem_cons_zero, List.getElem_cons_succ]
          refine wpAnyH_ready (rs := [7]) (by kernel_rfl) (by simp) (AllReadyH.cons rfl (fun K hK => ?_) AllReadyH.nil)
          refine step_conv rfl _ rfl D rfl (by omega) (fun v wv hd hb => ?_)
          have hb0 := hE.2.2.2.2.size
          have hE := hE.below hb
          obtain ⟨A, c, rfl, -⟩ := id hd
          clear hb
          refine hK.out _ _ ⟨hE.1.cell 2, hE.1.cell 3⟩ (fun hHeld => ?_)
          clear hK K
          try simp only [Act.put, List.setIfInBounds_toArray, List.set_cons_zero, List.set_cons_succ, List.getElem_toArray, List.getElem_cons_zero, List.getElem_cons_succ]
          refine wpAnyH_take (i := 8) (v := ?v60) rfl (by kernel_rfl) (by kernel_rfl) (by kernel_rfl) (fun _ _ _ h => h) (Or.inl ⟨by rfl, ?hy60⟩) hHeld ?rest60
          case hy60 => (intro w hSw; (try dsimp only at hSw); go_simp; try with_reducible rfl)
          simp only [Act.put, List.setIfInBounds_toArray, List.set_cons_zero, List.set_cons_succ, List.getElem_toArray, List.getElem_cons_zero, List.getElem_cons_succ]
          refine wpAnyH_ready (rs := [9]) (by kernel_rfl) (by simp) (AllReadyH.cons rfl (fun K hK => ?_) AllReadyH.nil)
          have p10 := hE.2.2.1.cell 10
          have f10 := hE.2.2.1.frozen 10
          have hEF := hE.set_ 10 (.slice A D.length c)
          have hDF : DataAt (wv.setCell ⟨g, 10, none⟩ (.slice A D.length c)) w.heap.size (.slice A D.length c) D := (hd.mono (by omega)).kept (U8Kept.set_ hE.2.2.1 (by decide) 10 _)
          go_simp
          refine hK.out _ _ ⟨hEF.1.cell 2, hEF.1.cell 3⟩ (fun _ => ?_)
          clear hK K p10 f10
          try simp only [Act.put, List.setIfInBounds_toArray, List.set_cons_zero, List.set_cons_succ, List.getElem_toArray, List.getElem_cons_zero, List.getElem_cons_succ]
          obtain ⟨WF, hWF⟩ : ∃ WF, WF = wv.setCell ⟨g, 10, none⟩ (.slice A D.length c) := ⟨_, rfl⟩
          rw [← hWF] at hEF hDF ⊢
          clear hWF hE hd hHeld
          have hF : EnSt w r g [.string (bs P), .int .i64 1, .string ⟨#[]⟩, .int .i64 m1, .int .i64 m2, .int .i64 m3, .string (bs m4), .string (bs m5), .int .i64 m6, .int .i64 m7, .slice A D.length c] WF := hEF
          have HF := Lib.hid hF
          have HDF := Lib.hid hDF
          refine wpAnyH_done (by kernel_rfl) ?_ _
          have p0 := hF.2.2.1.cell 0
          have p1 := hF.2.2.1.cell 1
          have p2 := hF.2.2.1.cell 2
          have p3 := hF.2.2.1.cell 3
          have p4 := hF.2.2.1.cell 4
          have p5 := hF.2.2.1.cell 5
          have p6 := hF.2.2.1.cell 6
          have p7 := hF.2.2.1.cell 7
          have p8 := hF.2.2.1.cell 8
          have p9 := hF.2.2.1.cell 9
          have p10 := hF.2.2.1.cell 10
          have z0 : WF.cell? ⟨w.heap.size + 1, 0, none⟩ = some (.string ⟨#[]⟩) := hF.2.1.cell 0; have f0 := hF.2.1.frozen 0
          have z1 : WF.cell? ⟨w.heap.size + 1, 1, none⟩ = some (.int .i64 0) := hF.2.1.cell 1; have f1 := hF.2.1.frozen 1
          have z2 : WF.cell? ⟨w.heap.size + 1, 2, none⟩ = some (.string ⟨#[]⟩) := hF.2.1.cell 2; have f2 := hF.2.1.frozen 2
          have z3 : WF.cell? ⟨w.heap.size + 1, 3, none⟩ = some (.int .i64 0) := hF.2.1.cell 3; have f3 := hF.2.1.frozen 3
          have z4 : WF.cell? ⟨w.heap.size + 1, 4, none⟩ = some (.int .i64 0) := hF.2.1.cell 4; have f4 := hF.2.1.frozen 4
          have z5 : WF.cell? ⟨w.heap.size + 1, 5, none⟩ = some (.int .i64 0) := hF.2.1.cell 5; have f5 := hF.2.1.frozen 5
          have z6 : WF.cell? ⟨w.heap.size + 1, 6, none⟩ = some (.string ⟨#[]⟩) := hF.2.1.cell 6; have f6 := hF.2.1.frozen 6
          have z7 : WF.cell? ⟨w.heap.size + 1, 7, none⟩ = some (.string ⟨#[]⟩) := hF.2.1.cell 7; have f7 := hF.2.1.frozen 7
          have z8 : WF.cell? ⟨w.heap.size + 1, 8, none⟩ = some (.int .i64 0) := hF.2.1.cell 8; have f8 := hF.2.1.frozen 8
          have z9 : WF.cell? ⟨w.heap.size + 1, 9, none⟩ = some (.int .i64 0) := hF.2.1.cell 9; have f9 := hF.2.1.frozen 9
          have z10 : WF.cell? ⟨w.heap.size + 1, 10, none⟩ = some (.slice none 0 0) := hF.2.1.cell 10; have f10 := hF.2.1.frozen 10
          clear hEF hDF hF
          go_wp2_with fail
          clear p0 z0 f0 p1 z1 f1 p2 z2 f2 p3 z3 f3 p4 z4 f4 p5 z5 f5 p6 z6 f6 p7 z7 f7 p8 z8 f8 p9 z9 f9 p10 z10 f10
          have hHB : HasBlk WF (w.heap.size + 1) 58 11 := ⟨_, rfl, HF.out.2.1⟩
          obtain ⟨WE, hWE⟩ : ∃ WE, WE = setAll WF (w.heap.size + 1) 0 [(.string (bs P)), (.int .i64 1), (.string ⟨#[]⟩), (.int .i64 m1), (.int .i64 m2), (.int .i64 m3), (.string (bs m4)), (.string (bs m5)), (.int .i64 m6), (.int .i64 m7), (.slice A D.length c)] := ⟨_, rfl⟩
          have hk := hHB.fill [(.string (bs P)), (.int .i64 1), (.string ⟨#[]⟩), (.int .i64 m1), (.int .i64 m2), (.int .i64 m3), (.string (bs m4)), (.string (bs m5)), (.int .i64 m6), (.int .i64 m7), (.slice A D.length c)] rfl
          have hDE := HDF.out.kept (U8Kept.setAll (by decide) [(.string (bs P)), (.int .i64 1), (.string ⟨#[]⟩), (.int .i64 m1), (.int .i64 m2), (.int .i64 m3), (.string (bs m4)), (.string (bs m5)), (.int .i64 m6), (.int .i64 m7), (.slice A D.length c)] 0 hHB)
          have hBE := Below.setAll (B := w.heap.size) (g := w.heap.size + 1) (by omega) [(.string (bs P)), (.int .i64 1), (.string ⟨#[]⟩), (.int .i64 m1), (.int .i64 m2), (.int .i64 m3), (.string (bs m4)), (.string (bs m5)), (.int .i64 m6), (.int .i64 m7), (.slice A D.length c)] 0 HF.out.2.2.2.2
          rw [← hWE] at hk hDE hBE
          simp only [setAll, Nat.zero_add, Nat.reduceAdd] at hWE
          rw [← hWE]
          clear hWE hHB
          refine bodyPost_ret (results_cell_row rfl _ _ (w.heap.size + 1) 58 _ (0, 0) _ rfl hk Tryz.underlying58 rfl (by kernel_rfl)) rfl ?_
          rw [HEQ.out]
          exact ⟨_, _, rfl, hDE, hBE⟩
        · have HEQ : Hid (E = ⟨P, 2, [], ⟨m1, m2, m3, m4, m5, m6, m7⟩, []⟩) := Lib.hid (by
            rw [HEP.out]; unfold entP; rw [HX.out.2.1, HX.out.2.2, ← HX.out.1, ← HMM.out]; simp)
          rw [show (1 : Int) + ((1 : Nat) : Int) = 2 from rfl] at q1 p1 hEN
          go_upto_region 16 with fail
          rw [← hW9]
          clear hW9 p0 f0 p1 q1
          have hF := hEN.out
          have HF := Lib.hid hF
          have HDF := Lib.hid (DataAt.nil W9 w.heap.size)
          have p0 := hF.2.2.1.cell 0
          have p1 := hF.2.2.1.cell 1
          have p2 := hF.2.2.1.cell 2
          have p3 := hF.2.2.1.cell 3
          have p4 := hF.2.2.1.cell 4
          have p5 := hF.2.2.1.cell 5
          have p6 := hF.2.2.1.cell 6
          have p7 := hF.2.2.1.cell 7
          have p8 := hF.2.2.1.cell 8
          have p9 := hF.2.2.1.cell 9
          have p10 := hF.2.2.1.cell 10
          have z0 : W9.cell? ⟨w.heap.size + 1, 0, none⟩ = some (.string ⟨#[]⟩) := hF.2.1.cell 0; have f0 := hF.2.1.frozen 0
          have z1 : W9.cell? ⟨w.heap.size + 1, 1, none⟩ = some (.int .i64 0) := hF.2.1.cell 1; have f1 := hF.2.1.frozen 1
          have z2 : W9.cell? ⟨w.heap.size + 1, 2, none⟩ = some (.string ⟨#[]⟩) := hF.2.1.cell 2; have f2 := hF.2.1.frozen 2
          have z3 : W9.cell? ⟨w.heap.size + 1, 3, none⟩ = some (.int .i64 0) := hF.2.1.cell 3; have f3 := hF.2.1.frozen 3
          have z4 : W9.cell? ⟨w.heap.size + 1, 4, none⟩ = some (.int .i64 0) := hF.2.1.cell 4; have f4 := hF.2.1.frozen 4
          have z5 : W9.cell? ⟨w.heap.size + 1, 5, none⟩ = some (.int .i64 0) := hF.2.1.cell 5; have f5 := hF.2.1.frozen 5
          have z6 : W9.cell? ⟨w.heap.size + 1, 6, none⟩ = some (.string ⟨#[]⟩) := hF.2.1.cell 6; have f6 := hF.2.1.frozen 6
          have z7 : W9.cell? ⟨w.heap.size + 1, 7, none⟩ = some (.string ⟨#[]⟩) := hF.2.1.cell 7; have f7 := hF.2.1.frozen 7
          have z8 : W9.cell? ⟨w.heap.size + 1, 8, none⟩ = some (.int .i64 0) := hF.2.1.cell 8; have f8 := hF.2.1.frozen 8
          have z9 : W9.cell? ⟨w.heap.size + 1, 9, none⟩ = some (.int .i64 0) := hF.2.1.cell 9; have f9 := hF.2.1.frozen 9
          have z10 : W9.cell? ⟨w.heap.size + 1, 10, none⟩ = some (.slice none 0 0) := hF.2.1.cell 10; have f10 := hF.2.1.frozen 10
          clear hF
          go_wp2_with fail
          clear p0 z0 f0 p1 z1 f1 p2 z2 f2 p3 z3 f3 p4 z4 f4 p5 z5 f5 p6 z6 f6 p7 z7 f7 p8 z8 f8 p9 z9 f9 p10 z10 f10
          have hHB : HasBlk W9 (w.heap.size + 1) 58 11 := ⟨_, rfl, HF.out.2.1⟩
          obtain ⟨WE, hWE⟩ : ∃ WE, WE = setAll W9 (w.heap.size + 1) 0 [(.string (bs P)), (.int .i64 2), (.string ⟨#[]⟩), (.int .i64 m1), (.int .i64 m2), (.int .i64 m3), (.string (bs m4)), (.string (bs m5)), (.int .i64 m6), (.int .i64 m7), (.slice none 0 0)] := ⟨_, rfl⟩
          have hk := hHB.fill [(.string (bs P)), (.int .i64 2), (.string ⟨#[]⟩), (.int .i64 m1), (.int .i64 m2), (.int .i64 m3), (.string (bs m4)), (.string (bs m5)), (.int .i64 m6), (.int .i64 m7), (.slice none 0 0)] rfl
          have hDE := HDF.out.kept (U8Kept.setAll (by decide) [(.string (bs P)), (.int .i64 2), (.string ⟨#[]⟩), (.int .i64 m1), (.int .i64 m2), (.int .i64 m3), (.string (bs m4)), (.string (bs m5)), (.int .i64 m6), (.int .i64 m7), (.slice none 0 0)] 0 hHB)
          have hBE := Below.setAll (B := w.heap.size) (g := w.heap.size + 1) (by omega) [(.string (bs P)), (.int .i64 2), (.string ⟨#[]⟩), (.int .i64 m1), (.int .i64 m2), (.int .i64 m3), (.string (bs m4)), (.string (bs m5)), (.int .i64 m6), (.int .i64 m7), (.slice none 0 0)] 0 HF.out.2.2.2.2
          rw [← hWE] at hk hDE hBE
          simp only [setAll, Nat.zero_add, Nat.reduceAdd] at hWE
          rw [← hWE]
          clear hWE hHB
          refine bodyPost_ret (results_cell_row rfl _ _ (w.heap.size + 1) 58 _ (0, 0) _ rfl hk Tryz.underlying58 rfl (by kernel_rfl)) rfl ?_
          rw [HEQ.out]
          exact ⟨_, _, rfl, hDE, hBE⟩
        · have HEQ : Hid (E = ⟨P, 3, 116 :: List.replicate (pick r.b 150).toNat 117, ⟨m1, m2, m3, m4, m5, m6, m7⟩, []⟩) := Lib.hid (by
            rw [HEP.out]; unfold entP; rw [HX.out.2.1, HX.out.2.2, ← HX.out.1, ← HMM.out]; simp)
          rw [show (1 : Int) + ((2 : Nat) : Int) = 3 from rfl] at q1 p1 hEN
          obtain ⟨i150, hi150, b150⟩ := pick_nat r.b 150 (by omega)
          have hi150 : pick r.b 150 = (i150 : Int) := hi150
          have P150 := Lib.hid (fun w => picked_any r.b 150 HOK.out.b (by omega) (by omega) w)
          rw [hi150] at P150
          rw [hi150, Int.toNat_natCast] at HEQ
          have HRp : Hid (∀ W, Calls Tryz.prog 27 #[.string ⟨#[117]⟩, .int .i64 i150] W fun e w' => e = .returned (.string (bs (List.replicate i150 117))) ∧ Below W.heap.size W w') := Lib.hid (fun W => by
            have h := Repeat_of [117] i150 W (by simp; omega) (by omega)
            rw [repeatL_one] at h
            exact h)
          have HCT : Hid ((⟨#[116]⟩ : ByteArray) ++ bs (List.replicate i150 117) = bs (116 :: List.replicate i150 117)) := Lib.hid (bs_append [116] _)
          have nk : ¬ 9223372036854775807 < 1 + (bs (List.replicate i150 117)).size := by rw [bs_size, List.length_replicate]; omega
          obtain ⟨T, hT⟩ : ∃ T, T = bs (List.replicate i150 117) := ⟨_, rfl⟩
          rw [← hT] at HRp HCT nk
          clear hi150 hT
          have qb := hEN.out.1.cell 2
          go_upto_region 15 with fail
          rw [← hW9]
          clear hW9 p0 f0 p1 q1
          go_wp2_with fail
          refine (P150.out _).mono ?_
          rintro e w' ⟨rfl, rfl⟩
          clear qb
          go_wp2_with fail
          refine (HRp.out _).mono ?_
          rintro e w5 ⟨rfl, hb⟩
          have hE := hEN.out.below hb
          have p2 := hE.2.2.1.cell 2
          have f2 := hE.2.2.1.frozen 2
          have hEF := hE.set_ 2 (.string ((⟨#[116]⟩ : ByteArray) ++ T))
          clear hb
          go_upto_region 16 with fail
          clear p2 f2
          rw [HCT.out] at hEF ⊢
          obtain ⟨WF, hWF⟩ : ∃ WF, WF = w5.setCell ⟨g, 2, none⟩ (.string (bs (116 :: List.replicate i150 117))) := ⟨_, rfl⟩
          rw [← hWF] at hEF ⊢
          clear hWF hE
          have hF : EnSt w r g [.string (bs P), .int .i64 3, .string (bs (116 :: List.replicate i150 117)), .int .i64 m1, .int .i64 m2, .int .i64 m3, .string (bs m4), .string (bs m5), .int .i64 m6, .int .i64 m7, .slice none 0 0] WF := hEF
          have HF := Lib.hid hF
          have HDF := Lib.hid (DataAt.nil WF w.heap.size)
          have p0 := hF.2.2.1.cell 0
          have p1 := hF.2.2.1.cell 1
          have p2 := hF.2.2.1.cell 2
          have p3 := hF.2.2.1.cell 3
          have p4 := hF.2.2.1.cell 4
          have p5 := hF.2.2.1.cell 5
          have p6 := hF.2.2.1.cell 6
          have p7 := hF.2.2.1.cell 7
          have p8 := hF.2.2.1.cell 8
          have p9 := hF.2.2.1.cell 9
          have p10 := hF.2.2.1.cell 10
          have z0 : WF.cell? ⟨w.heap.size + 1, 0, none⟩ = some (.string ⟨#[]⟩) := hF.2.1.cell 0; have f0 := hF.2.1.frozen 0
          have z1 : WF.cell? ⟨w.heap.size + 1, 1, none⟩ = some (.int .i64 0) := hF.2.1.cell 1; have f1 := hF.2.1.frozen 1
          have z2 : WF.cell? ⟨w.heap.size + 1, 2, none⟩ = some (.string ⟨#[]⟩) := hF.2.1.cell 2; have f2 := hF.2.1.frozen 2
          have z3 : WF.cell? ⟨w.heap.size + 1, 3, none⟩ = some (.int .i64 0) := hF.2.1.cell 3; have f3 := hF.2.1.frozen 3
          have z4 : WF.cell? ⟨w.heap.size + 1, 4, none⟩ = some (.int .i64 0) := hF.2.1.cell 4; have f4 := hF.2.1.frozen 4
          have z5 : WF.cell? ⟨w.heap.size + 1, 5, none⟩ = some (.int .i64 0) := hF.2.1.cell 5; have f5 := hF.2.1.frozen 5
          have z6 : WF.cell? ⟨w.heap.size + 1, 6, none⟩ = some (.string ⟨#[]⟩) := hF.2.1.cell 6; have f6 := hF.2.1.frozen 6
          have z7 : WF.cell? ⟨w.heap.size + 1, 7, none⟩ = some (.string ⟨#[]⟩) := hF.2.1.cell 7; have f7 := hF.2.1.frozen 7
          have z8 : WF.cell? ⟨w.heap.size + 1, 8, none⟩ = some (.int .i64 0) := hF.2.1.cell 8; have f8 := hF.2.1.frozen 8
          have z9 : WF.cell? ⟨w.heap.size + 1, 9, none⟩ = some (.int .i64 0) := hF.2.1.cell 9; have f9 := hF.2.1.frozen 9
          have z10 : WF.cell? ⟨w.heap.size + 1, 10, none⟩ = some (.slice none 0 0) := hF.2.1.cell 10; have f10 := hF.2.1.frozen 10
          clear hEF hF
          go_wp2_with fail
          clear p0 z0 f0 p1 z1 f1 p2 z2 f2 p3 z3 f3 p4 z4 f4 p5 z5 f5 p6 z6 f6 p7 z7 f7 p8 z8 f8 p9 z9 f9 p10 z10 f10
          have hHB : HasBlk WF (w.heap.size + 1) 58 11 := ⟨_, rfl, HF.out.2.1⟩
          obtain ⟨WE, hWE⟩ : ∃ WE, WE = setAll WF (w.heap.size + 1) 0 [(.string (bs P)), (.int .i64 3), (.string (bs (116 :: List.replicate i150 117))), (.int .i64 m1), (.int .i64 m2), (.int .i64 m3), (.string (bs m4)), (.string (bs m5)), (.int .i64 m6), (.int .i64 m7), (.slice none 0 0)] := ⟨_, rfl⟩
          have hk := hHB.fill [(.string (bs P)), (.int .i64 3), (.string (bs (116 :: List.replicate i150 117))), (.int .i64 m1), (.int .i64 m2), (.int .i64 m3), (.string (bs m4)), (.string (bs m5)), (.int .i64 m6), (.int .i64 m7), (.slice none 0 0)] rfl
          have hDE := HDF.out.kept (U8Kept.setAll (by decide) [(.string (bs P)), (.int .i64 3), (.string (bs (116 :: List.replicate i150 117))), (.int .i64 m1), (.int .i64 m2), (.int .i64 m3), (.string (bs m4)), (.string (bs m5)), (.int .i64 m6), (.int .i64 m7), (.slice none 0 0)] 0 hHB)
          have hBE := Below.setAll (B := w.heap.size) (g := w.heap.size + 1) (by omega) [(.string (bs P)), (.int .i64 3), (.string (bs (116 :: List.replicate i150 117))), (.int .i64 m1), (.int .i64 m2), (.int .i64 m3), (.string (bs m4)), (.string (bs m5)), (.int .i64 m6), (.int .i64 m7), (.slice none 0 0)] 0 HF.out.2.2.2.2
          rw [← hWE] at hk hDE hBE
          simp only [setAll, Nat.zero_add, Nat.reduceAdd] at hWE
          rw [← hWE]
          clear hWE hHB
          refine bodyPost_ret (results_cell_row rfl _ _ (w.heap.size + 1) 58 _ (0, 0) _ rfl hk Tryz.underlying58 rfl (by kernel_rfl)) rfl ?_
          rw [HEQ.out]
          exact ⟨_, _, rfl, hDE, hBE⟩
        · have HEQ : Hid (E = ⟨P, 4, 116 :: List.replicate (pick r.b 150).toNat 117, ⟨m1, m2, m3, m4, m5, m6, m7⟩, []⟩) := Lib.hid (by
            rw [HEP.out]; unfold entP; rw [HX.out.2.1, HX.out.2.2, ← HX.out.1, ← HMM.out]; simp)
          rw [show (1 : Int) + ((3 : Nat) : Int) = 4 from rfl] at q1 p1 hEN
          obtain ⟨i150, hi150, b150⟩ := pick_nat r.b 150 (by omega)
          have hi150 : pick r.b 150 = (i150 : Int) := hi150
          have P150 := Lib.hid (fun w => picked_any r.b 150 HOK.out.b (by omega) (by omega) w)
          rw [hi150] at P150
          rw [hi150, Int.toNat_natCast] at HEQ
          have HRp : Hid (∀ W, Calls Tryz.prog 27 #[.string ⟨#[117]⟩, .int .i64 i150] W fun e w' => e = .returned (.string (bs (List.replicate i150 117))) ∧ Below W.heap.size W w') := Lib.hid (fun W => by
            have h := Repeat_of [117] i150 W (by simp; omega) (by omega)
            rw [repeatL_one] at h
            exact h)
          have HCT : Hid ((⟨#[116]⟩ : ByteArray) ++ bs (List.replicate i150 117) = bs (116 :: List.replicate i150 117)) := Lib.hid (bs_append [116] _)
          have nk : ¬ 9223372036854775807 < 1 + (bs (List.replicate i150 117)).size := by rw [bs_size, List.length_replicate]; omega
          obtain ⟨T, hT⟩ : ∃ T, T = bs (List.replicate i150 117) := ⟨_, rfl⟩
          rw [← hT] at HRp HCT nk
          clear hi150 hT
          have qb := hEN.out.1.cell 2
          go_upto_region 15 with fail
          rw [← hW9]
          clear hW9 p0 f0 p1 q1
          go_wp2_with fail
          refine (P150.out _).mono ?_
          rintro e w' ⟨rfl, rfl⟩
          clear qb
          go_wp2_with fail
          refine (HRp.out _).mono ?_
          rintro e w5 ⟨rfl, hb⟩
          have hE := hEN.out.below hb
          have p2 := hE.2.2.1.cell 2
          have f2 := hE.2.2.1.frozen 2
          have hEF := hE.set_ 2 (.string ((⟨#[116]⟩ : ByteArray) ++ T))
          clear hb
          go_upto_region 16 with fail
          clear p2 f2
          rw [HCT.out] at hEF ⊢
          obtain ⟨WF, hWF⟩ : ∃ WF, WF = w5.setCell ⟨g, 2, none⟩ (.string (bs (116 :: List.replicate i150 117))) := ⟨_, rfl⟩
          rw [← hWF] at hEF ⊢
          clear hWF hE
          have hF : EnSt w r g [.string (bs P), .int .i64 4, .string (bs (116 :: List.replicate i150 117)), .int .i64 m1, .int .i64 m2, .int .i64 m3, .string (bs m4), .string (bs m5), .int .i64 m6, .int .i64 m7, .slice none 0 0] WF := hEF
          have HF := Lib.hid hF
          have HDF := Lib.hid (DataAt.nil WF w.heap.size)
          have p0 := hF.2.2.1.cell 0
          have p1 := hF.2.2.1.cell 1
          have p2 := hF.2.2.1.cell 2
          have p3 := hF.2.2.1.cell 3
          have p4 := hF.2.2.1.cell 4
          have p5 := hF.2.2.1.cell 5
          have p6 := hF.2.2.1.cell 6
          have p7 := hF.2.2.1.cell 7
          have p8 := hF.2.2.1.cell 8
          have p9 := hF.2.2.1.cell 9
          have p10 := hF.2.2.1.cell 10
          have z0 : WF.cell? ⟨w.heap.size + 1, 0, none⟩ = some (.string ⟨#[]⟩) := hF.2.1.cell 0; have f0 := hF.2.1.frozen 0
          have z1 : WF.cell? ⟨w.heap.size + 1, 1, none⟩ = some (.int .i64 0) := hF.2.1.cell 1; have f1 := hF.2.1.frozen 1
          have z2 : WF.cell? ⟨w.heap.size + 1, 2, none⟩ = some (.string ⟨#[]⟩) := hF.2.1.cell 2; have f2 := hF.2.1.frozen 2
          have z3 : WF.cell? ⟨w.heap.size + 1, 3, none⟩ = some (.int .i64 0) := hF.2.1.cell 3; have f3 := hF.2.1.frozen 3
          have z4 : WF.cell? ⟨w.heap.size + 1, 4, none⟩ = some (.int .i64 0) := hF.2.1.cell 4; have f4 := hF.2.1.frozen 4
          have z5 : WF.cell? ⟨w.heap.size + 1, 5, none⟩ = some (.int .i64 0) := hF.2.1.cell 5; have f5 := hF.2.1.frozen 5
          have z6 : WF.cell? ⟨w.heap.size + 1, 6, none⟩ = some (.string ⟨#[]⟩) := hF.2.1.cell 6; have f6 := hF.2.1.frozen 6
          have z7 : WF.cell? ⟨w.heap.size + 1, 7, none⟩ = some (.string ⟨#[]⟩) := hF.2.1.cell 7; have f7 := hF.2.1.frozen 7
          have z8 : WF.cell? ⟨w.heap.size + 1, 8, none⟩ = some (.int .i64 0) := hF.2.1.cell 8; have f8 := hF.2.1.frozen 8
          have z9 : WF.cell? ⟨w.heap.size + 1, 9, none⟩ = some (.int .i64 0) := hF.2.1.cell 9; have f9 := hF.2.1.frozen 9
          have z10 : WF.cell? ⟨w.heap.size + 1, 10, none⟩ = some (.slice none 0 0) := hF.2.1.cell 10; have f10 := hF.2.1.frozen 10
          clear hEF hF
          go_wp2_with fail
          clear p0 z0 f0 p1 z1 f1 p2 z2 f2 p3 z3 f3 p4 z4 f4 p5 z5 f5 p6 z6 f6 p7 z7 f7 p8 z8 f8 p9 z9 f9 p10 z10 f10
          have hHB : HasBlk WF (w.heap.size + 1) 58 11 := ⟨_, rfl, HF.out.2.1⟩
          obtain ⟨WE, hWE⟩ : ∃ WE, WE = setAll WF (w.heap.size + 1) 0 [(.string (bs P)), (.int .i64 4), (.string (bs (116 :: List.replicate i150 117))), (.int .i64 m1), (.int .i64 m2), (.int .i64 m3), (.string (bs m4)), (.string (bs m5)), (.int .i64 m6), (.int .i64 m7), (.slice none 0 0)] := ⟨_, rfl⟩
          have hk := hHB.fill [(.string (bs P)), (.int .i64 4), (.string (bs (116 :: List.replicate i150 117))), (.int .i64 m1), (.int .i64 m2), (.int .i64 m3), (.string (bs m4)), (.string (bs m5)), (.int .i64 m6), (.int .i64 m7), (.slice none 0 0)] rfl
          have hDE := HDF.out.kept (U8Kept.setAll (by decide) [(.string (bs P)), (.int .i64 4), (.string (bs (116 :: List.replicate i150 117))), (.int .i64 m1), (.int .i64 m2), (.int .i64 m3), (.string (bs m4)), (.string (bs m5)), (.int .i64 m6), (.int .i64 m7), (.slice none 0 0)] 0 hHB)
          have hBE := Below.setAll (B := w.heap.size) (g := w.heap.size + 1) (by omega) [(.string (bs P)), (.int .i64 4), (.string (bs (116 :: List.replicate i150 117))), (.int .i64 m1), (.int .i64 m2), (.int .i64 m3), (.string (bs m4)), (.string (bs m5)), (.int .i64 m6), (.int .i64 m7), (.slice none 0 0)] 0 HF.out.2.2.2.2
          rw [← hWE] at hk hDE hBE
          simp only [setAll, Nat.zero_add, Nat.reduceAdd] at hWE
          rw [← hWE]
          clear hWE hHB
          refine bodyPost_ret (results_cell_row rfl _ _ (w.heap.size + 1) 58 _ (0, 0) _ rfl hk Tryz.underlying58 rfl (by kernel_rfl)) rfl ?_
          rw [HEQ.out]
          exact ⟨_, _, rfl, hDE, hBE⟩
end Go.Proofs.YtphmhmdcaafmdaaGreatDoor
