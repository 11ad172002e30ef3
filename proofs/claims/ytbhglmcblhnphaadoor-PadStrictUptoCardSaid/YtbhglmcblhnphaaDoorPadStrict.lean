/-
  The law PadStrict: what it computes is true. Condition: at most 1048576 bytes.
-/
import Derived.Test.YtbhglmcblhnphaaDoorPadLaws
namespace Go.Proofs.YtbhglmcblhnphaaDoor
open Go.RowKit

theorem IntsAt.front {w : World} {B c : Nat} {A : Option Addr} {l : List Int} (h : IntsAt .u8 w B (.slice A l.length c) l) (k : Nat) (hk : k ≤ l.length) : IntsAt .u8 w B (.slice A k c) (l.take k) := by
  obtain ⟨A', c', e, h1, h2, h3, hr⟩ := h
  cases e
  have hl : (l.take k).length = k := by rw [List.length_take]; omega
  refine ⟨A, c, by rw [hl], by omega, h2, h3, by simp, fun h0 => ?_⟩
  obtain ⟨ad, e, hb, hc⟩ := hr.2 (by omega)
  refine ⟨ad, e, hb, fun j u hu => hc j u ?_⟩
  rw [List.map_take, List.getElem?_take] at hu
  split at hu
  · exact hu
  · cases hu
theorem new_reads (w : World) (t : TypeId) (x : Value) : Reads (w.alloc (.cells #[x] t)) (w.heap.size + 1) 1 (some ⟨w.heap.size, 0, none⟩) 1 [x] :=
  ⟨by simp, fun _ => ⟨_, rfl, Nat.lt_succ_self _, fun j u hu => by
    rcases j with _ | j
    · have hB := Blk.new w t #[x]
      have e : (⟨w.heap.size, 0, none⟩ : Addr).add 0 = ⟨w.heap.size, 0, none⟩ := rfl
      rw [e, hB.cell 0]
      simpa using hu
    · simp at hu⟩⟩

theorem kN_one (n : Nat) (h : n < 401) : kN (n + 1) = 1 := by unfold kN; omega
theorem max_byte (y : Int) (hy : U8 y) : ∃ Y : UInt8, max y 1 = (Y.toNat : Int) ∧ Y ≠ 0 := by
  obtain ⟨h1, h2⟩ := hy
  refine ⟨UInt8.ofNat (max y 1).toNat, ?_, ?_⟩
  · rw [UInt8.toNat_ofNat']; omega
  · intro e
    have := congrArg UInt8.toNat e
    rw [UInt8.toNat_ofNat'] at this
    have e0 : (0 : UInt8).toNat = 0 := rfl
    omega
theorem set_bytes (l : List UInt8) (q : Nat) (Y : UInt8) : ((l.map ofB).map (Value.int .u8)).set q (.int .u8 (Y.toNat : Int)) = ((l.set q Y).map ofB).map (.int .u8) := by
  rw [List.map_set, List.map_set]; rfl
/-- a byte that is not 0 stands where nought should be -/
theorem strict_form (l : List UInt8) (n q : Nat) (Y : UInt8) (hl : l.length = 512) (h1 : n ≤ q) (h2 : q < 512) (hY : Y ≠ 0) : ¬ ∀ b ∈ ((l.set q Y).drop n).take (1 * 512 - n), b = 0 := by
  intro h
  refine hY (h Y ?_)
  have hq : (((l.set q Y).drop n).take (1 * 512 - n))[q - n]? = some Y := by
    rw [List.getElem?_take, if_pos (by omega), List.getElem?_drop, show n + (q - n) = q from by omega, List.getElem?_set_self (by omega)]
  exact List.mem_of_getElem? hq

set_option maxRecDepth 100000 in
set_option maxHeartbeats 2000000 in
theorem PadStrict_walk (w : World) (_hsh : w.ShapedOpen Tryd.prog) (v : Value) (li : List Int) (o : IntsAt .u8 w w.heap.size v li) (hu : ∀ n ∈ li, U8 n) (hs : li.length ≤ 1048576) (a : Int) (ha : I64 a) (y : Int) (hy : U8 y) :
    Calls Tryd.prog 4 #[v, .int .i64 a, .int .u8 y] w fun e w' => e = .returned (.bool true) ∧ Below w.heap.size w w' := by
  obtain ⟨l0, rfl⟩ := of_u8 li hu
  rw [List.length_map] at hs
  obtain ⟨A, c, rfl, hc1, hc2, hA, hrr⟩ := id o
  obtain ⟨k, hk⟩ : ∃ k, k = min (l0.map ofB).length 400 := ⟨_, rfl⟩
  have hmin : min ((l0.map ofB).length : Int) 400 = (k : Int) := by omega
  have of := o.front k (by omega)
  have hkl : ((l0.map ofB).take k).length = k := by rw [List.length_take]; omega
  have hkc : k ≤ c := by omega
  have hk4 : k ≤ 400 := by omega
  have hcl := Lib.hid (Clone_any (.slice A k c) ((l0.map ofB).take k) w of (by rw [hkl]; simp only [reachBytes]; omega))
  rw [hkl] at hcl
  clear o of hrr hu hk
  have hpm : (l0.map ofB).take k = (l0.take k).map ofB := by rw [List.map_take]
  rw [hpm] at hcl hkl
  rw [List.length_map] at hkl
  generalize l0.take k = l at *
  generalize (l0.map ofB).length = n0 at *
  unfold maxLen at hc2
  clear hpm
  obtain ⟨i0, hi0, hz0, hz1, hz2⟩ := info_parts u8_info
  obtain ⟨Y, hY1, hY2⟩ := max_byte y hy
  clear hy
  have HY2 := Lib.hid hY2
  clear hY2
  have hp512 : (padB (l ++ [120])).length = 512 := by rw [padB_length, List.length_append, hkl]; show kN (k + 1) * 512 = 512; rw [kN_one k (by omega)]
  have hlb : (l ++ [(120 : UInt8)]).length = k + 1 := by simp [hkl]
  have HP := Lib.hid hp512; have HL := Lib.hid hlb
  clear hp512 hlb
  obtain ⟨p, hp, hp2⟩ := pick_nat a (512 - (k + 1)) (by omega)
  have hpick : pick a (512 - ((k : Int) + 1)) = p := by rw [← hp]; congr 1; omega
  have HPick := Lib.hid hpick
  clear hp hpick
  have HPa := Lib.hid (fun w => picked_any a (512 - ((k : Int) + 1)) ha (by omega) (by omega) w)
  rw [HPick.out] at HPa
  clear ha
  have Hkl := Lib.hid hkl
  clear hkl
  rcases A with _ | ad
  · have hc0 : c = 0 := hA rfl
    have hn0 : n0 = 0 := by omega
    have hk0 : k = 0 := by omega
    rw [show Value.slice none k c = .slice none 0 0 by rw [hc0, hk0]] at hcl
    rw [hn0, hc0]
    clear hmin hc0 hn0 hk0 hA hkc hc1
    go_enter Tryd.func4, Tryd.ntmps4
    go_wp2_with fail
    refine hcl.out.mono ?_
    rintro e w1 ⟨v1, rfl, hown1, b1⟩
    have hw1 := b1.size
    go_wp2_with (first | (at_builtin; refine wpList_append_any _ rfl (.tmp 19) (.tmp 20) _ rfl w.heap.size 5 i0 _ 1 1 Tryd.underlying24 hi0 hz0 hz1 hz2 rfl (by omega) v1 k _ rfl (hown1.alloc _) (w1.heap.size + 1) (some ⟨w1.heap.size, 0, none⟩) 1 1 [.int .u8 120] rfl (new_reads _ _ _) (by simp [Value.oneCell']) (by simp only [maxLen]; omega) (by omega) (by simp; omega) ?_; intro v2 w2 hown2 hg2 hat2; obtain ⟨g2, c2, rfl, hg21, hg22, hg23, hg24, _⟩ := own_slice hown2 (by omega); unfold maxLen at hg24) | fail)
    have ob2 : BytesAt w2 w2.heap.size (.slice (some ⟨g2, 0, none⟩) (k + 1) c2) (l ++ [120]) := own_at (base := w.heap.size) (by simpa [ofB] using hown2) HL.out.symm
    have b2 : Below w.heap.size w w2 := (b1.alloc b1.size _).grown hg2 (by simp; omega) (fun x hx => own_block_ge hown1 hx)
    clear hown2 hg2 hat2 hown1 b1
    refine (Fill_bytes _ (l ++ [120]) _ w2 ob2 (Nat.le_refl _) (by rw [HL.out]; omega)).mono ?_
    rintro e w3 ⟨f, rfl, hown3, b3⟩
    rw [HP.out] at hown3
    obtain ⟨g3, c3, rfl, hg31, hg32, hg33, hg34, _⟩ := own_slice hown3 (by omega)
    unfold maxLen at hg34
    have b13 := b2.trans (b3.mono b2.size)
    have hst := (hown3.stored (k + 1 + p) (.int .u8 (Y.toNat : Int))).1
    rw [set_bytes] at hst
    have hset : ((padB (l ++ [120])).set (k + 1 + p) Y).length = 512 := by rw [List.length_set]; exact HP.out
    have ob4 := own_at hst hset.symm
    have hfz := hown3.frozenAt (k + 1 + p)
    obtain ⟨u, hcell⟩ : ∃ u : Int, w3.cell? ⟨g3, k + 1 + p, none⟩ = some (.int .u8 u) := by
      rw [hown3.cellAt (k + 1 + p) (by omega), List.getElem?_map, List.getElem?_map, List.getElem?_eq_getElem (by rw [HP.out]; omega)]
      exact ⟨_, rfl⟩
    have hC1 := Lib.hid (PCut_form ⟨g3, 0, none⟩ ((padB (l ++ [120])).set (k + 1 + p) Y) (k + 1) c3 _ (by rw [hset]; exact ob4) (by omega) (by rw [hset, kN_one k (by omega)]; omega) (by omega) (by
      rw [kN_one k (by omega)]; exact strict_form _ (k + 1) (k + 1 + p) Y HP.out (by omega) (by omega) HY2.out))
    rw [hset] at hC1
    have hfr := BytesAt.front (l := (padB (l ++ [120])).set (k + 1 + p) Y) (by rw [hset]; exact ob4) 511 (by omega)
    have hC2 := Lib.hid (fun W (hb : Below (w3.setCell ⟨g3, k + 1 + p, none⟩ (.int .u8 (Y.toNat : Int))).heap.size (w3.setCell ⟨g3, k + 1 + p, none⟩ (.int .u8 (Y.toNat : Int))) W) => PCut_short (.slice (some ⟨g3, 0, none⟩) 511 c3) _ (k + 1) _ W (hfr.below hb) (by omega) (by rw [List.length_take, hset, kN_one k (by omega)]; omega))
    have b14 := b13.setCell (p := ⟨g3, k + 1 + p, none⟩) (by have := b2.size; show _ ≤ g3; omega) (.int .u8 (Y.toNat : Int))
    clear hown3 hst ob4 hfr hset ob2 b2 b3 b13
    go_wp2_with fail
    refine (HPa.out _).mono ?_
    rintro e w' ⟨rfl, rfl⟩
    go_wp2_with fail
    refine hC1.out.mono ?_
    rintro e w5 ⟨rfl, b5⟩
    go_wp2_with fail
    refine (hC2.out _ b5).mono ?_
    rintro e w' ⟨rfl, rfl⟩
    go_wp2_with fail
    go_ret
    exact ⟨rfl, b14.trans (b5.mono b14.size)⟩
  · go_enter Tryd.func4, Tryd.ntmps4
    go_wp2_with fail
    refine hcl.out.mono ?_
    rintro e w1 ⟨v1, rfl, hown1, b1⟩
    have hw1 := b1.size
    go_wp2_with (first | (at_builtin; refine wpList_append_any _ rfl (.tmp 19) (.tmp 20) _ rfl w.heap.size 5 i0 _ 1 1 Tryd.underlying24 hi0 hz0 hz1 hz2 rfl (by omega) v1 k _ rfl (hown1.alloc _) (w1.heap.size + 1) (some ⟨w1.heap.size, 0, none⟩) 1 1 [.int .u8 120] rfl (new_reads _ _ _) (by simp [Value.oneCell']) (by simp only [maxLen]; omega) (by omega) (by simp; omega) ?_; intro v2 w2 hown2 hg2 hat2; obtain ⟨g2, c2, rfl, hg21, hg22, hg23, hg24, _⟩ := own_slice hown2 (by omega); unfold maxLen at hg24) | fail)
    have ob2 : BytesAt w2 w2.heap.size (.slice (some ⟨g2, 0, none⟩) (k + 1) c2) (l ++ [120]) := own_at (base := w.heap.size) (by simpa [ofB] using hown2) HL.out.symm
    have b2 : Below w.heap.size w w2 := (b1.alloc b1.size _).grown hg2 (by simp; omega) (fun x hx => own_block_ge hown1 hx)
    clear hown2 hg2 hat2 hown1 b1
    refine (Fill_bytes _ (l ++ [120]) _ w2 ob2 (Nat.le_refl _) (by rw [HL.out]; omega)).mono ?_
    rintro e w3 ⟨f, rfl, hown3, b3⟩
    rw [HP.out] at hown3
    obtain ⟨g3, c3, rfl, hg31, hg32, hg33, hg34, _⟩ := own_slice hown3 (by omega)
    unfold maxLen at hg34
    have b13 := b2.trans (b3.mono b2.size)
    have hst := (hown3.stored (k + 1 + p) (.int .u8 (Y.toNat : Int))).1
    rw [set_bytes] at hst
    have hset : ((padB (l ++ [120])).set (k + 1 + p) Y).length = 512 := by rw [List.length_set]; exact HP.out
    have ob4 := own_at hst hset.symm
    have hfz := hown3.frozenAt (k + 1 + p)
    obtain ⟨u, hcell⟩ : ∃ u : Int, w3.cell? ⟨g3, k + 1 + p, none⟩ = some (.int .u8 u) := by
      rw [hown3.cellAt (k + 1 + p) (by omega), List.getElem?_map, List.getElem?_map, List.getElem?_eq_getElem (by rw [HP.out]; omega)]
      exact ⟨_, rfl⟩
    have hC1 := Lib.hid (PCut_form ⟨g3, 0, none⟩ ((padB (l ++ [120])).set (k + 1 + p) Y) (k + 1) c3 _ (by rw [hset]; exact ob4) (by omega) (by rw [hset, kN_one k (by omega)]; omega) (by omega) (by
      rw [kN_one k (by omega)]; exact strict_form _ (k + 1) (k + 1 + p) Y HP.out (by omega) (by omega) HY2.out))
    rw [hset] at hC1
    have hfr := BytesAt.front (l := (padB (l ++ [120])).set (k + 1 + p) Y) (by rw [hset]; exact ob4) 511 (by omega)
    have hC2 := Lib.hid (fun W (hb : Below (w3.setCell ⟨g3, k + 1 + p, none⟩ (.int .u8 (Y.toNat : Int))).heap.size (w3.setCell ⟨g3, k + 1 + p, none⟩ (.int .u8 (Y.toNat : Int))) W) => PCut_short (.slice (some ⟨g3, 0, none⟩) 511 c3) _ (k + 1) _ W (hfr.below hb) (by omega) (by rw [List.length_take, hset, kN_one k (by omega)]; omega))
    have b14 := b13.setCell (p := ⟨g3, k + 1 + p, none⟩) (by have := b2.size; show _ ≤ g3; omega) (.int .u8 (Y.toNat : Int))
    clear hown3 hst ob4 hfr hset ob2 b2 b3 b13
    go_wp2_with fail
    refine (HPa.out _).mono ?_
    rintro e w' ⟨rfl, rfl⟩
    go_wp2_with fail
    refine hC1.out.mono ?_
    rintro e w5 ⟨rfl, b5⟩
    go_wp2_with fail
    refine (hC2.out _ b5).mono ?_
    rintro e w' ⟨rfl, rfl⟩
    go_wp2_with fail
    go_ret
    exact ⟨rfl, b14.trans (b5.mono b14.size)⟩
end Go.Proofs.YtbhglmcblhnphaaDoor
