/-
  pad.Cut, pad.End, each once. Condition: at most 2^30 bytes.
-/
import Derived.Test.YtbhglmcblhnphaaDoorPad
namespace Go.Proofs.YtbhglmcblhnphaaDoor
open Go.RowKit

def kN (n : Nat) : Nat := (n + 511) / 512
theorem blocks_nat (n : Nat) : blocks (n : Int) = (kN n : Int) := by unfold blocks kN; omega
theorem Blocks_nat (n : Nat) (h : n ≤ 1000000000) (w : World) :
    Calls Tryd.prog 20 #[.int .i64 n] w fun e w' => e = .returned (.tuple #[.int .i64 (kN n), .int .i64 0]) ∧ w = w' :=
  (Blocks_ok n (by omega) (by omega) w).mono fun e w' ⟨h1, h2⟩ => ⟨by rw [h1, blocks_nat], h2⟩
/-- a part of a slice of bytes -/
theorem BytesAt.part {w : World} {B c : Nat} {ad : Addr} {l : List UInt8} (h : BytesAt w B (.slice (some ad) l.length c) l) (a b : Nat) (hab : a ≤ b) (hb : b ≤ l.length) :
    BytesAt w B (.slice (some (if c = a then ad else ad.add a)) (b - a) (c - a)) ((l.drop a).take (b - a)) := by
  obtain ⟨A, c2, e, h1, h2, h3, hr⟩ := h
  rw [List.length_map] at e h1 hr
  cases e
  have hl : (((l.drop a).take (b - a)).map ofB).length = b - a := by rw [List.length_map, List.length_take, List.length_drop]; omega
  refine ⟨_, _, by rw [hl], by rw [hl]; omega, by unfold maxLen at *; omega, (fun h => by cases h), by rw [hl, List.length_map, hl, Nat.mul_one], fun h0 => ?_⟩
  rw [hl] at h0
  obtain ⟨ad', e, hb', hc⟩ := hr.2 (by omega)
  cases e
  have hca : c ≠ a := by omega
  refine ⟨_, rfl, by rw [if_neg hca, block_of_add]; exact hb', fun j u hu => ?_⟩
  rw [if_neg hca, add_of_add]
  refine hc _ u ?_
  rw [← hu]
  simp only [List.getElem?_map]
  rw [List.getElem?_take, List.getElem?_drop]
  by_cases hj : j < b - a
  · rw [if_pos hj]
  · exfalso
    rw [List.getElem?_map, List.getElem?_map, List.getElem?_take, if_neg hj] at hu
    cases hu

set_option maxRecDepth 100000 in
set_option maxHeartbeats 400000 in
theorem PCut_short (v : Value) (l : List UInt8) (n B : Nat) (w : World) (hl : BytesAt w B v l) (hn : n ≤ 10000000) (hlen : l.length < kN n * 512) :
    Calls Tryd.prog 18 #[v, .int .i64 n] w fun e w' => e = .returned (.tuple #[.slice none 0 0, .slice none 0 0, .int .i64 7]) ∧ w = w' := by
  obtain ⟨A, c, rfl, _⟩ := hl
  rw [List.length_map]
  have hk : kN n ≤ 100000 := by unfold kN; omega
  have hB := Lib.hid (fun w => Blocks_nat n (by omega) w)
  generalize kN n = k at *
  go_enter Tryd.func18, Tryd.ntmps18
  go_wp2_with fail
  refine (hB.out _).mono ?_
  rintro e w' ⟨rfl, rfl⟩
  go_wp2_with fail
  go_ret3
  exact ⟨rfl, rfl⟩
theorem BytesAt.front {w : World} {B c : Nat} {ad : Addr} {l : List UInt8} (h : BytesAt w B (.slice (some ad) l.length c) l) (b : Nat) (hb : b ≤ l.length) :
    BytesAt w B (.slice (some ad) b c) (l.take b) := by
  have h2 := h.part 0 b (Nat.zero_le _) hb
  rw [Nat.sub_zero, Nat.sub_zero, List.drop_zero] at h2
  by_cases hc : c = 0
  · rw [if_pos hc] at h2; exact h2
  · rw [if_neg hc] at h2
    have : ad.add 0 = ad := rfl
    rw [this] at h2
    exact h2
/-- append of a part onto nothing, within a region that draws -/
theorem own_at {w : World} {base n : Nat} {v : Value} {l : List UInt8} (h : w.ownsRow base 5 1 v n ((l.map ofB).map (.int .u8))) (hn : n = l.length) : BytesAt w w.heap.size v l := by
  subst hn
  refine IntsAt.of_own (base := base) (e := 5) ?_
  rw [List.length_map]; exact h
set_option maxRecDepth 100000 in
set_option maxHeartbeats 400000 in
theorem PCut_ok (ad : Addr) (l : List UInt8) (n c : Nat) (w : World) (hl : BytesAt w w.heap.size (.slice (some ad) l.length c) l) (hn : n ≤ 10000000) (hlen : kN n * 512 ≤ l.length) (hl2 : l.length ≤ 1000000000) (hz : ∀ b ∈ (l.drop n).take (kN n * 512 - n), b = 0) :
    Calls Tryd.prog 18 #[.slice (some ad) l.length c, .int .i64 n] w fun e w' => ∃ v1 v2, e = .returned (.tuple #[v1, v2, .int .i64 0]) ∧ BytesAt w' w'.heap.size v1 (l.take n) ∧ BytesAt w' w'.heap.size v2 (l.drop (kN n * 512)) ∧ Below w.heap.size w w' := by
  have hk : kN n ≤ 100000 := by unfold kN; omega
  have hkn : n ≤ kN n * 512 := by unfold kN; omega
  have hB := Lib.hid (fun w => Blocks_nat n (by omega) w)
  have hcv := conv_str (hl.part n (kN n * 512) hkn hlen)
  have hp1 := hl.part 0 n (Nat.zero_le _) (by omega)
  have hp2 := hl.part (kN n * 512) l.length hlen (Nat.le_refl _)
  have hcl : l.length ≤ c ∧ c ≤ 9223372036854775807 := by
    obtain ⟨A, c2, e, h1, h2, _⟩ := hl
    rw [List.length_map] at e h1
    cases e
    unfold maxLen at h2
    exact ⟨h1, by omega⟩
  obtain ⟨hc1, hc2⟩ := hcl
  generalize hseg : (l.drop n).take (kN n * 512 - n) = seg at *
  have hsl : seg.length ≤ 1000000000 := by rw [← hseg, List.length_take, List.length_drop]; omega
  have hT := Lib.hid (fun w => Trim_nul seg w (by omega))
  have t0 : (bs (Lib.trimB seg 0)).toList = [] := by rw [bs_toList, trimB_nil]; exact hz
  generalize bs (Lib.trimB seg 0) = tr at *
  clear hseg hz
  have hp1 := hl.front n (by omega)
  have hp3 : (l.drop (kN n * 512)).take (l.length - kN n * 512) = l.drop (kN n * 512) := List.take_of_length_le (by rw [List.length_drop]; exact Nat.le_refl _)
  rw [hp3] at hp2
  clear hp3 hl
  have hq1 : (l.take n).length = n := by rw [List.length_take]; omega
  have hq2 : (l.drop (kN n * 512)).length = l.length - kN n * 512 := List.length_drop ..
  generalize l.take n = l1 at *
  generalize l.drop (kN n * 512) = l2 at *
  generalize hK : kN n * 512 = K at *
  generalize hll : l.length = L at *
  clear hll
  generalize kN n = k at *
  have hK' : (k : Int) * 512 = (K : Int) := by omega
  clear hK
  have d1 : decide ((L : Int) < K) = false := decide_eq_false (by omega)
  have d2 : decide (L < K) = false := decide_eq_false (by omega)
  obtain ⟨A1, c1, e1, _, _, _, hr1⟩ := hp1
  rw [List.length_map, hq1] at e1
  cases e1
  rw [List.length_map, hq1] at hr1
  obtain ⟨A2, c2, e2, _, _, _, hr2⟩ := hp2
  rw [List.length_map, hq2] at e2
  cases e2
  rw [List.length_map, hq2] at hr2
  have o1 := one_u8 (l1.map ofB)
  have o2 := one_u8 (l2.map ofB)
  have Hq1 := Lib.hid hq1; have Hq2 := Lib.hid hq2
  clear hq1 hq2
  obtain ⟨i0, hi0, hz0, hz1, hz2⟩ := info_parts u8_info
  generalize hm1 : (l1.map ofB).map (Value.int .u8) = m1 at *
  generalize hm2 : (l2.map ofB).map (Value.int .u8) = m2 at *
  have Hm1 := Lib.hid hm1; have Hm2 := Lib.hid hm2
  clear hm1 hm2
  have hno : ∀ B k, (Value.slice none 0 0).ownBlock = some k → B ≤ k := fun B k hk => by cases hk
  have HN := Lib.hid hno
  clear hno
  have hcK : ((K : Int)).toNat = K := by omega
  have hnc : n ≤ c := by omega
  have hKc : K ≤ c := by omega
  have hwK : IntKind.i64.wrap (K : Int) = K := IntWalk.i64_in _ ⟨by omega, by omega⟩
  by_cases hcn : c = n
  · subst hcn
    obtain rfl : K = c := by omega
    obtain rfl : L = K := by omega
    rw [if_pos rfl] at hr2 hcv
    rw [Nat.sub_self] at hr2 hcv
    go_enter Tryd.func18, Tryd.ntmps18
    go_wp2_with fail
    refine (hB.out _).mono ?_
    rintro e w' ⟨rfl, rfl⟩
    go_wp2_with fail
    refine (hT.out _).mono ?_
    rintro e w1 ⟨rfl, hb1⟩
    have hb1s := hb1.size
    have hr11 := hr1.below hb1
    have hr21 := hr2.below hb1
    go_wp2_with fail
    go_region_law (first | (refine step_append_any _ rfl (.const (.slice none 0 0)) (.tmp 32) _ rfl w.heap.size 5 i0 _ 1 1 Tryd.underlying24 hi0 hz0 hz1 hz2 rfl (by omega) (.slice none 0 0) 0 [] (by simp [Act.eval]) (World.ownsRow_nil _ _ _ _) w.heap.size (some ad) L L m1 (by simp [Act.eval, Act.put]) hr11 o1 (by simp only [maxLen]; omega) (by omega) hb1s ?_; intro v2 w2 hown2 hg2 hat2) | (refine step_append_any _ rfl (.const (.slice none 0 0)) (.tmp 37) _ rfl w.heap.size 5 i0 _ 1 1 Tryd.underlying24 hi0 hz0 hz1 hz2 rfl (by omega) (.slice none 0 0) 0 [] (by simp [Act.eval]) (World.ownsRow_nil _ _ _ _) w.heap.size (some ad) 0 0 m2 (by simp [Act.eval, Act.put]) (Reads.grown hr21.drew hg2 hb1s (HN.out _)) o2 (by simp only [maxLen]; omega) (by omega) (Nat.le_trans hb1s hg2.size) ?_; intro v3 w3 hown3 hg3 hat3))
    go_wp2
    go_ret3
    rw [← Hm1.out] at hown2
    rw [← Hm2.out] at hown3
    exact ⟨v2, v3, rfl, ((own_at hown2 (by rw [Hq1.out]; omega)).below ((Below.refl _ _).grown hg3 (Nat.le_refl _) (HN.out _))).more hg3.size, own_at hown3 (by rw [Hq2.out]; omega), (hb1.drew.grown hg2 hb1s (HN.out _)).grown hg3 (Nat.le_trans hb1s hg2.size) (HN.out _)⟩
  · rw [if_neg hcn] at hcv
    by_cases hck : c = K
    · subst hck
      obtain rfl : L = c := by omega
      rw [if_pos rfl, Nat.sub_self] at hr2
      go_enter Tryd.func18, Tryd.ntmps18
      go_wp2_with fail
      refine (hB.out _).mono ?_
      rintro e w' ⟨rfl, rfl⟩
      go_wp2_with fail
      refine (hT.out _).mono ?_
      rintro e w1 ⟨rfl, hb1⟩
      have hb1s := hb1.size
      have hr11 := hr1.below hb1
      have hr21 := hr2.below hb1
      go_wp2_with fail
      go_region_law (first | (refine step_append_any _ rfl (.const (.slice none 0 0)) (.tmp 32) _ rfl w.heap.size 5 i0 _ 1 1 Tryd.underlying24 hi0 hz0 hz1 hz2 rfl (by omega) (.slice none 0 0) 0 [] (by simp [Act.eval]) (World.ownsRow_nil _ _ _ _) w.heap.size (some ad) n L m1 (by simp [Act.eval, Act.put]) hr11 o1 (by simp only [maxLen]; omega) (by omega) hb1s ?_; intro v2 w2 hown2 hg2 hat2) | (refine step_append_any _ rfl (.const (.slice none 0 0)) (.tmp 37) _ rfl w.heap.size 5 i0 _ 1 1 Tryd.underlying24 hi0 hz0 hz1 hz2 rfl (by omega) (.slice none 0 0) 0 [] (by simp [Act.eval]) (World.ownsRow_nil _ _ _ _) w.heap.size (some ad) 0 0 m2 (by simp [Act.eval, Act.put]) (Reads.grown hr21.drew hg2 hb1s (HN.out _)) o2 (by simp only [maxLen]; omega) (by omega) (Nat.le_trans hb1s hg2.size) ?_; intro v3 w3 hown3 hg3 hat3))
      go_wp2
      go_ret3
      rw [← Hm1.out] at hown2
      rw [← Hm2.out] at hown3
      exact ⟨v2, v3, rfl, ((own_at hown2 (by rw [Hq1.out]; omega)).below ((Below.refl _ _).grown hg3 (Nat.le_refl _) (HN.out _))).more hg3.size, own_at hown3 (by rw [Hq2.out]; omega), (hb1.drew.grown hg2 hb1s (HN.out _)).grown hg3 (Nat.le_trans hb1s hg2.size) (HN.out _)⟩
    · rw [if_neg hck] at hr2
      go_enter Tryd.func18, Tryd.ntmps18
      go_wp2_with fail
      refine (hB.out _).mono ?_
      rintro e w' ⟨rfl, rfl⟩
      go_wp2_with fail
      refine (hT.out _).mono ?_
      rintro e w1 ⟨rfl, hb1⟩
      have hb1s := hb1.size
      have hr11 := hr1.below hb1
      have hr21 := hr2.below hb1
      go_wp2_with fail
      go_region_law (first | (refine step_append_any _ rfl (.const (.slice none 0 0)) (.tmp 32) _ rfl w.heap.size 5 i0 _ 1 1 Tryd.underlying24 hi0 hz0 hz1 hz2 rfl (by omega) (.slice none 0 0) 0 [] (by simp [Act.eval]) (World.ownsRow_nil _ _ _ _) w.heap.size (some ad) n c m1 (by simp [Act.eval, Act.put]) hr11 o1 (by simp only [maxLen]; omega) (by omega) hb1s ?_; intro v2 w2 hown2 hg2 hat2) | (refine step_append_any _ rfl (.const (.slice none 0 0)) (.tmp 37) _ rfl w.heap.size 5 i0 _ 1 1 Tryd.underlying24 hi0 hz0 hz1 hz2 rfl (by omega) (.slice none 0 0) 0 [] (by simp [Act.eval]) (World.ownsRow_nil _ _ _ _) w.heap.size (some (ad.add K)) (L - K) (c - K) m2 (by simp [Act.eval, Act.put]) (Reads.grown hr21.drew hg2 hb1s (HN.out _)) o2 (by simp only [maxLen]; omega) (by omega) (Nat.le_trans hb1s hg2.size) ?_; intro v3 w3 hown3 hg3 hat3))
      go_wp2
      go_ret3
      rw [← Hm1.out] at hown2
      rw [← Hm2.out] at hown3
      exact ⟨v2, v3, rfl, ((own_at hown2 (by rw [Hq1.out]; omega)).below ((Below.refl _ _).grown hg3 (Nat.le_refl _) (HN.out _))).more hg3.size, own_at hown3 (by rw [Hq2.out]; omega), (hb1.drew.grown hg2 hb1s (HN.out _)).grown hg3 (Nat.le_trans hb1s hg2.size) (HN.out _)⟩
set_option maxRecDepth 100000 in
set_option maxHeartbeats 400000 in
theorem PCut_form (ad : Addr) (l : List UInt8) (n c : Nat) (w : World) (hl : BytesAt w w.heap.size (.slice (some ad) l.length c) l) (hn : n ≤ 10000000) (hlen : kN n * 512 ≤ l.length) (hl2 : l.length ≤ 1000000000) (hz : ¬ ∀ b ∈ (l.drop n).take (kN n * 512 - n), b = 0) :
    Calls Tryd.prog 18 #[.slice (some ad) l.length c, .int .i64 n] w fun e w' => e = .returned (.tuple #[.slice none 0 0, .slice none 0 0, .int .i64 3]) ∧ Below w.heap.size w w' := by
  have hk : kN n ≤ 100000 := by unfold kN; omega
  have hkn : n ≤ kN n * 512 := by unfold kN; omega
  have hB := Lib.hid (fun w => Blocks_nat n (by omega) w)
  have hcv := conv_str (hl.part n (kN n * 512) hkn hlen)
  have hcl : l.length ≤ c ∧ c ≤ 9223372036854775807 := by
    obtain ⟨A, c2, e, h1, h2, _⟩ := hl
    rw [List.length_map] at e h1
    cases e
    unfold maxLen at h2
    exact ⟨h1, by omega⟩
  obtain ⟨hc1, hc2⟩ := hcl
  generalize hseg : (l.drop n).take (kN n * 512 - n) = seg at *
  have hsl : seg.length ≤ 1000000000 := by rw [← hseg, List.length_take, List.length_drop]; omega
  have hT := Lib.hid (fun w => Trim_nul seg w (by omega))
  have t0 : ¬ (bs (Lib.trimB seg 0)).toList = [] := by rw [bs_toList, trimB_nil]; exact hz
  have t1 : (bs (Lib.trimB seg 0)).toList.isEmpty = false := by simpa using t0
  generalize bs (Lib.trimB seg 0) = tr at *
  have hcn : ¬ c = n := by
    intro e
    have hle : n ≤ l.length := by omega
    have : seg = [] := by
      rw [← hseg]
      have : kN n * 512 - n = 0 := by omega
      rw [this]; rfl
    rw [this] at hz
    exact hz (fun b hb => by cases hb)
  rw [if_neg hcn] at hcv
  clear hseg hz hl
  generalize hK : kN n * 512 = K at *
  generalize hll : l.length = L at *
  clear hll
  generalize kN n = k at *
  have hK' : (k : Int) * 512 = (K : Int) := by omega
  clear hK
  have d1 : decide ((L : Int) < K) = false := decide_eq_false (by omega)
  have d2 : decide (L < K) = false := decide_eq_false (by omega)
  have hnc : n ≤ c := by omega
  have hKc : K ≤ c := by omega
  have hwK : IntKind.i64.wrap (K : Int) = K := IntWalk.i64_in _ ⟨by omega, by omega⟩
  go_enter Tryd.func18, Tryd.ntmps18
  go_wp2_with fail
  refine (hB.out _).mono ?_
  rintro e w' ⟨rfl, rfl⟩
  go_wp2_with fail
  refine (hT.out _).mono ?_
  rintro e w1 ⟨rfl, hb1⟩
  go_wp2_with fail
  go_ret3
  exact ⟨rfl, hb1⟩
set_option maxRecDepth 100000 in
set_option maxHeartbeats 400000 in
theorem PCut_nil (w : World) :
    Calls Tryd.prog 18 #[.slice none 0 0, .int .i64 0] w fun e w' => e = .returned (.tuple #[.slice none 0 0, .slice none 0 0, .int .i64 0]) ∧ Below w.heap.size w w' := by
  have hB := Lib.hid (fun w => Blocks_nat 0 (by omega) w)
  rw [show kN 0 = 0 from rfl] at hB
  have hcv := conv_str (show BytesAt w w.heap.size (.slice none 0 0) [] from IntsAt.nil .u8 w w.heap.size)
  have hT := Lib.hid (fun w => Trim_nul [] w (by simp))
  rw [show Lib.trimB [] (0 : UInt8) = [] from rfl] at hT
  have t0 : (bs []).toList = [] := bs_toList []
  rw [show ((0 : Nat) : Int) = 0 from rfl] at hB
  go_enter Tryd.func18, Tryd.ntmps18
  go_wp2_with fail
  refine (hB.out _).mono ?_
  rintro e w' ⟨rfl, rfl⟩
  go_wp2_with fail
  refine (hT.out _).mono ?_
  rintro e w1 ⟨rfl, hb1⟩
  go_wp2_with fail
  go_region
  go_wp2
  go_ret3
  exact ⟨rfl, hb1.drew⟩
set_option maxHeartbeats 400000 in
theorem End_any (w : World) :
    Calls Tryd.prog 21 #[] w fun e w' => ∃ v', e = .returned v' ∧ w'.ownsRow w.heap.size 5 1 v' 1024 (List.replicate 1024 (.int .u8 0)) ∧ Below w.heap.size w w' := by
  obtain ⟨i0, hi0, hz0, hz1, hz2⟩ := info_parts u8_info
  go_enter Tryd.func21, Tryd.ntmps21
  go_wp2_with (at_make; refine wpList_make_full _ rfl _ _ _ rfl w.heap.size 5 i0 _ 1 Tryd.underlying24 hi0 hz0 hz1 .i64 .i64 1024 1024 1024 rfl rfl rfl rfl (by rw [hz2]; omega) (by simp only [maxLen]; omega) (Nat.le_refl _) ?_; intro w1 hown1 hg1)
  go_ret
  refine ⟨_, rfl, ?_, (Below.refl _ _).grown hg1 (Nat.le_refl _) (fun k hk => by cases hk)⟩
  have e := toList_madeCells_one (Value.int .u8 0) (1024 * 1)
  rw [Nat.mul_one] at e
  rw [← e]
  exact hown1
end Go.Proofs.YtbhglmcblhnphaaDoor
