/-
  pad.Fill, pad.Cut, pad.End, slices.Concat at []byte, each once. Condition: at most 2^30 bytes.
-/
import Derived.Test.YtbhglmcblhnphaaDoorZeros
import Derived.Test.YtbhglmcblhnphaaDoorStrs
import Derived.Test.YtbhglmcblhnphaaDoorUpBase
import Derived.Test.YtbhglmcblhnphaaDoorOctal
import Derived.Deep.RegionLaw
namespace Go.Proofs.YtbhglmcblhnphaaDoor
open Go.RowKit

def lackN (n : Nat) : Nat := (512 - n % 512) % 512
def fillL (l : List Int) : List Int := l ++ List.replicate (lackN l.length) 0
theorem fillL_length (l : List Int) : ((fillL l).length : Int) = blocks l.length * 512 := by
  simp [fillL, lackN, blocks]; omega
theorem map_rep0 (m : Nat) : List.replicate m (Value.int .u8 0) = (List.replicate m (0 : Int)).map (.int .u8) := by rw [List.map_replicate]

set_option maxRecDepth 100000 in
set_option maxHeartbeats 400000 in
theorem Fill_any (v : Value) (l : List Int) (B : Nat) (w : World) (hl : IntsAt .u8 w B v l) (hB : B ≤ w.heap.size) (hn : l.length ≤ 1000000000) :
    Calls Tryd.prog 16 #[v] w fun e w' => ∃ v', e = .returned v' ∧ w'.ownsRow w.heap.size 5 1 v' (fillL l).length ((fillL l).map (.int .u8)) ∧ Below w.heap.size w w' := by
  obtain ⟨A, c, rfl, hlc, hc, hA, hr⟩ := hl
  unfold maxLen at hc
  have h1 := one_u8 l
  have hr2 := hr.more hB
  obtain ⟨m, hm, hm2⟩ : ∃ m : Nat, (512 - (l.length : Int) % 512) % 512 = m ∧ m = lackN l.length := ⟨lackN l.length, by unfold lackN; omega, rfl⟩
  have hm3 : m ≤ 511 := by unfold lackN at hm2; omega
  have fin : Hid (l.map (Value.int .u8) ++ List.replicate m (Value.int .u8 0) = (fillL l).map (.int .u8)) := Lib.hid (by unfold fillL; rw [map_rep0, hm2, List.map_append])
  have finn : Hid (l.length + m = (fillL l).length) := Lib.hid (by unfold fillL; rw [hm2]; simp)
  clear hm2
  generalize hln : l.length = n at *
  have Hn := Lib.hid hln
  clear hln
  obtain ⟨i0, hi0, hz0, hz1, hz2⟩ := info_parts u8_info
  go_enter Tryd.func16, Tryd.ntmps16
  go_wp2_with (first
    | (at_builtin
       refine wpList_append_any _ rfl (.const (.slice none 0 0)) (.tmp 9) _ rfl w.heap.size 5 i0 _ 1 1 Tryd.underlying24 hi0 hz0 hz1 hz2 rfl (by omega) (.slice none 0 0) 0 [] rfl
         (World.ownsRow_nil _ _ _ _) w.heap.size A n c (l.map (.int .u8)) rfl hr2 h1 (by simp only [maxLen]; omega) (by omega) (Nat.le_refl _) ?_
       intro v1 w1 hown1 hg1 hat1)
    | (at_builtin
       refine wpList_append_zeros _ rfl (.tmp 10) (.tmp 11) _ _ rfl w.heap.size 5 i0 _ 1 Tryd.underlying24 Tryd.underlying3 hi0 hz0 rfl rfl hz1 hz2 v1 (0 + n) _ rfl hown1 m rfl
         (by simp only [maxLen]; omega) (by omega) hg1.size ?_
       intro v2 w2 hown2 hg2))
  go_ret
  refine ⟨v2, rfl, ?_, ((Below.refl _ _).grown hg1 (Nat.le_refl _) (fun k hk => by cases hk)).grown hg2 hg1.size (fun k hk => ?_)⟩
  · rw [Nat.zero_add, List.nil_append, fin.out, finn.out] at hown2
    exact hown2
  · rcases hat1 with h | h
    · rw [h] at hk; cases hk
    · rw [h] at hk; cases hk; exact Nat.le_refl _
/-! ### bytes in memory -/
theorem ofB_u8 (l : List UInt8) : ∀ n ∈ l.map ofB, U8 n := by
  intro n hn
  obtain ⟨b, _, rfl⟩ := List.mem_map.1 hn
  have := b.toNat_lt
  exact ⟨by unfold ofB; omega, by unfold ofB; omega⟩
theorem of_u8 : ∀ l : List Int, (∀ n ∈ l, U8 n) → ∃ b : List UInt8, l = b.map ofB
  | [], _ => ⟨[], rfl⟩
  | n :: l, h => by
    obtain ⟨b, rfl⟩ := of_u8 l (fun x hx => h x (by simp [hx]))
    have hn := h n (by simp)
    refine ⟨UInt8.ofNat n.toNat :: b, ?_⟩
    have : ofB (UInt8.ofNat n.toNat) = n := by
      unfold ofB; rw [UInt8.toNat_ofNat']; have := hn.1; have := hn.2; omega
    rw [List.map_cons, this]
/-- a slice of bytes: nil let in -/
def BytesAt (w : World) (B : Nat) (v : Value) (l : List UInt8) : Prop := IntsAt .u8 w B v (l.map ofB)
theorem conv_str {w : World} {B : Nat} {v : Value} {l : List UInt8} (h : BytesAt w B v l) :
    (convert 24 9 v).run Tryd.prog w = .ok (.string (bs l)) w := by
  obtain ⟨A, c, rfl, h1, h2, h3, hr⟩ := h
  rw [List.length_map]
  rcases A with _ | ad
  · have hl : l = [] := by
      cases l with
      | nil => rfl
      | cons b l =>
        obtain ⟨ad, e, _⟩ := hr.2 (by simp)
        cases e
    subst hl
    exact run_convert_bytes_nil (P := Tryd.prog) w 24 5 Tryd.underlying24 Tryd.underlying5 0 c 9 Tryd.underlying9
  · refine run_convert_bytes_back (P := Tryd.prog) w 24 9 5 ad c l Tryd.underlying24 Tryd.underlying5 Tryd.underlying9 (fun j hj => ?_)
    obtain ⟨ad', e, _, hc⟩ := hr.2 (by rw [List.length_map]; omega)
    cases e
    exact hc j _ (by rw [List.getElem?_map, List.getElem?_map, List.getElem?_eq_getElem hj]; rfl)
theorem own_slice {w : World} {base n : Nat} {e : TypeId} {v : Value} {xs : List Value} (h : w.ownsRow base e 1 v n xs) (h0 : 0 < n) :
    ∃ g c, v = .slice (some ⟨g, 0, none⟩) n c ∧ base ≤ g ∧ g < w.heap.size ∧ n ≤ c ∧ c ≤ maxLen ∧ w.ownsRow base e 1 (.slice (some ⟨g, 0, none⟩) 0 c) 0 [] := by
  rcases h.2 with ⟨_, h1⟩ | ⟨g, cap, cur, rfl, hbg, hg, hnc, hcm, hcs, htake⟩
  · omega
  · refine ⟨g, cap, rfl, hbg, ?_, hnc, hcm, ⟨by simp, .inr ⟨g, cap, cur, rfl, hbg, hg, Nat.zero_le _, hcm, hcs, by simp⟩⟩⟩
    rcases Nat.lt_or_ge g w.heap.size with h | h
    · exact h
    · rw [Array.getElem?_eq_none h] at hg; cases hg

theorem own_block_ge {w : World} {base n size : Nat} {e : TypeId} {v : Value} {xs : List Value} (h : w.ownsRow base e size v n xs) {x : Nat} (hx : v.ownBlock = some x) : base ≤ x := by
  rcases h.2 with ⟨rfl, _⟩ | ⟨g, cap, cur, rfl, hbg, _⟩
  · cases hx
  · cases hx; exact hbg
/-! ### slices.Concat at []byte -/
set_option maxRecDepth 100000 in
set_option maxHeartbeats 400000 in
theorem Grow_nil (n : Nat) (hn : n ≤ 1000000000) (w : World) :
    Calls Tryd.prog 43 #[.slice none 0 0, .int .i64 n] w fun e w' => ∃ v', e = .returned v' ∧ w'.ownsRow w.heap.size 5 1 v' 0 [] ∧ Below w.heap.size w w' := by
  obtain ⟨i0, hi0, hz0, hz1, hz2⟩ := info_parts u8_info
  rcases Nat.eq_zero_or_pos n with rfl | h0
  · go_enter Tryd.func43, Tryd.ntmps43
    go_wp2
    go_ret
    exact ⟨_, rfl, World.ownsRow_nil _ _ _ _, Below.refl _ _⟩
  · go_enter Tryd.func43, Tryd.ntmps43
    go_wp2_with (at_builtin; refine wpList_append_zeros _ rfl (.tmp 20) (.tmp 21) _ _ rfl w.heap.size 5 i0 _ 1 Tryd.underlying24 Tryd.underlying3 hi0 hz0 rfl rfl hz1 hz2 (.slice none 0 0) 0 [] rfl (World.ownsRow_nil _ _ _ _) n rfl (by simp only [maxLen]; omega) (by omega) (Nat.le_refl _) ?_; intro v2 w2 hown2 hg2; obtain ⟨g, c, rfl, hg1, hg3, hg4, hg5, hown3⟩ := own_slice hown2 (by omega); unfold maxLen at hg5)
    go_ret
    exact ⟨_, rfl, hown3, (Below.refl _ _).grown hg2 (Nat.le_refl _) (fun k hk => by cases hk)⟩

def sumTo (ls : List (List Int)) (k : Nat) : List Int := (ls.take k).flatten
theorem sumTo_succ (ls : List (List Int)) (k : Nat) (h : k < ls.length) : sumTo ls (k + 1) = sumTo ls k ++ ls[k] := by
  unfold sumTo; rw [List.take_succ_eq_append_getElem h, List.flatten_append]; simp
theorem sumTo_le (ls : List (List Int)) (k : Nat) : (sumTo ls k).length ≤ ls.flatten.length := by
  have h : ls.flatten = sumTo ls k ++ (ls.drop k).flatten := by
    unfold sumTo; rw [← List.flatten_append, List.take_append_drop]
  rw [h]; simp
set_option maxRecDepth 100000 in
set_option maxHeartbeats 1000000 in
theorem Concat_any (g : Nat) (vs : List Value) (ls : List (List Int)) (B : Nat) (w : World) (hg : g < w.heap.size) (hcells : ∀ j u, vs[j]? = some u → w.cell? ⟨g, j, none⟩ = some u)
    (hlen : vs.length = ls.length) (hls : ∀ (j : Nat) v l, vs[j]? = some v → ls[j]? = some l → IntsAt .u8 w B v l) (hB : B ≤ w.heap.size) (hk : vs.length ≤ 1000) (hsum : ls.flatten.length ≤ 1000000000) :
    Calls Tryd.prog 19 #[.slice (some ⟨g, 0, none⟩) vs.length vs.length] w fun e w' =>
      ∃ v', e = .returned v' ∧ w'.ownsRow w.heap.size 5 1 v' ls.flatten.length (ls.flatten.map (.int .u8)) ∧ Below w.heap.size w w' := by
  obtain ⟨i0, hi0, hz0, hz1, hz2⟩ := info_parts u8_info
  have HC := Lib.hid hcells; have HL := Lib.hid hls; have HE := Lib.hid hlen
  clear hcells hls hlen
  generalize hm : vs.length = m at *
  have HM := Lib.hid hm
  clear hm
  have hs0 := sumTo_le ls
  have HS := Lib.hid hs0
  clear hs0
  go_enter Tryd.func19, Tryd.ntmps19
  go_wp2
  go_loop [3, 11] (fun sz i => ∃ k : Nat, k ≤ m ∧ i = .int .i64 k ∧ sz = .int .i64 (sumTo ls k).length) (fun _ i => m - (intOf i).toNat)
  case atStart => exact ⟨0, Nat.zero_le _, rfl, rfl⟩
  case round =>
    obtain ⟨k, hkm, rfl, rfl⟩ := hrel
    by_cases hlt : k < m
    · have hv : k < vs.length := by rw [HM.out]; exact hlt
      have hl2 : k < ls.length := by rw [← HE.out]; exact hlt
      have hcell := HC.out k vs[k] (List.getElem?_eq_getElem hv)
      obtain ⟨A, c, hA, _, hc2, _, _⟩ := HL.out k vs[k] ls[k] (List.getElem?_eq_getElem hv) (List.getElem?_eq_getElem hl2)
      rw [hA] at hcell
      have hs := sumTo_succ ls k hl2
      have hsl := HS.out (k + 1)
      have H2 : Hid ((sumTo ls (k + 1)).length = (sumTo ls k).length + ls[k].length) := Lib.hid (by rw [hs]; simp)
      have hsl2 : (sumTo ls k).length + ls[k].length ≤ 1000000000 := by rw [← H2.out]; omega
      clear hA hs hsl
      generalize ls[k].length = q at *
      generalize (sumTo ls k).length = p at *
      go_wp2
      go_round
      case rel => exact ⟨k + 1, by omega, by go_num, by rw [H2.out]; go_num⟩
      case measure => simp [intOf]; omega
    · obtain rfl : k = m := by omega
      have H3 : Hid (sumTo ls k = ls.flatten) := Lib.hid (by unfold sumTo; rw [List.take_of_length_le (by rw [← HE.out]; exact Nat.le_refl _)])
      rw [H3.out]
      generalize hq : ls.flatten.length = q at *
      have HQ := Lib.hid hq
      clear hq
      go_wp2_with fail
      refine (Grow_nil q hsum _).mono ?_
      rintro e w1 ⟨v1, rfl, hown1, hb1⟩
      go_wp2_with fail
      obtain ⟨G, hG⟩ : ∃ G, G = w.heap.size := ⟨_, rfl⟩
      rw [← hG] at hown1 hb1 hB hg
      have HG := Lib.hid hG
      clear hG
      go_loopw [6, 27] (fun v i wr => ∃ j : Nat, j ≤ k ∧ i = .int .i64 j ∧ wr.ownsRow G 5 1 v (sumTo ls j).length ((sumTo ls j).map (.int .u8)) ∧ Below G w wr) (fun _ i _ => k - (intOf i).toNat)
      case atStart => exact ⟨0, Nat.zero_le _, rfl, hown1, hb1⟩
      case round =>
        obtain ⟨j, hjm, rfl, hown, hb⟩ := hrel
        by_cases hlt2 : j < k
        · have hv : j < vs.length := by rw [HM.out]; exact hlt2
          have hl2 : j < ls.length := by rw [← HE.out]; exact hlt2
          have hcell0 := HC.out j vs[j] (List.getElem?_eq_getElem hv)
          have hcell := (hb.cell (p := ⟨g, j, none⟩) hg).trans hcell0
          obtain ⟨A, c, hA, hc1, hc2, _, hr⟩ := HL.out j vs[j] ls[j] (List.getElem?_eq_getElem hv) (List.getElem?_eq_getElem hl2)
          rw [hA] at hcell
          have hr2 := hr.below (hb.mono hB)
          have hs := sumTo_succ ls j hl2
          have hsl := HS.out (j + 1)
          have H2 : Hid ((sumTo ls (j + 1)).length = (sumTo ls j).length + ls[j].length) := Lib.hid (by rw [hs]; simp)
          have H4 : Hid ((sumTo ls (j + 1)).map (Value.int .u8) = (sumTo ls j).map (Value.int .u8) ++ ls[j].map (Value.int .u8)) := Lib.hid (by rw [hs, List.map_append])
          have hsl2 : (sumTo ls j).length + ls[j].length ≤ 1000000000 := by
            rw [← H2.out]
            exact Nat.le_trans hsl hsum
          have hone := one_u8 ls[j]
          have hbs := hb.size
          have hGs : G ≤ wr.heap.size := by rw [HG.out]; exact hbs
          clear hA hs hsl hcell0 hbs hr
          generalize ls[j].length = q2 at *
          generalize ls[j].map (Value.int .u8) = news at *
          generalize (sumTo ls j).length = p2 at *
          generalize (sumTo ls j).map (Value.int .u8) = olds at *
          go_wp2_with (at_builtin; refine wpList_append_any _ rfl (.tmp 31) (.tmp 32) _ rfl G 5 i0 _ 1 1 Tryd.underlying24 hi0 hz0 hz1 hz2 rfl (by omega) _ p2 olds rfl hown B A q2 c news rfl hr2 hone (by simp only [maxLen]; omega) (by omega) hGs ?_; intro v3 w3 hown3 hg3 hat3)
          go_roundw
          case rel =>
            refine ⟨j + 1, by omega, by go_num, by rw [H2.out, H4.out]; exact hown3, hb.grown hg3 hGs (fun x hx => ?_)⟩
            exact own_block_ge hown hx
          case measure => simp [intOf]; omega
        · obtain rfl : j = k := by omega
          go_wp2
          go_ret
          refine ⟨_, rfl, ?_, by rw [← HG.out]; exact hb⟩
          rw [H3.out] at hown
          rw [← HG.out]
          exact hown
end Go.Proofs.YtbhglmcblhnphaaDoor
