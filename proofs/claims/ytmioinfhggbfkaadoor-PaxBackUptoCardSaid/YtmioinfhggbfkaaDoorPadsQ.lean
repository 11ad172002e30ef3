/-
  append(x, make([]T, m)...), elements of one cell: the zeros stand behind what was there. Plain lemmas over any program (after the library's lemma on append of a slice).
  The laws PadBack, PadStrict: what they compute is true. Condition: at most 1048576 bytes.
-/
import Derived.Test.YtmioinfhggbfkaaDoorWords
import Derived.Maps.AppendAt
import Derived.IntWalk
import Derived.Test.YtmioinfhggbfkaaDoorPathW
import Derived.Test.YtmioinfhggbfkaaDoorOctalB
import Derived.Deep.RegionLaw
import Derived.Test.YtmioinfhggbfkaaDoorSum
import Derived.Test.YtmioinfhggbfkaaDoorFields
namespace Go.Proofs.YtmioinfhggbfkaaDoor
set_option linter.all false
section


section
open Go.RowKit

section
variable {P : Program} (w : World)
theorem zeroCells_one (z : Value) (hz : z.cells = #[z]) (n : Nat) : Builtin.zeroCells z.cells n = (List.replicate n z).toArray := by
  apply Array.ext'
  unfold Builtin.zeroCells
  rw [hz]
  apply List.ext_getElem
  · simp
  · intro i h1 h2
    simp [Nat.mod_one]
theorem run_zeros_room (t ti ty e : TypeId) (i : TypeInfo) (z : Value) (ht : P.underlying t = some (.slice e)) (hti : P.underlying ti = some (.int .i64)) (hi : P.info? e = some i) (hz : i.zero = some z) (hzc : z.cells = #[z]) (h1z : z.oneCell' = true) (hs1 : i.size = 1)
    (g sLen sCap : Nat) (cur : Array Value) (hg : w.heap[g]? = some (.cells cur e (0, 0)))
    (m : Nat) (hm63 : m ≤ maxLen) (hm48 : m * i.bytes ≤ 140737488355328) (h0 : 0 < m)
    (hroom : sLen + m ≤ sCap) (hfit : sLen * i.size + m ≤ cur.size) :
    (Builtin.append_ #[t, ti] ty #[.slice (some ⟨g, 0, none⟩) sLen sCap, .int .i64 m]).run P w =
      .ok (.slice (some ⟨g, 0, none⟩) (sLen + m) sCap) (w.setRow g (cur.toList.take (sLen * i.size) ++ List.replicate m z ++ cur.toList.drop (sLen * i.size + m)).toArray) := by
  have hw : IntKind.i64.wrap (m : Int) = m := IntWalk.i64_in _ (by unfold maxLen at hm63; exact ⟨by omega, by omega⟩)
  have h48 : ¬ (281474976710656 < (m : Int) * i.bytes) := by
    have : (m : Int) * i.bytes = ((m * i.bytes : Nat) : Int) := by simp
    omega
  have hst := run_storeCells_at P g (sLen * i.size) e (List.replicate m z) 0 cur w hg (by simpa using hfit) (fun u hu => by rw [List.eq_of_mem_replicate hu]; exact h1z)
  simp only [Nat.add_zero, List.length_replicate] at hst
  have hm0 : m ≠ 0 := by omega
  have hneg : ¬ ((m : Int) < 0) := by omega
  rw [hs1, Nat.mul_one] at hst
  simp [Builtin.append_, run_underlying ht, run_underlying hti, sizeOf, typeInfo, zeroValue, hi, hz, asInt, asIntOf, hw, h48, hneg, hs1, hm0, hroom, zeroCells_one z hzc, Addr.add_lit, hst]
theorem run_zeros_grow (t ti ty e : TypeId) (i : TypeInfo) (z : Value) (ht : P.underlying t = some (.slice e)) (hti : P.underlying ti = some (.int .i64)) (hi : P.info? e = some i) (hz : i.zero = some z) (hzc : z.cells = #[z]) (hs1 : i.size = 1)
    (b : Addr) (sLen sCap : Nat) (olds : List Value) (hlo : olds.length = sLen * i.size) (holds : ∀ j v, olds[j]? = some v → w.cell? (b.add j) = some v)
    (m : Nat) (hm63 : m ≤ maxLen) (hm48 : m * i.bytes ≤ 140737488355328) (h0 : 0 < m)
    (hg : sCap < sLen + m) (h63 : ((sLen + m : Nat) : Int) ≤ 9223372036854775807) (hfit : Builtin.nextslicecap (sLen + m) sCap * i.bytes ≤ 281474976710656) :
    (Builtin.append_ #[t, ti] ty #[.slice (some b) sLen sCap, .int .i64 m]).run P w =
      .ok (.slice (some ⟨w.heap.size, 0, none⟩) (sLen + m) (grownCap w (sLen + m) sCap e))
        (w.drew.alloc (.cells (olds.toArray ++ (List.replicate m z).toArray ++ Builtin.zeroCells z.cells (grownCap w (sLen + m) sCap e - (sLen + m))) e)) := by
  have hw : IntKind.i64.wrap (m : Int) = m := IntWalk.i64_in _ (by unfold maxLen at hm63; exact ⟨by omega, by omega⟩)
  have h48 : ¬ (281474976710656 < (m : Int) * i.bytes) := by
    have : (m : Int) * i.bytes = ((m * i.bytes : Nat) : Int) := by simp
    omega
  have hn : ¬ (sLen + m ≤ sCap) := by omega
  have h63' : ¬ (9223372036854775807 < ((sLen : Int) + (m : Int))) := by omega
  have h48' : ¬ (281474976710656 < Builtin.nextslicecap (sLen + m) sCap * i.bytes) := by omega
  have hfo := run_firstCells_some (P := P) w.drew i.size sLen b sLen sCap olds hlo (by simpa using holds)
  have hm0 : m ≠ 0 := by omega
  have hneg : ¬ ((m : Int) < 0) := by omega
  rw [hs1] at hfo
  simp [Builtin.append_, run_underlying ht, run_underlying hti, sizeOf, typeInfo, zeroValue, hi, hz, asInt, asIntOf, hw, h48, hneg, hs1, hm0, hn, h63', h48', Question.forced, hfo, newRow, grownCap, zeroCells_one z hzc]
theorem run_zeros_nil (t ti ty e : TypeId) (i : TypeInfo) (z : Value) (ht : P.underlying t = some (.slice e)) (hti : P.underlying ti = some (.int .i64)) (hi : P.info? e = some i) (hz : i.zero = some z) (hzc : z.cells = #[z]) (hs1 : i.size = 1)
    (m : Nat) (hm63 : m ≤ maxLen) (hm48 : m * i.bytes ≤ 140737488355328) (h0 : 0 < m) :
    (Builtin.append_ #[t, ti] ty #[.slice none 0 0, .int .i64 m]).run P w =
      .ok (.slice (some ⟨w.heap.size, 0, none⟩) m (grownCap w m 0 e))
        (w.drew.alloc (.cells ((List.replicate m z).toArray ++ Builtin.zeroCells z.cells (grownCap w m 0 e - m)) e)) := by
  have hw : IntKind.i64.wrap (m : Int) = m := IntWalk.i64_in _ (by unfold maxLen at hm63; exact ⟨by omega, by omega⟩)
  have h48 : ¬ (281474976710656 < (m : Int) * i.bytes) := by
    have : (m : Int) * i.bytes = ((m * i.bytes : Nat) : Int) := by simp
    omega
  have h63' : ¬ (9223372036854775807 < (m : Int)) := by unfold maxLen at hm63; omega
  have h48' : ¬ (281474976710656 < Builtin.nextslicecap m 0 * i.bytes) := by rw [nextslicecap_zero h0]; omega
  have hm0 : m ≠ 0 := by omega
  have hneg : ¬ ((m : Int) < 0) := by omega
  simp [Builtin.append_, Builtin.firstCells, run_underlying ht, run_underlying hti, sizeOf, typeInfo, zeroValue, hi, hz, asInt, asIntOf, hw, h48, hneg, hs1, hm0, h63', h48', Question.forced, newRow, grownCap, zeroCells_one z hzc]
theorem run_zeros_none (t ti ty e : TypeId) (i : TypeInfo) (ht : P.underlying t = some (.slice e)) (hti : P.underlying ti = some (.int .i64)) (hi : P.info? e = some i) (base : Nat) (v : Value) (n : Nat) (xs : List Value) (hown : w.ownsRow base e i.size v n xs) :
    (Builtin.append_ #[t, ti] ty #[v, .int .i64 0]).run P w = .ok v w := by
  have hw : IntKind.i64.wrap (0 : Int) = 0 := by decide
  rcases hown.2 with ⟨rfl, h0⟩ | ⟨g, cap, cur, rfl, _, _, hn, _⟩
  · simp [Builtin.append_, run_underlying ht, run_underlying hti, sizeOf, typeInfo, hi, asInt, asIntOf, hw]
  · simp [Builtin.append_, run_underlying ht, run_underlying hti, sizeOf, typeInfo, hi, asInt, asIntOf, hw, hn, storeCells]
theorem run_append_zeros (base : Nat) (t ti ty e : TypeId) (i : TypeInfo) (z : Value) (bytes : Nat) (ht : P.underlying t = some (.slice e)) (hti : P.underlying ti = some (.int .i64)) (hi : P.info? e = some i) (hz : i.zero = some z) (hzc : z.cells = #[z]) (h1z : z.oneCell' = true) (hs1 : i.size = 1) (hby : i.bytes = bytes)
    (v : Value) (n : Nat) (xs : List Value) (hown : w.ownsRow base e 1 v n xs) (m : Nat)
    (h63 : n + m ≤ maxLen) (hbytes : (n + m) * bytes ≤ 140737488355328) (hbase : base ≤ w.heap.size) :
    ∃ v' w', (Builtin.append_ #[t, ti] ty #[v, .int .i64 m]).run P w = .ok v' w' ∧ w'.ownsRow base e 1 v' (n + m) (xs ++ List.replicate m z) ∧ w.grownBy w' v.ownBlock := by
  subst hby
  have hm48 : m * i.bytes ≤ 140737488355328 := Nat.le_trans (Nat.mul_le_mul_right _ (by omega)) hbytes
  have hlen : (xs ++ List.replicate m z).length = (n + m) * 1 := by rw [List.length_append, hown.1, List.length_replicate]; omega
  have hzs : z.cells.size = 1 := by rw [hzc]; rfl
  rcases Nat.eq_zero_or_pos m with rfl | h0
  · refine ⟨v, w, run_zeros_none w t ti ty e i ht hti hi base v n xs (by rw [hs1]; exact hown), by simpa using hown, ⟨rfl, rfl, rfl, Nat.le_refl _, fun _ _ _ => rfl⟩⟩
  have grown : ∀ (old : Nat), old < n + m → ∀ (row : Option Nat),
      (w.drew.alloc (.cells (xs.toArray ++ (List.replicate m z).toArray ++ Builtin.zeroCells z.cells (grownCap w (n + m) old e - (n + m))) e)).ownsRow base e 1
        (.slice (some ⟨w.heap.size, 0, none⟩) (n + m) (grownCap w (n + m) old e)) (n + m) (xs ++ List.replicate m z) ∧
      w.grownBy (w.drew.alloc (.cells (xs.toArray ++ (List.replicate m z).toArray ++ Builtin.zeroCells z.cells (grownCap w (n + m) old e - (n + m))) e)) row := by
    intro old ho row
    have hge := grownCap_ge w (n + m) old e
    have hcm : grownCap w (n + m) old e ≤ maxLen := grownCap_le_maxLen w (n + m) old e h63
    refine ⟨⟨hlen, .inr ⟨w.heap.size, _, _, rfl, hbase, heap_alloc_new w.drew _, hge, hcm, ?_, ?_⟩⟩, ⟨rfl, rfl, rfl, by simp, fun k hk _ => heap_alloc_old w.drew _ hk⟩⟩
    · simp only [Array.size_append, List.size_toArray, size_zeroCells, hzs, hown.1, List.length_replicate]
      omega
    · simp only [Array.toList_append, List.append_assoc]
      rw [← List.append_assoc, ← hlen]
      exact List.take_left
  rcases hown.2 with ⟨rfl, rfl⟩ | ⟨g, cap, cur, rfl, hbg, hg, hnc, hcm, hcs, htake⟩
  · have hx : xs = [] := List.eq_nil_of_length_eq_zero (by simpa using hown.1)
    subst hx
    have hr := run_zeros_nil (P := P) w t ti ty e i z ht hti hi hz hzc hs1 m (by omega) hm48 h0
    have hgr := grown 0 (by omega) (Value.ownBlock (.slice none 0 0))
    simp only [Nat.zero_add, List.nil_append, Array.empty_append] at hgr ⊢
    exact ⟨_, _, hr, hgr.1, hgr.2⟩
  · by_cases hroom : n + m ≤ cap
    · have hfit : n * i.size + m ≤ cur.size := by rw [hcs, hs1]; omega
      have hr := run_zeros_room (P := P) w t ti ty e i z ht hti hi hz hzc h1z hs1 g n cap cur hg m (by omega) hm48 h0 hroom hfit
      rw [hs1] at hr
      refine ⟨_, _, hr, ⟨hlen, .inr ⟨g, cap, _, rfl, hbg, setRow_heap w g cur _ e _ hg, hroom, hcm, ?_, ?_⟩⟩, ⟨rfl, rfl, rfl, by simp, fun k _ hk => setRow_other w g k _ (fun e => hk (by simp [Value.ownBlock, e]))⟩⟩
      · simp only [List.size_toArray, List.length_append, List.length_take, List.length_drop, Array.length_toList, List.length_replicate]
        omega
      · rw [htake, ← hlen]
        exact List.take_left
    · have holds : ∀ j u, xs[j]? = some u → w.cell? ((⟨g, 0, none⟩ : Addr).add j) = some u := hown.cells (g := g) rfl
      have hr := run_zeros_grow (P := P) w t ti ty e i z ht hti hi hz hzc hs1 ⟨g, 0, none⟩ n cap xs (by rw [hs1]; exact hown.1) holds m (by omega) hm48 h0 (by omega) (by unfold maxLen at h63; omega) (growslice_fits (by omega) hbytes)
      have hgr := grown cap (by omega) (Value.ownBlock (.slice (some ⟨g, 0, none⟩) n cap))
      exact ⟨_, _, hr, hgr.1, hgr.2⟩
theorem wpList_append_zeros {ops : Array Oper} {rest : List Oper} {o : Oper} {a : Act} {Q : Exit → Act → World → Prop} (hgd : o.guard = none) (s x : Operand) (t ti : TypeId)
    (ho : o.op = .call { callee := .builtin .append, args := #[s, x], argTypes := #[t, ti] })
    (base : Nat) (e : TypeId) (i : TypeInfo) (z : Value) (bytes : Nat) (ht : P.underlying t = some (.slice e)) (hti : P.underlying ti = some (.int .i64)) (hi : P.info? e = some i) (hz : i.zero = some z) (hzc : z.cells = #[z]) (h1z : z.oneCell' = true) (hs1 : i.size = 1) (hby : i.bytes = bytes)
    (v : Value) (n : Nat) (xs : List Value) (hs : a.eval s = v) (hown : w.ownsRow base e 1 v n xs) (m : Nat) (hx : a.eval x = .int .i64 m)
    (h63 : n + m ≤ maxLen) (hbytes : (n + m) * bytes ≤ 140737488355328) (hbase : base ≤ w.heap.size)
    (h : ∀ v' w', w'.ownsRow base e 1 v' (n + m) (xs ++ List.replicate m z) → w.grownBy w' v.ownBlock → wpList P ops Q rest (a.put o.dst v') w') : wpList P ops Q (o :: rest) a w := by
  refine wpList_plain hgd fun _ hK => ?_
  obtain ⟨v', w', hrun, h2, h3⟩ := run_append_zeros (P := P) w base t ti o.type e i z bytes ht hti hi hz hzc h1z hs1 hby v n xs hown m h63 hbytes hbase
  unfold Oper.wp execOp
  simp only [ho, resolve, invoke, builtin, Sem.run_bind, Sem.run_pure, Result.andThen_ok, List.map_toArray, List.map_cons, List.map_nil, hs, hx, hrun]
  exact hK _ _ (h v' w' h2 h3)
end
end
section
open Go.RowKit

def lackN (n : Nat) : Nat := (512 - n % 512) % 512
def fillL (l : List Int) : List Int := l ++ List.replicate (lackN l.length) 0
theorem fillL_length (l : List Int) : ((fillL l).length : Int) = blocks l.length * 512 := by
  simp [fillL, lackN, blocks]; omega
theorem map_rep0 (m : Nat) : List.replicate m (Value.int .u8 0) = (List.replicate m (0 : Int)).map (.int .u8) := by rw [List.map_replicate]

set_option maxRecDepth 100000 in
set_option maxHeartbeats 400000 in
theorem Fill_any (v : Value) (l : List Int) (B : Nat) (w : World) (hl : IntsAt .u8 w B v l) (hB : B ≤ w.heap.size) (hn : l.length ≤ 1000000000) :
    Calls Tryd.prog 55 #[v] w fun e w' => ∃ v', e = .returned v' ∧ w'.ownsRow w.heap.size 5 1 v' (fillL l).length ((fillL l).map (.int .u8)) ∧ Below w.heap.size w w' := by
  obtain ⟨A, c, rfl, hlc, hc, hA, hr⟩ := hl
  unfold maxLen at hc
  have h1 := one_u8 l
  have hr2 := hr.more hB
  obtain ⟨m, hm, hm2⟩ : ∃ m : Nat, (512 - (l.length : Int) % 512) % 512 = m ∧ m = lackN l.length := ⟨lackN l.length, by unfold lackN; omega, rfl⟩
  have hm3 : m ≤ 511 := by unfold lackN at hm2; omega
  have fin : Hid (l.map (Value.int .u8) ++ List.replicate m (Value.int .u8 0) = (fillL l).map (.int .u8)) := Lib.hid (by unfold fillL; rw [map_rep0, hm2, List.map_append])
  have finn : Hid (l.length + m = (fillL l).length) := Lib.hid (by unfold fillL; rw [hm2]; simp)
  clear hm2
  generalize hln : l.length = n at *
  have Hn := Lib.hid hln
  clear hln
  obtain ⟨i0, hi0, hz0, hz1, hz2⟩ := info_parts u8_info
  go_enter Tryd.func55, Tryd.ntmps55
  go_wp2_with (first
    | (at_builtin
       refine wpList_append_any _ rfl (.const (.slice none 0 0)) (.tmp 9) _ rfl w.heap.size 5 i0 _ 1 1 Tryd.underlying26 hi0 hz0 hz1 hz2 rfl (by omega) (.slice none 0 0) 0 [] rfl
         (World.ownsRow_nil _ _ _ _) w.heap.size A n c (l.map (.int .u8)) rfl hr2 h1 (by simp only [maxLen]; omega) (by omega) (Nat.le_refl _) ?_
       intro v1 w1 hown1 hg1 hat1)
    | (at_builtin
       refine wpList_append_zeros _ rfl (.tmp 10) (.tmp 11) _ _ rfl w.heap.size 5 i0 _ 1 Tryd.underlying26 Tryd.underlying3 hi0 hz0 rfl rfl hz1 hz2 v1 (0 + n) _ rfl hown1 m rfl
         (by simp only [maxLen]; omega) (by omega) hg1.size ?_
       intro v2 w2 hown2 hg2))
  go_ret
  refine ⟨v2, rfl, ?_, ((Below.refl _ _).grown hg1 (Nat.le_refl _) (fun k hk => by cases hk)).grown hg2 hg1.size (fun k hk => ?_)⟩
  · rw [Nat.zero_add, List.nil_append, fin.out, finn.out] at hown2
    exact hown2
  · rcases hat1 with h | h
    · rw [h] at hk; cases hk
    · rw [h] at hk; cases hk; exact Nat.le_refl _
theorem own_slice {w : World} {base n : Nat} {e : TypeId} {v : Value} {xs : List Value} (h : w.ownsRow base e 1 v n xs) (h0 : 0 < n) :
    ∃ g c, v = .slice (some ⟨g, 0, none⟩) n c ∧ base ≤ g ∧ g < w.heap.size ∧ n ≤ c ∧ c ≤ maxLen ∧ w.ownsRow base e 1 (.slice (some ⟨g, 0, none⟩) 0 c) 0 [] := by
  rcases h.2 with ⟨_, h1⟩ | ⟨g, cap, cur, rfl, hbg, hg, hnc, hcm, hcs, htake⟩
  · omega
  · refine ⟨g, cap, rfl, hbg, ?_, hnc, hcm, ⟨by simp, .inr ⟨g, cap, cur, rfl, hbg, hg, Nat.zero_le _, hcm, hcs, by simp⟩⟩⟩
    rcases Nat.lt_or_ge g w.heap.size with h | h
    · exact h
    · rw [Array.getElem?_eq_none h] at hg; cases hg

theorem own_block_ge {w : World} {base n size : Nat} {e : TypeId} {v : Value} {xs : List Value} (h : w.ownsRow base e size v n xs) {x : Nat} (hx : v.ownBlock = some x) : base ≤ x := by
  rcases h.2 with ⟨rfl, _⟩ | ⟨g, cap, cur, rfl, hbg, _⟩
  · cases hx
  · cases hx; exact hbg
/-! ### slices.Concat at []byte -/
def sumTo (ls : List (List Int)) (k : Nat) : List Int := (ls.take k).flatten
theorem sumTo_succ (ls : List (List Int)) (k : Nat) (h : k < ls.length) : sumTo ls (k + 1) = sumTo ls k ++ ls[k] := by
  unfold sumTo; rw [List.take_succ_eq_append_getElem h, List.flatten_append]; simp
theorem sumTo_le (ls : List (List Int)) (k : Nat) : (sumTo ls k).length ≤ ls.flatten.length := by
  have h : ls.flatten = sumTo ls k ++ (ls.drop k).flatten := by
    unfold sumTo; rw [← List.flatten_append, List.take_append_drop]
  rw [h]; simp
end
section
open Go.RowKit

def kN (n : Nat) : Nat := (n + 511) / 512
theorem blocks_nat (n : Nat) : blocks (n : Int) = (kN n : Int) := by unfold blocks kN; omega
/-- a part of a slice of bytes -/
theorem BytesAt.part {w : World} {B c : Nat} {ad : Addr} {l : List UInt8} (h : BytesAt w B (.slice (some ad) l.length c) l) (a b : Nat) (hab : a ≤ b) (hb : b ≤ l.length) :
    BytesAt w B (.slice (some (if c = a then ad else ad.add a)) (b - a) (c - a)) ((l.drop a).take (b - a)) := by
  obtain ⟨A, c2, e, h1, h2, h3, hr⟩ := h
  rw [List.length_map] at e h1 hr
  cases e
  have hl : (((l.drop a).take (b - a)).map ofB).length = b - a := by rw [List.length_map, List.length_take, List.length_drop]; omega
  refine ⟨_, _, by rw [hl], by rw [hl]; omega, by unfold maxLen at *; omega, (fun h => by cases h), by rw [hl, List.length_map, hl, Nat.mul_one], fun h0 => ?_⟩
  rw [hl] at h0
  obtain ⟨ad', e, hb', hc⟩ := hr.2 (by omega)
  cases e
  have hca : c ≠ a := by omega
  refine ⟨_, rfl, by rw [if_neg hca, block_of_add]; exact hb', fun j u hu => ?_⟩
  rw [if_neg hca, add_of_add]
  refine hc _ u ?_
  rw [← hu]
  simp only [List.getElem?_map]
  rw [List.getElem?_take, List.getElem?_drop]
  by_cases hj : j < b - a
  · rw [if_pos hj]
  · exfalso
    rw [List.getElem?_map, List.getElem?_map, List.getElem?_take, if_neg hj] at hu
    cases hu

theorem BytesAt.front {w : World} {B c : Nat} {ad : Addr} {l : List UInt8} (h : BytesAt w B (.slice (some ad) l.length c) l) (b : Nat) (hb : b ≤ l.length) :
    BytesAt w B (.slice (some ad) b c) (l.take b) := by
  have h2 := h.part 0 b (Nat.zero_le _) hb
  rw [Nat.sub_zero, Nat.sub_zero, List.drop_zero] at h2
  by_cases hc : c = 0
  · rw [if_pos hc] at h2; exact h2
  · rw [if_neg hc] at h2
    have : ad.add 0 = ad := rfl
    rw [this] at h2
    exact h2
/-- append of a part onto nothing, within a region that draws -/
theorem own_at {w : World} {base n : Nat} {v : Value} {l : List UInt8} (h : w.ownsRow base 5 1 v n ((l.map ofB).map (.int .u8))) (hn : n = l.length) : BytesAt w w.heap.size v l := by
  subst hn
  refine IntsAt.of_own (base := base) (e := 5) ?_
  rw [List.length_map]; exact h
theorem own_below_ {w w' : World} {base : Nat} {e : TypeId} {size n : Nat} {v : Value} {xs : List Value} (h : w.ownsRow base e size v n xs) (hb : Below w.heap.size w w') : w'.ownsRow base e size v n xs := by
  obtain ⟨h1, h2⟩ := h
  refine ⟨h1, ?_⟩
  rcases h2 with h | ⟨g, cap, cur, hv, hb', hg, r⟩
  · exact .inl h
  · exact .inr ⟨g, cap, cur, hv, hb', (hb.block g (Array.getElem?_eq_some_iff.1 hg).1).trans hg, r⟩
theorem own_len {w : World} {base n : Nat} {v : Value} {l : List UInt8} (h : w.ownsRow base 5 1 v n ((l.map ofB).map (.int .u8))) (hn : n = l.length) : w.ownsRow base 5 1 v l.length ((l.map ofB).map (.int .u8)) := by
  subst hn; exact h
end
end
section
open Go.RowKit

def padB (l : List UInt8) : List UInt8 := l ++ List.replicate (lackN l.length) 0
theorem fillL_map (l : List UInt8) : fillL (l.map ofB) = (padB l).map ofB := by
  unfold fillL padB
  rw [List.map_append, List.map_replicate, List.length_map]; rfl
theorem padB_length (l : List UInt8) : (padB l).length = kN l.length * 512 := by
  unfold padB lackN kN; simp; omega
theorem ownL {w : World} {base : Nat} {v : Value} {l : List UInt8} (h : w.ownsRow base 5 1 v l.length ((l.map ofB).map (.int .u8))) : BytesAt w w.heap.size v l := own_at h rfl

theorem Fill_bytes (v : Value) (l : List UInt8) (B : Nat) (w : World) (hl : BytesAt w B v l) (hB : B ≤ w.heap.size) (hn : l.length ≤ 1000000000) :
    Calls Tryd.prog 55 #[v] w fun e w' => ∃ v', e = .returned v' ∧ w'.ownsRow w.heap.size 5 1 v' (padB l).length (((padB l).map ofB).map (.int .u8)) ∧ Below w.heap.size w w' := by
  refine (Fill_any v (l.map ofB) B w hl hB (by rw [List.length_map]; exact hn)).mono fun e w' ⟨v', h1, h2, h3⟩ => ⟨v', h1, ?_, h3⟩
  rw [fillL_map, List.length_map] at h2
  exact h2
end
end Go.Proofs.YtmioinfhggbfkaaDoor
