/-
  slices.Grow over records (cells of any number): append of make to nothing.
-/
import Derived.Test.YtmioinfhggbfkaaDoorPadsQ
import Derived.Test.YtmioinfhggbfkaaDoorRecsQ
namespace Go.Proofs.YtmioinfhggbfkaaDoor
set_option linter.all false
open Go.RowKit Go.Builtin
section
variable {P : Program} (w : World)
theorem run_zerosN_nil (t ti ty e : TypeId) (i : TypeInfo) (z : Value) (ht : P.underlying t = some (.slice e)) (hti : P.underlying ti = some (.int .i64)) (hi : P.info? e = some i) (hz : i.zero = some z)
    (m : Nat) (hm63 : m ≤ maxLen) (hm48 : m * i.bytes ≤ 140737488355328) (h0 : 0 < m) (hs0 : 0 < i.size) :
    (Builtin.append_ #[t, ti] ty #[.slice none 0 0, .int .i64 m]).run P w =
      .ok (.slice (some ⟨w.heap.size, 0, none⟩) m (grownCap w m 0 e))
        (w.drew.alloc (.cells (Builtin.zeroCells z.cells m ++ Builtin.zeroCells z.cells (grownCap w m 0 e - m)) e)) := by
  have hw : IntKind.i64.wrap (m : Int) = m := IntWalk.i64_in _ (by unfold maxLen at hm63; exact ⟨by omega, by omega⟩)
  have h48 : ¬ (281474976710656 < (m : Int) * i.bytes) := by
    have : (m : Int) * i.bytes = ((m * i.bytes : Nat) : Int) := by simp
    omega
  have h63' : ¬ (9223372036854775807 < (m : Int)) := by unfold maxLen at hm63; omega
  have h48' : ¬ (281474976710656 < Builtin.nextslicecap m 0 * i.bytes) := by rw [nextslicecap_zero h0]; omega
  have hm0 : m ≠ 0 := by omega
  have hneg : ¬ ((m : Int) < 0) := by omega
  have hms : m * i.size ≠ 0 := Nat.mul_ne_zero hm0 (by omega)
  simp [Builtin.append_, Builtin.firstCells, run_underlying ht, run_underlying hti, sizeOf, typeInfo, zeroValue, hi, hz, asInt, asIntOf, hw, h48, hneg, hm0, hms, h63', h48', Question.forced, newRow, grownCap]
theorem wpList_grow0 {ops : Array Oper} {rest : List Oper} {o : Oper} {a : Act} {Q : Exit → Act → World → Prop} (hgd : o.guard = none) (s x : Operand) (t ti : TypeId)
    (ho : o.op = .call { callee := .builtin .append, args := #[s, x], argTypes := #[t, ti] })
    (e : TypeId) (i : TypeInfo) (z : Value) (bytes size : Nat) (ht : P.underlying t = some (.slice e)) (hti : P.underlying ti = some (.int .i64)) (hi : P.info? e = some i) (hz : i.zero = some z) (hsz : i.size = size) (hcs : z.cells.size = size) (hs0 : 0 < size) (hby : i.bytes = bytes)
    (hs : a.eval s = .slice none 0 0) (m : Nat) (hx : a.eval x = .int .i64 m) (h0 : 0 < m)
    (h63 : m ≤ maxLen) (hbytes : m * bytes ≤ 140737488355328)
    (h : ∀ g c w', m ≤ c → c ≤ maxLen → w'.ownsRow w.heap.size e size (.slice (some ⟨g, 0, none⟩) 0 c) 0 [] → w.grownBy w' none → wpList P ops Q rest (a.put o.dst (.slice (some ⟨g, 0, none⟩) m c)) w') : wpList P ops Q (o :: rest) a w := by
  refine wpList_plain hgd fun _ hK => ?_
  subst hsz hby
  have hrun := run_zerosN_nil (P := P) w t ti o.type e i z ht hti hi hz m h63 hbytes h0 hs0
  unfold Oper.wp execOp
  simp only [ho, resolve, invoke, builtin, Sem.run_bind, Sem.run_pure, Result.andThen_ok, List.map_toArray, List.map_cons, List.map_nil, hs, hx, hrun]
  have hge := grownCap_ge w m 0 e
  have hcm : grownCap w m 0 e ≤ maxLen := grownCap_le_maxLen w m 0 e h63
  refine hK _ _ (h w.heap.size _ _ hge hcm ⟨by simp, .inr ⟨w.heap.size, _, _, rfl, Nat.le_refl _, heap_alloc_new w.drew _, Nat.zero_le _, hcm, ?_, by simp⟩⟩ ⟨rfl, rfl, rfl, by simp, fun k hk _ => heap_alloc_old w.drew _ hk⟩)
  simp only [Array.size_append, size_zeroCells, hcs]
  rw [← Nat.add_mul]
  congr 1
  omega
end
set_option maxRecDepth 100000 in
set_option maxHeartbeats 400000 in
theorem RGrow_nil (n : Nat) (hn : n ≤ 1000000) (w : World) :
    Calls Tryd.prog 38 #[.slice none 0 0, .int .i64 n] w fun e w' => ∃ v', e = .returned v' ∧ w'.ownsRow w.heap.size 42 2 v' 0 [] ∧ Below w.heap.size w w' := by
  obtain ⟨i0, hi0, hz0, hz1, hz2⟩ := info_parts recinfo
  rcases Nat.eq_zero_or_pos n with rfl | h0
  · go_enter Tryd.func38, Tryd.ntmps38
    go_wp2
    go_ret
    exact ⟨_, rfl, World.ownsRow_nil _ _ _ _, Below.refl _ _⟩
  · go_enter Tryd.func38, Tryd.ntmps38
    go_wp2_with (at_builtin; refine wpList_grow0 _ rfl (.tmp 20) (.tmp 21) _ _ rfl 42 i0 _ 32 2 Tryd.underlying35 Tryd.underlying3 hi0 hz0 hz1 rfl (by omega) hz2 rfl n rfl h0 (by simp only [maxLen]; omega) (by omega) ?_; intro g c w2 hc1 hc2 hown2 hg2; unfold maxLen at hc2)
    go_ret
    exact ⟨_, rfl, hown2, (Below.refl _ _).grown hg2 (Nat.le_refl _) (fun k hk => by cases hk)⟩
def rsum (ls : List (List RecS)) (k : Nat) : List RecS := (ls.take k).flatten
theorem rsum_succ (ls : List (List RecS)) (k : Nat) (h : k < ls.length) : rsum ls (k + 1) = rsum ls k ++ ls[k] := by
  unfold rsum; rw [List.take_succ_eq_append_getElem h, List.flatten_append]; simp
theorem rsum_le (ls : List (List RecS)) (k : Nat) : (rsum ls k).length ≤ ls.flatten.length := by
  have h : ls.flatten = rsum ls k ++ (ls.drop k).flatten := by
    unfold rsum; rw [← List.flatten_append, List.take_append_drop]
  rw [h]; simp
theorem one_rec (l : List RecS) : ∀ u ∈ l.flatMap recC, u.oneCell' = true := by
  intro u hu
  obtain ⟨r, -, h⟩ := List.mem_flatMap.1 hu
  simp only [recC, List.mem_cons, List.not_mem_nil, or_false] at h
  rcases h with rfl | rfl <;> rfl
set_option maxRecDepth 100000 in
set_option maxHeartbeats 1000000 in
theorem RConcat_any (g : Nat) (vs : List Value) (ls : List (List RecS)) (w : World) (hg : g < w.heap.size) (hcells : ∀ j u, vs[j]? = some u → w.cell? ⟨g, j, none⟩ = some u)
    (hlen : vs.length = ls.length) (hls : ∀ (j : Nat) v l, vs[j]? = some v → ls[j]? = some l → RecsAt w v l) (hk : vs.length ≤ 1000) (hsum : ls.flatten.length ≤ 1000000) :
    Calls Tryd.prog 18 #[.slice (some ⟨g, 0, none⟩) vs.length vs.length] w fun e w' =>
      ∃ v', e = .returned v' ∧ RecsOwn w' w.heap.size v' ls.flatten ∧ Below w.heap.size w w' := by
  obtain ⟨i0, hi0, hz0, hz1, hz2⟩ := info_parts recinfo
  have HC := Lib.hid hcells; have HL := Lib.hid hls; have HE := Lib.hid hlen
  clear hcells hls hlen
  generalize hm : vs.length = m at *
  have HM := Lib.hid hm
  clear hm
  have hs0 := rsum_le ls
  have HS := Lib.hid hs0
  clear hs0
  go_enter Tryd.func18, Tryd.ntmps18
  go_wp2
  go_loop [3, 11] (fun sz i => ∃ k : Nat, k ≤ m ∧ i = .int .i64 k ∧ sz = .int .i64 (rsum ls k).length) (fun _ i => m - (intOf i).toNat)
  case atStart => exact ⟨0, Nat.zero_le _, rfl, rfl⟩
  case round =>
    obtain ⟨k, hkm, rfl, rfl⟩ := hrel
    by_cases hlt : k < m
    · have hv : k < vs.length := by rw [HM.out]; exact hlt
      have hl2 : k < ls.length := by rw [← HE.out]; exact hlt
      have hcell := HC.out k vs[k] (List.getElem?_eq_getElem hv)
      obtain ⟨A, c, hA, _, hc2, _, _⟩ := HL.out k vs[k] ls[k] (List.getElem?_eq_getElem hv) (List.getElem?_eq_getElem hl2)
      rw [hA] at hcell
      have hs := rsum_succ ls k hl2
      have hsl := HS.out (k + 1)
      have H2 : Hid ((rsum ls (k + 1)).length = (rsum ls k).length + ls[k].length) := Lib.hid (by rw [hs]; simp)
      have hsl2 : (rsum ls k).length + ls[k].length ≤ 1000000 := by rw [← H2.out]; omega
      clear hA hs hsl
      generalize ls[k].length = q at *
      generalize (rsum ls k).length = p at *
      go_wp2
      go_round
      case rel => exact ⟨k + 1, by omega, by go_num, by rw [H2.out]; go_num⟩
      case measure => simp [intOf]; omega
    · obtain rfl : k = m := by omega
      have H3 : Hid (rsum ls k = ls.flatten) := Lib.hid (by unfold rsum; rw [List.take_of_length_le (by rw [← HE.out]; exact Nat.le_refl _)])
      rw [H3.out]
      generalize hq : ls.flatten.length = q at *
      have HQ := Lib.hid hq
      clear hq
      go_wp2_with fail
      refine (RGrow_nil q hsum _).mono ?_
      rintro e w1 ⟨v1, rfl, hown1, hb1⟩
      go_wp2_with fail
      obtain ⟨G, hG⟩ : ∃ G, G = w.heap.size := ⟨_, rfl⟩
      rw [← hG] at hown1 hb1 hg
      have HG := Lib.hid hG
      clear hG
      go_loopw [6, 27] (fun v i wr => ∃ j : Nat, j ≤ k ∧ i = .int .i64 j ∧ wr.ownsRow G 42 2 v (rsum ls j).length ((rsum ls j).flatMap recC) ∧ Below G w wr) (fun _ i _ => k - (intOf i).toNat)
      case atStart => exact ⟨0, Nat.zero_le _, rfl, hown1, hb1⟩
      case round =>
        obtain ⟨j, hjm, rfl, hown, hb⟩ := hrel
        by_cases hlt2 : j < k
        · have hv : j < vs.length := by rw [HM.out]; exact hlt2
          have hl2 : j < ls.length := by rw [← HE.out]; exact hlt2
          have hcell0 := HC.out j vs[j] (List.getElem?_eq_getElem hv)
          have hcell := (hb.cell (p := ⟨g, j, none⟩) hg).trans hcell0
          obtain ⟨A, c, hA, hc1, hc2, _, hr⟩ := HL.out j vs[j] ls[j] (List.getElem?_eq_getElem hv) (List.getElem?_eq_getElem hl2)
          rw [hA] at hcell
          have hr2 := (HG.out ▸ hr).below hb
          have hs := rsum_succ ls j hl2
          have hsl := HS.out (j + 1)
          have H2 : Hid ((rsum ls (j + 1)).length = (rsum ls j).length + ls[j].length) := Lib.hid (by rw [hs]; simp)
          have H4 : Hid ((rsum ls (j + 1)).flatMap recC = (rsum ls j).flatMap recC ++ ls[j].flatMap recC) := Lib.hid (by rw [hs, List.flatMap_append])
          have hsl2 : (rsum ls j).length + ls[j].length ≤ 1000000 := by
            rw [← H2.out]
            exact Nat.le_trans hsl hsum
          have hone := one_rec ls[j]
          have hbs := hb.size
          have hGs : G ≤ wr.heap.size := by rw [HG.out]; exact hbs
          clear hA hs hsl hcell0 hbs hr
          generalize ls[j].length = q2 at *
          generalize ls[j].flatMap recC = news at *
          generalize (rsum ls j).length = p2 at *
          generalize (rsum ls j).flatMap recC = olds at *
          go_wp2_with (at_builtin; refine wpList_append_any _ rfl (.tmp 31) (.tmp 32) _ rfl G 42 i0 _ 2 32 Tryd.underlying35 hi0 hz0 hz1 hz2 rfl (by omega) _ p2 olds rfl hown G A q2 c news rfl hr2 hone (by simp only [maxLen]; omega) (by omega) hGs ?_; intro v3 w3 hown3 hg3 hat3)
          go_roundw
          case rel =>
            refine ⟨j + 1, by omega, by go_num, by rw [H2.out, H4.out]; exact hown3, hb.grown hg3 hGs (fun x hx => ?_)⟩
            exact own_block_ge hown hx
          case measure => simp [intOf]; omega
        · obtain rfl : j = k := by omega
          go_wp2
          go_ret
          refine ⟨_, rfl, ?_, by rw [← HG.out]; exact hb⟩
          rw [H3.out] at hown
          unfold RecsOwn
          rw [← HG.out]
          exact hown
end Go.Proofs.YtmioinfhggbfkaaDoor
