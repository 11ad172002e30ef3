/-
  The law PaxTwice: what it computes is true. Condition: raw things of the second form's bound; the library's table of powers of ten lies as Go laid it.
-/
import Derived.Test.YtjbpoijefkbllaaDoorRecsOf
import Derived.Test.YtjbpoijefkbllaaDoorPaxF
namespace Go.Proofs.YtjbpoijefkbllaaDoor
open Go.RowKit

def rawZ : RawS := ⟨0, 0, 0, []⟩
theorem rawinfo : (Tryd.prog.info? 40).map (fun i => (i.zero, i.size, i.bytes)) = some (some (.agg #[.int .i64 0, .int .i64 0, .int .i64 0, .string ⟨#[]⟩]), 4, 40) := by kernel_rfl
theorem ones_raw (l : List RawS) : ∀ u ∈ l.flatMap rawCells, u.oneCell' = true := by
  intro u hu
  obtain ⟨x, _, hx⟩ := List.mem_flatMap.1 hu
  simp only [rawCells, List.mem_cons, List.mem_nil_iff, or_false] at hx
  rcases hx with rfl | rfl | rfl | rfl <;> rfl
def RawsOwn (w : World) (base : Nat) (v : Value) (l : List RawS) : Prop := w.ownsRow base 40 4 v l.length (l.flatMap rawCells)
theorem RawsOwn.at_ {w : World} {base : Nat} {v : Value} {l : List RawS} (h : RawsOwn w base v l) : RawsAt w w.heap.size v l := by
  obtain ⟨A, c, rfl, h1, h2, h3, h4⟩ := ownsRow_read h
  exact ⟨A, c, rfl, h1, h2, h3, h4⟩
set_option maxRecDepth 100000 in
theorem CloneR_any (v : Value) (l : List RawS) (w : World) (hl : RawsAt w w.heap.size v l) (hn : l.length ≤ 1048576) :
    Calls Tryd.prog 27 #[v] w fun e w' => ∃ tv, e = .returned tv ∧ RawsOwn w' w.heap.size tv l ∧ Below w.heap.size w w' := by
  obtain ⟨A, c, rfl, hlc, hc, hA, hr⟩ := hl
  unfold maxLen at hc
  obtain ⟨i9, hi9, hy0, hy1, hy2⟩ := info_parts rawinfo
  have q22 : ∀ (w : World) (a : Option Addr) (n c n' c' : Nat), (binOp .eql 22 (.slice a n c) (.slice none n' c')).run Tryd.prog w = .ok (.bool a.isNone) w := fun w a n c n' c' => Lib.run_eql_slice_nil w _ _ a n c n' c' Tryd.underlying22
  rcases A with _ | ad
  · obtain rfl := hA rfl
    obtain rfl : l = [] := List.eq_nil_of_length_eq_zero (by omega)
    simp only [List.length_nil]
    clear hr hA
    go_enter Tryd.func27, Tryd.ntmps27
    go_wp2_with fail
    go_ret
    exact ⟨_, rfl, World.ownsRow_nil _ _ _ _, Below.refl _ _⟩
  · have HR := Lib.hid hr
    clear hr hA
    go_enter Tryd.func27, Tryd.ntmps27
    go_wp2_with (at_builtin; refine wpList_append_any _ rfl (.tmp 5) (.tmp 6) _ rfl w.heap.size 40 i9 _ 4 40 Tryd.underlying22 hi9 hy0 hy1 hy2 rfl (by omega) _ 0 [] rfl (World.ownsRow_made w #[] 0 (Nat.le_refl _) (Nat.zero_le _) rfl) w.heap.size (some ad) l.length c (l.flatMap rawCells) rfl (HR.out.below ((Below.refl _ _).alloc (Nat.le_refl _) _)) (ones_raw l) (by simp only [maxLen]; omega) (by omega) (by simp) ?_; intro v9 w9 hown9 hg9 hat9; obtain ⟨A9, c9, hv9, -⟩ := ownsRow_read hown9; subst hv9; have HO9 := Lib.hid hown9; have HG9 := Lib.hid hg9; clear hown9 hg9 hat9)
    go_ret
    have hB := ((Below.refl w.heap.size w).alloc (Nat.le_refl _) (.cells #[] 40)).grown HG9.out (by simp) (fun k hk => by have h : some w.heap.size = some k := hk; injection h with h; omega)
    exact ⟨_, rfl, by have := HO9.out; simpa [RawsOwn] using this, hB⟩
theorem rawZ_ok : RawOk rawZ := ⟨⟨by decide, by decide⟩, ⟨by decide, by decide⟩, ⟨by decide, by decide⟩, by simp [rawZ]⟩
theorem find_own {x : List RecS} (hp : (x.map (·.key)).Pairwise (fun a b => leK b a = false)) {k : Nat} (hk : k < x.length) : findR x x[k].key = some x[k].value := by
  unfold findR
  have : x.find? (fun r => r.key == x[k].key) = some x[k] := by
    refine List.find?_eq_some_iff_getElem.2 ⟨beq_self_eq_true _, k, hk, rfl, fun j hj => ?_⟩
    have h := List.pairwise_iff_getElem.1 hp j k (by rw [List.length_map]; omega) (by rw [List.length_map]; omega) hj
    rw [List.getElem_map, List.getElem_map] at h
    rw [Bool.not_eq_true', beq_eq_false_iff_ne]
    intro e
    rw [e] at h
    unfold leK at h
    simp at h
  rw [this]; rfl
theorem recsP_pairs (l : List RawS) : ((recsP 97 l).map (·.key)).Pairwise (fun a b => leK b a = false) := by
  unfold recsP
  rw [recsK_keys]
  exact keys_up.sublist (List.take_sublist _ _)
theorem twice_no {l : List RawS} {k : Nat} (hk : k < (recsP 97 l).length) : ¬ Asc (recsP 97 l ++ [(recsP 97 l)[k]]) := by
  intro h
  have hn := recsP_len 97 l
  have hk6 : k < 6 := by omega
  have h2 := h ((recsP 97 l).length - 1) (by simp; omega)
  have hkey : ∀ j (hj : j < (recsP 97 l).length), some ((recsP 97 l)[j]).key = (keys6 97)[j]? := fun j hj => by
    have e := recsK_keys 97 l l.length
    have e2 : ((recsP 97 l).map (·.key))[j]? = ((keys6 97).take l.length)[j]? := by unfold recsP; rw [e]
    rw [List.getElem?_map, List.getElem?_eq_getElem hj, List.getElem?_take, if_pos (by omega)] at e2
    exact e2
  have e1 : (recsP 97 l ++ [(recsP 97 l)[k]])[(recsP 97 l).length - 1 + 1]'(by simp; omega) = (recsP 97 l)[k] := by
    rw [List.getElem_append_right (by omega)]
    simp
  have e2 : (recsP 97 l ++ [(recsP 97 l)[k]])[(recsP 97 l).length - 1]'(by simp; omega) = (recsP 97 l)[(recsP 97 l).length - 1]'(by omega) := List.getElem_append_left _
  rw [e1, e2] at h2
  have a1 := hkey k hk
  have a2 := hkey ((recsP 97 l).length - 1) (by omega)
  generalize ((recsP 97 l)[k]).key = x at *
  generalize ((recsP 97 l)[(recsP 97 l).length - 1]'(by omega)).key = y at *
  have key : ∀ i, i < 6 → ∀ j, j < 6 → i ≤ j → ∀ x y, some x = (keys6 97)[i]? → some y = (keys6 97)[j]? → leK x y = true := by
    have : ∀ i, i < 6 → ∀ j, j < 6 → i ≤ j → leK ((keys6 97).getD i []) ((keys6 97).getD j []) = true := by decide
    intro i hi j hj hij x y hx hy
    have h := this i hi j hj hij
    rw [List.getD_eq_getElem?_getD, List.getD_eq_getElem?_getD, ← hx, ← hy] at h
    exact h
  have := key k hk6 ((recsP 97 l).length - 1) (by omega) (by omega) x y a1 a2
  rw [this] at h2
  cases h2
set_option maxRecDepth 100000 in
set_option maxHeartbeats 4000000 in
theorem PaxTwice_walk (w : World) (hsh : w.ShapedOpen Tryd.prog) (h10 : P10 w) (v : Value) (l : List RawS) (hl : RawsAt w w.heap.size v l) (hok : ∀ x ∈ l, RawOk x) (hn : l.length ≤ 1048576) (i : Int) (hi : I64 i) :
    Calls Tryd.prog 7 #[v, .int .i64 i] w fun e w' => e = .returned (.bool true) ∧ Below w.heap.size w w' := by
  have hm := ML.of_shaped hsh
  clear hsh
  have HML : Hid (∀ W, Below w.heap.size w W → ML W) := Lib.hid (fun W hb => hm.below hb)
  have HP10 : Hid (∀ W, Below w.heap.size w W → P10 W) := Lib.hid (fun W hb => h10.below hb)
  have HC := Lib.hid (CloneR_any v l w hl hn)
  obtain ⟨Av, nv, rfl, -⟩ := hl
  have hokz : ∀ x ∈ l ++ [rawZ], RawOk x := fun x hx => by
    rcases List.mem_append.1 hx with hx | hx
    · exact hok x hx
    · rw [List.mem_singleton] at hx; subst hx; exact rawZ_ok
  have HRO := Lib.hid (fun v W (hb : Below w.heap.size w W) (h : RawsAt W W.heap.size v (l ++ [rawZ])) => recordsOf_any (l ++ [rawZ]) v 97 (.inl rfl) W (HML.out W hb) (HP10.out W hb) h hokz (by simp; omega))
  have hxl := recsP_len 97 (l ++ [rawZ])
  rw [List.length_append, List.length_singleton] at hxl
  obtain ⟨k, hk1, hk⟩ := pick_nat i (recsP 97 (l ++ [rawZ])).length (by omega)
  have HPK := Lib.hid (fun W => picked_any i (recsP 97 (l ++ [rawZ])).length hi (by omega) (by omega) W)
  rw [hk1] at HPK
  have HT := Lib.hid (twice_no (l := l ++ [rawZ]) hk)
  have HA := Lib.hid (recsP_asc (l ++ [rawZ]))
  have HOK := Lib.hid (recsP_ok (c := 97) (.inl rfl) (l ++ [rawZ]))
  have HF := Lib.hid (find_own (recsP_pairs (l ++ [rawZ])) hk)
  have hx1 : 1 ≤ (recsP 97 (l ++ [rawZ])).length := by omega
  have hx6 : (recsP 97 (l ++ [rawZ])).length ≤ 6 := by omega
  clear hk1 hm h10 hok hokz hxl hi
  generalize recsP 97 (l ++ [rawZ]) = x at *
  obtain ⟨i9, hi9, hy0, hy1, hy2⟩ := info_parts rawinfo
  have hone : ∀ u ∈ rawCells rawZ, u.oneCell' = true := by have := ones_raw [rawZ]; simpa using this
  have hkz : (0 : Int) ≤ (k : Int) := by omega
  have hkx : (k : Int) < (x.length : Int) := by omega
  go_enter Tryd.func7, Tryd.ntmps7
  go_wp2_with fail
  refine HC.out.mono ?_
  rintro e w1 ⟨cv, rfl, hown, b1⟩
  obtain ⟨Ac, nc, rfl, -⟩ := ownsRow_read hown
  unfold RawsOwn at hown
  have HO1 := Lib.hid hown
  have HB1 := Lib.hid b1
  have hsz1 := b1.size
  clear hown b1 HC
  go_wp2_with (at_builtin; refine wpList_append_any _ rfl (.tmp 16) (.tmp 18) _ rfl w.heap.size 40 i9 _ 4 40 Tryd.underlying22 hi9 hy0 hy1 hy2 rfl (by omega) _ l.length (l.flatMap rawCells) rfl (ownsRow_below HO1.out ((Below.refl _ _).alloc (Nat.le_refl _) _)) (w1.heap.size + 1) (some ⟨w1.heap.size, 0, none⟩) 1 1 (rawCells rawZ) rfl (new_row w1 40 (rawCells rawZ) 1 4 rfl) hone (by simp only [maxLen]; omega) (by omega) (by simp; omega) ?_; intro v9 w9 hown9 hg9 hat9; obtain ⟨A9, c9, hv9, -⟩ := ownsRow_read hown9; subst hv9; have HO9 := Lib.hid hown9; have HG9 := Lib.hid hg9; clear hown9 hg9 hat9)
  have hB9 : Below w.heap.size w w9 := (HB1.out.alloc hsz1 (.cells (rawCells rawZ).toArray 40)).grown HG9.out (by simp; omega) (fun k e => (own_typed HO1.out e).1)
  have HB9 := Lib.hid hB9
  have hR9 : RawsAt w9 w9.heap.size (.slice A9 (l.length + 1) c9) (l ++ [rawZ]) := RawsOwn.at_ (base := w.heap.size) (by
    unfold RawsOwn
    rw [List.length_append, List.flatMap_append]
    simpa using HO9.out)
  have HR := Lib.hid (HRO.out _ w9 hB9 hR9)
  clear hB9 hR9 HO9 HG9 HO1 HB1 HRO
  refine HR.out.mono ?_
  rintro e w10 ⟨rv, rfl, hrv, b10⟩
  obtain ⟨A, c, rfl, hc1, hc2, -⟩ := hrv.at_
  unfold maxLen at hc2
  have HRV := Lib.hid hrv.at_
  have HB10 := Lib.hid (HB9.out.trans (b10.mono HB9.out.size))
  clear hrv b10 HR HB9
  go_wp2_with fail
  refine (HPK.out _).mono ?_
  rintro e w' ⟨rfl, rfl⟩
  have HW := Lib.hid (PxWrite_any _ x w10 (HP10.out _ HB10.out) HRV.out HOK.out (by omega) HA.out (by intro h; rw [h] at hx1; simp at hx1))
  go_wp2_with fail
  refine HW.out.mono ?_
  rintro e w11 ⟨rfl, b11⟩
  have HB11 := Lib.hid (HB10.out.trans (b11.mono HB10.out.size))
  have HRV1 := Lib.hid (HRV.out.below b11)
  clear b11 HW HRV HB10
  obtain ⟨ad, rfl, had, e0, e1⟩ : ∃ ad, A = some ad ∧ ad.block < w11.heap.size ∧ w11.cell? (ad.add (k * 2)) = some (.string (bs x[k].key)) ∧ w11.cell? ⟨(ad.add (k * 2)).block, (ad.add (k * 2)).off + 1, none⟩ = some (.string (bs x[k].value)) := by
    obtain ⟨A', c', hve, -, -, -, hr⟩ := HRV1.out
    obtain ⟨rfl, -, rfl⟩ := Value.slice.inj hve
    exact hr.rec_at hk
  have HE : Hid (∀ W, Below w11.heap.size w11 W → W.cell? (ad.add (k * 2)) = some (.string (bs x[k].key)) ∧ W.cell? ⟨(ad.add (k * 2)).block, (ad.add (k * 2)).off + 1, none⟩ = some (.string (bs x[k].value))) := Lib.hid (fun W hb => ⟨(hb.cell (p := ad.add (k * 2)) (by rw [block_of_add]; exact had)).trans e0, (hb.cell (p := ⟨(ad.add (k * 2)).block, (ad.add (k * 2)).off + 1, none⟩) (by show (ad.add (k * 2)).block < _; rw [block_of_add]; exact had)).trans e1⟩)
  have HRW := Lib.hid (RWrite_ok x[k] (HOK.out _ (List.getElem_mem hk)) w11 (HP10.out _ HB11.out))
  have hcat : bs (paxT x) ++ bs (recT x[k]) = bs (paxT (x ++ [x[k]])) := by
    rw [bs_append, paxT_append]
    congr 2
    unfold paxT
    simp
  have z1 := bs_size (paxT x)
  have z2 := bs_size (recT x[k])
  have z3 := paxT_len HOK.out
  have z4 := (recT_len (HOK.out _ (List.getElem_mem hk))).2
  have z5 : x.length * 703 ≤ 6 * 703 := Nat.mul_le_mul_right _ hx6
  have z6 : (paxT x).length ≤ 6 * 703 := by omega
  have HPR := Lib.hid (fun W (hb : Below w.heap.size w W) => PxRead_any (x ++ [x[k]]) W (HML.out W hb) (HP10.out W hb) (fun r hr => by
    rcases List.mem_append.1 hr with hr | hr
    · exact HOK.out r hr
    · rw [List.mem_singleton] at hr; subst hr; exact HOK.out _ (List.getElem_mem hk)) (by simp; omega))
  have HPF := Lib.hid (fun W h => PxFind_any (.slice (some ad) x.length c) x x[k].key W h (by omega))
  rw [HF.out] at HPF
  simp only [Option.getD_some, Option.isSome_some] at HPF
  have q1 := beq_self_bs x[k].value
  unfold recV at HRW
  clear z3 z5 HF
  have HCAT := Lib.hid hcat
  clear hcat
  generalize bs (paxT (x ++ [x[k]])) = bP at *
  generalize bs (paxT x) = bx at *
  generalize bs (recT x[k]) = bt at *
  generalize bs x[k].key = bk at *
  generalize bs x[k].value = bv at *
  go_wp2_with fail
  refine HRW.out.mono ?_
  rintro e w12 ⟨rfl, b12⟩
  have HB12 := Lib.hid (HB11.out.trans (b12.mono HB11.out.size))
  have HD12 := Lib.hid b12
  clear b12 e0 e1
  have hcat := HCAT.out
  go_wp2_with fail
  refine (HPR.out _ HB12.out).mono ?_
  rintro e w13 ⟨pv, pc, rfl, hpc, b13⟩
  obtain rfl : pc = 6 := by
    rcases hpc with ⟨_, h, _⟩ | ⟨h, _⟩
    · exact absurd h HT.out
    · exact h
  have HB13 := Lib.hid (HB12.out.trans (b13.mono HB12.out.size))
  have HD13 := Lib.hid (HD12.out.trans (b13.mono HD12.out.size))
  obtain ⟨f0, f1⟩ := HE.out _ HD13.out
  clear hpc b13 hcat f1
  go_wp2_with fail
  refine (HPF.out _ (HRV1.out.below HD13.out)).mono ?_
  rintro e w14 ⟨rfl, b14⟩
  have HB14 := Lib.hid (HB13.out.trans (b14.mono HB13.out.size))
  obtain ⟨g0, g1⟩ := HE.out _ (HD13.out.trans (b14.mono HD13.out.size))
  clear b14 f0 g0
  go_wp2_with fail
  go_ret
  exact ⟨rfl, HB14.out⟩
end Go.Proofs.YtjbpoijefkbllaaDoor
