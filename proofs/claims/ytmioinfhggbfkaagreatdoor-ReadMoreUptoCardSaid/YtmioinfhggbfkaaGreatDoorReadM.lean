/-
  The law ReadMore: what it computes is true. Condition: raw things and bytes of the second form's bound; the library's table of powers of ten lies as Go laid it.
-/
import Derived.Test.YtmioinfhggbfkaaGreatDoorReadT
namespace Go.Proofs.YtmioinfhggbfkaaGreatDoor
set_option linter.all false
open Go.RowKit
set_option maxRecDepth 100000 in
set_option maxHeartbeats 4000000 in
theorem ReadMore_walk (w : World) (hsh : w.ShapedOpen Tryz.prog) (h10 : P10 w) (v : Value) (l : List RawS) (hl : RawsAt w w.heap.size v l) (hok : ∀ x ∈ l, RawOk x) (hn : l.length ≤ 1048576) (v2 : Value) (mi : List Int) (o2 : IntsAt .u8 w w.heap.size v2 mi) (hu2 : ∀ n ∈ mi, U8 n) (hs2 : mi.length ≤ 1048576) :
    Calls Tryz.prog 11 #[v, v2] w fun e w' => e = .returned (.bool true) ∧ Below w.heap.size w w' := by
  have hm := ML.of_shaped hsh
  clear hsh
  obtain ⟨m, rfl⟩ := of_u8 mi hu2
  rw [List.length_map] at hs2
  have HOM := Lib.hid (show BytesAt w w.heap.size v2 m from o2)
  obtain ⟨Am, cm, ev2, -⟩ := o2
  rw [List.length_map] at ev2
  subst ev2
  clear hu2
  have HML : Hid (∀ W, Below w.heap.size w W → ML W) := Lib.hid (fun W hb => hm.below hb)
  have HP10 : Hid (∀ W, Below w.heap.size w W → P10 W) := Lib.hid (fun W hb => h10.below hb)
  have HE := Lib.hid (entriesOf_any l v 12 w hm hl hok hn (by omega))
  have hoks := plan_ok (treeP_ok l 12 (by omega))
  obtain ⟨Al, cl, rfl, -⟩ := hl
  clear hm h10 hok hn
  generalize planP (treeP l 12) = x at *
  have HWA := Lib.hid (fun W (hb : Below w.heap.size w W) v (h : EntsOwn W w.heap.size v x) => (show Calls Tryz.prog 28 #[v] W fun e w' => ∃ bv, e = .returned (.tuple #[bv, .int .i64 0]) ∧ BytesOwn w' W.heap.size bv (arcB x ++ endB) ∧ Below W.heap.size W w' by
    obtain ⟨xs, hx⟩ := EntsRow.at_ h
    exact WArchive_ok v x xs W (fun W' hb' => HML.out W' (hb.trans (hb'.mono hb.size))) (fun W' hb' => HP10.out W' (hb.trans (hb'.mono hb.size))) hx hoks))
  have hal := arcB_take_len hoks.ent hoks.len x.length
  rw [List.take_length] at hal
  have hLn : (arcB x ++ endB).length = (arcB x).length + 1024 := by rw [List.length_append, endB_len]
  have HRD : Hid (∀ W v, Below w.heap.size w W → BytesAt W W.heap.size v ((arcB x ++ endB) ++ (m ++ [0])) → Calls Tryz.prog 29 #[v] W fun e w' => e = .returned (.tuple #[.slice none 0 0, .int .i64 3]) ∧ Below W.heap.size W w') := Lib.hid (fun W v hb hv => by
    have htl : (endB ++ (m ++ [0])).length = 1025 + m.length := by rw [List.length_append, endB_len]; simp; omega
    have hf : endT (endB ++ (m ++ [0])) = false := by unfold endT; rw [htl, decide_eq_false (by omega)]; rfl
    rw [List.append_assoc] at hv
    refine (Archive_any x hoks.ent hoks.len (endB ++ (m ++ [0])) (fun h => by rw [hf] at h; cases h) (.inr (.inl ⟨rfl, by omega, ?_⟩)) (by omega) v W (fun W' hb' => HML.out W' (hb.trans (hb'.mono hb.size))) (fun W' hb' => HP10.out W' (hb.trans (hb'.mono hb.size))) hv).mono fun e w' hh => ?_
    · rw [List.take_append_of_le_length (by rw [endB_len]; omega)]
      exact allZ_end end_take
    · rcases hh with ⟨h1, -⟩ | ⟨-, h1, h2⟩
      · rw [hf] at h1; cases h1
      · exact ⟨h1, h2⟩)
  obtain ⟨lb, hlb⟩ : ∃ lb, lb = (arcB x ++ endB).length := ⟨_, rfl⟩
  rw [← hlb] at hLn
  have hlo : 1024 ≤ lb := by omega
  have hhi : lb ≤ 400000 := by omega
  have HLB := Lib.hid hlb
  clear hlb hLn hal hoks HML HP10
  generalize arcB x ++ endB = M at *
  have t1 : decide ((lb : Int) > 0) = true := decide_eq_true (by omega)
  have t2 : (0 : Int) < (lb : Int) := by omega
  go_enter Tryz.func11, Tryz.ntmps11
  go_wp2_with fail
  refine HE.out.mono ?_
  rintro e w1 ⟨ev, rfl, hev, b1⟩
  have HB1 := Lib.hid b1
  have HV1 := Lib.hid hev
  obtain ⟨Ae, ce, rfl, -⟩ := hev.slice
  clear hev b1 HE
  go_wp2_with fail
  refine (HWA.out _ HB1.out _ HV1.out).mono ?_
  rintro e w2 ⟨bv, rfl, hbv, b2⟩
  have HB2 := Lib.hid (HB1.out.trans (b2.mono HB1.out.size))
  have hat := hbv.at_
  obtain ⟨Ab, cb, evb, -⟩ := id hat
  rw [List.length_map, ← HLB.out] at evb
  subst evb
  have HAT := Lib.hid hat
  have HM2 := Lib.hid (HOM.out.below HB2.out)
  clear hbv b2 hat HWA HV1 HB1
  have HCC : Hid (Calls Tryz.prog 23 #[.slice (some ⟨w2.heap.size + 1, 0, none⟩) 3 3] ((w2.alloc (.cells #[.int .u8 0] 5)).alloc (.cells #[.slice Ab lb cb, .slice Am m.length cm, .slice (some ⟨w2.heap.size, 0, none⟩) 1 1] 38)) fun e w' => ∃ v', e = .returned v' ∧ BytesAt w' w'.heap.size v' (M ++ (m ++ [0])) ∧ Below w2.heap.size w2 w') := Lib.hid (by
    have hsz2 := HB2.out.size
    have hbA : Below w2.heap.size w2 ((w2.alloc (.cells #[.int .u8 0] 5)).alloc (.cells #[.slice Ab lb cb, .slice Am m.length cm, .slice (some ⟨w2.heap.size, 0, none⟩) 1 1] 38)) := ((Below.refl _ _).alloc (Nat.le_refl _) _).alloc (by simp) _
    have h0 : BytesAt (w2.alloc (.cells #[.int .u8 0] 5)) (w2.alloc (.cells #[.int .u8 0] 5)).heap.size (.slice (some ⟨w2.heap.size, 0, none⟩) 1 1) [0] := by
      have h := new_row w2 5 [.int .u8 0] 1 1 rfl
      rw [show w2.heap.size + 1 = (w2.alloc (.cells #[.int .u8 0] 5)).heap.size by simp] at h
      exact ⟨_, 1, rfl, by simp, by simp [maxLen], (fun h => by cases h), h⟩
    have hC := Concat_any (w2.heap.size + 1) [.slice Ab lb cb, .slice Am m.length cm, .slice (some ⟨w2.heap.size, 0, none⟩) 1 1] [M.map ofB, m.map ofB, [(0 : UInt8)].map ofB] (w2.heap.size + 1) ((w2.alloc (.cells #[.int .u8 0] 5)).alloc (.cells #[.slice Ab lb cb, .slice Am m.length cm, .slice (some ⟨w2.heap.size, 0, none⟩) 1 1] 38)) (by simp)
      (fun j u hu => by
        have hB := Blk.new (w2.alloc (.cells #[.int .u8 0] 5)) 38 #[.slice Ab lb cb, .slice Am m.length cm, .slice (some ⟨w2.heap.size, 0, none⟩) 1 1]
        rw [show (w2.alloc (.cells #[.int .u8 0] 5)).heap.size = w2.heap.size + 1 by simp] at hB
        rw [hB.cell j, ← hu]; simp) rfl
      (fun j v x hv hx => by
        rcases j with _ | _ | _ | j
        · simp only [List.getElem?_cons_zero, Option.some.injEq] at hv hx
          subst hv hx
          exact (IntsAt.below HAT.out hbA).more (by omega)
        · simp only [List.getElem?_cons_succ, List.getElem?_cons_zero, Option.some.injEq] at hv hx
          subst hv hx
          exact (IntsAt.below HM2.out (hbA.mono hsz2)).more (by omega)
        · simp only [List.getElem?_cons_succ, List.getElem?_cons_zero, Option.some.injEq] at hv hx
          subst hv hx
          have h1 := h0.below ((Below.refl (w2.alloc (.cells #[.int .u8 0] 5)).heap.size _).alloc (Nat.le_refl _) (.cells #[.slice Ab lb cb, .slice Am m.length cm, .slice (some ⟨w2.heap.size, 0, none⟩) 1 1] 38))
          rw [show (w2.alloc (.cells #[.int .u8 0] 5)).heap.size = w2.heap.size + 1 by simp] at h1
          exact h1
        · simp at hv) (by simp) (by simp) (by have := HLB.out; simp; omega)
    rw [show [M.map ofB, m.map ofB, [(0 : UInt8)].map ofB].flatten = (M ++ (m ++ [0])).map ofB by simp, List.length_map] at hC
    exact hC.mono fun e w' ⟨v', h1, h2, h3⟩ => ⟨v', h1, ownL h2, hbA.trans (h3.mono hbA.size)⟩)
  clear HAT HM2
  go_wp2_with fail
  refine HCC.out.mono ?_
  rintro e w3 ⟨v3, rfl, h3, b3⟩
  have HB3 := Lib.hid (HB2.out.trans (b3.mono HB2.out.size))
  have H3 := Lib.hid h3
  obtain ⟨A3, c3, e3, -⟩ := h3
  generalize (List.map ofB (M ++ (m ++ [0]))).length = n3 at e3
  subst e3
  clear b3 HCC HB2
  go_wp2_with fail
  refine (HRD.out _ _ HB3.out H3.out).mono ?_
  rintro e w5 ⟨rfl, b5⟩
  have HB5 := Lib.hid (HB3.out.trans (b5.mono HB3.out.size))
  clear b5 HRD
  go_wp2_with fail
  go_ret
  exact ⟨rfl, HB5.out⟩
end Go.Proofs.YtmioinfhggbfkaaGreatDoor

