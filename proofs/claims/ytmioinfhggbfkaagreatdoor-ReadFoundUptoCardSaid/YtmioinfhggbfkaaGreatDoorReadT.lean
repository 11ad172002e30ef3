/-
  The law ReadTorn: what it computes is true. Condition: raw things of the second form's bound; the library's table of powers of ten lies as Go laid it.
-/
import Derived.Test.YtmioinfhggbfkaaGreatDoorArcRd
import Derived.Test.YtmioinfhggbfkaaGreatDoorArchW
namespace Go.Proofs.YtmioinfhggbfkaaGreatDoor
set_option linter.all false
open Go.RowKit
theorem endB_len : endB.length = 1024 := List.length_replicate
theorem allZ_end {l : List UInt8} (h : ∀ b ∈ l, b = 0) : allZ l = true := by
  unfold allZ
  rw [List.all_eq_true]
  intro b hb
  rw [h b hb]; rfl
theorem end_take {k : Nat} : ∀ b ∈ endB.take k, b = 0 := fun b hb => List.eq_of_mem_replicate (List.mem_of_mem_take hb)
/-- a beginning of an archive: members, and a tail that Archive rejects -/
theorem arc_torn {l : List EntP} (hl : ∀ x ∈ l, EntOk x) : ∀ k, k < (arcB l ++ endB).length → ∃ (j : Nat) (t : List UInt8) (e : Int), j ≤ l.length ∧ (arcB l ++ endB).take k = arcB (l.take j) ++ t ∧ TailOk t e ∧ (e ≠ 0 ∨ endT t = false) ∧ t.length ≤ 100000 := by
  induction l with
  | nil =>
    intro k hk
    have e0 : arcB [] ++ endB = endB := rfl
    rw [e0] at hk ⊢
    rw [endB_len] at hk
    have hlen : (endB.take k).length = k := by rw [List.length_take, endB_len]; omega
    by_cases h : k < 512
    · exact ⟨0, endB.take k, 7, Nat.zero_le _, rfl, .inl ⟨rfl, by omega⟩, .inl (by omega), by omega⟩
    · refine ⟨0, endB.take k, 0, Nat.zero_le _, rfl, .inr (.inl ⟨rfl, by omega, allZ_end (fun b hb => end_take b (List.mem_of_mem_take hb))⟩), .inr ?_, by omega⟩
      unfold endT
      rw [hlen, decide_eq_false (by omega)]; rfl
  | cons x l ih =>
    intro k hk
    have hx := hl x (by simp)
    have hmb := (memB_blocks hx).2.2.2
    have e0 : arcB (x :: l) ++ endB = memB x ++ (arcB l ++ endB) := by unfold arcB; simp
    rw [e0] at hk ⊢
    rw [take_two]
    split
    · next h =>
      have hlen : ((memB x).take k).length = k := by rw [List.length_take]; omega
      refine ⟨0, (memB x).take k, 7, Nat.zero_le _, rfl, ?_, .inl (by omega), by omega⟩
      by_cases h2 : k < 512
      · exact .inl ⟨rfl, by omega⟩
      · exact .inr (.inr ⟨rfl, x, k, hx, h, by omega, rfl⟩)
    · next h =>
      rw [List.length_append] at hk
      obtain ⟨j, t, e, h1, h2, h3, h4, h5⟩ := ih (fun y hy => hl y (by simp [hy])) (k - (memB x).length) (by omega)
      refine ⟨j + 1, t, e, by simp only [List.length_cons]; omega, ?_, h3, h4, h5⟩
      rw [h2]
      unfold arcB
      simp
set_option maxRecDepth 100000 in
set_option maxHeartbeats 4000000 in
theorem ReadTorn_walk (w : World) (hsh : w.ShapedOpen Tryz.prog) (h10 : P10 w) (v : Value) (l : List RawS) (hl : RawsAt w w.heap.size v l) (hok : ∀ x ∈ l, RawOk x) (hn : l.length ≤ 1048576) (cut : Int) (hcut : I64 cut) :
    Calls Tryz.prog 8 #[v, .int .i64 cut] w fun e w' => e = .returned (.bool true) ∧ Below w.heap.size w w' := by
  have hm := ML.of_shaped hsh
  clear hsh
  have HML : Hid (∀ W, Below w.heap.size w W → ML W) := Lib.hid (fun W hb => hm.below hb)
  have HP10 : Hid (∀ W, Below w.heap.size w W → P10 W) := Lib.hid (fun W hb => h10.below hb)
  have HE := Lib.hid (entriesOf_any l v 12 w hm hl hok hn (by omega))
  have hoks := plan_ok (treeP_ok l 12 (by omega))
  obtain ⟨Al, cl, rfl, -⟩ := hl
  clear hm h10 hok hn
  generalize planP (treeP l 12) = x at *
  have HWA := Lib.hid (fun W (hb : Below w.heap.size w W) v (h : EntsOwn W w.heap.size v x) => (show Calls Tryz.prog 28 #[v] W fun e w' => ∃ bv, e = .returned (.tuple #[bv, .int .i64 0]) ∧ BytesOwn w' W.heap.size bv (arcB x ++ endB) ∧ Below W.heap.size W w' by
    obtain ⟨xs, hx⟩ := EntsRow.at_ h
    exact WArchive_ok v x xs W (fun W' hb' => HML.out W' (hb.trans (hb'.mono hb.size))) (fun W' hb' => HP10.out W' (hb.trans (hb'.mono hb.size))) hx hoks))
  have hal := arcB_take_len hoks.ent hoks.len x.length
  rw [List.take_length] at hal
  have hLn : (arcB x ++ endB).length = (arcB x).length + 1024 := by rw [List.length_append, endB_len]
  obtain ⟨k, hk, bk⟩ := pick_nat cut (arcB x ++ endB).length (by omega)
  have hk : pick cut ((arcB x ++ endB).length : Int) = (k : Int) := hk
  have HPK := Lib.hid (fun W => picked_any cut (arcB x ++ endB).length hcut (by omega) (by omega) W)
  rw [hk] at HPK
  obtain ⟨j, t, ec, hj, hsp, htail, hbad, htl⟩ := arc_torn hoks.ent k bk
  have hej : ∀ y ∈ x.take j, EntOk y := fun y hy => hoks.ent y (List.mem_of_mem_take hy)
  have hlj : (x.take j).length ≤ 40 := by rw [List.length_take]; have := hoks.len; omega
  have HRD : Hid (∀ W v, Below w.heap.size w W → BytesAt W W.heap.size v ((arcB x ++ endB).take k) → Calls Tryz.prog 29 #[v] W fun e w' => ∃ f : Int, e = .returned (.tuple #[.slice none 0 0, .int .i64 f]) ∧ (f != 0) = true ∧ Below W.heap.size W w') := Lib.hid (fun W v hb hv => by
    rw [hsp] at hv
    have hm' : ∀ W', Below W.heap.size W W' → ML W' := fun W' hb' => HML.out W' (hb.trans (hb'.mono hb.size))
    have h10' : ∀ W', Below W.heap.size W W' → P10 W' := fun W' hb' => HP10.out W' (hb.trans (hb'.mono hb.size))
    by_cases hec : ec = 0
    · subst hec
      have hf : endT t = false := hbad.resolve_left (by simp)
      refine (Archive_any (x.take j) hej hlj t (fun h => by rw [hf] at h; cases h) htail (by omega) v W hm' h10' hv).mono fun e w' hh => ?_
      rcases hh with ⟨h1, -⟩ | ⟨-, h1, h2⟩
      · rw [hf] at h1; cases h1
      · exact ⟨3, h1, rfl, h2⟩
    · exact (Archive_fail (x.take j) hej hlj t ec htail hec (by omega) v W hm' h10' hv).mono fun e w' ⟨h1, h2⟩ => ⟨ec, h1, by simpa using hec, h2⟩)
  clear hk hcut hsp htail hbad htl hej hlj hj
  obtain ⟨lb, hlb⟩ : ∃ lb, lb = (arcB x ++ endB).length := ⟨_, rfl⟩
  rw [← hlb] at hLn bk HPK
  have hlo : 1024 ≤ lb := by omega
  have hhi : lb ≤ 400000 := by omega
  have HLB := Lib.hid hlb
  clear hlb hLn hal hoks HML HP10
  generalize arcB x ++ endB = M at *
  have e0 : ((lb : Int) == 0) = false := by rw [beq_eq_false_iff_ne]; omega
  have e1 : (lb == 0) = false := by rw [beq_eq_false_iff_ne]; omega
  have i1 : (0 : Int) ≤ (k : Int) := by omega
  go_enter Tryz.func8, Tryz.ntmps8
  go_wp2_with fail
  refine HE.out.mono ?_
  rintro e w1 ⟨ev, rfl, hev, b1⟩
  have HB1 := Lib.hid b1
  have HV1 := Lib.hid hev
  obtain ⟨Ae, ce, rfl, -⟩ := hev.slice
  clear hev b1 HE
  go_wp2_with fail
  refine (HWA.out _ HB1.out _ HV1.out).mono ?_
  rintro e w2 ⟨bv, rfl, hbv, b2⟩
  have HB2 := Lib.hid (HB1.out.trans (b2.mono HB1.out.size))
  have hat := hbv.at_
  obtain ⟨Ab, cb, evb, hlc, hcm, hA0, -⟩ := id hat
  rw [List.length_map, ← HLB.out] at evb hlc
  rcases Ab with _ | ad
  · exfalso
    have := hA0 rfl
    omega
  subst evb
  unfold maxLen at hcm
  have HFR : Hid (BytesAt w2 w2.heap.size (.slice (some ad) k cb) (M.take k)) := Lib.hid (by
    have h2 : BytesAt w2 w2.heap.size (.slice (some ad) M.length cb) M := by rw [← HLB.out]; exact hat
    exact h2.front k (by rw [← HLB.out]; omega))
  have i2 : (k : Int) ≤ (cb : Int) := by omega
  have i3 : k ≤ cb := by omega
  clear hbv b2 hat hA0 HWA HV1
  go_wp2_with fail
  refine (HPK.out _).mono ?_
  rintro e w4 ⟨rfl, rfl⟩
  go_wp2_with fail
  refine (HRD.out _ _ HB2.out HFR.out).mono ?_
  rintro e w5 ⟨f, rfl, hf, b5⟩
  have HB5 := Lib.hid (HB2.out.trans (b5.mono HB2.out.size))
  clear b5 HFR HPK HRD
  go_wp2_with fail
  go_ret
  exact ⟨rfl, HB5.out⟩
end Go.Proofs.YtmioinfhggbfkaaGreatDoor

