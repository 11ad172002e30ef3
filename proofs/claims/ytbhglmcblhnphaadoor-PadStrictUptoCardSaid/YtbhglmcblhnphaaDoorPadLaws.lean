/-
  The laws PadBack, PadStrict: what they compute is true. Condition: at most 1048576 bytes.
-/
import Derived.Test.YtbhglmcblhnphaaDoorPadCut
import Derived.Test.YtbhglmcblhnphaaDoorSum
import Derived.Test.YtbhglmcblhnphaaDoorFieldLaws
namespace Go.Proofs.YtbhglmcblhnphaaDoor
open Go.RowKit

def padB (l : List UInt8) : List UInt8 := l ++ List.replicate (lackN l.length) 0
theorem fillL_map (l : List UInt8) : fillL (l.map ofB) = (padB l).map ofB := by
  unfold fillL padB
  rw [List.map_append, List.map_replicate, List.length_map]; rfl
theorem padB_length (l : List UInt8) : (padB l).length = kN l.length * 512 := by
  unfold padB lackN kN; simp; omega
theorem ownL {w : World} {base : Nat} {v : Value} {l : List UInt8} (h : w.ownsRow base 5 1 v l.length ((l.map ofB).map (.int .u8))) : BytesAt w w.heap.size v l := own_at h rfl

theorem Fill_bytes (v : Value) (l : List UInt8) (B : Nat) (w : World) (hl : BytesAt w B v l) (hB : B ≤ w.heap.size) (hn : l.length ≤ 1000000000) :
    Calls Tryd.prog 16 #[v] w fun e w' => ∃ v', e = .returned v' ∧ w'.ownsRow w.heap.size 5 1 v' (padB l).length (((padB l).map ofB).map (.int .u8)) ∧ Below w.heap.size w w' := by
  refine (Fill_any v (l.map ofB) B w hl hB (by rw [List.length_map]; exact hn)).mono fun e w' ⟨v', h1, h2, h3⟩ => ⟨v', h1, ?_, h3⟩
  rw [fillL_map, List.length_map] at h2
  exact h2
/-- what was filled up is cut off again -/
theorem PCut_pad (v : Value) (l m : List UInt8) (w : World) (hl : BytesAt w w.heap.size v (padB l ++ m)) (hn : l.length ≤ 10000000) (hm : m.length ≤ 10000000) :
    Calls Tryd.prog 18 #[v, .int .i64 l.length] w fun e w' => ∃ v1 v2, e = .returned (.tuple #[v1, v2, .int .i64 0]) ∧ BytesAt w' w'.heap.size v1 l ∧ BytesAt w' w'.heap.size v2 m ∧ Below w.heap.size w w' := by
  have hl' := hl
  obtain ⟨A, c, e, h1, h2, h3, hr⟩ := hl'
  rw [List.length_map] at e h1 hr
  rcases A with _ | ad
  · have h0 : padB l ++ m = [] := by
      rcases Nat.eq_zero_or_pos (padB l ++ m).length with h | h
      · exact List.eq_nil_of_length_eq_zero h
      · obtain ⟨_, h, _⟩ := hr.2 h
        cases h
    obtain rfl : c = 0 := h3 rfl
    rw [h0] at e
    rw [e]
    have hl0 : l = [] := by
      cases l with
      | nil => rfl
      | cons b l => simp [padB] at h0
    have hm0 : m = [] := (List.append_eq_nil_iff.1 h0).2
    subst hl0 hm0
    exact (PCut_nil w).mono fun e w' ⟨h1, h2⟩ => ⟨_, _, h1, IntsAt.nil _ _ _, IntsAt.nil _ _ _, h2⟩
  · subst e
    have hp := padB_length l
    have ht : (padB l ++ m).take l.length = l := by unfold padB; rw [List.append_assoc, List.take_left]
    have hd : (padB l ++ m).drop (kN l.length * 512) = m := by rw [← hp, List.drop_left]
    have := PCut_ok ad (padB l ++ m) l.length c w hl hn (by rw [List.length_append]; omega) (by rw [List.length_append]; unfold kN at hp; omega) (by
      intro b hb
      have hx : ((padB l ++ m).drop l.length).take (kN l.length * 512 - l.length) = List.replicate (lackN l.length) 0 := by
        have hq : kN l.length * 512 - l.length = lackN l.length := by rw [← hp]; unfold padB; simp
        rw [hq]
        unfold padB
        rw [List.append_assoc, List.drop_left, List.take_append_of_le_length (by simp), List.take_of_length_le (by simp)]
      rw [hx] at hb
      exact List.eq_of_mem_replicate hb)
    rw [ht, hd] at this
    exact this

set_option maxRecDepth 100000 in
set_option maxHeartbeats 1000000 in
theorem PadBack_walk (w : World) (_hsh : w.ShapedOpen Tryd.prog) (v : Value) (li : List Int) (o : IntsAt .u8 w w.heap.size v li) (hu : ∀ n ∈ li, U8 n) (hs : li.length ≤ 1048576) (v2 : Value) (mi : List Int) (o2 : IntsAt .u8 w w.heap.size v2 mi) (hu2 : ∀ n ∈ mi, U8 n) (hs2 : mi.length ≤ 1048576) :
    Calls Tryd.prog 5 #[v, v2] w fun e w' => e = .returned (.bool true) ∧ Below w.heap.size w w' := by
  obtain ⟨l, rfl⟩ := of_u8 li hu
  obtain ⟨m, rfl⟩ := of_u8 mi hu2
  rw [List.length_map] at hs hs2
  have ob : BytesAt w w.heap.size v l := o
  have om : BytesAt w w.heap.size v2 m := o2
  clear o o2 hu hu2
  have hF := Lib.hid (Fill_bytes v l w.heap.size w ob (Nat.le_refl _) (by omega))
  have hpl := padB_length l
  have ek : (((padB l).length : Int) == (kN l.length : Int) * 512) = true := by rw [hpl, beq_iff_eq]; simp
  have hkN : kN l.length ≤ 10000 := by unfold kN; omega
  have hBl := Lib.hid (fun w => Blocks_nat l.length (by omega) w)
  have hPC := Lib.hid (fun v w a => PCut_pad v l m w a (by omega) (by omega))
  have eb1 := beq_self_bs l
  have eb2 := beq_self_bs m
  have hpl2 : (padB l).length ≤ 10000000 := by rw [hpl]; omega
  have HOB := Lib.hid ob; have HOM := Lib.hid om
  clear hpl
  obtain ⟨Av, cv, rfl, _, _, _, _⟩ := ob
  obtain ⟨Am, cm, rfl, _, _, _, _⟩ := om
  rw [List.length_map] at HOB hF ⊢
  rw [List.length_map] at HOM ⊢
  go_enter Tryd.func5, Tryd.ntmps5
  go_wp2_with fail
  refine hF.out.mono ?_
  rintro e w1 ⟨f, rfl, hown, b1⟩
  have obf := ownL hown
  obtain ⟨Af, cf, rfl, _⟩ := id obf
  rw [List.length_map] at obf hown ⊢
  clear hown
  have HF := Lib.hid obf
  clear obf
  have HFM := Lib.hid (HOM.out.below b1)
  go_wp2_with fail
  have hsz1 := b1.size
  have hC := Lib.hid (Concat_any w1.heap.size [.slice Af (padB l).length cf, .slice Am m.length cm] [(padB l).map ofB, m.map ofB] w1.heap.size (w1.alloc (.cells #[.slice Af (padB l).length cf, .slice Am m.length cm] 24)) (by simp)
    (fun j u hu => by
      have hB := Blk.new w1 24 #[.slice Af (padB l).length cf, .slice Am m.length cm]
      rw [hB.cell j, ← hu]; simp) rfl
    (fun j v x hv hx => by
      rcases j with _ | _ | j
      · simp only [List.getElem?_cons_zero, Option.some.injEq] at hv hx
        subst hv hx
        exact IntsAt.below HF.out ((Below.refl _ _).alloc (Nat.le_refl _) _)
      · simp only [List.getElem?_cons_succ, List.getElem?_cons_zero, Option.some.injEq] at hv hx
        subst hv hx
        exact (IntsAt.below HFM.out ((Below.refl _ w1).mono hsz1 |>.alloc hsz1 _)).more hsz1
      · simp at hv) (by simp) (by simp) (by simp; omega))
  rw [show [(padB l).map ofB, m.map ofB].flatten = (padB l ++ m).map ofB by simp, List.length_map] at hC
  refine hC.out.mono ?_
  rintro e w2 ⟨v3, rfl, hown3, b2⟩
  have ob3 := ownL hown3
  clear hown3 hC
  have b12 : Below w.heap.size w w2 := (b1.alloc b1.size _).trans (b2.mono (by simp; omega))
  clear b1 b2
  go_wp2_with fail
  refine (hPC.out v3 _ ob3).mono ?_
  rintro e w3 ⟨v4, v5, rfl, ob4, ob5, b3⟩
  have b13 := b12.trans (b3.mono b12.size)
  clear b12 b3 ob3
  go_wp2_with fail
  refine (hBl.out _).mono ?_
  rintro e w' ⟨rfl, rfl⟩
  have c4 := conv_str ob4
  have c5 := conv_str ob5
  have c1 := conv_str (HOB.out.below b13)
  have c2 := conv_str (HOM.out.below b13)
  clear ob4 ob5
  go_wp2_with fail
  refine (End_any _).mono ?_
  rintro e w4 ⟨v6, rfl, hown6, b4⟩
  obtain ⟨g6, c6, rfl, _⟩ := own_slice hown6 (by omega)
  have kb := Lib.hid (b13.trans (b4.mono b13.size))
  clear hown6 b4 b13
  go_wp2_with fail
  go_ret
  exact ⟨rfl, kb.out⟩
end Go.Proofs.YtbhglmcblhnphaaDoor
