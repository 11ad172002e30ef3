/-
  creelkeep.Rules: the rules of raw things. Condition: raw things of the second form's bound.
  Rules of raw things, plainly: their patterns, by their parts; a row of rules, as a walk reads it. No condition.
-/
import Derived.Test.YtjglenhhgbokbaaGreatDoorPaths
import Derived.Deep.RegionHeld3
import Derived.Test.YtjglenhhgbokbaaGreatDoorGlobPP
namespace Go.Proofs.YtjglenhhgbokbaaGreatDoor
section
open Go.RowKit

def patternsL : List (List UInt8) := [[97], [42, 42], [42], [97, 47, 42, 42], [42, 42, 47, 98], [63], [91, 97, 45, 98, 93], [91, 33, 97, 93, 42], [42, 42, 47, 42, 46, 116, 120, 116], [120, 42], [97, 98, 47, 42], [42, 42, 47, 110, 42]]
abbrev RuleP := Bool × List UInt8
def ruleC (x : RuleP) : List Value := [.bool x.1, .string (bs x.2)]
theorem ruleC_length (x : RuleP) : (ruleC x).length = 2 := rfl
def ruleOf (r : RawS) : RuleP := (decide (pick r.kind 2 = 0), patternsL.getD (pick r.a 12).toNat [])
def rulesP (l : List RawS) (most : Nat) : List RuleP := (l.take most).map ruleOf
def RulesOwn (w : World) (base : Nat) (v : Value) (rs : List RuleP) : Prop := w.ownsRow base 31 2 v rs.length (rs.flatMap ruleC)
theorem RulesOwn.below {w w' : World} {base : Nat} {v : Value} {rs : List RuleP} (h : RulesOwn w base v rs) (hb : Below w.heap.size w w') : RulesOwn w' base v rs := ownsRow_below h hb
theorem ruleinfo : (Tryz.prog.info? 31).map (fun i => (i.zero, i.size, i.bytes)) = some (some (.agg #[.bool false, .string ⟨#[]⟩]), 2, 24) := by kernel_rfl
theorem grown_cell {w w' : World} {row : Option Nat} {b o : Nat} {u : Value} {tb : TypeId} (hg : w.grownBy w' row) (h : w.cell? ⟨b, o, none⟩ = some u) (hb : ∃ C fr, w.heap[b]? = some (.cells C tb fr)) (hr : ∀ g, row = some g → ∃ C t fr, w.heap[g]? = some (.cells C t fr) ∧ t ≠ tb) : w'.cell? ⟨b, o, none⟩ = some u := by
  obtain ⟨C, fr, hC⟩ := hb
  have hne : some b ≠ row := fun e => by
    obtain ⟨C', t, fr', hC', hne⟩ := hr b e.symm
    rw [hC] at hC'
    injection hC' with hC'
    injection hC' with _ ht
    exact hne ht.symm
  exact (World.cell?_of_block (w := w) (a := ⟨b, o, none⟩) (hg.block b (heap_lt hC) hne)).trans h
/-- in the loop of Rules -/
def RuSt (w0 : World) (v : Value) (rs : List RuleP) (w : World) : Prop := Below w0.heap.size w0 w ∧ RulesOwn w w0.heap.size v rs ∧ Blk w w0.heap.size 9 (patternsL.map fun p => Value.string (bs p)).toArray
theorem RuSt.below {w0 w w' : World} {v : Value} {rs : List RuleP} (h : RuSt w0 v rs w) (hb : Below w.heap.size w w') : RuSt w0 v rs w' := ⟨h.1.trans (hb.mono h.1.size), h.2.1.below hb, h.2.2.below hb h.2.2.lt⟩
theorem RuSt.snoc {w0 w w' : World} {v v' : Value} {rs : List RuleP} {x : RuleP} (h : RuSt w0 v rs w) (hg : w.grownBy w' v.ownBlock) (ho : w'.ownsRow w0.heap.size 31 2 v' (rs.length + 1) (rs.flatMap ruleC ++ ruleC x)) : RuSt w0 v' (rs ++ [x]) w' := by
  have ht : ∀ g, v.ownBlock = some g → w0.heap.size ≤ g ∧ ∃ C fr, w.heap[g]? = some (.cells C 31 fr) := fun g e => own_typed h.2.1 e
  refine ⟨h.1.grown hg h.1.size (fun k e => (ht k e).1), ?_, h.2.2.grown hg (fun e => ?_)⟩
  · unfold RulesOwn
    rw [List.length_append, List.flatMap_append]
    simpa using ho
  · obtain ⟨_, C, fr, hC⟩ := ht _ e.symm
    have h2 := h.2.2
    unfold Blk at h2
    rw [h2] at hC
    injection hC with hC
    injection hC with _ ht
    exact absurd ht (by decide)
theorem rules_take {l : List RawS} {most k : Nat} (hk : k < l.length) (hm : k < most) : rulesP (l.take (k + 1)) most = rulesP (l.take k) most ++ [ruleOf l[k]] := by
  unfold rulesP
  rw [List.take_take, List.take_take, Nat.min_eq_right (by omega), Nat.min_eq_right (by omega), List.take_succ_eq_append_getElem hk, List.map_append]
  rfl
theorem rules_full {l : List RawS} {most k : Nat} (hm : most ≤ k) : rulesP (l.take (k + 1)) most = rulesP (l.take k) most := by
  unfold rulesP
  rw [List.take_take, List.take_take, Nat.min_eq_left (by omega), Nat.min_eq_left (by omega)]
theorem rules_len {l : List RawS} {most k : Nat} (hk : k ≤ l.length) (hm : k ≤ most) : (rulesP (l.take k) most).length = k := by
  unfold rulesP
  rw [List.length_map, List.length_take, List.length_take]; omega
set_option maxRecDepth 100000 in
set_option maxHeartbeats 4000000 in
theorem Rules_any (l : List RawS) (v : Value) (most : Nat) (w : World) (hl : RawsAt w w.heap.size v l) (hok : ∀ x ∈ l, RawOk x) (hn : l.length ≤ 1048576) (hmost : most ≤ 12) :
    Calls Tryz.prog 10 #[v, .int .i64 most] w fun e w' => ∃ rv, e = .returned rv ∧ RulesOwn w' w.heap.size rv (rulesP l most) ∧ Below w.heap.size w w' := by
  obtain ⟨A, c, rfl, hlc, hc, hA, hr⟩ := hl
  unfold maxLen at hc
  have HR := Lib.hid hr
  have HOK := Lib.hid hok
  clear hr hok hA
  have H0 : Hid (RuSt w (.slice none 0 0) [] (w.alloc (.cells (patternsL.map fun p => Value.string (bs p)).toArray 9))) := Lib.hid ⟨(Below.refl _ w).alloc (Nat.le_refl _) _, ⟨by simp, .inl ⟨rfl, rfl⟩⟩, Blk.new _ _ _⟩
  have HZ : Hid (rulesP (l.take 0) most = []) := Lib.hid (by unfold rulesP; simp)
  go_enter Tryz.func10, Tryz.ntmps10
  go_wp2_with fail
  go_loopg [5, 12] l.length (fun gg s5 s12 wr => ∃ k : Nat, k ≤ l.length ∧ l.length - k ≤ gg ∧ s12 = .int .i64 k ∧ Hid (RuSt w s5 (rulesP (l.take k) most) wr))
  case atStart => exact ⟨0, Nat.zero_le _, by omega, rfl, Lib.hid (by rw [HZ.out]; exact H0.out)⟩
  case round =>
    obtain ⟨k, hk, hg, rfl, HS⟩ := hrel
    by_cases hlt : k < l.length
    · obtain ⟨ad, rfl, had, q0, q1, q2, q3⟩ := load_raw (HR.out.below HS.out.1) hlt
      have hltz : (k : Int) < (l.length : Int) := by omega
      have hrk := HOK.out _ (List.getElem_mem hlt)
      have hl0 : w.heap.size < wr.heap.size := HS.out.2.2.lt
      by_cases hm : k < most
      · have hmz : (k : Int) < (most : Int) := by omega
        have HT := Lib.hid (rules_take hlt hm)
        have hln := rules_len hk (Nat.le_of_lt hm)
        obtain ⟨ik, hik, bik⟩ := pick_nat l[k].kind 2 (by omega)
        have hik : pick l[k].kind 2 = (ik : Int) := hik
        have Pk := Lib.hid (fun w => picked_any l[k].kind 2 hrk.kind (by omega) (by omega) w)
        rw [hik] at Pk
        obtain ⟨ip, hip, bip⟩ := pick_nat l[k].a 12 (by omega)
        have hip : pick l[k].a 12 = (ip : Int) := hip
        have Pa := Lib.hid (fun w => picked_any l[k].a 12 hrk.a (by omega) (by omega) w)
        rw [hip] at Pa
        obtain ⟨b, hb⟩ : ∃ b, ((ik : Int) == 0) = b := ⟨_, rfl⟩
        have HRO : Hid (ruleOf l[k] = (b, patternsL.getD ip [])) := Lib.hid (by
          unfold ruleOf
          rw [hik, hip, Int.toNat_natCast, ← hb]
          congr 1)
        generalize l[k] = r at *
        have hpat : wr.cell? ⟨w.heap.size, ip, none⟩ = some (.string (bs (patternsL.getD ip []))) := by
          rw [HS.out.2.2.cell ip]
          have h12 : ip < patternsL.length := bip
          rw [List.getElem?_toArray, List.getElem?_map, List.getD_eq_getElem?_getD, List.getElem?_eq_getElem h12]
          rfl
        generalize hbp : bs (patternsL.getD ip []) = bp at *
        have HBP := Lib.hid hbp
        clear hbp
        clear hik hip hrk
        obtain ⟨g8, hg8⟩ : ∃ g8, g8 = wr.heap.size := ⟨_, rfl⟩
        obtain ⟨W1, hW1⟩ : ∃ W1, W1 = wr.alloc (.cells #[.int .i64 r.kind, .int .i64 r.a, .int .i64 r.b, .string (bs r.text)] 60) := ⟨_, rfl⟩
        have b01 : Below wr.heap.size wr W1 := by rw [hW1]; exact (Below.refl _ _).alloc (Nat.le_refl _) _
        have K1 : Blk W1 g8 60 #[.int .i64 r.kind, .int .i64 r.a, .int .i64 r.b, .string (bs r.text)] := by rw [hW1, hg8]; exact Blk.new _ _ _
        have hS1 := HS.out.below b01
        have c0 := K1.cell 0
        have c1 := K1.cell 1
        have c2 := (b01.cell (p := ⟨w.heap.size, ip, none⟩) hl0).trans hpat
        obtain ⟨A5, n5, hs5, -⟩ := ownsRow_read hS1.2.1
        subst hs5
        rw [hln] at hS1 ⊢
        have hown := hS1.2.1
        unfold RulesOwn at hown
        rw [hln] at hown
        have HRow : Hid (∀ W w5, Below W1.heap.size W1 W → W.grownBy w5 (Value.slice A5 k n5).ownBlock → (w5.cell? ⟨g8, 0, none⟩ = some (.int .i64 r.kind) ∧ w5.cell? ⟨g8, 1, none⟩ = some (.int .i64 r.a) ∧ w5.cell? ⟨w.heap.size, ip, none⟩ = some (.string bp))) := Lib.hid (fun W w5 hb hg => by
          have k2 := K1.below hb K1.lt
          have hT := hS1.below hb
          have ht : ∀ g, (Value.slice A5 k n5).ownBlock = some g → ∃ C fr, W.heap[g]? = some (.cells C 31 fr) := fun g e => (own_typed (ownsRow_below hown hb) e).2
          have p2 := (hb.cell (p := ⟨w.heap.size, ip, none⟩) hS1.2.2.lt).trans c2
          refine ⟨grown_cell hg (k2.cell 0) ⟨_, _, k2⟩ (fun g e => ?_), grown_cell hg (k2.cell 1) ⟨_, _, k2⟩ (fun g e => ?_), grown_cell hg p2 ⟨_, _, hT.2.2⟩ (fun g e => ?_)⟩
          all_goals
            obtain ⟨C, fr, hC⟩ := ht g e
            exact ⟨C, _, fr, hC, by decide⟩)
        have HOW := Lib.hid hown
        have HS1 := Lib.hid hS1
        have HBA := Lib.hid (fun (o : Obj) => (((Below.refl W1.heap.size W1).alloc (Nat.le_refl _) o)).drew)
        have hI1 : (0 : Int) ≤ (ip : Int) := by omega
        have hI2 : (ip : Int) < 12 := by omega
        have hsz1 : w.heap.size ≤ W1.heap.size := hS1.1.size
        obtain ⟨i9, hi9, hy0, hy1, hy2⟩ := info_parts ruleinfo
        have hk12 : k < 12 := by omega
        have HLN := Lib.hid hln
        clear b01 K1 hown hS1 hpat
        go_upto_region 7 with fail
        rw [← hW1, ← hg8]
        have HW1 := Lib.hid hW1
        have HG8 := Lib.hid hg8
        clear hW1 hg8 q0 q1 q2 q3
        go_region_held3 (fun w' => w'.cell? ⟨g8, 0, none⟩ = some (.int .i64 r.kind) ∧ w'.cell? ⟨g8, 1, none⟩ = some (.int .i64 r.a) ∧ w'.cell? ⟨w.heap.size, ip, none⟩ = some (.string bp))
          (first | (exact ⟨c0, c1, c2⟩) | (exact ⟨s0, s1, s2⟩) | go_keep)
          (first
            | (go_at_call 24; (first | (with_reducible refine (Pk.out _).mono ?_) | (with_reducible refine (Pa.out _).mono ?_)); rintro e w' ⟨rfl, rfl⟩)
            | (refine step_append_any _ rfl (.tmp 20) (.tmp 34) _ rfl w.heap.size 31 i9 _ 2 24 Tryz.underlying28 hi9 hy0 hy1 hy2 rfl (by omega) (.slice A5 k n5) k _ rfl (ownsRow_below HOW.out (HBA.out _)) (W1.heap.size + 1) (some ⟨W1.heap.size, 0, none⟩) 1 1 [.bool b, .string bp] rfl (new_row W1 31 [.bool b, .string bp] 1 2 rfl) (by simp [Value.oneCell']) (by simp only [maxLen]; omega) (by omega) (by simp; omega) ?_; intro v5 w5 hown5 hg5 hat5; obtain ⟨s0, s1, s2⟩ := HRow.out _ _ (HBA.out _) hg5))
        all_goals
          go_wp2_with fail
          go_roundg (l.length - (k + 1))
        all_goals first
          | omega
          | (refine ⟨k + 1, by omega, by omega, by go_num, Lib.hid ?_⟩
             rw [HT.out, HRO.out]
             refine RuSt.snoc (HS1.out.below (HBA.out (.cells #[.bool b, .string bp] 31))) hg5 ?_
             rw [HLN.out]
             have e : ruleC (b, patternsL.getD ip []) = [.bool b, .string bp] := by unfold ruleC; rw [HBP.out]
             rw [e]
             exact hown5)
      · have hmz : ¬ (k : Int) < (most : Int) := by omega
        have HT := Lib.hid (rules_full (l := l) (most := most) (k := k) (by omega))
        generalize l[k] = r at *
        go_wp2_with fail
        go_roundg (l.length - (k + 1))
        case measure => omega
        case rel => exact ⟨k + 1, by omega, by omega, by go_num, Lib.hid (by rw [HT.out]; exact HS.out.below ((Below.refl _ _).alloc (Nat.le_refl _) _))⟩
    · obtain rfl : k = l.length := by omega
      go_wp2_with fail
      go_ret
      exact ⟨_, rfl, by have := HS.out.2.1; rw [List.take_length] at this; exact this, HS.out.1⟩
end
section
open Go.RowKit

theorem patterns_are : ∀ p ∈ patternsL, ∃ ps, Pattern p ps ∧ p.length ≤ 10 := by
  have ok : ∀ {ls : List (List Piece)} {p : List UInt8}, (1 ≤ p.length ∧ p.length ≤ 10 ∧ splitC 47 p = ls.map textPs) → (∀ l ∈ ls, l ≠ [] ∧ ∀ q ∈ l, okP q) → ∃ ps, Pattern p ps ∧ p.length ≤ 10 := fun {ls p} h1 h2 => ⟨ls, ⟨h1.1, by omega, h1.2.2, h2⟩, h1.2.1⟩
  have lit : ∀ b : UInt8, b ≠ 91 → okP (.inl b) := fun b h => h
  intro p hp
  simp only [patternsL, List.mem_cons, List.mem_nil_iff, or_false] at hp
  rcases hp with rfl | rfl | rfl | rfl | rfl | rfl | rfl | rfl | rfl | rfl | rfl | rfl
  · exact ok (ls := [[.inl 97]]) (by decide) (by simp [okP])
  · exact ok (ls := [[.inl 42, .inl 42]]) (by decide) (by simp [okP])
  · exact ok (ls := [[.inl 42]]) (by decide) (by simp [okP])
  · exact ok (ls := [[.inl 97], [.inl 42, .inl 42]]) (by decide) (by simp [okP])
  · exact ok (ls := [[.inl 42, .inl 42], [.inl 98]]) (by decide) (by simp [okP])
  · exact ok (ls := [[.inl 63]]) (by decide) (by simp [okP])
  · exact ok (ls := [[.inr (false, 97, [45, 98])]]) (by decide) (by simp [okP])
  · exact ok (ls := [[.inr (true, 97, []), .inl 42]]) (by decide) (by simp [okP])
  · exact ok (ls := [[.inl 42, .inl 42], [.inl 42, .inl 46, .inl 116, .inl 120, .inl 116]]) (by decide) (by simp [okP])
  · exact ok (ls := [[.inl 120, .inl 42]]) (by decide) (by simp [okP])
  · exact ok (ls := [[.inl 97, .inl 98], [.inl 42]]) (by decide) (by simp [okP])
  · exact ok (ls := [[.inl 42, .inl 42], [.inl 110, .inl 42]]) (by decide) (by simp [okP])
theorem rules_mem (l : List RawS) (most : Nat) : ∀ x ∈ rulesP l most, x.2 ∈ patternsL := fun x hx => by
  unfold rulesP at hx
  obtain ⟨r, _, rfl⟩ := List.mem_map.1 hx
  unfold ruleOf
  have h := pick_bd r.a 12 (by omega)
  rw [List.getD_eq_getElem?_getD, List.getElem?_eq_getElem (by rw [show patternsL.length = 12 from rfl]; omega)]
  exact List.getElem_mem _
theorem rulesP_len (l : List RawS) (most : Nat) : (rulesP l most).length ≤ most := by unfold rulesP; rw [List.length_map, List.length_take]; omega
/-- a row of rules, as a walk reads it -/
theorem RulesOwn.row {w : World} {base : Nat} {v : Value} {l : List RuleP} (h : RulesOwn w base v l) (hl : 0 < l.length) : ∃ g c, v = .slice (some ⟨g, 0, none⟩) l.length c ∧ g < w.heap.size ∧ l.length ≤ c ∧ c ≤ maxLen ∧
    ∀ j, (hj : j < l.length) → w.cell? ⟨g, j * 2, none⟩ = some (.bool l[j].1) ∧ w.cell? ⟨g, j * 2 + 1, none⟩ = some (.string (bs l[j].2)) := by
  rcases id h.2 with ⟨_, h4⟩ | ⟨g, cap, cur, rfl, hb, hg, hn, hm, _⟩
  · omega
  · refine ⟨g, cap, rfl, heap_lt hg, hn, hm, fun j hj => ?_⟩
    have key : ∀ i, i < 2 → w.cell? ⟨g, j * 2 + i, none⟩ = (ruleC l[j])[i]? := fun i hi => by
      have h3 : (l.flatMap ruleC)[j * 2 + i]? = (ruleC l[j])[i]? := by
        rw [flat_get ruleC_length l j i hi, List.getElem?_eq_getElem hj]; rfl
      have hl2 : i < (ruleC l[j]).length := hi
      rw [List.getElem?_eq_getElem hl2] at h3 ⊢
      have h4 := World.ownsRow.cells h (g := g) rfl (j * 2 + i) _ h3
      rwa [add_flat, Nat.zero_add] at h4
    exact ⟨key 0 (by omega), key 1 (by omega)⟩
end
end Go.Proofs.YtjglenhhgbokbaaGreatDoor
