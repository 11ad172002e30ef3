/-
  What is in a directory stands right behind it: plainly. No condition.
  The paths of what creelkeep.Tree grows: made of its names. Plainly: no condition.
-/
import Derived.Test.YtphmhmdcaafmdaaGreatDoorPathW
import Derived.Test.YtphmhmdcaafmdaaGreatDoorTreeS
namespace Go.Proofs.YtphmhmdcaafmdaaGreatDoor
set_option linter.all false
section
theorem splitC_append (c : UInt8) : ∀ (a r : List UInt8), splitC c (a ++ c :: r) = splitC c a ++ splitC c r := by
  intro a
  induction a with
  | nil => intro r; rw [List.nil_append, splitC]; simp [splitC]
  | cons b a ih =>
    intro r
    rw [List.cons_append, splitC, splitC, ih r]
    by_cases e : b = c
    · rw [if_pos e, if_pos e]; rfl
    · rw [if_neg e, if_neg e]
      cases h : splitC c a with
      | nil => exact absurd h (splitC_ne c a)
      | cons x y => rfl
theorem cmpL_front : ∀ (a : List (List UInt8)) {b : List (List UInt8)}, b ≠ [] → cmpL a (a ++ b) = -1
  | [], b, h => by cases b with | nil => exact absurd rfl h | cons x y => rfl
  | x :: a, b, h => by rw [List.cons_append, cmpL, if_pos (cmpB_self x)]; exact cmpL_front a h
theorem inB_iff {e d : List UInt8} (hd : d ≠ []) : inB e d = true ↔ ∃ r, e = d ++ 47 :: r := by
  have h1 : inB e d = Lib.hasPrefix e (d ++ [47]) := by
    unfold inB
    cases d with
    | nil => exact absurd rfl hd
    | cons b d => simp
  rw [h1]
  constructor
  · intro h
    have h2 : (d ++ [47]).isPrefixOf e = true := h
    rw [List.isPrefixOf_iff_prefix] at h2
    obtain ⟨r, hr⟩ := h2
    exact ⟨r, by rw [← hr]; simp⟩
  · rintro ⟨r, rfl⟩
    have := hasPrefix_append_in (d ++ [47]) r
    rwa [List.append_assoc] at this
theorem near_less {e d : List UInt8} (hd : d ≠ []) (h : inB e d = true) : cmpP d e = -1 := by
  obtain ⟨r, rfl⟩ := (inB_iff hd).1 h
  unfold cmpP partsS
  rw [if_neg hd, if_neg (by simp), splitC_append]
  exact cmpL_front _ (splitC_ne _ _)
end
section
open Go.RowKit
def PartsOk (p : List UInt8) : Prop := p ≠ [] ∧ ∀ q ∈ splitC 47 p, q ∈ namesL
theorem namesL_ok : ∀ n ∈ namesL, n ≠ [] ∧ (47 : UInt8) ∉ n ∧ (0 : UInt8) ∉ n ∧ n ≠ [46] ∧ n ≠ [46, 46] ∧ (91 : UInt8) ∉ n ∧ (42 : UInt8) ∉ n ∧ (63 : UInt8) ∉ n := by
  intro n hn
  simp only [namesL, List.mem_cons, List.mem_nil_iff, or_false] at hn
  rcases hn with rfl | rfl | rfl | rfl | rfl | rfl | rfl | rfl | rfl | rfl | rfl
  all_goals first | decide | (refine ⟨by simp, ?_, ?_, ?_, ?_, ?_, ?_, ?_⟩ <;> first | (rw [List.mem_replicate]; simp) | (intro h; have := congrArg List.length h; simp at this))
theorem names_mem (r : RawS) : namesL.getD (pick r.a 11).toNat [] ∈ namesL := by
  have h := pick_bd r.a 11 (by omega)
  rw [List.getD_eq_getElem?_getD, List.getElem?_eq_getElem (by rw [show namesL.length = 11 from rfl]; omega)]
  exact List.getElem_mem _
theorem growPath_ok {dirs : List (List UInt8)} (hd : ∀ d ∈ dirs, d = [] ∨ PartsOk d) (r : RawS) : PartsOk (growPath dirs r) := by
  have hn := names_mem r
  obtain ⟨n1, n2, _⟩ := namesL_ok _ hn
  unfold growPath
  generalize namesL.getD (pick r.a 11).toNat [] = n at *
  have hdd : dirs.getD (pick r.b dirs.length).toNat [] = [] ∨ PartsOk (dirs.getD (pick r.b dirs.length).toNat []) := by
    rw [List.getD_eq_getElem?_getD]
    rcases hq : dirs[(pick r.b dirs.length).toNat]? with _ | d
    · exact .inl rfl
    · exact hd d (List.mem_of_getElem? hq)
  generalize dirs.getD (pick r.b dirs.length).toNat [] = d at *
  unfold upS
  split
  · rw [List.nil_append]
    refine ⟨n1, fun q hq => ?_⟩
    rw [splitC_miss n2, List.mem_singleton] at hq
    rw [hq]; exact hn
  · next hne =>
    rcases hdd with h | ⟨_, h⟩
    · exact absurd h hne
    · rw [List.append_assoc, List.singleton_append]
      refine ⟨by simp, fun q hq => ?_⟩
      rw [splitC_append, splitC_miss n2] at hq
      rcases List.mem_append.1 hq with hq | hq
      · exact h q hq
      · rw [List.mem_singleton] at hq
        rw [hq]; exact hn
structure GrowPOk (s : TreeS) : Prop where
  paths : ∀ x ∈ s.t, PartsOk x.path
  dirs : ∀ d ∈ s.dirs, d = [] ∨ PartsOk d
theorem growPOk_step {most : Nat} {s : TreeS} (h : GrowPOk s) (r : RawS) : GrowPOk (growStep most s r) := by
  unfold growStep
  split
  · exact h
  · split
    · exact h
    · obtain ⟨j, y, n, ds, e, hn, hds, hy⟩ := growKind_form s r (growPath s.dirs r) (pick r.kind 7).toNat
      have hp := growPath_ok h.dirs r
      rw [e]
      have hm : (s.t.set j y ++ [n]).map (·.path) = s.t.map (·.path) ++ [growPath s.dirs r] := by rw [List.map_append, set_paths hy, List.map_cons, hn]; rfl
      refine ⟨fun x hx => ?_, fun d hd => ?_⟩
      · have hx2 : x.path ∈ (s.t.set j y ++ [n]).map (·.path) := List.mem_map_of_mem hx
        rw [hm] at hx2
        rcases List.mem_append.1 hx2 with a | a
        · obtain ⟨z, hz, ez⟩ := List.mem_map.1 a
          rw [← ez]; exact h.paths z hz
        · rw [List.mem_singleton] at a; rw [a]; exact hp
      · rcases List.mem_append.1 hd with hd | hd
        · exact h.dirs d hd
        · rcases hds with rfl | rfl
          · simp at hd
          · rw [List.mem_singleton] at hd; subst hd; exact .inr hp
theorem growPOk_all (most : Nat) : ∀ (l : List RawS) {s : TreeS}, GrowPOk s → GrowPOk (l.foldl (growStep most) s)
  | [], _, h => h
  | r :: l, _, h => growPOk_all most l (growPOk_step h r)
theorem treeP_parts (l : List RawS) (most : Nat) : ∀ x ∈ treeP l most, PartsOk x.path ∧ x.path.length ≤ 400 := fun x hx => by
  have hx2 := (treeP_perm l most).subset hx
  exact ⟨(growPOk_all most l (s := ⟨[], [[]]⟩) ⟨by simp, by simp⟩).paths x hx2, (growOk_all most l (growOk_start most)).path x hx2⟩
end
end Go.Proofs.YtphmhmdcaafmdaaGreatDoor
