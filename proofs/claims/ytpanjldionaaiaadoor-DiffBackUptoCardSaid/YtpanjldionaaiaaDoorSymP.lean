/-
  The merge in place of two sorted rows behind one another, by rotations: plainly. No program in sight, no condition.
-/
import Derived.Test.YtpanjldionaaiaaDoorWords
namespace Go.Proofs.YtpanjldionaaiaaDoor
set_option linter.all false
section
variable {α : Type} {c : α → α → Int}
structure Ord3 (c : α → α → Int) : Prop where
  neg : ∀ x y, c y x = -c x y
  trans : ∀ x y z, c x y ≤ 0 → c y z ≤ 0 → c x z ≤ 0
theorem Ord3.flip (h : Ord3 c) {x y : α} (hx : ¬ c x y < 0) : c y x ≤ 0 := by have := h.neg x y; omega
def SrtC (c : α → α → Int) (l : List α) : Prop := l.Pairwise (fun x y => c x y ≤ 0)
/-- what a merge of X and Y leaves between P and S -/
def Mrg (c : α → α → Int) (P X Y S d : List α) : Prop := ∃ Z, d = P ++ (Z ++ S) ∧ Z.Perm (X ++ Y) ∧ SrtC c Z
theorem mrg_split (h : Ord3 c) {X1 X2 Y1 Y2 Z1 Z2 : List α} (hX : SrtC c (X1 ++ X2)) (hY : SrtC c (Y1 ++ Y2)) (h1 : ∀ x ∈ X1, ∀ y ∈ Y2, c x y ≤ 0) (h2 : ∀ y ∈ Y1, ∀ x ∈ X2, c y x ≤ 0)
    (p1 : Z1.Perm (X1 ++ Y1)) (s1 : SrtC c Z1) (p2 : Z2.Perm (X2 ++ Y2)) (s2 : SrtC c Z2) : (Z1 ++ Z2).Perm ((X1 ++ X2) ++ (Y1 ++ Y2)) ∧ SrtC c (Z1 ++ Z2) := by
  constructor
  · refine (p1.append p2).trans ?_
    rw [List.append_assoc, List.append_assoc]
    refine List.Perm.append_left X1 ?_
    rw [← List.append_assoc, ← List.append_assoc]
    exact List.Perm.append_right Y2 List.perm_append_comm
  · unfold SrtC at *
    rw [List.pairwise_append] at hX hY ⊢
    refine ⟨s1, s2, fun a ha b hb => ?_⟩
    rcases List.mem_append.1 (p1.subset ha) with ha | ha <;> rcases List.mem_append.1 (p2.subset hb) with hb | hb
    · exact hX.2.2 a ha b hb
    · exact h1 a ha b hb
    · exact h2 a ha b hb
    · exact hY.2.2 a ha b hb
theorem mrg_in {X Y1 Y2 : List α} {x : α} (hX : X = [x]) (hY : SrtC c (Y1 ++ Y2)) (h1 : ∀ y ∈ Y1, c y x ≤ 0) (h2 : ∀ y ∈ Y2, c x y ≤ 0) : (Y1 ++ x :: Y2).Perm (X ++ (Y1 ++ Y2)) ∧ SrtC c (Y1 ++ x :: Y2) := by
  subst hX
  constructor
  · exact List.perm_middle
  · unfold SrtC at *
    rw [List.pairwise_append] at hY ⊢
    refine ⟨hY.1, List.pairwise_cons.2 ⟨h2, hY.2.1⟩, fun a ha b hb => ?_⟩
    rcases List.mem_cons.1 hb with rfl | hb
    · exact h1 a ha
    · exact hY.2.2 a ha b hb
theorem mrg_in2 {X1 X2 Y : List α} {y : α} (hY : Y = [y]) (hX : SrtC c (X1 ++ X2)) (h1 : ∀ x ∈ X1, c x y ≤ 0) (h2 : ∀ x ∈ X2, c y x ≤ 0) : (X1 ++ y :: X2).Perm ((X1 ++ X2) ++ Y) ∧ SrtC c (X1 ++ y :: X2) := by
  obtain ⟨h3, h4⟩ := mrg_in rfl hX h1 h2
  subst hY
  exact ⟨h3.trans List.perm_append_comm, h4⟩
/-! ### by places -/
theorem srt_at (h : Ord3 c) {l : List α} (hs : SrtC c l) {i j : Nat} (hij : i ≤ j) (hj : j < l.length) : c (l[i]'(by omega)) l[j] ≤ 0 := by
  rcases Nat.lt_or_eq_of_le hij with hl | rfl
  · exact List.pairwise_iff_getElem.1 hs i j (by omega) hj hl
  · have := h.neg l[i] l[i]; omega
/-- a merge's round: what the rotation leaves is merged in two parts -/
theorem Mrg.parts (h : Ord3 c) {P X1 X2 Y1 Y2 S d1 d2 : List α} (hX : SrtC c (X1 ++ X2)) (hY : SrtC c (Y1 ++ Y2)) (h1 : ∀ x ∈ X1, ∀ y ∈ Y2, c x y ≤ 0) (h2 : ∀ y ∈ Y1, ∀ x ∈ X2, c y x ≤ 0)
    (m1 : Mrg c P X1 Y1 (X2 ++ (Y2 ++ S)) d1) (m2 : ∀ Z1, d1 = P ++ (Z1 ++ (X2 ++ (Y2 ++ S))) → Mrg c (P ++ Z1) X2 Y2 S d2) : Mrg c P (X1 ++ X2) (Y1 ++ Y2) S d2 := by
  obtain ⟨Z1, e1, p1, s1⟩ := m1
  obtain ⟨Z2, e2, p2, s2⟩ := m2 Z1 e1
  obtain ⟨h3, h4⟩ := mrg_split h hX hY h1 h2 p1 s1 p2 s2
  exact ⟨Z1 ++ Z2, by rw [e2]; simp, h3, h4⟩
theorem Mrg.none_left {P Y S : List α} (hY : SrtC c Y) : Mrg c P [] Y S (P ++ (Y ++ S)) := ⟨Y, rfl, List.Perm.refl _, hY⟩
theorem Mrg.none_right {P X S : List α} (hX : SrtC c X) : Mrg c P X [] S (P ++ (X ++ S)) := ⟨X, rfl, by rw [List.append_nil], hX⟩
end
end Go.Proofs.YtpanjldionaaiaaDoor
