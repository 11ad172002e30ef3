/-
  link.Anew: files that are one told by the place of the first one. Condition: a tree that passes tree.Check, its nodes each by themselves.
-/
import Derived.Test.YtjglenhhgbokbaaGreatDoorLinks
namespace Go.Proofs.YtjglenhhgbokbaaGreatDoor
open Go.RowKit

def setSame (x : NodeP) (s : Int) : NodeP := ⟨x.path, x.kind, s, x.target, x.mt, x.data⟩
def anewS (t : List NodeP) (i : Nat) : Int := if 1 < (firstsP t).count (firstAt t i : Int) then (firstAt t i : Int) + 1 else 0
def anewAt (t : List NodeP) (i : Nat) : NodeP := setSame (t.getD i default) (anewS t i)
def anewP (t : List NodeP) : List NodeP := (List.range t.length).map (anewAt t)
theorem anewP_length (t : List NodeP) : (anewP t).length = t.length := by simp [anewP]
theorem anewP_at {t : List NodeP} {i : Nat} (hi : i < t.length) : (anewP t)[i]'(by rw [anewP_length]; exact hi) = anewAt t i := by simp [anewP]
/-- what i rounds leave -/
def anewTo (t : List NodeP) (i : Nat) : List NodeP := (anewP t).take i ++ t.drop i
theorem anewTo_length (t : List NodeP) (i : Nat) (hi : i ≤ t.length) : (anewTo t i).length = t.length := by
  unfold anewTo; rw [List.length_append, List.length_take, List.length_drop, anewP_length]; omega
theorem anewTo_zero (t : List NodeP) : anewTo t 0 = t := by simp [anewTo]
theorem anewTo_all (t : List NodeP) : anewTo t t.length = anewP t := by
  unfold anewTo; rw [List.take_of_length_le (by rw [anewP_length]; omega), List.drop_length, List.append_nil]
theorem anewTo_at {t : List NodeP} {i : Nat} (hi : i < t.length) : (anewTo t i)[i]'(by rw [anewTo_length _ _ (by omega)]; exact hi) = t[i] := by
  unfold anewTo
  rw [List.getElem_append_right (by rw [List.length_take, anewP_length]; omega)]
  simp only [List.length_take, anewP_length, List.getElem_drop]
  congr 1; omega
theorem anewTo_set {t : List NodeP} {i : Nat} (hi : i < t.length) : (anewTo t i).set i (anewAt t i) = anewTo t (i + 1) := by
  unfold anewTo
  rw [List.set_append_right _ _ (by rw [List.length_take, anewP_length]; omega), List.take_succ_eq_append_getElem (by rw [anewP_length]; exact hi), List.append_assoc]
  have e : i - ((anewP t).take i).length = 0 := by rw [List.length_take, anewP_length]; omega
  rw [e, List.drop_eq_getElem_cons hi, List.set_cons_zero, anewP_at hi]
  rfl
theorem setSame_data (x : NodeP) (s : Int) : (setSame x s).data = x.data := rfl
theorem setSame_cells (x : NodeP) (s : Int) (dv : Value) : (nodeC (x, dv)).set 2 (.int .i64 s) = nodeC (setSame x s, dv) := rfl
end Go.Proofs.YtjglenhhgbokbaaGreatDoor
