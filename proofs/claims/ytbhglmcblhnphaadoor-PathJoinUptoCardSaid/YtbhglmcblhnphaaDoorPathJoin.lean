/-
  The law PathJoin: what it computes is true. Condition: a text of at most 1048576 bytes.
-/
import Derived.Test.YtbhglmcblhnphaaDoorPath
import Derived.BigQuiet
namespace Go.Proofs.YtbhglmcblhnphaaDoor
open Go.RowKit

theorem splitC_last {c : UInt8} : ∀ (a : List UInt8) {b : List UInt8}, c ∉ b → splitC c (a ++ c :: b) = splitC c a ++ [b]
  | [], b, h => by
    have := splitC_hit (c := c) (a := []) b (by simp)
    rw [List.nil_append] at this ⊢
    rw [this, splitC_miss h]; rfl
  | x :: a, b, h => by
    have ih := splitC_last a h
    rw [List.cons_append, splitC, splitC, ih]
    split
    · rfl
    · cases hs : splitC c a with
      | nil => exact absurd hs (splitC_ne c a)
      | cons y z => rfl
theorem last_slash : ∀ {l : List UInt8} {c : UInt8}, c ∈ l → ∃ a b, l = a ++ c :: b ∧ c ∉ b
  | [], c, h => by cases h
  | x :: l, c, h => by
    by_cases h2 : c ∈ l
    · obtain ⟨a, b, rfl, hb⟩ := last_slash h2
      exact ⟨x :: a, b, rfl, hb⟩
    · rcases List.mem_cons.1 h with rfl | h
      · exact ⟨[], l, rfl, h2⟩
      · exact absurd h h2
theorem ab_ok : checkS [97, 47, 98] = 0 := by decide
set_option maxHeartbeats 400000 in
theorem Parts_nil (w : World) :
    Calls Tryd.prog 22 #[.string (bs [])] w fun e w' => e = .returned (.slice none 0 0) ∧ w = w' := by
  have t0 : (bs []).toList = [] := bs_toList []
  go_enter Tryd.func22, Tryd.ntmps22
  go_wp2_with fail
  go_ret
  exact ⟨rfl, rfl⟩
theorem Check_ab (w : World) (hm : ML w) :
    Calls Tryd.prog 25 #[.string ⟨#[97, 47, 98]⟩] w fun e w' => e = .returned (.int .i64 0) ∧ Below w.heap.size w w' :=
  (Check_any [97, 47, 98] w (by decide) hm).mono fun e w' ⟨h1, h2⟩ => ⟨by rw [h1, ab_ok], h2⟩
theorem Up_ab (w : World) :
    Calls Tryd.prog 23 #[.string ⟨#[97, 47, 98]⟩] w fun e w' => e = .returned (.string ⟨#[97]⟩) ∧ w = w' :=
  Up_some [97] [98] (by decide) (by decide) w

set_option maxHeartbeats 1000000 in
theorem PathJoin_walk (w : World) (hsh : w.ShapedOpen Tryd.prog) (s : ByteArray) (hs : s.size ≤ 1048576) :
    Calls Tryd.prog 6 #[.string s] w fun e w' => e = .returned (.bool true) ∧ Below w.heap.size w w' := by
  have hm := ML.of_shaped hsh
  clear hsh
  have hl : s.data.toList.length ≤ 1048576 := by rw [← Lib.size_eq]; exact hs
  rw [← bs_self s]
  generalize s.data.toList = l at *
  clear hs
  by_cases hnil : l = []
  · subst hnil
    have hbe : ((bs []).toList == (bs []).toList) = true := beq_self_eq_true _
    have t0 : (bs []).toList = [] := bs_toList []
    have hct : decide ((47 : UInt8) ∈ ([] : List UInt8)) = false := by decide
    have hC := Lib.hid (Contains_slash [])
    rw [hct] at hC
    go_enter Tryd.func6, Tryd.ntmps6
    go_wp2_with fail
    refine (Parts_nil _).mono ?_
    rintro e w1 ⟨rfl, rfl⟩
    go_wp2_with fail
    refine (Up_none [] (by decide) (by simp) _).mono ?_
    rintro e w1 ⟨rfl, rfl⟩
    go_wp2_with fail
    refine (Base_none [] (by decide) (by simp) _).mono ?_
    rintro e w1 ⟨rfl, rfl⟩
    go_wp2_with fail
    refine (Check_ab _ hm).mono ?_
    rintro e w2 ⟨rfl, hb2⟩
    go_wp2_with fail
    refine (Up_ab _).mono ?_
    rintro e w1 ⟨rfl, rfl⟩
    go_wp2_with fail
    refine (hC.out _).mono ?_
    rintro e w1 ⟨rfl, rfl⟩
    go_wp2_with fail
    refine (Join_none _).mono ?_
    rintro e w1 ⟨rfl, rfl⟩
    go_wp2_with fail
    go_ret
    exact ⟨rfl, hb2⟩
  have t0 : ¬ (bs l).toList = [] := by rw [bs_toList]; exact hnil
  have t1 : (bs l).toList.isEmpty = false := by rw [bs_toList]; cases l <;> simp at hnil ⊢
  have hbe : ((bs l).toList == (bs l).toList) = true := beq_self_eq_true _
  have hjs := join_split 47 l
  have hsl := splitC_length 47 l
  have hP := Lib.hid (fun h => Parts_own l w hnil h hm)
  by_cases hct : (47 : UInt8) ∈ l
  · have hcd : decide ((47 : UInt8) ∈ l) = true := decide_eq_true hct
    have hC := Lib.hid (Contains_slash l)
    rw [hcd] at hC
    obtain ⟨a, b, hab, hnb⟩ := last_slash hct
    have hls : splitC 47 l = splitC 47 a ++ [b] := by rw [hab]; exact splitC_last a hnb
    have hlen : a.length + b.length + 1 = l.length := by rw [hab]; simp; omega
    have hU := Lib.hid (fun h w => Up_some a b h hnb w)
    have hB := Lib.hid (fun h w => Base_some a b h hnb w)
    rw [← hab] at hU hB
    have hcat : bs a ++ ⟨#[47]⟩ ++ bs b = bs l := by rw [show (⟨#[47]⟩ : ByteArray) = bs [47] from rfl, bs_append, bs_append, hab]; congr 1; simp
    obtain ⟨n, hn⟩ : ∃ n, n = (splitC 47 a).length := ⟨_, rfl⟩
    have hln : (splitC 47 l).length = n + 1 := by rw [hls]; simp [hn]
    have hat : (splitC 47 l)[n]? = some b := by rw [hls, hn]; simp
    have hbb : ((bs b).toList == (bs b).toList) = true := beq_self_eq_true _
    have hz1 := bs_size a
    have hz2 := bs_size b
    clear hls hn hcd hct hnb hab
    generalize splitC 47 l = P at *
    go_enter Tryd.func6, Tryd.ntmps6
    go_wp2_with fail
    refine (hP.out (by omega)).mono ?_
    rintro e w1 ⟨v, rfl, hv, hb1⟩
    go_wp2_with fail
    refine (hU.out (by omega) _).mono ?_
    rintro e w' ⟨rfl, rfl⟩
    go_wp2_with fail
    refine (hB.out (by omega) _).mono ?_
    rintro e w' ⟨rfl, rfl⟩
    go_wp2_with fail
    refine (Check_ab _ (hm.below hb1)).mono ?_
    rintro e w2 ⟨rfl, hb2⟩
    go_wp2_with fail
    refine (Up_ab _).mono ?_
    rintro e w' ⟨rfl, rfl⟩
    go_wp2_with fail
    refine (hC.out _).mono ?_
    rintro e w' ⟨rfl, rfl⟩
    have hv2 := hv.below (Nat.le_refl _) hb2
    have hJ := Lib.hid (fun h1 h2 => Join_own P v w.heap.size w2 hv2 h1 h2)
    rw [hjs] at hJ
    obtain ⟨g, c, rfl, g1, g2, g3, g4, g5⟩ := hv2
    have hcell := g5 n (.string (bs b)) (by rw [List.getElem?_map, hat]; rfl)
    have HV := Lib.hid hv
    clear hv
    have hn2 : n + 1 ≤ 1048577 := by omega
    rw [hln] at hJ g3
    rw [hln]
    clear g5
    have hl2 : (0 : Int) ≤ n := by omega
    have hl3 : decide ((n : Int) + 1 - 1 < n + 1) = true := decide_eq_true (by omega)
    go_wp2_with fail
    refine (hJ.out (by omega) (by omega)).mono ?_
    rintro e w3 ⟨rfl, hb3⟩
    have hc3 : w3.cell? ⟨g, n, none⟩ = some (.string (bs b)) := (hb3.cell (p := ⟨g, n, none⟩) g2).trans hcell
    go_wp2_with fail
    go_ret
    exact ⟨rfl, hb1.trans ((hb2.trans (hb3.mono hb2.size)).mono hb1.size)⟩
  · have hcd : decide ((47 : UInt8) ∈ l) = false := decide_eq_false hct
    have hC := Lib.hid (Contains_slash l)
    rw [hcd] at hC
    have hls : splitC 47 l = [l] := splitC_miss hct
    rw [hls] at hP hjs
    have hU := Lib.hid (fun h w => Up_none l h hct w)
    have hB := Lib.hid (fun h w => Base_none l h hct w)
    clear hls hcd hct hsl
    go_enter Tryd.func6, Tryd.ntmps6
    go_wp2_with fail
    refine (hP.out (by omega)).mono ?_
    rintro e w1 ⟨v, rfl, hv, hb1⟩
    go_wp2_with fail
    refine (hU.out (by omega) _).mono ?_
    rintro e w' ⟨rfl, rfl⟩
    go_wp2_with fail
    refine (hB.out (by omega) _).mono ?_
    rintro e w' ⟨rfl, rfl⟩
    go_wp2_with fail
    refine (Check_ab _ (hm.below hb1)).mono ?_
    rintro e w2 ⟨rfl, hb2⟩
    go_wp2_with fail
    refine (Up_ab _).mono ?_
    rintro e w' ⟨rfl, rfl⟩
    go_wp2_with fail
    refine (hC.out _).mono ?_
    rintro e w' ⟨rfl, rfl⟩
    have hv2 := hv.below (Nat.le_refl _) hb2
    have hJ := Lib.hid (fun h1 h2 => Join_own [l] v w.heap.size w2 hv2 h1 h2)
    rw [hjs] at hJ
    obtain ⟨g, c, rfl, g1, g2, g3, g4, g5⟩ := hv2
    have hcell := g5 0 (.string (bs l)) rfl
    have HV := Lib.hid hv
    clear hv g5
    rw [show ([l] : List (List UInt8)).length = 1 from rfl] at hJ g3
    rw [show ([l] : List (List UInt8)).length = 1 from rfl]
    go_wp2_with fail
    refine (hJ.out (by omega) (by omega)).mono ?_
    rintro e w3 ⟨rfl, hb3⟩
    have hc3 : w3.cell? ⟨g, 0, none⟩ = some (.string (bs l)) := (hb3.cell (p := ⟨g, 0, none⟩) g2).trans hcell
    go_wp2_with fail
    go_ret
    exact ⟨rfl, hb1.trans ((hb2.trans (hb3.mono hb2.size)).mono hb1.size)⟩
end Go.Proofs.YtbhglmcblhnphaaDoor
