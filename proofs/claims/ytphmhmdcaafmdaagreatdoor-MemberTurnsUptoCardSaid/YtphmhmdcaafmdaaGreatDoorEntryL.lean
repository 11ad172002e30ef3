/-
  The member of raw things is one that may be; how many records it has and how long it is. No program in sight. Condition: raw things of the second form's bound.
-/
import Derived.Test.YtphmhmdcaafmdaaGreatDoorMembers
import Derived.Test.YtphmhmdcaafmdaaGreatDoorTreeV
namespace Go.Proofs.YtphmhmdcaafmdaaGreatDoor
set_option linter.all false
open Go.RowKit
theorem split_none {l : List UInt8} (h : (47 : UInt8) ∉ l) : splitC 47 l = [l] := splitC_miss h
theorem check_rep (n : Nat) (hn : n ≤ 200) : checkS (116 :: List.replicate n 117) = 0 := by
  have h47 : (47 : UInt8) ∉ 116 :: List.replicate n 117 := by
    intro h
    rcases List.mem_cons.1 h with h | h
    · exact absurd h (by decide)
    · exact absurd (List.eq_of_mem_replicate h) (by decide)
  have h0 : (0 : UInt8) ∉ 116 :: List.replicate n 117 := by
    intro h
    rcases List.mem_cons.1 h with h | h
    · exact absurd h (by decide)
    · exact absurd (List.eq_of_mem_replicate h) (by decide)
  unfold checkS
  rw [if_neg (by simp; omega), if_neg h0, split_none h47, if_neg]
  simp only [List.any_cons, List.any_nil, Bool.or_false]
  unfold badPart
  simp
theorem entP_ok {r : RawS} (h : RawOk r) : EntOk (entP r) where
  path := by
    have hb := pick_bd r.b 5 (by omega)
    have hl := entPath_length r.a h.a (pick r.b 5).toNat (by omega)
    exact ⟨tparts_check (entPath_ok _ _) hl, hl⟩
  mt := metaOf_ok r
  kind := by
    have hb := pick_bd r.kind 4 (by omega)
    show 1 + pick r.kind 4 = 1 ∨ 1 + pick r.kind 4 = 2 ∨ 1 + pick r.kind 4 = 3 ∨ 1 + pick r.kind 4 = 4
    omega
  data := by
    have hb := pick_bd r.b 40 (by omega)
    constructor
    · show (if 1 + pick r.kind 4 = 1 then _ else _ : List UInt8).length ≤ 2000
      split
      · rw [Lib.repeatL_length]
        have h1 := cleanS_length r.text 40
        have : (pick r.b 40).toNat * (cleanS r.text 40).length ≤ 40 * 40 := Nat.mul_le_mul (by omega) h1
        omega
      · simp
    · intro hk
      exact if_neg hk
  none := by
    intro hk
    have hk : 1 + pick r.kind 4 = 1 ∨ 1 + pick r.kind 4 = 2 := hk
    exact if_neg (by omega)
  target := by
    have hb := pick_bd r.b 150 (by omega)
    refine ⟨?_, ?_, ?_⟩
    · show (if _ then _ else _ : List UInt8).length ≤ 400
      split
      · simp; omega
      · simp
    · intro hk
      have e : (entP r).target = 116 :: List.replicate (pick r.b 150).toNat 117 := if_pos hk
      rw [e]
      refine ⟨by simp, ?_⟩
      intro h
      rcases List.mem_cons.1 h with h | h
      · exact absurd h (by decide)
      · exact absurd (List.eq_of_mem_replicate h) (by decide)
    · intro hk
      have e : (entP r).target = 116 :: List.replicate (pick r.b 150).toNat 117 := if_pos (.inr hk)
      rw [e]
      exact check_rep _ (by omega)
/-! ### how many records, how many bytes -/
def one (b : Bool) : Nat := if b then 1 else 0
theorem recT_len1 (r : RecS) : 1 ≤ (recT r).length := by
  have h : 1 ≤ (restR r).length := by unfold restR; simp
  unfold recT
  rw [List.length_append]
  omega
theorem paxT_len1 : ∀ {l : List RecS}, l ≠ [] → 1 ≤ (paxT l).length
  | [], h => absurd rfl h
  | r :: l, _ => by
    have := recT_len1 r
    unfold paxT
    rw [List.map_cons, List.flatten_cons, List.length_append]
    omega
theorem memB_blocks {x : EntP} (h : EntOk x) : (packR x = [] → (memB x).length = (1 + kN x.data.length) * 512) ∧ (packR x ≠ [] → (kN x.data.length + 3) * 512 ≤ (memB x).length) ∧ (memB x).length % 512 = 0 ∧ (memB x).length ≤ 100000 := by
  have h1 := padB_length x.data
  have h2 := headW_length (packH_ok h)
  have h3 := padB_length (paxT (packR x))
  have h5 := paxT_len (packR_ok h)
  have h6 : (packR x).length * 703 ≤ 7 * 703 := Nat.mul_le_mul_right _ (packR_len x)
  have h4 := headW_length (paxH_ok (paxT (packR x)).length (by omega))
  have hd := h.data.1
  have e1 : (memB x).length = (memR (packR x)).length + (512 + kN x.data.length * 512) := by
    unfold memB
    rw [List.length_append, List.length_append, h2, h1]
  rw [e1]
  unfold kN at *
  clear h2 h1 e1
  by_cases he : packR x = []
  · have e2 : (memR (packR x)).length = 0 := by unfold memR; rw [if_pos he]; rfl
    rw [e2]
    generalize x.data.length = d at *
    clear h3 h4 h5 h6
    exact ⟨fun _ => by omega, fun h => absurd he h, by omega, by omega⟩
  · have h7 := paxT_len1 he
    have e2 : (memR (packR x)).length = 512 + (padB (paxT (packR x))).length := by unfold memR; rw [if_neg he, List.length_append, h4]
    rw [e2, h3]
    clear h3 h4 e2
    generalize (paxT (packR x)).length = p at *
    generalize x.data.length = d at *
    obtain ⟨q, hq⟩ : ∃ q, q = (p + 511) / 512 := ⟨_, rfl⟩
    obtain ⟨f, hf⟩ : ∃ f, f = (d + 511) / 512 := ⟨_, rfl⟩
    have q1 : 1 ≤ q := by omega
    have q2 : q ≤ 12 := by omega
    have q3 : f ≤ 5 := by omega
    rw [← hq, ← hf]
    clear hq hf h7 h5 h6 hd
    exact ⟨fun h => absurd h he, fun _ => by omega, by omega, by omega⟩
/-! ### the member that 'written' writes -/
def wrE : EntP := ⟨[97], 1, [], ⟨0, 0, 0, [], [], 0, 0⟩, [120]⟩
theorem wrE_ok : EntOk wrE where
  path := by decide
  mt := ⟨by decide, by decide, by decide, by decide, by decide, by decide⟩
  kind := by decide
  data := by decide
  none := by decide
  target := by decide
set_option maxRecDepth 100000 in
theorem wrE_bytes : (memB wrE).length = 1024 ∧ (memB wrE)[0]? = some 97 ∧ (memB wrE)[512]? = some 120 := by
  have hp : packR wrE = [] := by decide
  have hm : memB wrE = headW (packH wrE) ++ padB [120] := by unfold memB memR; rw [if_pos hp]; rfl
  have hl := headW_length (packH_ok wrE_ok)
  rw [hm]
  refine ⟨by rw [List.length_append, hl, padB_length]; show 512 + kN 1 * 512 = 1024; unfold kN; omega, ?_, ?_⟩
  · rw [List.getElem?_append_left (by omega)]
    decide +kernel
  · rw [List.getElem?_append_right (by omega), hl]
    decide +kernel
end Go.Proofs.YtphmhmdcaafmdaaGreatDoor
