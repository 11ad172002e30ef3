/-
  member's packed: say, number, text, each once. Condition: the library's table of powers of ten lies as Go laid it.
-/
import Derived.Test.YtjbpoijefkbllaaGreatDoorRecs
import Derived.Test.YtjbpoijefkbllaaGreatDoorMemberP
import Derived.Test.YtjbpoijefkbllaaGreatDoorTreeE
import Derived.Test.YtjbpoijefkbllaaGreatDoorOctalB
namespace Go.Proofs.YtjbpoijefkbllaaGreatDoor
open Go.RowKit

theorem own_kept_set {w : World} {base g n size : Nat} {e t : TypeId} {v : Value} {xs : List Value} {cs : Array Value} (hown : w.ownsRow base e size v n xs) (hg : Blk w g t cs) (hne : e ≠ t) (i : Nat) (u : Value) : (w.setCell ⟨g, i, none⟩ u).ownsRow base e size v n xs :=
  hown.kept (row := some g) ⟨rfl, rfl, rfl, by simp [World.setCell], fun k _ hk => Below.heap_setCell _ _ _ _ (fun e => hk (by simp [e]))⟩ (.inr (own_blk_ne hown hg hne))
/-- a packed of the call's own: its head's cells, its records -/
def PackAt (w : World) (B g : Nat) (hc : List Value) (l : List RecS) : Prop :=
  B ≤ g ∧ hc.length = 11 ∧ ∃ v, Blk w g 96 (hc ++ [v]).toArray ∧ RecsOwn w B v l
theorem rec_ne_packed : 155 ≠ 96 := by decide
section
variable {w w' : World} {B g : Nat} {hc : List Value} {l : List RecS}
theorem PackAt.below (h : PackAt w B g hc l) (hb : Below w.heap.size w w') : PackAt w' B g hc l := by
  obtain ⟨h1, h2, v, h3, h4⟩ := h
  exact ⟨h1, h2, v, h3.below hb h3.lt, h4.below hb⟩
theorem PackAt.mono {B' : Nat} (h : PackAt w B g hc l) (hB : B' ≤ B) : PackAt w B' g hc l := by
  obtain ⟨h1, h2, v, h3, h4⟩ := h
  exact ⟨by omega, h2, v, h3, ownsRow_mono h4 hB⟩
theorem PackAt.lt (h : PackAt w B g hc l) : g < w.heap.size := by
  obtain ⟨h1, h2, v, h3, h4⟩ := h
  exact h3.lt
theorem PackAt.cell (h : PackAt w B g hc l) {i : Nat} (hi : i < 11) : w.cell? ⟨g, i, none⟩ = hc[i]? := by
  obtain ⟨h1, h2, v, h3, h4⟩ := h
  rw [h3.cell i, List.getElem?_toArray, List.getElem?_append_left (by omega)]
theorem PackAt.frozen (h : PackAt w B g hc l) (i : Nat) : w.frozen? ⟨g, i, none⟩ = false := by
  obtain ⟨h1, h2, v, h3, h4⟩ := h
  exact h3.frozen i
theorem PackAt.set_ (h : PackAt w B g hc l) {i : Nat} (hi : i < 11) (u : Value) : PackAt (w.setCell ⟨g, i, none⟩ u) B g (hc.set i u) l := by
  obtain ⟨h1, h2, v, h3, h4⟩ := h
  refine ⟨h1, by rw [List.length_set]; exact h2, v, ?_, own_kept_set h4 h3 rec_ne_packed i u⟩
  have := h3.set_ i u
  rw [List.setIfInBounds_toArray, List.set_append_left _ _ (by omega)] at this
  exact this
theorem PackAt.recs (h : PackAt w B g hc l) : ∃ A c, w.cell? ⟨g, 11, none⟩ = some (.slice A l.length c) ∧ RecsOwn w B (.slice A l.length c) l := by
  obtain ⟨h1, h2, v, h3, h4⟩ := h
  obtain ⟨A, c, rfl, -⟩ := ownsRow_read h4
  refine ⟨A, c, ?_, h4⟩
  rw [h3.cell 11, List.getElem?_toArray, List.getElem?_append_right (by omega), h2]
  rfl
end
set_option maxRecDepth 100000 in
set_option maxHeartbeats 1000000 in
theorem say_any (B g : Nat) (hc : List Value) (l : List RecS) (k v : List UInt8) (w : World) (h : PackAt w B g hc l) (hl : l.length ≤ 20) :
    Calls Tryz.prog 90 #[.pointer (some ⟨g, 0, none⟩), .string (bs k), .string (bs v)] w fun e w' => e = .returned (.tuple #[]) ∧ PackAt w' B g hc (l ++ [⟨k, v⟩]) ∧ Below B w w' := by
  obtain ⟨i9, hi9, hy0, hy1, hy2⟩ := info_parts recinfo
  have hlt := h.lt
  obtain ⟨h1, h2, v0, hbk, hown⟩ := h
  obtain ⟨A0, n0, rfl, -⟩ := ownsRow_read hown
  have c11 : w.cell? ⟨g, 11, none⟩ = some (.slice A0 l.length n0) := by
    rw [hbk.cell 11, List.getElem?_toArray, List.getElem?_append_right (by omega), h2]
    rfl
  have HB := Lib.hid hbk
  have HO := Lib.hid hown
  have hone : ∀ u ∈ [Value.string (bs k), .string (bs v)], u.oneCell' = true := by simp [Value.oneCell']
  have hrc : Hid (recC ⟨k, v⟩ = [.string (bs k), .string (bs v)]) := Lib.hid rfl
  clear hbk hown
  generalize bs k = bk at *
  generalize bs v = bv at *
  go_enter Tryz.func90, Tryz.ntmps90
  go_wp2_with (at_builtin; refine wpList_append_any _ rfl (.tmp 10) (.tmp 14) _ rfl B 155 i9 _ 2 32 Tryz.underlying94 hi9 hy0 hy1 hy2 rfl (by omega) _ l.length (l.flatMap recC) rfl (ownsRow_below HO.out ((Below.refl _ _).alloc (Nat.le_refl _) _)) (w.heap.size + 1) (some ⟨w.heap.size, 0, none⟩) 1 1 [.string bk, .string bv] rfl (new_row w 155 [.string bk, .string bv] 1 2 rfl) hone (by simp only [maxLen]; omega) (by omega) (by simp; omega) ?_; intro v9 w9 hown9 hg9 hat9; obtain ⟨A9, c9, hv9, -⟩ := ownsRow_read hown9; subst hv9; have hb9 := (HB.out.alloc (.cells #[.string bk, .string bv] 155)).grown hg9 (fun e => own_blk_ne HO.out HB.out rec_ne_packed e.symm); have z11 := hb9.frozen 11; have HO9 := Lib.hid hown9; have HG9 := Lib.hid hg9; have HB9 := Lib.hid hb9; have d11 : w9.cell? ⟨g, 11, none⟩ = some (.slice A0 l.length n0) := by {rw [hb9.cell 11, List.getElem?_toArray, List.getElem?_append_right (by omega), h2]; rfl}; clear hown9 hg9 hb9 hat9)
  refine bodyPost_end (results_none rfl _ _ _) rfl ?_
  refine ⟨rfl, ⟨h1, h2, .slice A9 (l.length + 1) c9, ?_, ?_⟩, ?_⟩
  · have := HB9.out.set_ 11 (.slice A9 (l.length + 1) c9)
    rw [List.setIfInBounds_toArray, List.set_append_right _ _ (by omega), h2] at this
    exact this
  · have := own_kept_set HO9.out HB9.out rec_ne_packed 11 (.slice A9 (l.length + 1) c9)
    unfold RecsOwn
    rw [List.length_append, List.flatMap_append]
    simpa [hrc.out] using this
  · exact (((Below.refl B w).alloc (by omega) _).grown HG9.out (by simp; omega) (fun k e => (own_typed HO.out e).1)).setCell (p := ⟨g, 11, none⟩) h1 _
def numH (n : Int) : Int := if bigN n = true then 0 else n
def tmH (b : Bool) (n : Int) : Int := if b = true then 0 else n
def nmH (b : Bool) (s : List UInt8) : List UInt8 := if b = true then longS else s
def txtH (most : Nat) (s t : List UInt8) : List UInt8 := if most < s.length then t else s
theorem sayIf_true (k v : List UInt8) : sayIf true k v = [⟨k, v⟩] := rfl
theorem sayIf_false (k v : List UInt8) : sayIf false k v = [] := rfl
set_option maxRecDepth 100000 in
set_option maxHeartbeats 1000000 in
theorem number_any (B g : Nat) (hc : List Value) (l : List RecS) (k : List UInt8) (n : Int) (hn : 0 ≤ n) (hn2 : n ≤ 1125899906842624) (w : World) (h : PackAt w B g hc l) (hl : l.length ≤ 20) (h10 : P10 w) :
    Calls Tryz.prog 86 #[.pointer (some ⟨g, 0, none⟩), .string (bs k), .int .i64 n, .int .i64 8] w fun e w' => e = .returned (.int .i64 (numH n)) ∧ PackAt w' B g hc (l ++ sayIf (bigN n) k (Lib.decDigits n.toNat)) ∧ Below B w w' := by
  have HM := Lib.hid (fun W => Most_ok 8 (by omega) (by omega) W)
  rw [show mostI 8 = 2097151 by decide] at HM
  have HI := Lib.hid (Itoa_any n ⟨by omega, by omega⟩ w h10)
  rw [show Lib.itoa n = Lib.decDigits n.toNat by have := itoa_nat n.toNat; rwa [Int.toNat_of_nonneg hn] at this] at HI
  have d1 : decide (n < 0) = false := decide_eq_false (by omega)
  have hlt := h.lt
  have h1 := h.1
  have HP := Lib.hid h
  clear h10 h
  by_cases hb : bigN n = true
  · have hb2 : 2097151 < n := by unfold bigN at hb; simpa using hb
    have d2 : decide (2097151 < n) = true := decide_eq_true hb2
    have d3 : decide (n > 2097151) = true := decide_eq_true hb2
    have HS := Lib.hid (fun W (hp : PackAt W B g hc l) => say_any B g hc l k (Lib.decDigits n.toNat) W hp hl)
    rw [hb, sayIf_true, show numH n = 0 from if_pos hb]
    clear hb
    generalize bs (Lib.decDigits n.toNat) = bd at *
    generalize bs k = bk at *
    go_enter Tryz.func86, Tryz.ntmps86
    go_wp2_with fail
    refine (HM.out _).mono ?_
    rintro e w1 ⟨rfl, rfl⟩
    go_wp2_with fail
    refine HI.out.mono ?_
    rintro e w2 ⟨rfl, b2⟩
    have HP2 := Lib.hid (HP.out.below b2)
    go_wp2_with fail
    refine (HS.out _ HP2.out).mono ?_
    rintro e w3 ⟨rfl, hp, b3⟩
    have HF := Lib.hid (show Below B w w3 from (b2.mono (by omega)).trans b3)
    go_wp2_with fail
    go_ret
    exact ⟨rfl, hp, HF.out⟩
  · have hb2 : ¬ 2097151 < n := by unfold bigN at hb; simpa using hb
    have d2 : decide (2097151 < n) = false := decide_eq_false hb2
    have d3 : decide (n > 2097151) = false := decide_eq_false hb2
    have hb3 : bigN n = false := by simpa using hb
    rw [hb3, sayIf_false, List.append_nil, show numH n = n from if_neg hb]
    clear hb hb3
    generalize bs k = bk at *
    go_enter Tryz.func86, Tryz.ntmps86
    go_wp2_with fail
    refine (HM.out _).mono ?_
    rintro e w1 ⟨rfl, rfl⟩
    go_wp2_with fail
    go_ret
    exact ⟨rfl, HP.out, Below.refl _ _⟩
set_option maxRecDepth 100000 in
set_option maxHeartbeats 1000000 in
theorem text_any (B g : Nat) (hc : List Value) (l : List RecS) (k s t : List UInt8) (most : Nat) (hm : most ≤ 1000) (hs : s.length ≤ 1000) (w : World) (h : PackAt w B g hc l) (hl : l.length ≤ 20) :
    Calls Tryz.prog 87 #[.pointer (some ⟨g, 0, none⟩), .string (bs k), .string (bs s), .int .i64 most, .string (bs t)] w fun e w' => e = .returned (.string (bs (txtH most s t))) ∧ PackAt w' B g hc (l ++ sayIf (decide (most < s.length)) k s) ∧ Below B w w' := by
  have hz := bs_size s
  have HP := Lib.hid h
  have HS := Lib.hid (say_any B g hc l k s w h hl)
  clear h
  by_cases hb : most < s.length
  · have d1 : (most : Int) < (s.length : Int) := by omega
    have d2 : decide (most < s.length) = true := decide_eq_true hb
    rw [show txtH most s t = t from if_pos hb, d2, sayIf_true]
    generalize bs s = bS at *
    generalize bs k = bk at *
    generalize bs t = bt at *
    go_enter Tryz.func87, Tryz.ntmps87
    go_wp2_with fail
    refine HS.out.mono ?_
    rintro e w3 ⟨rfl, hp, b3⟩
    go_wp2_with fail
    go_ret
    exact ⟨rfl, hp, b3⟩
  · have d1 : ¬ (most : Int) < (s.length : Int) := by omega
    have d2 : decide (most < s.length) = false := decide_eq_false hb
    rw [show txtH most s t = s from if_neg hb, d2, sayIf_false, List.append_nil]
    generalize bs s = bS at *
    generalize bs k = bk at *
    generalize bs t = bt at *
    go_enter Tryz.func87, Tryz.ntmps87
    go_wp2_with fail
    go_ret
    exact ⟨rfl, HP.out, Below.refl _ _⟩
end Go.Proofs.YtjbpoijefkbllaaGreatDoor
