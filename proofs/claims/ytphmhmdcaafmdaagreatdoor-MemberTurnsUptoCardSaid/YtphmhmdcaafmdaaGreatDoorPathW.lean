/-
  strings.Split at one byte, path.Parts, cmp.Compare, slices.Compare over strings, path.Compare. Condition: texts shorter than 4294967281 bytes.
  Functions of Go's package strings, over lists of bytes. Condition: sizes within the model's bounds.
  path.Up, path.Base, each once. Condition: texts shorter than 2^62 bytes.
  path.Check. No condition beyond the world's shape.
  path.In: whether a path lies in another one; the law PathInside. No condition beyond the lengths that the form itself gives.
-/
import Derived.Test.YtphmhmdcaafmdaaGreatDoorWords
import Derived.Test.YtphmhmdcaafmdaaGreatDoorShelf
import Derived.Lib.SplitLaws
import Derived.Lib.IndexBytes
import Derived.Lib.TrimByte
import Derived.Lib.Join
import Derived.Lib.Repeat
import Derived.Lib.LastIndexByte
namespace Go.Proofs.YtphmhmdcaafmdaaGreatDoor
set_option linter.all false
section
open Go.RowKit
/-! ### the library's variable -/
def ML (w : World) : Prop := ∃ m, w.cell? ⟨0, 0, none⟩ = some (.int .i64 m)
theorem ML.of_shaped {w : World} (h : w.ShapedOpen Tryz.prog) : ML w :=
  Go.Proofs.cell_of_shapedOpen_int (zero := #[.int .i64 0]) (t := 3) h (of_decide_eq_true (by kernel_rfl)) (by kernel_rfl) rfl (by kernel_rfl) (by kernel_rfl) Tryz.underlying3
theorem ML.lt {w : World} (h : ML w) : 0 < w.heap.size := by
  obtain ⟨m, hm⟩ := h
  rcases Nat.lt_or_ge 0 w.heap.size with h | h
  · exact h
  · simp [World.cell?, Array.getElem?_eq_none h] at hm
theorem ML.below {w w' : World} (h : ML w) (hb : Below w.heap.size w w') : ML w' := by
  have hl := h.lt
  obtain ⟨m, hm⟩ := h
  exact ⟨m, (hb.cell (p := ⟨0, 0, none⟩) hl).trans hm⟩
/-! ### split at one byte, plainly -/
def splitC (c : UInt8) : List UInt8 → List (List UInt8)
  | [] => [[]]
  | b :: l => if b = c then [] :: splitC c l else (b :: (splitC c l).headD []) :: (splitC c l).tail
theorem splitC_ne (c : UInt8) (l : List UInt8) : splitC c l ≠ [] := by
  cases l with
  | nil => simp [splitC]
  | cons b l => unfold splitC; split <;> simp
theorem splitC_miss {c : UInt8} : ∀ {l : List UInt8}, c ∉ l → splitC c l = [l]
  | [], _ => rfl
  | b :: l, h => by
    have h1 : b ≠ c := fun e => h (by simp [e])
    have h2 : c ∉ l := fun e => h (by simp [e])
    rw [splitC, if_neg h1, splitC_miss h2]
    rfl
theorem splitC_hit {c : UInt8} : ∀ {a : List UInt8} (r : List UInt8), c ∉ a → splitC c (a ++ c :: r) = a :: splitC c r
  | [], r, _ => by simp [splitC]
  | b :: a, r, h => by
    have h1 : b ≠ c := fun e => h (by simp [e])
    have h2 : c ∉ a := fun e => h (by simp [e])
    rw [List.cons_append, splitC, if_neg h1, splitC_hit r h2]
    rfl
theorem index_split {c : UInt8} : ∀ {l : List UInt8} {i : Nat}, Lib.indexByte l c = i → ∃ a r, l = a ++ c :: r ∧ a.length = i ∧ c ∉ a
  | [], i, h => by unfold Lib.indexByte at h; omega
  | b :: l, i, h => by
    unfold Lib.indexByte at h
    by_cases e : b = c
    · rw [e, beq_self_eq_true, if_pos rfl] at h
      exact ⟨[], l, by rw [e]; rfl, by simp; omega, by simp⟩
    · have e1 : (b == c) = false := by simpa using e
      rw [e1, if_neg (by decide)] at h
      by_cases e2 : Lib.indexByte l c = -1
      · rw [e2] at h
        have h : (-1 : Int) = i := h
        omega
      · have e3 : (Lib.indexByte l c == -1) = false := by simpa using e2
        rw [e3, if_neg (by decide)] at h
        obtain ⟨a, r, rfl, h1, h2⟩ := index_split (c := c) (i := i - 1) (l := l) (by have := (indexByte_ge l c).1; omega)
        refine ⟨b :: a, r, rfl, ?_, ?_⟩
        · have := (indexByte_ge (a ++ c :: r) c).1
          simp; omega
        · simp only [List.mem_cons, not_or]
          exact ⟨fun e' => e e'.symm, h2⟩
theorem split_eq (c : UInt8) : ∀ (n : Nat) (l : List UInt8), l.length ≤ n → Lib.split l [c] = splitC c l := by
  intro n
  induction n with
  | zero =>
    intro l h
    obtain rfl : l = [] := List.eq_nil_of_length_eq_zero (by omega)
    unfold Lib.split
    rw [Lib.count_miss (by rw [Lib.index_one]; rfl)]
    rfl
  | succ n ih =>
    intro l h
    by_cases hm : c ∈ l
    · obtain ⟨i, hi⟩ := Int.eq_ofNat_of_zero_le (indexByte_mem hm)
      obtain ⟨a, r, rfl, ha, hn⟩ := index_split hi
      have hx : Lib.index (a ++ c :: r) [c] = i := by rw [Lib.index_one]; exact hi
      have hd : (a ++ c :: r).drop (i + 1) = r := by rw [← ha]; simp
      have ht : (a ++ c :: r).take i = a := by rw [← ha]; simp
      unfold Lib.split
      rw [Lib.count_hit (by simp) hx, Nat.add_comm 1, Lib.splitK, if_neg (by rw [hx]; simp <;> omega), hx]
      simp only [Int.toNat_natCast, Nat.add_zero, List.length_singleton]
      rw [hd, ht, splitC_hit r hn]
      have := ih r (by simp at h; omega)
      unfold Lib.split at this
      rw [this]
    · have hx : Lib.index l [c] = -1 := by rw [Lib.index_one]; exact indexByte_not hm
      unfold Lib.split
      rw [Lib.count_miss hx, splitC_miss hm]
      rfl
/-- a slice of strings: nil let in -/
def StrsAt (w : World) (B : Nat) (v : Value) (l : List (List UInt8)) : Prop :=
  ∃ A c, v = .slice A l.length c ∧ l.length ≤ c ∧ c ≤ maxLen ∧ (A = none → c = 0) ∧ Reads w B 1 A l.length (l.map fun s => .string (bs s))
theorem StrsAt.below {w w' : World} {B : Nat} {v : Value} {l : List (List UInt8)} (h : StrsAt w B v l) (hb : Below B w w') : StrsAt w' B v l := by
  obtain ⟨A, c, h1, h2, h3, h4, h5⟩ := h
  exact ⟨A, c, h1, h2, h3, h4, h5.below hb⟩
theorem StrsAt.more {w : World} {B B' : Nat} {v : Value} {l : List (List UInt8)} (h : StrsAt w B v l) (hb : B ≤ B') : StrsAt w B' v l := by
  obtain ⟨A, c, h1, h2, h3, h4, h5⟩ := h
  exact ⟨A, c, h1, h2, h3, h4, h5.more hb⟩
theorem StrsAt.nil (w : World) (B : Nat) : StrsAt w B (.slice none 0 0) [] := ⟨none, 0, rfl, by simp, by simp, fun _ => rfl, Reads.none_⟩
theorem splitC_length (c : UInt8) (l : List UInt8) : (splitC c l).length ≤ l.length + 1 := by
  induction l with
  | nil => simp [splitC]
  | cons b l ih =>
    unfold splitC
    split
    · simp; omega
    · have := splitC_ne c l
      cases h : splitC c l with
      | nil => exact absurd h this
      | cons x y => rw [h] at ih; simp at ih ⊢; omega
/-- a row of strings of the call's own -/
def StrsOwn (w : World) (base : Nat) (v : Value) (l : List (List UInt8)) : Prop :=
  ∃ g c, v = .slice (some ⟨g, 0, none⟩) l.length c ∧ base ≤ g ∧ g < w.heap.size ∧ l.length ≤ c ∧ c ≤ maxLen ∧ ∀ j u, (l.map fun s => Value.string (bs s))[j]? = some u → w.cell? ⟨g, j, none⟩ = some u
theorem StrsOwn.at_ {w : World} {base : Nat} {v : Value} {l : List (List UInt8)} (h : StrsOwn w base v l) : StrsAt w w.heap.size v l := by
  obtain ⟨g, c, rfl, h1, h2, h3, h4, h5⟩ := h
  refine ⟨_, _, rfl, h3, h4, (fun h => by cases h), by simp, fun _ => ⟨_, rfl, h2, fun j u hu => ?_⟩⟩
  have e : (⟨g, 0, none⟩ : Addr).add j = ⟨g, j, none⟩ := by unfold Addr.add; split <;> simp_all
  rw [e]
  exact h5 j u hu
theorem StrsOwn.below {w w' : World} {base B : Nat} {v : Value} {l : List (List UInt8)} (h : StrsOwn w base v l) (hB : w.heap.size ≤ B) (hb : Below B w w') : StrsOwn w' base v l := by
  obtain ⟨g, c, rfl, h1, h2, h3, h4, h5⟩ := h
  exact ⟨g, c, rfl, h1, Nat.lt_of_lt_of_le h2 hb.size, h3, h4, fun j u hu => (hb.cell (p := ⟨g, j, none⟩) (by show g < B; omega)).trans (h5 j u hu)⟩
theorem Split_own (l : List UInt8) (w : World) (hs : l.length < 4294967281) (hm : ML w) :
    Calls Tryz.prog 67 #[.string (bs l), .string ⟨#[47]⟩] w fun e w' => ∃ v, e = .returned v ∧ StrsOwn w' w.heap.size v (splitC 47 l) ∧ Below w.heap.size w w' := by
  obtain ⟨m, hm⟩ := hm
  refine (Tryz.strings_Split (bs l) ⟨#[47]⟩ m w (by rw [bs_size]; exact hs) hm (by decide)).mono ?_
  rintro e w' ⟨rfl, rfl⟩
  have hk : Lib.countB (bs l) ⟨#[47]⟩ = Lib.countB (bs l) ⟨#[47]⟩ := rfl
  have hlen := Lib.splitB_all ⟨#[47]⟩ (by decide) 0 _ (bs l) hk
  have hdat := Lib.splitB_data ⟨#[47]⟩ 0 (Lib.countB (bs l) ⟨#[47]⟩) (bs l)
  have hsp : Lib.splitK [47] 0 (Lib.countB (bs l) ⟨#[47]⟩) l = splitC 47 l := by
    have := split_eq 47 l.length l (Nat.le_refl _)
    unfold Lib.split at this
    exact this
  rw [bs_data] at hdat
  have hdat := hdat.trans hsp
  generalize Lib.splitB ⟨#[47]⟩ 0 (Lib.countB (bs l) ⟨#[47]⟩) (bs l) = P at *
  have hP : P.map Value.string = (splitC 47 l).map fun s => Value.string (bs s) := by
    rw [← hdat, List.map_map]
    apply List.map_congr_left
    intro x _
    rfl
  have hl2 : (splitC 47 l).length = Lib.countB (bs l) ⟨#[47]⟩ + 1 := by rw [← hlen, ← hdat, List.length_map]
  have hl3 := splitC_length 47 l
  refine ⟨_, rfl, ⟨_, _, by rw [hl2], Nat.le_refl _, by simp, by omega, by simp only [maxLen]; omega, fun j u hu => ?_⟩, (Below.refl _ _).alloc (Nat.le_refl _) _⟩
  rw [hP, World.cell?_alloc_mark]
  simpa using hu
theorem Split_slash (l : List UInt8) (w : World) (hs : l.length < 4294967281) (hm : ML w) :
    Calls Tryz.prog 67 #[.string (bs l), .string ⟨#[47]⟩] w fun e w' => ∃ v, e = .returned v ∧ StrsAt w' w'.heap.size v (splitC 47 l) ∧ Below w.heap.size w w' :=
  (Split_own l w hs hm).mono fun _ _ ⟨v, h1, h2, h3⟩ => ⟨v, h1, h2.at_, h3⟩
/-! ### path.Parts -/
/-! ### cmp.Compare of strings, slices.Compare -/
/-! ### path.Compare -/
/-! ### order, plainly -/
/-- the parts of a path tell it -/
def joinC (c : UInt8) : List (List UInt8) → List UInt8
  | [] => []
  | [a] => a
  | a :: b :: l => a ++ c :: joinC c (b :: l)
theorem join_split (c : UInt8) : ∀ l, joinC c (splitC c l) = l
  | [] => rfl
  | b :: l => by
    have ih := join_split c l
    have hne := splitC_ne c l
    rw [splitC]
    cases h : splitC c l with
    | nil => exact absurd h hne
    | cons x y =>
      rw [h] at ih
      split
      · rename_i e
        rw [joinC, ih, e]; rfl
      · cases y with
        | nil => simp only [List.headD_cons, List.tail_cons, joinC] at ih ⊢; rw [ih]
        | cons z y => simp only [List.headD_cons, List.tail_cons, joinC, List.cons_append] at ih ⊢; rw [ih]
end
section
open Go.RowKit
theorem IndexByte_nul (l : List UInt8) (w : World) :
    Calls Tryz.prog 89 #[.string (bs l), .int .u8 0] w fun e w' => e = .returned (.int .i64 (Lib.indexByte l 0)) ∧ w = w' :=
  (Tryz.strings_IndexByte (bs l) 0 w).mono fun e w' ⟨h1, h2⟩ => ⟨by rw [h1, bs_data]; rfl, h2.symm⟩
theorem IndexByte_of (l : List UInt8) (c : UInt8) (w : World) :
    Calls Tryz.prog 89 #[.string (bs l), .int .u8 c.toNat] w fun e w' => e = .returned (.int .i64 (Lib.indexByte l c)) ∧ w = w' :=
  (Tryz.strings_IndexByte (bs l) c.toNat w).mono fun e w' ⟨h1, h2⟩ => ⟨by rw [h1, bs_data]; simp, h2.symm⟩
theorem Trim_nul (l : List UInt8) (w : World) (hs : l.length ≤ 9223372036854775807) :
    Calls Tryz.prog 113 #[.string (bs l), .string ⟨#[0]⟩] w fun e w' => e = .returned (.string (bs (Lib.trimB l 0))) ∧ Below w.heap.size w w' :=
  (Tryz.strings_Trim_one (bs l) 0 (by decide) w (by rw [bs_size]; exact hs)).mono fun e w' ⟨h1, h2⟩ => ⟨by rw [h1, bs_data]; rfl, by
    rcases h2 with rfl | rfl
    · exact Below.refl _ _
    · exact (Below.refl _ _).drew⟩
theorem dropWhile_nil_iff (l : List UInt8) (c : UInt8) : l.dropWhile (· == c) = [] ↔ ∀ b ∈ l, b = c := by
  induction l with
  | nil => simp
  | cons b l ih =>
    by_cases h : b = c
    · simp [h, ih]
    · simp [h]
theorem trimB_nil (l : List UInt8) (c : UInt8) : Lib.trimB l c = [] ↔ ∀ b ∈ l, b = c := by
  unfold Lib.trimB Lib.trimLeftB Lib.trimRightB
  rw [dropWhile_nil_iff]
  constructor
  · intro h b hb
    by_cases hc : b = c
    · exact hc
    · exfalso
      have h2 : l.reverse.dropWhile (· == c) ≠ [] := fun e => hc ((dropWhile_nil_iff l.reverse c).1 e b (by simpa using hb))
      obtain ⟨x, r, hx⟩ := List.exists_cons_of_ne_nil h2
      have h3 : (x == c) = false := by
        have := List.head?_dropWhile_not (p := (· == c)) (l := l.reverse)
        rw [hx] at this
        simpa using this
      have := h x (by rw [hx]; simp)
      simp [this] at h3
  · intro h b hb
    rw [List.mem_reverse] at hb
    exact h b (by simpa using (List.dropWhile_sublist _).subset hb)
theorem repeat_byte (b : UInt8) (c : Nat) : Lib.repeatL [b] c = List.replicate c b := by
  have := Lib.repeatL_replicate b 1 c
  simpa using this
theorem Repeat_of (l : List UInt8) (c : Nat) (w : World) (h : l.length * c ≤ 140737488355328) (hc : c ≤ 9223372036854775807) :
    Calls Tryz.prog 27 #[.string (bs l), .int .i64 c] w fun e w' => e = .returned (.string (bs (Lib.repeatL l c))) ∧ Below w.heap.size w w' :=
  (Tryz.strings_Repeat (bs l) c w hc (by rw [bs_size]; exact h)).mono fun e w' ⟨h1, h2⟩ => ⟨by rw [h1, bs_data]; rfl, h2⟩
theorem Repeat_byte (b : UInt8) (c : Nat) (w : World) (hc : c ≤ 140737488355328) :
    Calls Tryz.prog 27 #[.string (bs [b]), .int .i64 c] w fun e w' => e = .returned (.string (bs (List.replicate c b))) ∧ Below w.heap.size w w' :=
  (Repeat_of [b] c w (by simp; omega) (by omega)).mono fun e w' ⟨h1, h2⟩ => ⟨by rw [h1, repeat_byte], h2⟩
theorem bs_rep_size (b : UInt8) (c : Nat) : (bs (List.replicate c b)).size = c := by rw [bs_size, List.length_replicate]
theorem Cut_at (l a b : List UInt8) (d : Bool) (c : UInt8) (hcut : Lib.cut l [c] = (a, b, d)) (w : World) (hs : l.length < 4294967281) (hm : ML w) :
    Calls Tryz.prog 156 #[.string (bs l), .string ⟨#[c]⟩] w fun e w' => e = .returned (.tuple #[.string (bs a), .string (bs b), .bool d]) ∧ Below w.heap.size w w' := by
  obtain ⟨m, hm⟩ := hm
  refine (Tryz.strings_Cut (bs l) ⟨#[c]⟩ m w (by rw [bs_size]; exact hs) hm).mono fun e w' ⟨h1, n, h2⟩ => ⟨?_, by rw [h2]; exact below_drewN (Below.refl _ _) n⟩
  have e1 : Lib.cut (bs l).data.toList (⟨#[c]⟩ : ByteArray).data.toList = (a, b, d) := by rw [bs_data]; exact hcut
  rw [h1, e1]; rfl
end
section
open Go.RowKit
theorem ret_str {a b : ByteArray} (h : a = b) : Ending.returned (.string a) = .returned (.string b) := by rw [h]
end
section
open Go.RowKit
def badPart (p : List UInt8) : Bool := p == [] || p == [46] || p == [46, 46]
def checkS (l : List UInt8) : Int := if l.length < 1 ∨ 400 < l.length then 1 else if (0 : UInt8) ∈ l then 3 else if (splitC 47 l).any badPart then 9 else 0
theorem bs_beq (a b : List UInt8) : ((bs a).toList == (bs b).toList) = (a == b) := by rw [bs_toList, bs_toList]
set_option maxHeartbeats 1000000 in
theorem Check_any (l : List UInt8) (w : World) (hs : l.length < 4611686018427387904) (hm : ML w) :
    Calls Tryz.prog 87 #[.string (bs l)] w fun e w' => e = .returned (.int .i64 (checkS l)) ∧ Below w.heap.size w w' := by
  have hz := bs_size l
  by_cases h1 : l.length < 1 ∨ 400 < l.length
  · have fin := Lib.hid (show checkS l = 1 from if_pos h1)
    rcases h1 with h1 | h1
    all_goals
      go_enter Tryz.func87, Tryz.ntmps87
      go_wp2_with fail
      go_ret
      exact ⟨ret_int (by rw [fin.out]), Below.refl _ _⟩
  by_cases h2 : (0 : UInt8) ∈ l
  · have fin := Lib.hid (show checkS l = 3 by rw [checkS, if_neg h1, if_pos h2])
    have hix := indexByte_mem h2
    have hI := Lib.hid (IndexByte_nul l)
    generalize Lib.indexByte l 0 = ix at *
    go_enter Tryz.func87, Tryz.ntmps87
    go_wp2_with fail
    refine (hI.out _).mono ?_
    rintro e w' ⟨rfl, rfl⟩
    go_wp2_with fail
    go_ret
    exact ⟨ret_int (by rw [fin.out]), Below.refl _ _⟩
  have hix := Lib.hid (indexByte_not h2)
  have fin := Lib.hid (show checkS l = if (splitC 47 l).any badPart then 9 else 0 by rw [checkS, if_neg h1, if_neg h2])
  have hspl := splitC_length 47 l
  have t1 := bs_toList []
  have t2 := bs_toList [46]
  have t3 := bs_toList [46, 46]
  clear h2
  have d1 : decide ((l.length : Int) < 1) = false := decide_eq_false (by omega)
  have d2 : decide (400 < (l.length : Int)) = false := decide_eq_false (by omega)
  have hS := Lib.hid (fun hs => Split_slash l w hs hm)
  generalize splitC 47 l = P at *
  go_enter Tryz.func87, Tryz.ntmps87
  go_wp2_with fail
  refine (IndexByte_nul l _).mono ?_
  rintro e w' ⟨rfl, rfl⟩
  rw [hix.out]
  go_wp2_with fail
  refine (hS.out (by omega)).mono ?_
  rintro e w1 ⟨v, rfl, hv, hb⟩
  obtain ⟨A, c, rfl, h11, h12, h13, hr⟩ := hv
  unfold maxLen at h12
  go_wp2
  go_loop [19] (fun i => ∃ k : Nat, k ≤ P.length ∧ i = .int .i64 k ∧ Hid ((P.take k).any badPart = false)) (fun i => P.length - (intOf i).toNat)
  case atStart => exact ⟨0, Nat.zero_le _, rfl, Lib.hid rfl⟩
  case round =>
    obtain ⟨k, hk, rfl, hp⟩ := hrel
    by_cases hx : k < P.length
    · obtain ⟨ad1, u1, rfl, _, hu1, hc1⟩ := hr.at_ hx
      rw [List.getElem?_map, List.getElem?_eq_getElem hx] at hu1
      obtain rfl : Value.string (bs P[k]) = u1 := by simpa using hu1
      have htk : P.take (k + 1) = P.take k ++ [P[k]] := List.take_succ_eq_append_getElem hx
      have hmem : P[k] ∈ P := List.getElem_mem hx
      have t4 := bs_toList P[k]
      clear hu1
      generalize P[k] = q at *
      by_cases hq : badPart q = true
      · have H := Lib.hid (show checkS l = 9 by rw [fin.out, if_pos (List.any_eq_true.2 ⟨q, hmem, hq⟩)])
        clear htk hp
        unfold badPart at hq
        by_cases q1 : q = []
        · subst q1
          go_wp2_with fail
          go_ret
          exact ⟨ret_int (by rw [H.out]), hb⟩
        · have q1' : ¬ (bs q).toList = [] := by rw [t4]; exact q1
          have q1'' : (bs q).toList.isEmpty = false := by rw [t4]; cases q <;> simp at q1 ⊢
          by_cases q2 : q = [46]
          · subst q2
            have e1 : ((bs [46]).toList == (ByteArray.mk #[46]).toList) = true := by rw [show ByteArray.mk #[46] = bs [46] from rfl]; exact beq_self_eq_true _
            go_wp2_with fail
            go_ret
            exact ⟨ret_int (by rw [H.out]), hb⟩
          · have q3 : q = [46, 46] := by simpa [q1, q2] using hq
            subst q3
            have e1 : ((bs [46, 46]).toList == (ByteArray.mk #[46]).toList) = false := by rw [show ByteArray.mk #[46] = bs [46] from rfl, bs_beq]; decide
            have e2 : ((bs [46, 46]).toList == (ByteArray.mk #[46, 46]).toList) = true := by rw [show ByteArray.mk #[46, 46] = bs [46, 46] from rfl]; exact beq_self_eq_true _
            go_wp2_with fail
            go_ret
            exact ⟨ret_int (by rw [H.out]), hb⟩
      · have H := Lib.hid (show (P.take (k + 1)).any badPart = false by rw [htk, List.any_append, hp.out]; simpa using hq)
        clear htk hp
        have hq' : badPart q = false := by simpa using hq
        unfold badPart at hq'
        simp only [Bool.or_eq_false_iff] at hq'
        obtain ⟨⟨q1, q2⟩, q3⟩ := hq'
        have q1' : ¬ (bs q).toList = [] := by rw [t4]; simpa using q1
        have q1'' : (bs q).toList.isEmpty = false := by rw [t4]; cases q <;> simp at q1 ⊢
        have e1 : ((bs q).toList == [46]) = false := by rw [t4]; exact q2
        have e2 : ((bs q).toList == [46, 46]) = false := by rw [t4]; exact q3
        clear hq q1 q2 q3 t1 t2 t3 t4
        go_wp2_with fail
        go_round
        case rel => exact ⟨k + 1, by omega, by go_num, H⟩
        case measure => simp [intOf]; omega
    · have H := Lib.hid (show checkS l = 0 by
        rw [fin.out, if_neg (by rw [List.take_of_length_le (by omega)] at hp; rw [hp.out]; simp)])
      clear hp
      go_wp2_with fail
      go_ret
      exact ⟨ret_int (by rw [H.out]), hb⟩
end
section
open Go.RowKit
end
end Go.Proofs.YtphmhmdcaafmdaaGreatDoor
