/-
  glob.split: the pieces of a part of a pattern. Condition: texts of at most 1000 bytes.
-/
import Derived.Test.YtngkfelhlabloaaDoorGlobEnd
import Derived.Test.YtngkfelhlabloaaDoorSplit
namespace Go.Proofs.YtngkfelhlabloaaDoor
open Go.RowKit

def textPs (ps : List Piece) : List UInt8 := (ps.map textP).flatten
theorem ex_rest (a b : List UInt8) : (bs (a ++ b)).extract a.length (a.length + b.length) = bs b := by
  rw [bs_extract, List.drop_left, List.take_of_length_le (by omega)]
theorem textPs_cons (q : Piece) (ps : List Piece) : textPs (q :: ps) = textP q ++ textPs ps := rfl
theorem textP_ne (q : Piece) : textP q ≠ [] := by
  rcases q with b | ⟨neg, x, body⟩
  · simp [textP]
  · simp [textP, setT]
theorem endV_set (neg : Bool) (x : UInt8) (body rest : List UInt8) (h1 : neg = false → x ≠ 33) (h2 : (93 : UInt8) ∉ body) : endV (setT neg x body ++ rest) = (setT neg x body).length := by
  have hk : endK (setT neg x body ++ rest) = if neg then 2 else 1 := by
    unfold endK
    cases neg
    · have : x ≠ 33 := h1 rfl
      have e : (33 == x) = false := beq_eq_false_iff_ne.2 (fun e => this e.symm)
      simp [setT, Lib.hasPrefix, List.isPrefixOf, e]
    · simp [setT, Lib.hasPrefix, List.isPrefixOf]
  have hi : endI (setT neg x body ++ rest) = body.length := by
    unfold endI
    cases neg
    · have hk1 : endK (setT false x body ++ rest) = 1 := hk
      have e : (setT false x body ++ rest).drop (1 + 1) = body ++ 93 :: rest := by simp [setT]
      rw [hk1, e, indexByte_at h2, if_pos (by simp [setT])]
    · have hk1 : endK (setT true x body ++ rest) = 2 := hk
      have e : (setT true x body ++ rest).drop (2 + 1) = body ++ 93 :: rest := by simp [setT]
      rw [hk1, e, indexByte_at h2, if_pos (by simp [setT])]
  unfold endV
  rw [hi, hk, if_neg (by omega)]
  cases neg <;> simp [setT] <;> omega
theorem new_strs (w : World) (t : TypeId) (x : Value) : Reads (w.alloc (.cells #[x] t)) (w.heap.size + 1) 1 (some ⟨w.heap.size, 0, none⟩) 1 [x] :=
  ⟨by simp, fun _ => ⟨_, rfl, Nat.lt_succ_self _, fun j u hu => by
    rcases j with _ | j
    · have hB := Blk.new w t #[x]
      have e : (⟨w.heap.size, 0, none⟩ : Addr).add 0 = ⟨w.heap.size, 0, none⟩ := rfl
      rw [e, hB.cell 0]
      simpa using hu
    · simp at hu⟩⟩
theorem str_info : (Tryd.prog.info? 9).map (fun i => (i.zero, i.size, i.bytes)) = some (some (.string ⟨#[]⟩), 1, 16) := by kernel_rfl
theorem StrsAt.of_own {w : World} {base : Nat} {v : Value} {l : List (List UInt8)} (h : w.ownsRow base 9 1 v l.length (l.map fun s => .string (bs s))) : StrsAt w w.heap.size v l := by
  rcases h.2 with ⟨rfl, h0⟩ | ⟨g, cap, cur, rfl, _, _, hn, hm, _⟩
  · obtain rfl : l = [] := List.eq_nil_of_length_eq_zero h0
    exact ⟨none, 0, rfl, by simp, by simp, fun _ => rfl, Reads.none_⟩
  · exact ⟨_, cap, rfl, hn, hm, (fun h => by cases h), Reads.of_own h⟩
def strLen2 (v : Value) : Nat := match v with | .string s => s.size | _ => 0
theorem block_ge {w : World} {base n size : Nat} {e : TypeId} {v : Value} {xs : List Value} (h : w.ownsRow base e size v n xs) {x : Nat} (hx : v.ownBlock = some x) : base ≤ x := by
  rcases h.2 with ⟨rfl, _⟩ | ⟨g, cap, cur, rfl, hbg, _⟩
  · cases hx
  · cases hx; exact hbg
theorem textPs_take (ps : List Piece) (k : Nat) (h : k < ps.length) : textPs (ps.drop k) = textP ps[k] ++ textPs (ps.drop (k + 1)) := by
  rw [List.drop_eq_getElem_cons h, textPs_cons]

set_option maxRecDepth 100000 in
set_option maxHeartbeats 2000000 in
theorem split_any (ps : List Piece) (hp : ∀ q ∈ ps, okP q) (hl : (textPs ps).length ≤ 1000) (w : World) :
    Calls Tryd.prog 101 #[.string (bs (textPs ps))] w fun e w' => ∃ v, e = .returned v ∧ StrsAt w' w'.heap.size v (ps.map textP) ∧ Below w.heap.size w w' := by
  obtain ⟨i0, hi0, hz0, hz1, hz2⟩ := info_parts str_info
  have HP := Lib.hid hp
  have hdl : Hid (∀ k, (textPs (ps.drop k)).length ≤ 1000) := Lib.hid (fun k => by
    have : textPs ps = textPs (ps.take k) ++ textPs (ps.drop k) := by unfold textPs; rw [← List.flatten_append, ← List.map_append, List.take_append_drop]
    rw [this, List.length_append] at hl
    omega)
  have hpl : ps.length ≤ 1000 := by
    have : ∀ l : List Piece, l.length ≤ (textPs l).length := by
      intro l
      induction l with
      | nil => simp
      | cons q l ih =>
        rw [textPs_cons, List.length_append, List.length_cons]
        have := List.length_pos_iff.2 (textP_ne q)
        omega
    have := this ps
    omega
  clear hp hl
  obtain ⟨G, hG⟩ : ∃ G, G = w.heap.size := ⟨_, rfl⟩
  have HG := Lib.hid hG
  rw [← hG]
  clear hG
  go_enter Tryd.func101, Tryd.ntmps101
  go_wp2_with fail
  go_loopw [0, 3] (fun p v wr => ∃ k : Nat, k ≤ ps.length ∧ p = .string (bs (textPs (ps.drop k))) ∧ wr.ownsRow G 9 1 v k ((ps.take k).map fun q => .string (bs (textP q))) ∧ Below G w wr) (fun p _ _ => strLen2 p)
  case atStart => exact ⟨0, Nat.zero_le _, rfl, World.ownsRow_nil _ _ _ _, Below.refl _ _⟩
  case round =>
    obtain ⟨k, hk, rfl, hown, hb⟩ := hrel
    by_cases hlt : k < ps.length
    · have hq := HP.out ps[k] (List.getElem_mem hlt)
      have ht := textPs_take ps k hlt
      have hlen := hdl.out k
      have hown2 : Hid ((ps.take (k + 1)).map (fun q => Value.string (bs (textP q))) = (ps.take k).map (fun q => Value.string (bs (textP q))) ++ [.string (bs (textP ps[k]))]) := Lib.hid (by
        rw [List.take_succ_eq_append_getElem hlt, List.map_append]; rfl)
      have hne := textP_ne ps[k]
      have hGs : G ≤ wr.heap.size := by rw [HG.out]; have := hb.size; exact this
      have hdrop : Hid (textPs (ps.drop (k + 1)) = textPs (ps.drop (k + 1))) := Lib.hid rfl
      rw [ht] at hlen ⊢
      have t0 : ¬ (bs (textP ps[k] ++ textPs (ps.drop (k + 1)))).toList = [] := by rw [bs_toList]; simp [hne]
      have t1 : (bs (textP ps[k] ++ textPs (ps.drop (k + 1)))).toList.isEmpty = false := by simpa using t0
      have z := bs_size (textP ps[k] ++ textPs (ps.drop (k + 1)))
      rw [List.length_append] at z hlen
      have xa : (bs (textP ps[k] ++ textPs (ps.drop (k + 1)))).extract 0 (textP ps[k]).length = bs (textP ps[k]) := by rw [bs_extract]; congr 1; simp
      have xb : (bs (textP ps[k] ++ textPs (ps.drop (k + 1)))).extract (textP ps[k]).length ((textP ps[k]).length + (textPs (ps.drop (k + 1))).length) = bs (textPs (ps.drop (k + 1))) := by
        rw [bs_extract]; congr 1; simp
      have hpos := List.length_pos_iff.2 hne
      have HB := Lib.hid (bs_size (textPs (ps.drop (k + 1))))
      clear ht hdrop hne
      generalize hrs : textPs (ps.drop (k + 1)) = rest at *
      have HRS := Lib.hid hrs
      clear hrs
      generalize ps[k] = q at *
      rcases q with b | ⟨neg, x, body⟩
      · have ts : 0 < (bs (textP (.inl b) ++ rest)).size := by rw [z]; omega
        have t3 : (((bs (textP (.inl b) ++ rest))[0]'ts).toNat : Int) = b.toNat := bs_at0 b rest ts
        have hb91 : ¬ (b.toNat : Int) = 91 := nat_byte (d := 91) hq
        have e91 : ((b.toNat : Int) == 91) = false := beq_eq_false_iff_ne.2 hb91
        have hl1 : (textP (.inl b)).length = 1 := rfl
        rw [hl1] at z xa xb hlen
        clear hl1 hb91 hq hpos
        generalize bs (textP (.inl b) ++ rest) = s at *
        generalize hsp : bs (textP (.inl b)) = sp at *
        have HSP := Lib.hid hsp
        clear hsp
        generalize hrl : rest.length = rl at *
        have HRL := Lib.hid hrl
        clear hrl
        generalize (b.toNat : Int) = B at *
        go_wp2_with (at_builtin; refine wpList_append_any _ rfl (.tmp 12) (.tmp 16) _ rfl G 9 i0 _ 1 16 Tryd.underlying23 hi0 hz0 hz1 hz2 rfl (by omega) _ k _ rfl (hown.alloc _) (wr.heap.size + 1) (some ⟨wr.heap.size, 0, none⟩) 1 1 [.string sp] rfl (new_strs _ _ _) (by simp [Value.oneCell']) (by simp only [maxLen]; omega) (by omega) (by simp; omega) ?_; intro v3 w3 hown3 hg3 hat3)
        go_roundw
        case rel => exact ⟨k + 1, by omega, by rw [HRS.out], by rw [hown2.out]; first | exact hown3 | (rw [HSP.out]; exact hown3), (hb.alloc hGs _).grown hg3 (by simp; omega) (fun x hx => block_ge hown hx)⟩
        case measure => have hB := HB.out; simp [strLen2]; omega
      · obtain ⟨h1, h2, h3⟩ := hq
        have hE := Lib.hid (fun w => end_any (setT neg x body ++ rest) (by simp [setT]) (by rw [List.length_append]; exact hlen) w)
        rw [endV_set neg x body rest h1 h2] at hE
        have ts : 0 < (bs (textP (.inr (neg, x, body)) ++ rest)).size := by rw [z]; omega
        have t3 : (((bs (textP (.inr (neg, x, body)) ++ rest))[0]'ts).toNat : Int) = 91 := by
          rw [bs_get]; rfl
        clear h1 h2
        have hE2 : Hid (∀ w : World, Calls Tryd.prog 79 #[.string (bs (textP (.inr (neg, x, body)) ++ rest))] w fun e w' => e = .returned (.int .i64 (textP (.inr (neg, x, body))).length) ∧ w = w') := hE
        clear hE
        generalize bs (textP (.inr (neg, x, body)) ++ rest) = s at *
        generalize hsp : bs (textP (.inr (neg, x, body))) = sp at *
        have HSP := Lib.hid hsp
        clear hsp
        generalize (textP (.inr (neg, x, body))).length = n at *
        generalize hrl : rest.length = rl at *
        have HRL := Lib.hid hrl
        clear hrl
        go_wp2_with (first | (at_builtin; refine wpList_append_any _ rfl (.tmp 12) (.tmp 16) _ rfl G 9 i0 _ 1 16 Tryd.underlying23 hi0 hz0 hz1 hz2 rfl (by omega) _ k _ rfl (hown.alloc _) (wr.heap.size + 1) (some ⟨wr.heap.size, 0, none⟩) 1 1 [.string sp] rfl (new_strs _ _ _) (by simp [Value.oneCell']) (by simp only [maxLen]; omega) (by omega) (by simp; omega) ?_; intro v3 w3 hown3 hg3 hat3) | (go_at_call 79; refine (hE2.out _).mono ?_; rintro e w' ⟨rfl, rfl⟩))
        go_roundw
        case rel => exact ⟨k + 1, by omega, by rw [HRS.out], by rw [hown2.out]; first | exact hown3 | (rw [HSP.out]; exact hown3), (hb.alloc hGs _).grown hg3 (by simp; omega) (fun x hx => block_ge hown hx)⟩
        case measure => have hB := HB.out; simp [strLen2]; omega
    · obtain rfl : k = ps.length := by omega
      have hnil : textPs (ps.drop ps.length) = [] := by rw [List.drop_length]; rfl
      rw [hnil]
      have t0 : (bs []).toList = [] := bs_toList []
      rw [List.take_length] at hown
      clear hnil
      go_wp2_with fail
      go_ret
      refine ⟨_, rfl, ?_, hb⟩
      refine StrsAt.of_own (base := G) ?_
      rw [List.length_map, List.map_map]
      exact hown
end Go.Proofs.YtngkfelhlabloaaDoor
