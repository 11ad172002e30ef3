/-
  pax.Check, pax.Find, pax.Write, pax.Read at records that may be, each once. Condition: at most 12 records; the library's table of powers of ten lies as Go laid it.
-/
import Derived.Test.YtjbpoijefkbllaaGreatDoorRecs
import Derived.Test.YtjbpoijefkbllaaGreatDoorBld
import Derived.Test.YtjbpoijefkbllaaGreatDoorTreeE
import Derived.Deep.QuietTactic
import Derived.BigQuiet
import Derived.IntWalk
namespace Go.Proofs.YtjbpoijefkbllaaGreatDoor
open Go.RowKit

set_option maxRecDepth 100000 in
set_option maxHeartbeats 4000000 in
theorem PxCheck_any (v : Value) (l : List RecS) (w : World) (hl : RecsAt w v l) (hok : ∀ r ∈ l, RecOk r) (hn : l.length ≤ 12) :
    Calls Tryz.prog 92 #[v] w fun e w' => ∃ c : Int, e = .returned (.int .i64 c) ∧ ((c = 0 ∧ Asc l) ∨ (c = 6 ∧ ¬ Asc l)) ∧ Below w.heap.size w w' := by
  obtain ⟨A, c, rfl, hc1, hc2, hA, hr⟩ := hl
  unfold maxLen at hc2
  have HR := Lib.hid hr
  have HOK := Lib.hid hok
  have H0 : Hid (Asc (l.take 0)) := Lib.hid (fun i hi => by simp at hi)
  clear hr hok hA
  go_enter Tryz.func92, Tryz.ntmps92
  go_wp2_with fail
  go_loopg [11] l.length (fun gg s11 wr => ∃ k : Nat, k ≤ l.length ∧ l.length - k ≤ gg ∧ s11 = .int .i64 k ∧ Hid (Asc (l.take k)) ∧ Hid (Below w.heap.size w wr))
  case atStart => exact ⟨0, Nat.zero_le _, by omega, rfl, H0, Lib.hid (Below.refl _ _)⟩
  case round =>
    obtain ⟨k, hk, hg, rfl, HA, HW⟩ := hrel
    by_cases hlt : k < l.length
    · have hltz : (k : Int) < (l.length : Int) := by omega
      obtain ⟨ad, rfl, had, e0, e1⟩ := (HR.out.below HW.out).rec_at hlt
      have HC := Lib.hid (fun W => RCheck_ok l[k] (HOK.out _ (List.getElem_mem hlt)) W)
      obtain ⟨W1, hW1⟩ : ∃ W1, W1 = wr.alloc (.cells #[.string (bs l[k].key), .string (bs l[k].value)] 155) := ⟨_, rfl⟩
      obtain ⟨g, hg1⟩ : ∃ g, g = wr.heap.size := ⟨_, rfl⟩
      have HK1 : Hid (Blk W1 g 155 #[.string (bs l[k].key), .string (bs l[k].value)]) := Lib.hid (by rw [hW1, hg1]; exact Blk.new _ _ _)
      have HB1 : Hid (Below wr.heap.size wr W1) := Lib.hid (by rw [hW1]; exact (Below.refl _ _).alloc (Nat.le_refl _) _)
      have c0 := HK1.out.cell 0
      have c1 := HK1.out.cell 1
      unfold recV at HC
      obtain ⟨q, hq⟩ : ∃ q : Bool, ∀ m (h : m + 1 = k), q = leK l[k].key (l[m]'(by omega)).key := by
        rcases k with _ | m
        · exact ⟨false, fun m h => absurd h (by omega)⟩
        · exact ⟨leK l[m + 1].key l[m].key, fun m' h => by obtain rfl : m' = m := by omega
                                                           rfl⟩
      have HAn : Hid (q = false → Asc (l.take (k + 1))) := Lib.hid (fun hqf i hi => by
        rw [List.length_take] at hi
        by_cases hi2 : i + 1 < k
        · have := HA.out i (by rw [List.length_take]; omega)
          rw [List.getElem_take, List.getElem_take] at this ⊢
          exact this
        · obtain rfl : i + 1 = k := by omega
          rw [List.getElem_take, List.getElem_take, ← hq i rfl]; exact hqf)
      have HAy : Hid (q = true → 0 < k → ¬ Asc l) := Lib.hid (fun hqt h0 h => by
        obtain ⟨m, rfl⟩ : ∃ m, k = m + 1 := ⟨k - 1, by omega⟩
        have := h m hlt
        rw [← hq m rfl, hqt] at this
        cases this)
      have HWK : Hid (∀ m (h : m + 1 = k), (Op.bytesLess (bs l[k].key).toList (bs (l[m]'(by omega)).key).toList || (bs l[k].key).toList == (bs (l[m]'(by omega)).key).toList) = q) := Lib.hid (fun m h => by rw [hq m h]; exact leK_walk _ _)
      clear hq
      have HE2 : Hid (∀ m (h : m + 1 = k) W, Below wr.heap.size wr W → W.cell? (ad.add (m * 2)) = some (.string (bs (l[m]'(by omega)).key))) := Lib.hid (fun m h W hb2 => by
        obtain ⟨ad', e', _, e2, _⟩ := (HR.out.below HW.out).rec_at (show m < l.length by omega)
        obtain rfl := Option.some.inj e'
        exact (hb2.cell (p := ad.add (m * 2)) (by rw [block_of_add]; exact Nat.lt_of_lt_of_le had HW.out.size)).trans e2)
      generalize l[k] = r at *
      generalize bs r.key = bk at *
      generalize bs r.value = bv at *
      go_upto_region 6 with fail
      rw [← hW1, ← hg1]
      clear hW1 hg1 e0 e1
      go_wp2_with fail
      refine (HC.out _).mono ?_
      rintro e w2 ⟨rfl, b2⟩
      have HB2 := Lib.hid (HW.out.trans ((HB1.out.trans (b2.mono HB1.out.size)).mono HW.out.size))
      have HB3 := Lib.hid (HB1.out.trans (b2.mono HB1.out.size))
      have d0 := (HK1.out.below b2 HK1.out.lt).cell 0
      clear b2 c0 c1
      rcases k with _ | m
      · have HN : Hid (Asc (l.take (0 + 1))) := Lib.hid (fun i hi => by rw [List.length_take] at hi; omega)
        go_wp2_with fail
        go_quiet (fail)
        go_wp2_with fail
        go_roundg (l.length - (0 + 1))
        case measure => omega
        case rel => exact ⟨0 + 1, by omega, by omega, by go_num, HN, Lib.hid (below_drewN HB2.out _)⟩
      · have d2 := HE2.out m rfl w2 HB3.out
        have hwk := HWK.out m rfl
        generalize bs l[m].key = bk2 at *
        have g1 : decide (((m + 1 : Nat) : Int) > 0) = true := decide_eq_true (by omega)
        have g2 : IntKind.i64.wrap (m : Int) = (m : Int) := IntWalk.i64_in _ ⟨by omega, by omega⟩
        have g3 : (m : Int) < (l.length : Int) := by omega
        have g4 : (0 : Int) ≤ (m : Int) := by omega
        have g5 : (0 : Int) < (m : Int) + 1 := by omega
        cases q with
        | false =>
          have HN := Lib.hid (HAn.out rfl)
          clear HAn HAy HWK HE2
          go_wp2_with fail
          go_quiet (fail)
          go_wp2_with fail
          go_roundg (l.length - (m + 1 + 1))
          case measure => omega
          case rel => exact ⟨m + 1 + 1, by omega, by omega, by go_num, HN, Lib.hid (below_drewN HB2.out _)⟩
        | true =>
          have HN := Lib.hid (HAy.out rfl (by omega))
          clear HAn HAy HWK HE2
          go_wp2_with fail
          go_quiet (fail)
          go_wp2_with fail
          go_ret
          exact ⟨_, rfl, .inr ⟨rfl, HN.out⟩, below_drewN HB2.out _⟩
    · obtain rfl : k = l.length := by omega
      go_wp2_with fail
      go_ret
      exact ⟨_, rfl, .inl ⟨rfl, by have := HA.out; rwa [List.take_length] at this⟩, HW.out⟩

set_option maxRecDepth 100000 in
set_option maxHeartbeats 4000000 in
theorem PxFind_any (v : Value) (l : List RecS) (key : List UInt8) (w : World) (hl : RecsAt w v l) (hn : l.length ≤ 100) :
    Calls Tryz.prog 103 #[v, .string (bs key)] w fun e w' => e = .returned (.tuple #[.string (bs ((findK l key).getD [])), .bool (findK l key).isSome]) ∧ Below w.heap.size w w' := by
  obtain ⟨A, c, rfl, hc1, hc2, hA, hr⟩ := hl
  unfold maxLen at hc2
  have HR := Lib.hid hr
  have H0 : Hid (∀ j (hj : j < l.length), j < 0 → (l[j].key == key) = false) := Lib.hid (fun j _ h => absurd h (Nat.not_lt_zero _))
  clear hr hA
  go_enter Tryz.func103, Tryz.ntmps103
  go_wp2_with fail
  go_loopg [10] l.length (fun gg s10 wr => ∃ k : Nat, k ≤ l.length ∧ l.length - k ≤ gg ∧ s10 = .int .i64 k ∧ Hid (∀ j (hj : j < l.length), j < k → (l[j].key == key) = false) ∧ Hid (Below w.heap.size w wr))
  case atStart => exact ⟨0, Nat.zero_le _, by omega, rfl, H0, Lib.hid (Below.refl _ _)⟩
  case round =>
    obtain ⟨k, hk, hg, rfl, HA, HW⟩ := hrel
    by_cases hlt : k < l.length
    · have hltz : (k : Int) < (l.length : Int) := by omega
      obtain ⟨ad, rfl, had, e0, e1⟩ := (HR.out.below HW.out).rec_at hlt
      obtain ⟨W1, hW1⟩ : ∃ W1, W1 = wr.alloc (.cells #[.string (bs l[k].key), .string (bs l[k].value)] 155) := ⟨_, rfl⟩
      obtain ⟨g, hg1⟩ : ∃ g, g = wr.heap.size := ⟨_, rfl⟩
      have HK1 : Hid (Blk W1 g 155 #[.string (bs l[k].key), .string (bs l[k].value)]) := Lib.hid (by rw [hW1, hg1]; exact Blk.new _ _ _)
      have HB1 : Hid (Below w.heap.size w W1) := Lib.hid (by rw [hW1]; exact HW.out.alloc HW.out.size _)
      have c0 := HK1.out.cell 0
      have c1 := HK1.out.cell 1
      have hb := bs_beq l[k].key key
      cases hq : (l[k].key == key) with
      | true =>
        rw [hq] at hb
        have HF : Hid (bs ((findK l key).getD []) = bs l[k].value ∧ (findK l key).isSome = true) := Lib.hid (by
          unfold findK
          have : l.find? (fun r => r.key == key) = some l[k] := List.find?_eq_some_iff_getElem.2 ⟨hq, k, hlt, rfl, fun j hj => by rw [HA.out j (by omega) hj]; rfl⟩
          rw [this]; exact ⟨rfl, rfl⟩)
        clear hq
        generalize l[k] = r at *
        generalize bs r.key = bk at *
        generalize bs r.value = bv at *
        generalize bs key = bq at *
        go_upto_region 4 with fail
        rw [← hW1, ← hg1]
        clear hW1 hg1 e0 e1
        go_wp2_with fail
        go_ret2
        exact ⟨by rw [HF.out.1, HF.out.2]; rfl, HB1.out⟩
      | false =>
        rw [hq] at hb
        have HN : Hid (∀ j (hj : j < l.length), j < k + 1 → (l[j].key == key) = false) := Lib.hid (fun j hj h => by
          by_cases hjk : j < k
          · exact HA.out j hj hjk
          · obtain rfl : j = k := by omega
            exact hq)
        clear hq
        generalize l[k] = r at *
        generalize bs r.key = bk at *
        generalize bs r.value = bv at *
        generalize bs key = bq at *
        go_upto_region 4 with fail
        rw [← hW1, ← hg1]
        clear hW1 hg1 e0 e1
        go_wp2_with fail
        go_roundg (l.length - (k + 1))
        case measure => omega
        case rel => exact ⟨k + 1, by omega, by omega, by go_num, HN, HB1⟩
    · obtain rfl : k = l.length := by omega
      have HF : Hid (findK l key = none) := Lib.hid (by
        unfold findK
        rw [Option.map_eq_none_iff, List.find?_eq_none]
        intro x hx
        obtain ⟨j, hj, rfl⟩ := List.mem_iff_getElem.1 hx
        rw [HA.out j hj hj]; simp)
      go_wp2_with fail
      go_ret2
      exact ⟨by rw [HF.out]; rfl, HW.out⟩

def paxT (l : List RecS) : List UInt8 := (l.map recT).flatten
theorem paxT_take {l : List RecS} {k : Nat} (hk : k < l.length) : paxT (l.take (k + 1)) = paxT (l.take k) ++ recT l[k] := by
  unfold paxT
  rw [List.take_succ_eq_append_getElem hk, List.map_append, List.flatten_append]
  simp
theorem paxT_drop {l : List RecS} {k : Nat} (hk : k < l.length) : paxT (l.drop k) = recT l[k] ++ paxT (l.drop (k + 1)) := by
  unfold paxT
  rw [List.drop_eq_getElem_cons hk, List.map_cons, List.flatten_cons]
theorem paxT_append (l m : List RecS) : paxT (l ++ m) = paxT l ++ paxT m := by unfold paxT; simp
theorem paxT_len {l : List RecS} (h : ∀ r ∈ l, RecOk r) : (paxT l).length ≤ l.length * 703 := by
  unfold paxT
  induction l with
  | nil => simp
  | cons r l ih =>
    have h1 := (recT_len (h r (by simp))).2
    have h2 := ih (fun x hx => h x (by simp [hx]))
    simp only [List.map_cons, List.flatten_cons, List.length_append, List.length_cons]
    omega
theorem recT_ne (r : RecS) : recT r ≠ [] := by
  unfold recT
  intro h
  exact dec_ne _ (List.append_eq_nil_iff.1 h).1
theorem P10.mono_ {w w' : World} {B : Nat} (h : P10 w) (hB : w.heap.size ≤ B) (hb : Below B w w') : P10 w' := h.below (hb.mono hB)
/-- in the loop of pax.Write -/
def PwSt (w0 : World) (g : Nat) (t : List UInt8) (w : World) : Prop := Below w0.heap.size w0 w ∧ BldAt w g g t ∧ w0.heap.size = g
theorem PwSt.below {w0 w w' : World} {g : Nat} {t : List UInt8} (h : PwSt w0 g t w) (hb : Below w.heap.size w w') : PwSt w0 g t w' := ⟨h.1.trans (hb.mono h.1.size), h.2.1.below hb, h.2.2⟩
set_option maxRecDepth 100000 in
set_option maxHeartbeats 4000000 in
theorem PxWrite_any (v : Value) (l : List RecS) (w : World) (h10 : P10 w) (hl : RecsAt w v l) (hok : ∀ r ∈ l, RecOk r) (hn : l.length ≤ 12) (ha : Asc l) (hne : l ≠ []) :
    Calls Tryz.prog 50 #[v] w fun e w' => e = .returned (.tuple #[.string (bs (paxT l)), .int .i64 0]) ∧ Below w.heap.size w w' := by
  have HC := Lib.hid (PxCheck_any v l w hl hok hn)
  have hlp : 0 < l.length := List.length_pos_iff.2 hne
  have HNE : Hid (paxT l ≠ []) := Lib.hid (by
    intro h
    unfold paxT at h
    have := List.flatten_eq_nil_iff.1 h (recT l[0]) (List.mem_map_of_mem (List.getElem_mem hlp))
    exact recT_ne _ this)
  have HPL := Lib.hid (paxT_len hok)
  have HPK : Hid (∀ k, (paxT (l.take k)).length ≤ 12 * 703) := Lib.hid (fun k => by
    have := paxT_len (l := l.take k) (fun r hr => hok r (List.mem_of_mem_take hr))
    rw [List.length_take] at this
    have : min k l.length * 703 ≤ 12 * 703 := Nat.mul_le_mul_right _ (by omega)
    omega)
  have HLL := Lib.hid hl
  obtain ⟨A, c, rfl, hc1, hc2, hA, hr⟩ := hl
  unfold maxLen at hc2
  have HOK := Lib.hid hok
  have HAS := Lib.hid ha
  have HP10 : Hid (∀ W, Below w.heap.size w W → P10 W) := Lib.hid (fun W hb => h10.below hb)
  clear hr hok hA ha hne h10 hlp
  go_enter Tryz.func50, Tryz.ntmps50
  go_wp2_with fail
  refine HC.out.mono ?_
  rintro e w1 ⟨c1, rfl, hc, b1⟩
  obtain rfl : c1 = 0 := by
    rcases hc with ⟨h, _⟩ | ⟨_, h⟩
    · exact h
    · exact absurd HAS.out h
  have HL1 := Lib.hid (HLL.out.below b1)
  have HB1 := Lib.hid b1
  clear hc b1 HC HLL
  obtain ⟨W2, hW2⟩ : ∃ W2, W2 = w1.alloc (.cells #[.pointer none, .slice none 0 0] 122) := ⟨_, rfl⟩
  obtain ⟨g, hg⟩ : ∃ g, g = w1.heap.size := ⟨_, rfl⟩
  have H0 : Hid (PwSt w1 g (paxT (l.take 0)) W2) := Lib.hid ⟨by rw [hW2]; exact (Below.refl _ _).alloc (Nat.le_refl _) _, by rw [hW2, hg]; exact BldAt.new w1 _ (Nat.le_refl _), hg.symm⟩
  go_upto_region 5 with fail
  rw [← hW2, ← hg]
  clear hW2 hg
  go_wp2_with fail
  go_loopg [17] l.length (fun gg s17 wr => ∃ k : Nat, k ≤ l.length ∧ l.length - k ≤ gg ∧ s17 = .int .i64 k ∧ Hid (PwSt w1 g (paxT (l.take k)) wr))
  case atStart => exact ⟨0, Nat.zero_le _, by omega, rfl, H0⟩
  case round =>
    obtain ⟨k, hk, hg, rfl, HS⟩ := hrel
    by_cases hlt : k < l.length
    · have hltz : (k : Int) < (l.length : Int) := by omega
      obtain ⟨A', c', hve, -, -, -, hr⟩ := HL1.out.below HS.out.1
      obtain ⟨rfl, -, rfl⟩ := Value.slice.inj hve
      obtain ⟨ad, rfl, had, e0, e1⟩ := hr.rec_at hlt
      have HT := Lib.hid (paxT_take hlt)
      have HKK := Lib.hid (HPK.out k)
      have hrk := recT_len (HOK.out _ (List.getElem_mem hlt))
      have HW := Lib.hid (fun W (hb : Below w1.heap.size w1 W) => RWrite_ok l[k] (HOK.out _ (List.getElem_mem hlt)) W (HP10.out W (HB1.out.trans (hb.mono HB1.out.size))))
      have HWS := Lib.hid (fun W (hb : PwSt w1 g (paxT (l.take k)) W) => bldWrite_any g g (paxT (l.take k)) (recT l[k]) W hb.2.1 (by have := HPK.out k; omega))
      generalize l[k] = r at *
      obtain ⟨W3, hW3⟩ : ∃ W3, W3 = wr.alloc (.cells #[.string (bs r.key), .string (bs r.value)] 155) := ⟨_, rfl⟩
      obtain ⟨g3, hg3⟩ : ∃ g3, g3 = wr.heap.size := ⟨_, rfl⟩
      have HK1 : Hid (Blk W3 g3 155 #[.string (bs r.key), .string (bs r.value)]) := Lib.hid (by rw [hW3, hg3]; exact Blk.new _ _ _)
      have HS3 : Hid (PwSt w1 g (paxT (l.take k)) W3) := Lib.hid (HS.out.below (by rw [hW3]; exact (Below.refl _ _).alloc (Nat.le_refl _) _))
      have c0 := HK1.out.cell 0
      have c1 := HK1.out.cell 1
      clear hr hve hrk
      unfold recV at HW
      generalize bs r.key = bk at *
      generalize bs r.value = bv at *
      generalize bs (recT r) = bt at *
      go_upto_region 8 with fail
      rw [← hW3, ← hg3]
      clear hW3 hg3 e0 e1
      go_wp2_with fail
      refine (HW.out _ HS3.out.1).mono ?_
      rintro e w4 ⟨rfl, b4⟩
      have HS4 := Lib.hid (HS3.out.below b4)
      clear b4 c0 c1
      go_wp2_with fail
      refine (HWS.out _ HS4.out).mono ?_
      rintro e w5 ⟨rfl, h5, b5⟩
      have HS5 : Hid (PwSt w1 g (paxT (l.take (k + 1))) w5) := Lib.hid ⟨HS4.out.1.trans (b5.mono (by rw [HS4.out.2.2]; exact Nat.le_refl _)), by rw [HT.out]; exact h5, HS4.out.2.2⟩
      clear h5 b5
      go_wp2_with fail
      go_roundg (l.length - (k + 1))
      case measure => omega
      case rel => exact ⟨k + 1, by omega, by omega, by go_num, HS5⟩
    · obtain rfl : k = l.length := by omega
      have hS := HS.out
      rw [List.take_length] at hS
      have HST := Lib.hid (bld_string g g (paxT l) HNE.out (by have := HPL.out; have : l.length * 703 ≤ 12 * 703 := Nat.mul_le_mul_right _ hn; omega) wr hS.2.1)
      have HF := Lib.hid (fun W (hb : Below g wr W) => HB1.out.trans ((hS.1.trans (hb.mono (by rw [hS.2.2]; exact Nat.le_refl _))).mono HB1.out.size))
      clear hS
      go_wp2_with fail
      refine HST.out.mono ?_
      rintro e w6 ⟨rfl, b6⟩
      go_wp2_with fail
      go_ret2
      exact ⟨rfl, HF.out _ b6⟩

/-- in the loop of pax.Read -/
def PrSt (w0 : World) (v : Value) (l : List RecS) (w : World) : Prop := Below w0.heap.size w0 w ∧ RecsOwn w w0.heap.size v l
set_option maxRecDepth 100000 in
set_option maxHeartbeats 4000000 in
theorem PxRead_any (l : List RecS) (w : World) (hm : ML w) (h10 : P10 w) (hok : ∀ r ∈ l, RecOk r) (hn : l.length ≤ 12) :
    Calls Tryz.prog 55 #[.string (bs (paxT l))] w fun e w' => ∃ (v : Value) (c : Int), e = .returned (.tuple #[v, .int .i64 c]) ∧ ((c = 0 ∧ Asc l ∧ RecsOwn w' w.heap.size v l) ∨ (c = 6 ∧ ¬ Asc l ∧ v = .slice none 0 0)) ∧ Below w.heap.size w w' := by
  have HOK := Lib.hid hok
  have HP10 : Hid (∀ W, Below w.heap.size w W → P10 W) := Lib.hid (fun W hb => h10.below hb)
  have HML : Hid (∀ W, Below w.heap.size w W → ML W) := Lib.hid (fun W hb => hm.below hb)
  have HPK : Hid (∀ k, (paxT (l.drop k)).length ≤ 12 * 703) := Lib.hid (fun k => by
    have := paxT_len (l := l.drop k) (fun r hr => hok r (List.mem_of_mem_drop hr))
    rw [List.length_drop] at this
    have : (l.length - k) * 703 ≤ 12 * 703 := Nat.mul_le_mul_right _ (by omega)
    omega)
  have H0 : Hid (PrSt w (.slice none 0 0) (l.take 0) w) := Lib.hid ⟨Below.refl _ _, World.ownsRow_nil _ _ _ _⟩
  have HD0 : Hid (l.drop 0 = l) := Lib.hid rfl
  clear hok h10 hm
  go_enter Tryz.func55, Tryz.ntmps55
  go_wp2_with fail
  go_loopg [0, 4] l.length (fun gg s0 s4 wr => ∃ k : Nat, k ≤ l.length ∧ l.length - k ≤ gg ∧ s0 = .string (bs (paxT (l.drop k))) ∧ Hid (PrSt w s4 (l.take k) wr))
  case atStart => exact ⟨0, Nat.zero_le _, by omega, by rw [HD0.out], H0⟩
  case round =>
    obtain ⟨k, hk, hg, rfl, HS⟩ := hrel
    by_cases hlt : k < l.length
    · have HT := paxT_drop hlt
      have hrk := HOK.out _ (List.getElem_mem hlt)
      have HR := Lib.hid (fun W (hb : Below w.heap.size w W) => Read_good l[k] hrk (paxT (l.drop (k + 1))) (by have := HPK.out (k + 1); omega) W (HML.out W hb) (HP10.out W hb))
      rw [← HT] at HR
      have t1 : ¬ (bs (paxT (l.drop k))).toList = [] := by rw [bs_toList, HT]; intro h; exact recT_ne _ (List.append_eq_nil_iff.1 h).1
      have t2 : (bs (paxT (l.drop k))).toList.isEmpty = false := List.isEmpty_eq_false_iff.2 t1
      have HTK : Hid (l.take (k + 1) = l.take k ++ [l[k]]) := Lib.hid (List.take_succ_eq_append_getElem hlt)
      have hln : (l.take k).length = k := by rw [List.length_take]; omega
      have HLN := Lib.hid hln
      have hown := HS.out.2
      unfold RecsOwn at hown
      obtain ⟨A5, n5, rfl, -⟩ := ownsRow_read hown
      rw [hln] at hown ⊢
      have HOW := Lib.hid hown
      have HBW := Lib.hid HS.out.1
      obtain ⟨i9, hi9, hy0, hy1, hy2⟩ := info_parts recinfo
      have hsz := HS.out.1.size
      unfold recV at HR
      have HRC : Hid (recC l[k] = [.string (bs l[k].key), .string (bs l[k].value)]) := Lib.hid rfl
      clear HT hrk hown hln HS
      generalize l[k] = r at *
      generalize bs r.key = bk at *
      generalize bs r.value = bv at *
      generalize bs (paxT (l.drop k)) = b0 at *
      generalize hb9 : bs (paxT (l.drop (k + 1))) = b9 at *
      have HB9 := Lib.hid hb9
      clear hb9
      go_wp2_with fail
      refine (HR.out _ HBW.out).mono ?_
      rintro e w2 ⟨rfl, b2⟩
      obtain ⟨W3, hW3⟩ : ∃ W3, W3 = w2.alloc (.cells #[.string bk, .string bv] 155) := ⟨_, rfl⟩
      obtain ⟨g3, hg3⟩ : ∃ g3, g3 = w2.heap.size := ⟨_, rfl⟩
      have HB3 : Hid (Below wr.heap.size wr W3) := Lib.hid (by rw [hW3]; exact b2.alloc b2.size _)
      have HK1 : Hid (Blk W3 g3 155 #[.string bk, .string bv]) := Lib.hid (by rw [hW3, hg3]; exact Blk.new _ _ _)
      have c0 := HK1.out.cell 0
      have c1 := HK1.out.cell 1
      clear b2
      go_upto_region 6 with fail
      rw [← hW3, ← hg3]
      clear hW3 hg3
      have hs3 := HB3.out.size
      go_wp2_with (at_builtin; refine wpList_append_any _ rfl (.tmp 20) (.tmp 22) _ rfl w.heap.size 155 i9 _ 2 32 Tryz.underlying94 hi9 hy0 hy1 hy2 rfl (by omega) _ k _ rfl (ownsRow_below (ownsRow_below HOW.out HB3.out) ((Below.refl _ _).alloc (Nat.le_refl _) _)) (W3.heap.size + 1) (some ⟨W3.heap.size, 0, none⟩) 1 1 [.string bk, .string bv] rfl (new_row W3 155 [.string bk, .string bv] 1 2 rfl) (by simp [Value.oneCell']) (by simp only [maxLen]; omega) (by omega) (by simp; omega) ?_; intro v9 w9 hown9 hg9 hat9; obtain ⟨A9, c9, hv9, -⟩ := ownsRow_read hown9; subst hv9; have HO9 := Lib.hid hown9; have HG9 := Lib.hid hg9; clear hown9 hg9 hat9)
      go_roundg (l.length - (k + 1))
      case measure => omega
      case rel =>
        refine ⟨k + 1, by omega, by omega, by rw [HB9.out], Lib.hid ⟨?_, ?_⟩⟩
        · have hB := (HBW.out.trans (HB3.out.mono HBW.out.size)).alloc (by omega) (.cells #[.string bk, .string bv] 155)
          exact hB.grown HG9.out (by have := hB.size; exact this) (fun x e => (own_typed HOW.out e).1)
        · unfold RecsOwn
          rw [HTK.out, List.length_append, List.flatMap_append, HLN.out]
          have := HO9.out
          simpa [HRC.out] using this
    · obtain rfl : k = l.length := by omega
      have t1 : (bs (paxT (l.drop l.length))).toList = [] := by rw [List.drop_length, bs_toList]; rfl
      have t2 : (bs (paxT (l.drop l.length))).toList.isEmpty = true := by rw [t1]; rfl
      have hS := HS.out
      rw [List.take_length] at hS
      obtain ⟨A5, n5, rfl, -⟩ := ownsRow_read hS.2
      have HSS := Lib.hid hS
      have HC := Lib.hid (PxCheck_any _ l wr hS.2.at_ HOK.out hn)
      clear hS HS
      generalize bs (paxT (l.drop l.length)) = b0 at *
      go_wp2_with fail
      refine HC.out.mono ?_
      rintro e w2 ⟨c2, rfl, hc2, b2⟩
      have HF := Lib.hid (HSS.out.1.trans (b2.mono HSS.out.1.size))
      have HO2 := Lib.hid (HSS.out.2.below b2)
      rcases hc2 with ⟨rfl, ha⟩ | ⟨rfl, ha⟩
      · have HA := Lib.hid ha
        clear ha b2
        go_wp2_with fail
        go_ret2
        exact ⟨_, _, rfl, .inl ⟨rfl, HA.out, HO2.out⟩, HF.out⟩
      · have HA := Lib.hid ha
        clear ha b2
        go_wp2_with fail
        go_ret2
        exact ⟨_, _, rfl, .inr ⟨rfl, HA.out, rfl⟩, HF.out⟩
end Go.Proofs.YtjbpoijefkbllaaGreatDoor
