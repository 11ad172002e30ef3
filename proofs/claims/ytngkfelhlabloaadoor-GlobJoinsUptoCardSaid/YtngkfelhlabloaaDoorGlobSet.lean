/-
  glob.set, glob.end, glob.sign, each once. Condition: texts of at most 1000 bytes; a set has its end.
-/
import Derived.Test.YtngkfelhlabloaaDoorStrs
import Derived.Test.YtngkfelhlabloaaDoorUpBase
import Derived.Test.YtngkfelhlabloaaDoorField
import Derived.BigQuiet
import Derived.Deep.QuietTactic
namespace Go.Proofs.YtngkfelhlabloaaDoor
open Go.RowKit

/-- has a set a sign? (its body without the end) -/
def items (c : UInt8) (inn : Bool) : List UInt8 → Bool
  | [] => inn
  | low :: b => if 2 ≤ b.length ∧ b.headD 0 = 45 then items c (inn || (decide (low ≤ c) && decide (c ≤ b.tail.headD 0))) (b.drop 2) else items c (inn || (decide (low ≤ c) && decide (c ≤ low))) b
termination_by l => l.length
decreasing_by all_goals (simp only [List.length_drop, List.length_cons]; omega)

/-- a set's text: whether it is turned, its first sign, those behind it -/
def setT (neg : Bool) (x : UInt8) (body : List UInt8) : List UInt8 := 91 :: ((if neg then [33] else []) ++ (x :: (body ++ [93])))
theorem le_byte (a b : UInt8) : decide ((a.toNat : Int) ≤ (b.toNat : Int)) = decide (a ≤ b) := by
  rw [decide_eq_decide, UInt8.le_iff_toNat_le]; omega
theorem bs_drop1 (a : UInt8) (l : List UInt8) : (bs (a :: l)).extract 1 (l.length + 1) = bs l := by
  rw [bs_extract]; congr 1; simp
theorem bs_at0 (a : UInt8) (l : List UInt8) (h : 0 < (bs (a :: l)).size) : (((bs (a :: l))[0]'h).toNat : Int) = a.toNat := by rw [bs_get]; rfl
theorem bs_at1 (a b : UInt8) (l : List UInt8) (h : 1 < (bs (a :: b :: l)).size) : (((bs (a :: b :: l))[1]'h).toNat : Int) = b.toNat := by rw [bs_get]; rfl
theorem nat_byte {c d : UInt8} (h : c ≠ d) : ¬ (c.toNat : Int) = d.toNat := fun e => h (UInt8.toNat.inj (by omega))
theorem hasPrefix_one (a b : UInt8) (l : List UInt8) : Lib.hasPrefix (a :: l) [b] = (b == a) := by simp [Lib.hasPrefix, List.isPrefixOf]
theorem ret_bs {a b : Bool} {s t : ByteArray} (h : a = b) (h2 : s = t) : Ending.returned (.tuple #[.bool a, .string s]) = .returned (.tuple #[.bool b, .string t]) := by rw [h, h2]

/-! ### glob.set -/
theorem items_one {c low : UInt8} {inn : Bool} {b : List UInt8} (h : ¬ (2 ≤ b.length ∧ b.headD 0 = 45)) : items c inn (low :: b) = items c (inn || (decide (low ≤ c) && decide (c ≤ low))) b := by
  rw [items, if_neg h]
theorem items_range {c low h : UInt8} {inn : Bool} {b : List UInt8} : items c inn (low :: 45 :: h :: b) = items c (inn || (decide (low ≤ c) && decide (c ≤ h))) b := by
  rw [items, if_pos ⟨by simp, rfl⟩]; rfl
theorem items_nil (c : UInt8) (inn : Bool) : items c inn [] = inn := by rw [items]
def SetRel (_neg : Bool) (x : UInt8) (body : List UInt8) (c : UInt8) (w : World) (r i k : Value) (wr : World) : Prop :=
  ∃ (cur : List UInt8) (inn : Bool) (kk : Nat), r = .string (bs (cur ++ [93])) ∧ i = .bool inn ∧ k = .int .i64 kk ∧ kk + cur.length ≤ body.length + 1 ∧ (kk = 0 ∧ cur ≠ [] ∨ 0 < kk ∧ (93 : UInt8) ∉ cur) ∧ (93 : UInt8) ∉ cur.tail ∧ Hid (items c false (x :: body) = items c inn cur) ∧ wr = w
def strLen (v : Value) : Nat := match v with | .string s => s.size | _ => 0
theorem bs_drop2 (a b : UInt8) (l : List UInt8) : (bs (a :: b :: l)).extract 2 (l.length + 2) = bs l := by
  rw [bs_extract]; congr 1; simp
theorem byte_int (b : UInt8) : 0 ≤ (b.toNat : Int) ∧ (b.toNat : Int) ≤ 255 := by have := b.toNat_lt; omega

set_option maxRecDepth 100000 in
set_option maxHeartbeats 8000000 in
theorem set_any (neg : Bool) (x : UInt8) (body : List UInt8) (c : UInt8) (hx : neg = false → x ≠ 33) (hb : (93 : UInt8) ∉ body) (hl : body.length ≤ 1000) (w : World) :
    Calls Tryd.prog 126 #[.string (bs (setT neg x body)), .int .u8 c.toNat] w fun e w' => ∃ t, e = .returned (.tuple #[.bool (items c false (x :: body) != neg), .string t]) ∧ ∃ n, w' = w.drewN n := by
  obtain ⟨rest, hrest⟩ : ∃ r, r = x :: (body ++ [93]) := ⟨_, rfl⟩
  have hrl : rest.length = body.length + 2 := by rw [hrest]; simp
  have hpx : Lib.hasPrefix (x :: (body ++ [93])) [33] = (33 == x) := hasPrefix_one _ _ _
  obtain ⟨C, hC⟩ : ∃ C : Int, C = c.toNat := ⟨_, rfl⟩
  rw [← hC]
  have HC := Lib.hid hC
  clear hC
  have zr := bs_size rest
  rw [hrl] at zr
  cases neg
  · have e0 : setT false x body = 91 :: rest := by rw [hrest]; rfl
    have z0 := bs_size (91 :: rest)
    have x0 := bs_drop1 91 rest
    rw [List.length_cons, hrl] at z0
    rw [hrl] at x0
    have hP := Lib.hid (fun w => HasPrefix_at rest [33] false (by rw [hrest, hpx, beq_eq_false_iff_ne]; exact fun e => hx rfl e.symm) w)
    rw [e0]
    clear hpx e0
    have HR := Lib.hid hrest
    clear hrest hrl
    generalize bs (91 :: rest) = s0 at *
    go_enter Tryd.func126, Tryd.ntmps126
    go_wp2_with fail
    refine (hP.out _).mono ?_
    rintro e w' ⟨rfl, rfl⟩
    go_wp2_with fail
    go_loopw [6, 8, 9] (fun r i k wr => SetRel false x body c w r i k wr) (fun r _ _ _ => strLen r)
    case atStart => exact ⟨x :: body, false, 0, by rw [HR.out]; rfl, rfl, rfl, by simp, .inl ⟨rfl, by simp⟩, hb, Lib.hid rfl, rfl⟩
    case round =>
      obtain ⟨cur, inn, kk, rfl, rfl, rfl, hkk, hcur, htl, hit, rfl⟩ := hrel
      rcases cur with _ | ⟨low, b⟩
      · have hk0 : 0 < kk := by
          rcases hcur with ⟨_, h⟩ | ⟨h, _⟩
          · exact absurd rfl h
          · exact h
        have t1 : decide ((0 : Int) < kk) = true := decide_eq_true (by omega)
        have t1n : decide (0 < kk) = true := decide_eq_true (by omega)
        have z2 := bs_size [93]
        have t2 : 0 < (bs [93]).size := by rw [bs_size]; decide
        have t3 : (((bs [93])[0]'t2).toNat : Int) = 93 := by rw [bs_get]; rfl
        rw [show ([] : List UInt8) ++ [93] = [93] from rfl]
        rw [show [(93 : UInt8)].length = 1 from rfl] at z2
        generalize bs [93] = s9 at *
        have HI := hit.out
        rw [items_nil] at HI
        have HI2 := Lib.hid HI
        clear HI hit hcur htl
        cases inn
        all_goals
          go_wp2_with fail
          go_quiet (fail)
          go_wp2_with fail
          go_ret2
          exact ⟨_, ret_bs (by rw [HI2.out]; rfl) rfl, _, rfl⟩
      · obtain ⟨L, hL⟩ : ∃ L : Int, L = low.toNat := ⟨_, rfl⟩
        have t0 : (low :: b) ++ [93] = low :: (b ++ [93]) := rfl
        have zs := bs_size (low :: (b ++ [93]))
        have ts : 0 < (bs (low :: (b ++ [93]))).size := by rw [bs_size]; simp
        have t3 := bs_at0 low (b ++ [93]) ts
        rw [← hL] at t3
        have x3 := bs_drop1 low (b ++ [93])
        have zs1 := bs_size (b ++ [93])
        rw [List.length_cons, List.length_append, List.length_singleton] at zs
        rw [List.length_append, List.length_singleton] at x3 zs1
        have hbl2 : b.length ≤ 1000 := by simp at hkk; omega
        have hk93 : (kk = 0) ∨ (0 < kk ∧ ¬ L = 93) := by
          rcases hcur with ⟨h, _⟩ | ⟨h, h2⟩
          · exact .inl h
          · refine .inr ⟨h, fun e => h2 ?_⟩
            have : low = 93 := UInt8.toNat.inj (show low.toNat = 93 by omega)
            rw [this]; simp
        have hb93 : (93 : UInt8) ∉ b := htl
        rw [t0]
        clear t0 hcur htl
        have hnext : (∃ hi : UInt8, ∃ b' : List UInt8, b = 45 :: hi :: b' ∧ hi ≠ 93) ∨ ¬ (2 ≤ b.length ∧ b.headD 0 = 45) := by
          by_cases h : 2 ≤ b.length ∧ b.headD 0 = 45
          · rcases b with _ | ⟨d, _ | ⟨hi, b'⟩⟩
            · simp at h
            · simp at h
            · have hd : d = 45 := h.2
              exact .inl ⟨hi, b', by rw [hd], fun e => hb93 (by simp [e])⟩
          · exact .inr h
        have hlc : decide (L ≤ C) = decide (low ≤ c) := by rw [hL, HC.out]; exact le_byte low c
        have hcl : decide (C ≤ L) = decide (c ≤ low) := by rw [hL, HC.out]; exact le_byte c low
        rcases hnext with ⟨hi, b', rfl, hhi⟩ | hno
        · have x4 := bs_drop2 45 hi (b' ++ [93])
          have ts1 : 0 < (bs (45 :: hi :: b' ++ [93])).size := by rw [bs_size]; simp
          have ts2 : 1 < (bs (45 :: hi :: b' ++ [93])).size := by rw [bs_size]; simp
          have t5 : (((bs (45 :: hi :: b' ++ [93]))[0]'ts1).toNat : Int) = 45 := by rw [bs_get]; rfl
          have t6 : (((bs (45 :: hi :: b' ++ [93]))[1]'ts2).toNat : Int) = hi.toNat := by rw [bs_get]; rfl
          obtain ⟨G, hG⟩ : ∃ G : Int, G = hi.toNat := ⟨_, rfl⟩
          rw [← hG] at t6
          have tG : ¬ G = 93 := fun e => hhi (UInt8.toNat.inj (show hi.toNat = 93 by omega))
          have tG2 : (G == 93) = false := beq_eq_false_iff_ne.2 tG
          have tG3 : (G != 93) = true := by rw [bne_iff_ne]; exact tG
          have hcg : decide (C ≤ G) = decide (c ≤ hi) := by rw [hG, HC.out]; exact le_byte c hi
          have hlen : (45 :: hi :: b').length = b'.length + 2 := rfl
          rw [hlen] at zs zs1 x3
          rw [List.length_append, List.length_singleton] at x4
          have d1 : decide ((2 : Int) < (b'.length : Int) + 2 + 1) = true := decide_eq_true (by omega)
          have hx4 : (bs (45 :: hi :: b' ++ [93])).extract 2 (b'.length + 2 + 1) = bs (b' ++ [93]) := by rw [show b'.length + 2 + 1 = b'.length + 1 + 2 by omega]; exact x4
          have hzb := bs_size (b' ++ [93])
          rw [List.length_append, List.length_singleton] at hzb
          have hnb : (93 : UInt8) ∉ b' := fun h => hb93 (by simp [h])
          have hnt : (93 : UInt8) ∉ b'.tail := fun h => hnb (List.mem_of_mem_tail h)
          have hkk2 : kk + 1 + b'.length ≤ body.length + 1 := by simp at hkk; omega
          have HIT : Hid (∀ q, (inn || (decide (low ≤ c) && decide (c ≤ hi))) = q → items c false (x :: body) = items c q b') := Lib.hid (fun q hq => by rw [← hq, hit.out, items_range])
          have HL := Lib.hid hlc; have HG := Lib.hid hcg; have HNB := Lib.hid hnb; have HNT := Lib.hid hnt
          clear hL hG hlc hcg hcl x4 hit hb93 hnb hnt hhi hkk hlen
          generalize bs (low :: (45 :: hi :: b' ++ [93])) = sa at *
          generalize bs (45 :: hi :: b' ++ [93]) = sb at *
          generalize hsc : bs (b' ++ [93]) = sc at *
          have HSC := Lib.hid hsc
          clear hsc
          generalize hnn : b'.length = n at *
          have HN := Lib.hid hnn
          clear hnn
          have hq : inn = true ∨ (inn = false ∧ decide (L ≤ C) = false) ∨ (inn = false ∧ decide (L ≤ C) = true ∧ decide (C ≤ G) = false) ∨ (inn = false ∧ decide (L ≤ C) = true ∧ decide (C ≤ G) = true) := by
            cases inn <;> cases decide (L ≤ C) <;> cases decide (C ≤ G) <;> simp
          rcases hk93 with rfl | ⟨hk0, hL93⟩
          · rcases hq with rfl | ⟨rfl, q1⟩ | ⟨rfl, q1, q2⟩ | ⟨rfl, q1, q2⟩
            · go_wp2_with fail
              go_roundw
              case rel => exact ⟨b', true, 1, by rw [HSC.out], rfl, by first | rfl | go_num, by rw [HN.out]; omega, .inr ⟨by omega, HNB.out⟩, HNT.out, Lib.hid (HIT.out _ (rfl)), rfl⟩
              case measure => simp [strLen]; omega
            · go_wp2_with fail
              go_roundw
              case rel => exact ⟨b', false, 1, by rw [HSC.out], rfl, by first | rfl | go_num, by rw [HN.out]; omega, .inr ⟨by omega, HNB.out⟩, HNT.out, Lib.hid (HIT.out _ (by rw [← HL.out, q1]; rfl)), rfl⟩
              case measure => simp [strLen]; omega
            · go_wp2_with fail
              go_roundw
              case rel => exact ⟨b', false, 1, by rw [HSC.out], rfl, by first | rfl | go_num, by rw [HN.out]; omega, .inr ⟨by omega, HNB.out⟩, HNT.out, Lib.hid (HIT.out _ (by rw [← HL.out, ← HG.out, q1, q2]; rfl)), rfl⟩
              case measure => simp [strLen]; omega
            · go_wp2_with fail
              go_roundw
              case rel => exact ⟨b', true, 1, by rw [HSC.out], rfl, by first | rfl | go_num, by rw [HN.out]; omega, .inr ⟨by omega, HNB.out⟩, HNT.out, Lib.hid (HIT.out _ (by rw [← HL.out, ← HG.out, q1, q2]; rfl)), rfl⟩
              case measure => simp [strLen]; omega
          · have t1 : decide ((0 : Int) < kk) = true := decide_eq_true (by omega)
            have l1 : (L == 93) = false := beq_eq_false_iff_ne.2 hL93
            rcases hq with rfl | ⟨rfl, q1⟩ | ⟨rfl, q1, q2⟩ | ⟨rfl, q1, q2⟩
            · go_wp2_with fail
              go_roundw
              case rel => exact ⟨b', true, kk + 1, by rw [HSC.out], rfl, by go_num, by rw [HN.out]; omega, .inr ⟨by omega, HNB.out⟩, HNT.out, Lib.hid (HIT.out _ (rfl)), rfl⟩
              case measure => simp [strLen]; omega
            · go_wp2_with fail
              go_roundw
              case rel => exact ⟨b', false, kk + 1, by rw [HSC.out], rfl, by go_num, by rw [HN.out]; omega, .inr ⟨by omega, HNB.out⟩, HNT.out, Lib.hid (HIT.out _ (by rw [← HL.out, q1]; rfl)), rfl⟩
              case measure => simp [strLen]; omega
            · go_wp2_with fail
              go_roundw
              case rel => exact ⟨b', false, kk + 1, by rw [HSC.out], rfl, by go_num, by rw [HN.out]; omega, .inr ⟨by omega, HNB.out⟩, HNT.out, Lib.hid (HIT.out _ (by rw [← HL.out, ← HG.out, q1, q2]; rfl)), rfl⟩
              case measure => simp [strLen]; omega
            · go_wp2_with fail
              go_roundw
              case rel => exact ⟨b', true, kk + 1, by rw [HSC.out], rfl, by go_num, by rw [HN.out]; omega, .inr ⟨by omega, HNB.out⟩, HNT.out, Lib.hid (HIT.out _ (by rw [← HL.out, ← HG.out, q1, q2]; rfl)), rfl⟩
              case measure => simp [strLen]; omega
        · have hno2 : ¬ (2 ≤ b.length ∧ b.headD 0 = 45) := hno
          have HIT : Hid (∀ q, (inn || (decide (low ≤ c) && decide (c ≤ low))) = q → items c false (x :: body) = items c q b) := Lib.hid (fun q hq => by rw [← hq, hit.out, items_one hno2])
          have hnt : (93 : UInt8) ∉ b.tail := fun h => hb93 (List.mem_of_mem_tail h)
          have hkk2 : kk + 1 + b.length ≤ body.length + 1 := by simp at hkk; omega
          have hfork : decide ((2 : Int) < (b.length : Int) + 1) = false ∨ (decide ((2 : Int) < (b.length : Int) + 1) = true ∧ ∃ h : 0 < (bs (b ++ [93])).size, ∃ D : Int, (((bs (b ++ [93]))[0]'h).toNat : Int) = D ∧ (D == 45) = false) := by
            by_cases h2 : 2 ≤ b.length
            · refine .inr ⟨decide_eq_true (by omega), by rw [bs_size]; simp, _, rfl, ?_⟩
              rcases b with _ | ⟨d, b⟩
              · simp at h2
              · have hd : d ≠ 45 := fun e => hno ⟨h2, e⟩
                exact (congrArg (· == (45 : Int)) (bs_at0 d (b ++ [93]) _)).trans (byte_ne (d := 45) hd)
            · exact .inl (decide_eq_false (by omega))
          have HL := Lib.hid hlc; have HG := Lib.hid hcl; have HNB := Lib.hid hb93; have HNT := Lib.hid hnt
          clear hL hlc hcl hit hb93 hnt hkk hno hno2
          generalize bs (low :: (b ++ [93])) = sa at *
          generalize hsc : bs (b ++ [93]) = sc at *
          have HSC := Lib.hid hsc
          clear hsc
          generalize hnn : b.length = n at *
          have HN := Lib.hid hnn
          clear hnn
          have hq : inn = true ∨ (inn = false ∧ decide (L ≤ C) = false) ∨ (inn = false ∧ decide (L ≤ C) = true ∧ decide (C ≤ L) = false) ∨ (inn = false ∧ decide (L ≤ C) = true ∧ decide (C ≤ L) = true) := by
            cases inn <;> cases decide (L ≤ C) <;> cases decide (C ≤ L) <;> simp
          rcases hk93 with rfl | ⟨hk0, hL93⟩
          · rcases hfork with f1 | ⟨f1, f2, D, f3, f4⟩
            · rcases hq with rfl | ⟨rfl, q1⟩ | ⟨rfl, q1, q2⟩ | ⟨rfl, q1, q2⟩
              · go_wp2_with fail
                go_roundw
                case rel => exact ⟨b, true, 1, by rw [HSC.out], rfl, by first | rfl | go_num, by rw [HN.out]; omega, .inr ⟨by omega, HNB.out⟩, HNT.out, Lib.hid (HIT.out _ (rfl)), rfl⟩
                case measure => simp [strLen]; omega
              · go_wp2_with fail
                go_roundw
                case rel => exact ⟨b, false, 1, by rw [HSC.out], rfl, by first | rfl | go_num, by rw [HN.out]; omega, .inr ⟨by omega, HNB.out⟩, HNT.out, Lib.hid (HIT.out _ (by rw [← HL.out, q1]; rfl)), rfl⟩
                case measure => simp [strLen]; omega
              · go_wp2_with fail
                go_roundw
                case rel => exact ⟨b, false, 1, by rw [HSC.out], rfl, by first | rfl | go_num, by rw [HN.out]; omega, .inr ⟨by omega, HNB.out⟩, HNT.out, Lib.hid (HIT.out _ (by rw [← HL.out, ← HG.out, q1, q2]; rfl)), rfl⟩
                case measure => simp [strLen]; omega
              · go_wp2_with fail
                go_roundw
                case rel => exact ⟨b, true, 1, by rw [HSC.out], rfl, by first | rfl | go_num, by rw [HN.out]; omega, .inr ⟨by omega, HNB.out⟩, HNT.out, Lib.hid (HIT.out _ (by rw [← HL.out, ← HG.out, q1, q2]; rfl)), rfl⟩
                case measure => simp [strLen]; omega
            · rcases hq with rfl | ⟨rfl, q1⟩ | ⟨rfl, q1, q2⟩ | ⟨rfl, q1, q2⟩
              · go_wp2_with fail
                go_roundw
                case rel => exact ⟨b, true, 1, by rw [HSC.out], rfl, by first | rfl | go_num, by rw [HN.out]; omega, .inr ⟨by omega, HNB.out⟩, HNT.out, Lib.hid (HIT.out _ (rfl)), rfl⟩
                case measure => simp [strLen]; omega
              · go_wp2_with fail
                go_roundw
                case rel => exact ⟨b, false, 1, by rw [HSC.out], rfl, by first | rfl | go_num, by rw [HN.out]; omega, .inr ⟨by omega, HNB.out⟩, HNT.out, Lib.hid (HIT.out _ (by rw [← HL.out, q1]; rfl)), rfl⟩
                case measure => simp [strLen]; omega
              · go_wp2_with fail
                go_roundw
                case rel => exact ⟨b, false, 1, by rw [HSC.out], rfl, by first | rfl | go_num, by rw [HN.out]; omega, .inr ⟨by omega, HNB.out⟩, HNT.out, Lib.hid (HIT.out _ (by rw [← HL.out, ← HG.out, q1, q2]; rfl)), rfl⟩
                case measure => simp [strLen]; omega
              · go_wp2_with fail
                go_roundw
                case rel => exact ⟨b, true, 1, by rw [HSC.out], rfl, by first | rfl | go_num, by rw [HN.out]; omega, .inr ⟨by omega, HNB.out⟩, HNT.out, Lib.hid (HIT.out _ (by rw [← HL.out, ← HG.out, q1, q2]; rfl)), rfl⟩
                case measure => simp [strLen]; omega
          · have t1 : decide ((0 : Int) < kk) = true := decide_eq_true (by omega)
            have t1n : decide (0 < kk) = true := decide_eq_true (by omega)
            have l1 : (L == 93) = false := beq_eq_false_iff_ne.2 hL93
            rcases hfork with f1 | ⟨f1, f2, D, f3, f4⟩
            · rcases hq with rfl | ⟨rfl, q1⟩ | ⟨rfl, q1, q2⟩ | ⟨rfl, q1, q2⟩
              · go_wp2_with fail
                go_roundw
                case rel => exact ⟨b, true, kk + 1, by rw [HSC.out], rfl, by go_num, by rw [HN.out]; omega, .inr ⟨by omega, HNB.out⟩, HNT.out, Lib.hid (HIT.out _ (rfl)), rfl⟩
                case measure => simp [strLen]; omega
              · go_wp2_with fail
                go_roundw
                case rel => exact ⟨b, false, kk + 1, by rw [HSC.out], rfl, by go_num, by rw [HN.out]; omega, .inr ⟨by omega, HNB.out⟩, HNT.out, Lib.hid (HIT.out _ (by rw [← HL.out, q1]; rfl)), rfl⟩
                case measure => simp [strLen]; omega
              · go_wp2_with fail
                go_roundw
                case rel => exact ⟨b, false, kk + 1, by rw [HSC.out], rfl, by go_num, by rw [HN.out]; omega, .inr ⟨by omega, HNB.out⟩, HNT.out, Lib.hid (HIT.out _ (by rw [← HL.out, ← HG.out, q1, q2]; rfl)), rfl⟩
                case measure => simp [strLen]; omega
              · go_wp2_with fail
                go_roundw
                case rel => exact ⟨b, true, kk + 1, by rw [HSC.out], rfl, by go_num, by rw [HN.out]; omega, .inr ⟨by omega, HNB.out⟩, HNT.out, Lib.hid (HIT.out _ (by rw [← HL.out, ← HG.out, q1, q2]; rfl)), rfl⟩
                case measure => simp [strLen]; omega
            · rcases hq with rfl | ⟨rfl, q1⟩ | ⟨rfl, q1, q2⟩ | ⟨rfl, q1, q2⟩
              · go_wp2_with fail
                go_roundw
                case rel => exact ⟨b, true, kk + 1, by rw [HSC.out], rfl, by go_num, by rw [HN.out]; omega, .inr ⟨by omega, HNB.out⟩, HNT.out, Lib.hid (HIT.out _ (rfl)), rfl⟩
                case measure => simp [strLen]; omega
              · go_wp2_with fail
                go_roundw
                case rel => exact ⟨b, false, kk + 1, by rw [HSC.out], rfl, by go_num, by rw [HN.out]; omega, .inr ⟨by omega, HNB.out⟩, HNT.out, Lib.hid (HIT.out _ (by rw [← HL.out, q1]; rfl)), rfl⟩
                case measure => simp [strLen]; omega
              · go_wp2_with fail
                go_roundw
                case rel => exact ⟨b, false, kk + 1, by rw [HSC.out], rfl, by go_num, by rw [HN.out]; omega, .inr ⟨by omega, HNB.out⟩, HNT.out, Lib.hid (HIT.out _ (by rw [← HL.out, ← HG.out, q1, q2]; rfl)), rfl⟩
                case measure => simp [strLen]; omega
              · go_wp2_with fail
                go_roundw
                case rel => exact ⟨b, true, kk + 1, by rw [HSC.out], rfl, by go_num, by rw [HN.out]; omega, .inr ⟨by omega, HNB.out⟩, HNT.out, Lib.hid (HIT.out _ (by rw [← HL.out, ← HG.out, q1, q2]; rfl)), rfl⟩
                case measure => simp [strLen]; omega
  · have e0 : setT true x body = 91 :: 33 :: rest := by rw [hrest]; rfl
    have z0 := bs_size (91 :: 33 :: rest)
    have x0 := bs_drop1 91 (33 :: rest)
    have z1 := bs_size (33 :: rest)
    have x1 := bs_drop1 33 rest
    rw [List.length_cons, List.length_cons, hrl] at z0
    rw [List.length_cons, hrl] at x0 z1
    rw [hrl] at x1
    have hP := Lib.hid (fun w => HasPrefix_at (33 :: rest) [33] true (by rw [hasPrefix_one]; rfl) w)
    rw [e0]
    clear hpx e0
    have HR := Lib.hid hrest
    clear hrest hrl
    generalize bs (91 :: 33 :: rest) = s0 at *
    generalize bs (33 :: rest) = s1 at *
    go_enter Tryd.func126, Tryd.ntmps126
    go_wp2_with fail
    refine (hP.out _).mono ?_
    rintro e w' ⟨rfl, rfl⟩
    go_wp2_with fail
    go_loopw [6, 8, 9] (fun r i k wr => SetRel true x body c w r i k wr) (fun r _ _ _ => strLen r)
    case atStart => exact ⟨x :: body, false, 0, by rw [HR.out]; rfl, rfl, rfl, by simp, .inl ⟨rfl, by simp⟩, hb, Lib.hid rfl, rfl⟩
    case round =>
      obtain ⟨cur, inn, kk, rfl, rfl, rfl, hkk, hcur, htl, hit, rfl⟩ := hrel
      rcases cur with _ | ⟨low, b⟩
      · have hk0 : 0 < kk := by
          rcases hcur with ⟨_, h⟩ | ⟨h, _⟩
          · exact absurd rfl h
          · exact h
        have t1 : decide ((0 : Int) < kk) = true := decide_eq_true (by omega)
        have t1n : decide (0 < kk) = true := decide_eq_true (by omega)
        have z2 := bs_size [93]
        have t2 : 0 < (bs [93]).size := by rw [bs_size]; decide
        have t3 : (((bs [93])[0]'t2).toNat : Int) = 93 := by rw [bs_get]; rfl
        rw [show ([] : List UInt8) ++ [93] = [93] from rfl]
        rw [show [(93 : UInt8)].length = 1 from rfl] at z2
        generalize bs [93] = s9 at *
        have HI := hit.out
        rw [items_nil] at HI
        have HI2 := Lib.hid HI
        clear HI hit hcur htl
        cases inn
        all_goals
          go_wp2_with fail
          go_quiet (fail)
          go_wp2_with fail
          go_ret2
          exact ⟨_, ret_bs (by rw [HI2.out]; rfl) rfl, _, rfl⟩
      · obtain ⟨L, hL⟩ : ∃ L : Int, L = low.toNat := ⟨_, rfl⟩
        have t0 : (low :: b) ++ [93] = low :: (b ++ [93]) := rfl
        have zs := bs_size (low :: (b ++ [93]))
        have ts : 0 < (bs (low :: (b ++ [93]))).size := by rw [bs_size]; simp
        have t3 := bs_at0 low (b ++ [93]) ts
        rw [← hL] at t3
        have x3 := bs_drop1 low (b ++ [93])
        have zs1 := bs_size (b ++ [93])
        rw [List.length_cons, List.length_append, List.length_singleton] at zs
        rw [List.length_append, List.length_singleton] at x3 zs1
        have hbl2 : b.length ≤ 1000 := by simp at hkk; omega
        have hk93 : (kk = 0) ∨ (0 < kk ∧ ¬ L = 93) := by
          rcases hcur with ⟨h, _⟩ | ⟨h, h2⟩
          · exact .inl h
          · refine .inr ⟨h, fun e => h2 ?_⟩
            have : low = 93 := UInt8.toNat.inj (show low.toNat = 93 by omega)
            rw [this]; simp
        have hb93 : (93 : UInt8) ∉ b := htl
        rw [t0]
        clear t0 hcur htl
        have hnext : (∃ hi : UInt8, ∃ b' : List UInt8, b = 45 :: hi :: b' ∧ hi ≠ 93) ∨ ¬ (2 ≤ b.length ∧ b.headD 0 = 45) := by
          by_cases h : 2 ≤ b.length ∧ b.headD 0 = 45
          · rcases b with _ | ⟨d, _ | ⟨hi, b'⟩⟩
            · simp at h
            · simp at h
            · have hd : d = 45 := h.2
              exact .inl ⟨hi, b', by rw [hd], fun e => hb93 (by simp [e])⟩
          · exact .inr h
        have hlc : decide (L ≤ C) = decide (low ≤ c) := by rw [hL, HC.out]; exact le_byte low c
        have hcl : decide (C ≤ L) = decide (c ≤ low) := by rw [hL, HC.out]; exact le_byte c low
        rcases hnext with ⟨hi, b', rfl, hhi⟩ | hno
        · have x4 := bs_drop2 45 hi (b' ++ [93])
          have ts1 : 0 < (bs (45 :: hi :: b' ++ [93])).size := by rw [bs_size]; simp
          have ts2 : 1 < (bs (45 :: hi :: b' ++ [93])).size := by rw [bs_size]; simp
          have t5 : (((bs (45 :: hi :: b' ++ [93]))[0]'ts1).toNat : Int) = 45 := by rw [bs_get]; rfl
          have t6 : (((bs (45 :: hi :: b' ++ [93]))[1]'ts2).toNat : Int) = hi.toNat := by rw [bs_get]; rfl
          obtain ⟨G, hG⟩ : ∃ G : Int, G = hi.toNat := ⟨_, rfl⟩
          rw [← hG] at t6
          have tG : ¬ G = 93 := fun e => hhi (UInt8.toNat.inj (show hi.toNat = 93 by omega))
          have tG2 : (G == 93) = false := beq_eq_false_iff_ne.2 tG
          have tG3 : (G != 93) = true := by rw [bne_iff_ne]; exact tG
          have hcg : decide (C ≤ G) = decide (c ≤ hi) := by rw [hG, HC.out]; exact le_byte c hi
          have hlen : (45 :: hi :: b').length = b'.length + 2 := rfl
          rw [hlen] at zs zs1 x3
          rw [List.length_append, List.length_singleton] at x4
          have d1 : decide ((2 : Int) < (b'.length : Int) + 2 + 1) = true := decide_eq_true (by omega)
          have hx4 : (bs (45 :: hi :: b' ++ [93])).extract 2 (b'.length + 2 + 1) = bs (b' ++ [93]) := by rw [show b'.length + 2 + 1 = b'.length + 1 + 2 by omega]; exact x4
          have hzb := bs_size (b' ++ [93])
          rw [List.length_append, List.length_singleton] at hzb
          have hnb : (93 : UInt8) ∉ b' := fun h => hb93 (by simp [h])
          have hnt : (93 : UInt8) ∉ b'.tail := fun h => hnb (List.mem_of_mem_tail h)
          have hkk2 : kk + 1 + b'.length ≤ body.length + 1 := by simp at hkk; omega
          have HIT : Hid (∀ q, (inn || (decide (low ≤ c) && decide (c ≤ hi))) = q → items c false (x :: body) = items c q b') := Lib.hid (fun q hq => by rw [← hq, hit.out, items_range])
          have HL := Lib.hid hlc; have HG := Lib.hid hcg; have HNB := Lib.hid hnb; have HNT := Lib.hid hnt
          clear hL hG hlc hcg hcl x4 hit hb93 hnb hnt hhi hkk hlen
          generalize bs (low :: (45 :: hi :: b' ++ [93])) = sa at *
          generalize bs (45 :: hi :: b' ++ [93]) = sb at *
          generalize hsc : bs (b' ++ [93]) = sc at *
          have HSC := Lib.hid hsc
          clear hsc
          generalize hnn : b'.length = n at *
          have HN := Lib.hid hnn
          clear hnn
          have hq : inn = true ∨ (inn = false ∧ decide (L ≤ C) = false) ∨ (inn = false ∧ decide (L ≤ C) = true ∧ decide (C ≤ G) = false) ∨ (inn = false ∧ decide (L ≤ C) = true ∧ decide (C ≤ G) = true) := by
            cases inn <;> cases decide (L ≤ C) <;> cases decide (C ≤ G) <;> simp
          rcases hk93 with rfl | ⟨hk0, hL93⟩
          · rcases hq with rfl | ⟨rfl, q1⟩ | ⟨rfl, q1, q2⟩ | ⟨rfl, q1, q2⟩
            · go_wp2_with fail
              go_roundw
              case rel => exact ⟨b', true, 1, by rw [HSC.out], rfl, by first | rfl | go_num, by rw [HN.out]; omega, .inr ⟨by omega, HNB.out⟩, HNT.out, Lib.hid (HIT.out _ (rfl)), rfl⟩
              case measure => simp [strLen]; omega
            · go_wp2_with fail
              go_roundw
              case rel => exact ⟨b', false, 1, by rw [HSC.out], rfl, by first | rfl | go_num, by rw [HN.out]; omega, .inr ⟨by omega, HNB.out⟩, HNT.out, Lib.hid (HIT.out _ (by rw [← HL.out, q1]; rfl)), rfl⟩
              case measure => simp [strLen]; omega
            · go_wp2_with fail
              go_roundw
              case rel => exact ⟨b', false, 1, by rw [HSC.out], rfl, by first | rfl | go_num, by rw [HN.out]; omega, .inr ⟨by omega, HNB.out⟩, HNT.out, Lib.hid (HIT.out _ (by rw [← HL.out, ← HG.out, q1, q2]; rfl)), rfl⟩
              case measure => simp [strLen]; omega
            · go_wp2_with fail
              go_roundw
              case rel => exact ⟨b', true, 1, by rw [HSC.out], rfl, by first | rfl | go_num, by rw [HN.out]; omega, .inr ⟨by omega, HNB.out⟩, HNT.out, Lib.hid (HIT.out _ (by rw [← HL.out, ← HG.out, q1, q2]; rfl)), rfl⟩
              case measure => simp [strLen]; omega
          · have t1 : decide ((0 : Int) < kk) = true := decide_eq_true (by omega)
            have l1 : (L == 93) = false := beq_eq_false_iff_ne.2 hL93
            rcases hq with rfl | ⟨rfl, q1⟩ | ⟨rfl, q1, q2⟩ | ⟨rfl, q1, q2⟩
            · go_wp2_with fail
              go_roundw
              case rel => exact ⟨b', true, kk + 1, by rw [HSC.out], rfl, by go_num, by rw [HN.out]; omega, .inr ⟨by omega, HNB.out⟩, HNT.out, Lib.hid (HIT.out _ (rfl)), rfl⟩
              case measure => simp [strLen]; omega
            · go_wp2_with fail
              go_roundw
              case rel => exact ⟨b', false, kk + 1, by rw [HSC.out], rfl, by go_num, by rw [HN.out]; omega, .inr ⟨by omega, HNB.out⟩, HNT.out, Lib.hid (HIT.out _ (by rw [← HL.out, q1]; rfl)), rfl⟩
              case measure => simp [strLen]; omega
            · go_wp2_with fail
              go_roundw
              case rel => exact ⟨b', false, kk + 1, by rw [HSC.out], rfl, by go_num, by rw [HN.out]; omega, .inr ⟨by omega, HNB.out⟩, HNT.out, Lib.hid (HIT.out _ (by rw [← HL.out, ← HG.out, q1, q2]; rfl)), rfl⟩
              case measure => simp [strLen]; omega
            · go_wp2_with fail
              go_roundw
              case rel => exact ⟨b', true, kk + 1, by rw [HSC.out], rfl, by go_num, by rw [HN.out]; omega, .inr ⟨by omega, HNB.out⟩, HNT.out, Lib.hid (HIT.out _ (by rw [← HL.out, ← HG.out, q1, q2]; rfl)), rfl⟩
              case measure => simp [strLen]; omega
        · have hno2 : ¬ (2 ≤ b.length ∧ b.headD 0 = 45) := hno
          have HIT : Hid (∀ q, (inn || (decide (low ≤ c) && decide (c ≤ low))) = q → items c false (x :: body) = items c q b) := Lib.hid (fun q hq => by rw [← hq, hit.out, items_one hno2])
          have hnt : (93 : UInt8) ∉ b.tail := fun h => hb93 (List.mem_of_mem_tail h)
          have hkk2 : kk + 1 + b.length ≤ body.length + 1 := by simp at hkk; omega
          have hfork : decide ((2 : Int) < (b.length : Int) + 1) = false ∨ (decide ((2 : Int) < (b.length : Int) + 1) = true ∧ ∃ h : 0 < (bs (b ++ [93])).size, ∃ D : Int, (((bs (b ++ [93]))[0]'h).toNat : Int) = D ∧ (D == 45) = false) := by
            by_cases h2 : 2 ≤ b.length
            · refine .inr ⟨decide_eq_true (by omega), by rw [bs_size]; simp, _, rfl, ?_⟩
              rcases b with _ | ⟨d, b⟩
              · simp at h2
              · have hd : d ≠ 45 := fun e => hno ⟨h2, e⟩
                exact (congrArg (· == (45 : Int)) (bs_at0 d (b ++ [93]) _)).trans (byte_ne (d := 45) hd)
            · exact .inl (decide_eq_false (by omega))
          have HL := Lib.hid hlc; have HG := Lib.hid hcl; have HNB := Lib.hid hb93; have HNT := Lib.hid hnt
          clear hL hlc hcl hit hb93 hnt hkk hno hno2
          generalize bs (low :: (b ++ [93])) = sa at *
          generalize hsc : bs (b ++ [93]) = sc at *
          have HSC := Lib.hid hsc
          clear hsc
          generalize hnn : b.length = n at *
          have HN := Lib.hid hnn
          clear hnn
          have hq : inn = true ∨ (inn = false ∧ decide (L ≤ C) = false) ∨ (inn = false ∧ decide (L ≤ C) = true ∧ decide (C ≤ L) = false) ∨ (inn = false ∧ decide (L ≤ C) = true ∧ decide (C ≤ L) = true) := by
            cases inn <;> cases decide (L ≤ C) <;> cases decide (C ≤ L) <;> simp
          rcases hk93 with rfl | ⟨hk0, hL93⟩
          · rcases hfork with f1 | ⟨f1, f2, D, f3, f4⟩
            · rcases hq with rfl | ⟨rfl, q1⟩ | ⟨rfl, q1, q2⟩ | ⟨rfl, q1, q2⟩
              · go_wp2_with fail
                go_roundw
                case rel => exact ⟨b, true, 1, by rw [HSC.out], rfl, by first | rfl | go_num, by rw [HN.out]; omega, .inr ⟨by omega, HNB.out⟩, HNT.out, Lib.hid (HIT.out _ (rfl)), rfl⟩
                case measure => simp [strLen]; omega
              · go_wp2_with fail
                go_roundw
                case rel => exact ⟨b, false, 1, by rw [HSC.out], rfl, by first | rfl | go_num, by rw [HN.out]; omega, .inr ⟨by omega, HNB.out⟩, HNT.out, Lib.hid (HIT.out _ (by rw [← HL.out, q1]; rfl)), rfl⟩
                case measure => simp [strLen]; omega
              · go_wp2_with fail
                go_roundw
                case rel => exact ⟨b, false, 1, by rw [HSC.out], rfl, by first | rfl | go_num, by rw [HN.out]; omega, .inr ⟨by omega, HNB.out⟩, HNT.out, Lib.hid (HIT.out _ (by rw [← HL.out, ← HG.out, q1, q2]; rfl)), rfl⟩
                case measure => simp [strLen]; omega
              · go_wp2_with fail
                go_roundw
                case rel => exact ⟨b, true, 1, by rw [HSC.out], rfl, by first | rfl | go_num, by rw [HN.out]; omega, .inr ⟨by omega, HNB.out⟩, HNT.out, Lib.hid (HIT.out _ (by rw [← HL.out, ← HG.out, q1, q2]; rfl)), rfl⟩
                case measure => simp [strLen]; omega
            · rcases hq with rfl | ⟨rfl, q1⟩ | ⟨rfl, q1, q2⟩ | ⟨rfl, q1, q2⟩
              · go_wp2_with fail
                go_roundw
                case rel => exact ⟨b, true, 1, by rw [HSC.out], rfl, by first | rfl | go_num, by rw [HN.out]; omega, .inr ⟨by omega, HNB.out⟩, HNT.out, Lib.hid (HIT.out _ (rfl)), rfl⟩
                case measure => simp [strLen]; omega
              · go_wp2_with fail
                go_roundw
                case rel => exact ⟨b, false, 1, by rw [HSC.out], rfl, by first | rfl | go_num, by rw [HN.out]; omega, .inr ⟨by omega, HNB.out⟩, HNT.out, Lib.hid (HIT.out _ (by rw [← HL.out, q1]; rfl)), rfl⟩
                case measure => simp [strLen]; omega
              · go_wp2_with fail
                go_roundw
                case rel => exact ⟨b, false, 1, by rw [HSC.out], rfl, by first | rfl | go_num, by rw [HN.out]; omega, .inr ⟨by omega, HNB.out⟩, HNT.out, Lib.hid (HIT.out _ (by rw [← HL.out, ← HG.out, q1, q2]; rfl)), rfl⟩
                case measure => simp [strLen]; omega
              · go_wp2_with fail
                go_roundw
                case rel => exact ⟨b, true, 1, by rw [HSC.out], rfl, by first | rfl | go_num, by rw [HN.out]; omega, .inr ⟨by omega, HNB.out⟩, HNT.out, Lib.hid (HIT.out _ (by rw [← HL.out, ← HG.out, q1, q2]; rfl)), rfl⟩
                case measure => simp [strLen]; omega
          · have t1 : decide ((0 : Int) < kk) = true := decide_eq_true (by omega)
            have t1n : decide (0 < kk) = true := decide_eq_true (by omega)
            have l1 : (L == 93) = false := beq_eq_false_iff_ne.2 hL93
            rcases hfork with f1 | ⟨f1, f2, D, f3, f4⟩
            · rcases hq with rfl | ⟨rfl, q1⟩ | ⟨rfl, q1, q2⟩ | ⟨rfl, q1, q2⟩
              · go_wp2_with fail
                go_roundw
                case rel => exact ⟨b, true, kk + 1, by rw [HSC.out], rfl, by go_num, by rw [HN.out]; omega, .inr ⟨by omega, HNB.out⟩, HNT.out, Lib.hid (HIT.out _ (rfl)), rfl⟩
                case measure => simp [strLen]; omega
              · go_wp2_with fail
                go_roundw
                case rel => exact ⟨b, false, kk + 1, by rw [HSC.out], rfl, by go_num, by rw [HN.out]; omega, .inr ⟨by omega, HNB.out⟩, HNT.out, Lib.hid (HIT.out _ (by rw [← HL.out, q1]; rfl)), rfl⟩
                case measure => simp [strLen]; omega
              · go_wp2_with fail
                go_roundw
                case rel => exact ⟨b, false, kk + 1, by rw [HSC.out], rfl, by go_num, by rw [HN.out]; omega, .inr ⟨by omega, HNB.out⟩, HNT.out, Lib.hid (HIT.out _ (by rw [← HL.out, ← HG.out, q1, q2]; rfl)), rfl⟩
                case measure => simp [strLen]; omega
              · go_wp2_with fail
                go_roundw
                case rel => exact ⟨b, true, kk + 1, by rw [HSC.out], rfl, by go_num, by rw [HN.out]; omega, .inr ⟨by omega, HNB.out⟩, HNT.out, Lib.hid (HIT.out _ (by rw [← HL.out, ← HG.out, q1, q2]; rfl)), rfl⟩
                case measure => simp [strLen]; omega
            · rcases hq with rfl | ⟨rfl, q1⟩ | ⟨rfl, q1, q2⟩ | ⟨rfl, q1, q2⟩
              · go_wp2_with fail
                go_roundw
                case rel => exact ⟨b, true, kk + 1, by rw [HSC.out], rfl, by go_num, by rw [HN.out]; omega, .inr ⟨by omega, HNB.out⟩, HNT.out, Lib.hid (HIT.out _ (rfl)), rfl⟩
                case measure => simp [strLen]; omega
              · go_wp2_with fail
                go_roundw
                case rel => exact ⟨b, false, kk + 1, by rw [HSC.out], rfl, by go_num, by rw [HN.out]; omega, .inr ⟨by omega, HNB.out⟩, HNT.out, Lib.hid (HIT.out _ (by rw [← HL.out, q1]; rfl)), rfl⟩
                case measure => simp [strLen]; omega
              · go_wp2_with fail
                go_roundw
                case rel => exact ⟨b, false, kk + 1, by rw [HSC.out], rfl, by go_num, by rw [HN.out]; omega, .inr ⟨by omega, HNB.out⟩, HNT.out, Lib.hid (HIT.out _ (by rw [← HL.out, ← HG.out, q1, q2]; rfl)), rfl⟩
                case measure => simp [strLen]; omega
              · go_wp2_with fail
                go_roundw
                case rel => exact ⟨b, true, kk + 1, by rw [HSC.out], rfl, by go_num, by rw [HN.out]; omega, .inr ⟨by omega, HNB.out⟩, HNT.out, Lib.hid (HIT.out _ (by rw [← HL.out, ← HG.out, q1, q2]; rfl)), rfl⟩
                case measure => simp [strLen]; omega
end Go.Proofs.YtngkfelhlabloaaDoor
