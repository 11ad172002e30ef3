/-
  octal.Most, octal.Write, octal.Read, each once; no condition beyond the ranges named.
  The laws OctalBack, OctalRises, OctalOver: their walks. No condition.
  A string to bytes and back. No condition.
-/
import Derived.Test.YtmioinfhggbfkaaDoorWords
import Derived.Test.YtmioinfhggbfkaaDoorShelf
import Derived.Lib.SmallJoins
import Derived.Laws.BytesArg
import Derived.Laws.IdiomStrings
namespace Go.Proofs.YtmioinfhggbfkaaDoor
set_option linter.all false
section
open Go.RowKit

def okW (w : Int) : Bool := decide (2 ≤ w) && decide (w ≤ 12)
def mostI (w : Int) : Int := 8 ^ (w.toNat - 1) - 1
theorem ret2_int {a b c d : Int} (h : a = b) (h' : c = d) : Ending.returned (.tuple #[.int .i64 a, .int .i64 c]) = .returned (.tuple #[.int .i64 b, .int .i64 d]) := by rw [h, h']

set_option maxRecDepth 100000 in
set_option maxHeartbeats 1000000 in
theorem Most_ok (width : Int) (h1 : 2 ≤ width) (h2 : width ≤ 12) (w : World) :
    Calls Tryd.prog 50 #[.int .i64 width] w fun e w' => e = .returned (.tuple #[.int .i64 (mostI width), .int .i64 0]) ∧ w = w' := by
  have h : width = 2 ∨ width = 3 ∨ width = 4 ∨ width = 5 ∨ width = 6 ∨ width = 7 ∨ width = 8 ∨ width = 9 ∨ width = 10 ∨ width = 11 ∨ width = 12 := by omega
  rcases h with rfl | rfl | rfl | rfl | rfl | rfl | rfl | rfl | rfl | rfl | rfl
  all_goals
    go_enter Tryd.func50, Tryd.ntmps50
    go_wp2
    go_ret2
    exact ⟨ret2_int (by decide) rfl, rfl⟩

set_option maxRecDepth 100000 in
set_option maxHeartbeats 400000 in
theorem Most_no (width : Int) (h1 : width < 2 ∨ 12 < width) (w : World) :
    Calls Tryd.prog 50 #[.int .i64 width] w fun e w' => e = .returned (.tuple #[.int .i64 0, .int .i64 4]) ∧ w = w' := by
  by_cases h : width < 2
  · go_enter Tryd.func50, Tryd.ntmps50
    go_wp2
    go_ret2
    exact ⟨rfl, rfl⟩
  · have h3 : 12 < width := by omega
    go_enter Tryd.func50, Tryd.ntmps50
    go_wp2
    go_ret2
    exact ⟨rfl, rfl⟩

/-- the lowest j octal digits of n, the highest first -/
def low : Nat → Nat → List UInt8
  | 0, _ => []
  | j + 1, n => UInt8.ofNat (48 + n / 8 ^ j % 8) :: low j n
def octS (n w : Nat) : List UInt8 := low (w - 1) n ++ [0]
theorem low_length (j n : Nat) : (low j n).length = j := by
  induction j with
  | zero => rfl
  | succ j ih => simp [low, ih]
def ofB (b : UInt8) : Int := (b.toNat : Int)

theorem mostI_nat (W : Nat) : mostI (W : Int) = ((8 ^ (W - 1) : Nat) : Int) - 1 := by
  unfold mostI
  simp
theorem pow8_le {W : Nat} (h : W ≤ 12) : 8 ^ (W - 1) ≤ 8589934592 := by
  have : 8 ^ (W - 1) ≤ 8 ^ 11 := Nat.pow_le_pow_right (by omega) (by omega)
  simpa using this

/-- the cells of the field behind j rounds -/
def octCells (W j N : Nat) : List Int := List.replicate (W - 1 - j) 0 ++ (low j N).map ofB ++ [0]
theorem octCells_length (W j N : Nat) (h : j ≤ W - 1) (h1 : 1 ≤ W) : (octCells W j N).length = W := by
  simp [octCells, low_length]; omega
theorem octCells_set (W j N : Nat) (h : j < W - 1) : (octCells W j N).set (W - 2 - j) ((48 + N / 8 ^ j % 8 : Nat) : Int) = octCells W (j + 1) N := by
  unfold octCells
  have e : W - 1 - j = (W - 2 - j) + 1 := by omega
  have e2 : W - 1 - (j + 1) = W - 2 - j := by omega
  rw [e, e2, List.replicate_succ', List.append_assoc, List.append_assoc, List.set_append_right _ _ (by simp)]
  have e3 : ofB (UInt8.ofNat (48 + N / 8 ^ j % 8)) = ((48 + N / 8 ^ j % 8 : Nat) : Int) := by
    unfold ofB
    rw [UInt8.toNat_ofNat']
    omega
  rw [low, List.map_cons, e3]
  simp
theorem octCells_all (W N : Nat) : octCells W (W - 1) N = (octS N W).map ofB := by
  simp [octCells, octS, ofB]
theorem octCells_none (W N : Nat) (h : 1 ≤ W) : octCells W 0 N = List.replicate W 0 := by
  unfold octCells
  simp only [low, List.map_nil, List.append_nil, Nat.sub_zero]
  have e : W = (W - 1) + 1 := by omega
  conv => rhs; rw [e, List.replicate_succ']

set_option maxRecDepth 100000 in
set_option maxHeartbeats 1000000 in
theorem OWrite_ok (N W : Nat) (h1 : 2 ≤ W) (h2 : W ≤ 12) (h3 : N < 8 ^ (W - 1)) (w : World) :
    Calls Tryd.prog 75 #[.int .i64 N, .int .i64 W] w fun e w' => e = .returned (.tuple #[.string ⟨(octS N W).toArray⟩, .int .i64 0]) ∧ Below w.heap.size w w' := by
  have hp := pow8_le h2
  have hm1 : (N : Int) ≤ mostI W := by rw [mostI_nat]; omega
  have hm2 : mostI W ≤ 8589934592 := by rw [mostI_nat]; omega
  generalize hq : mostI W = q at *
  obtain ⟨i0, hi0, hz0, hz1, hz2⟩ := info_parts (u8_info)
  go_enter Tryd.func75, Tryd.ntmps75
  go_wp2_with fail
  refine (Most_ok W (by omega) (by omega) _).mono ?_
  rintro e w' ⟨rfl, rfl⟩
  rw [hq]
  have HQ := Lib.hid hq
  clear hq
  go_wp2_with (at_make
               refine wpList_make_full _ rfl _ _ _ rfl w.heap.size 5 i0 _ 1 Tryd.underlying26 hi0 hz0 hz1 .i64 .i64 W W W rfl rfl rfl rfl (by rw [hz2]; omega) (by simp only [maxLen]; omega) (Nat.le_refl _) ?_
               intro w1 hown1 hg1)
  have hx : (madeCells (Value.int .u8 0).cells (W * 1)).toList = (octCells W 0 N).map (.int .u8) := by
    rw [octCells_none W N (by omega), List.map_replicate, Nat.mul_one]
    exact toList_madeCells_one _ _
  rw [hx] at hown1
  clear hx
  have hb1 : Below w.heap.size w w1 := (Below.refl _ _).grown hg1 (Nat.le_refl _) (fun k hk => by cases hk)
  generalize hG : w.heap.size = G at *
  have HG := Lib.hid hG
  clear hG
  go_loopw [0, 9] (fun n i wr => ∃ j : Nat, j ≤ W - 1 ∧ i = .int .i64 ((W : Int) - 2 - j) ∧ n = .int .i64 ((N / 8 ^ j : Nat) : Int) ∧ wr.ownsRow G 5 1 (.slice (some ⟨G, 0, none⟩) W W) W ((octCells W j N).map (.int .u8)) ∧ Below G w wr) (fun _ i _ => (intOf i + 1).toNat)
  case atStart => exact ⟨0, by omega, by simp, by simp, hown1, hb1⟩
  case round =>
    obtain ⟨j, hj, rfl, rfl, hown, hb⟩ := hrel
    by_cases hlt : j < W - 1
    · have e1 : (W : Int) - 2 - j = ((W - 2 - j : Nat) : Int) := by omega
      rw [e1]
      have hset := octCells_set W j N hlt
      have hcl := octCells_length W j N (by omega) (by omega)
      have hst := (hown.stored (W - 2 - j) (.int .u8 ((48 + N / 8 ^ j % 8 : Nat) : Int))).1
      rw [← List.map_set, hset] at hst
      have hfz := hown.frozenAt (W - 2 - j)
      obtain ⟨u, hcell⟩ : ∃ u : Int, wr.cell? ⟨G, W - 2 - j, none⟩ = some (.int .u8 u) := by
        rw [hown.cellAt (W - 2 - j) (by omega), List.getElem?_map, List.getElem?_eq_getElem (by omega)]
        exact ⟨_, rfl⟩
      have hdiv : N / 8 ^ (j + 1) = N / 8 ^ j / 8 := by rw [Nat.pow_succ, Nat.div_div_eq_div_mul]
      have hkW : W - 2 - j < W := by omega
      have hqN : N / 8 ^ j ≤ N := Nat.div_le_self _ _
      generalize N / 8 ^ j = q2 at *
      generalize W - 2 - j = k at *
      have HD := Lib.hid hdiv
      have HE := Lib.hid e1
      have HS := Lib.hid hset
      clear hdiv e1 hset hcl
      have HST := Lib.hid hst
      clear hst
      go_wp2
      go_roundw
      case rel => exact ⟨j + 1, by omega, by have := HE.out; simp; omega, by rw [HD.out]; rfl, by simpa using HST.out, hb.setCell (Nat.le_refl _) _⟩
      case measure => simp [intOf] <;> omega
    · obtain rfl : j = W - 1 := by omega
      rw [octCells_all] at hown
      have hL : (octS N W).length = W := by simp [octS, low_length]; omega
      have hcv := run_convert_bytes_back (P := Tryd.prog) wr 26 9 5 ⟨G, 0, none⟩ W (octS N W) Tryd.underlying26 Tryd.underlying5 Tryd.underlying9 (fun j' hj' => by
        have := hown.cells (g := G) rfl j' (.int .u8 (ofB (octS N W)[j'])) (by rw [List.getElem?_map, List.getElem?_map, List.getElem?_eq_getElem hj']; rfl)
        exact this)
      rw [hL] at hcv
      have e1 : (W : Int) - 2 - ((W - 1 : Nat) : Int) = -1 := by omega
      rw [e1]
      clear e1 hL
      generalize N / 8 ^ (W - 1) = q2 at *
      go_wp2
      go_ret2
      exact ⟨rfl, by rw [HG.out]; exact hb⟩

set_option maxRecDepth 100000 in
set_option maxHeartbeats 400000 in
theorem OWrite_big (n width : Int) (h1 : 2 ≤ width) (h2 : width ≤ 12) (h3 : n < 0 ∨ mostI width < n) (w : World) :
    Calls Tryd.prog 75 #[.int .i64 n, .int .i64 width] w fun e w' => e = .returned (.tuple #[.string ⟨#[]⟩, .int .i64 4]) ∧ w = w' := by
  by_cases h4 : n < 0
  · go_enter Tryd.func75, Tryd.ntmps75
    go_wp2_with fail
    refine (Most_ok width (by omega) (by omega) _).mono ?_
    rintro e w' ⟨rfl, rfl⟩
    generalize mostI width = q at *
    go_wp2_with fail
    go_ret2
    exact ⟨rfl, rfl⟩
  · have h5 : mostI width < n := by omega
    go_enter Tryd.func75, Tryd.ntmps75
    go_wp2_with fail
    refine (Most_ok width (by omega) (by omega) _).mono ?_
    rintro e w' ⟨rfl, rfl⟩
    generalize mostI width = q at *
    go_wp2_with fail
    go_ret2
    exact ⟨rfl, rfl⟩

set_option maxRecDepth 100000 in
set_option maxHeartbeats 400000 in
theorem OWrite_wide (n width : Int) (h1 : width < 2 ∨ 12 < width) (w : World) :
    Calls Tryd.prog 75 #[.int .i64 n, .int .i64 width] w fun e w' => e = .returned (.tuple #[.string ⟨#[]⟩, .int .i64 4]) ∧ w = w' := by
  go_enter Tryd.func75, Tryd.ntmps75
  go_wp2_with fail
  refine (Most_no width h1 _).mono ?_
  rintro e w' ⟨rfl, rfl⟩
  go_wp2_with fail
  go_ret2
  exact ⟨rfl, rfl⟩

/-! ### octal.Read -/
def octDig (c : UInt8) : Bool := decide (48 ≤ (c.toNat : Int)) && decide ((c.toNat : Int) ≤ 55)
def octVal (l : List UInt8) : Int := l.foldl (fun n c => 8 * n + ((c.toNat : Int) - 48)) 0
def octRead (l : List UInt8) : Int × Int :=
  if l.length < 2 ∨ 12 < l.length then (0, 4)
  else if (l.take (l.length - 1)).all octDig && l.getLast? == some 0 then (octVal (l.take (l.length - 1)), 0) else (0, 3)
theorem octVal_snoc (l : List UInt8) (c : UInt8) : octVal (l ++ [c]) = 8 * octVal l + ((c.toNat : Int) - 48) := by simp [octVal]
theorem octVal_from (l : List UInt8) (h : l.all octDig = true) : ∀ (m : Nat) (n : Int), 0 ≤ n → n < 8 ^ m → 0 ≤ l.foldl (fun n c => 8 * n + ((c.toNat : Int) - 48)) n ∧ l.foldl (fun n c => 8 * n + ((c.toNat : Int) - 48)) n < 8 ^ (m + l.length) := by
  induction l with
  | nil => intro m n h0 h1; exact ⟨h0, h1⟩
  | cons c l ih =>
    intro m n h0 h1
    simp only [List.all_cons, Bool.and_eq_true, octDig, decide_eq_true_eq] at h
    have hp : (8 : Int) ^ (m + 1) = 8 ^ m * 8 := Int.pow_succ ..
    have := ih h.2 (m + 1) (8 * n + ((c.toNat : Int) - 48)) (by omega) (by omega)
    rw [List.length_cons, show m + (l.length + 1) = m + 1 + l.length from by omega]
    exact this
theorem octVal_bd (l : List UInt8) (h : l.all octDig = true) (hl : l.length ≤ 11) : 0 ≤ octVal l ∧ octVal l < 8589934592 := by
  have h1 := octVal_from l h 0 0 (by omega) (by decide)
  have h2 : (8 : Int) ^ (0 + l.length) ≤ 8 ^ 11 := by
    have := Nat.pow_le_pow_right (n := 8) (by omega) (show 0 + l.length ≤ 11 by omega)
    exact_mod_cast this
  have h3 : (8 : Int) ^ 11 = 8589934592 := by decide
  unfold octVal
  omega

theorem take_snocB (s : ByteArray) (k : Nat) (h : k < s.size) : s.data.toList.take (k + 1) = s.data.toList.take k ++ [s[k]] := by
  rw [List.take_succ_eq_append_getElem (by simpa using h)]; rfl

end
section
open Go.RowKit

theorem octVal_low_from (j n : Nat) : ∀ m : Int, (low j n).foldl (fun n c => 8 * n + ((c.toNat : Int) - 48)) m = m * 8 ^ j + ((n % 8 ^ j : Nat) : Int) := by
  induction j with
  | zero => intro m; simp [low, Nat.mod_one]
  | succ j ih =>
    intro m
    have e3 : ((UInt8.ofNat (48 + n / 8 ^ j % 8)).toNat : Int) - 48 = ((n / 8 ^ j % 8 : Nat) : Int) := by
      rw [UInt8.toNat_ofNat']; omega
    have e4 : n % 8 ^ (j + 1) = n % 8 ^ j + 8 ^ j * (n / 8 ^ j % 8) := by rw [Nat.pow_succ, Nat.mod_mul]
    simp only [low, List.foldl_cons]
    rw [ih, e3, e4, Int.natCast_add, Int.natCast_mul, Int.pow_succ, Int.add_mul]
    have e5 : ((8 ^ j : Nat) : Int) = 8 ^ j := by simp
    rw [e5]
    generalize (8 : Int) ^ j = p
    generalize ((n / 8 ^ j % 8 : Nat) : Int) = d
    rw [Int.mul_comm 8 m, Int.mul_assoc m 8 p, Int.mul_comm 8 p, Int.mul_comm d p]
    omega
theorem octVal_low (j n : Nat) (h : n < 8 ^ j) : octVal (low j n) = n := by
  unfold octVal
  rw [octVal_low_from, Nat.mod_eq_of_lt h]
  simp
theorem low_all (j n : Nat) : (low j n).all octDig = true := by
  induction j with
  | zero => rfl
  | succ j ih =>
    simp only [low, List.all_cons, ih, Bool.and_true]
    have e3 : ((UInt8.ofNat (48 + n / 8 ^ j % 8)).toNat : Int) = ((48 + n / 8 ^ j % 8 : Nat) : Int) := by
      rw [UInt8.toNat_ofNat']; omega
    unfold octDig
    rw [e3]
    simp only [Bool.and_eq_true, decide_eq_true_eq]
    omega
theorem octRead_octS (N W : Nat) (h1 : 2 ≤ W) (h2 : W ≤ 12) (h3 : N < 8 ^ (W - 1)) : octRead (octS N W) = ((N : Int), 0) := by
  have hl : (octS N W).length = W := by simp [octS, low_length]; omega
  have ht : (octS N W).take (W - 1) = low (W - 1) N := by
    unfold octS
    rw [List.take_append_of_le_length (by rw [low_length]; exact Nat.le_refl _), List.take_of_length_le (by rw [low_length]; exact Nat.le_refl _)]
  have hg : (octS N W).getLast? = some 0 := by simp [octS]
  rw [octRead, hl, if_neg (by omega), ht, hg, low_all, octVal_low _ _ h3]
  rfl

theorem pick_q (n q : Int) (h : 0 ≤ q) : ∃ N : Nat, pick n (q + 1) = N ∧ (N : Int) ≤ q := by
  have ⟨p1, p2⟩ := pick_bd n (q + 1) (by omega)
  obtain ⟨N, hN⟩ := Int.eq_ofNat_of_zero_le p1
  exact ⟨N, hN, by omega⟩
theorem mostI_bd {W : Nat} (h1 : 2 ≤ W) (h2 : W ≤ 12) : 7 ≤ mostI W ∧ mostI W ≤ 8589934591 := by
  have hp := pow8_le (W := W) (by omega)
  have hpp : 8 ^ 1 ≤ 8 ^ (W - 1) := Nat.pow_le_pow_right (by omega) (by omega)
  rw [mostI_nat]
  omega
theorem lt_of_most {N W : Nat} (h : (N : Int) ≤ mostI W) : N < 8 ^ (W - 1) := by
  rw [mostI_nat] at h
  omega
theorem pick_width (w : Int) (m : Int) (hm : 1 ≤ m) (_hm2 : m ≤ 11) : ∃ W : Nat, pick w m = (W : Int) - 2 ∧ 2 ≤ W ∧ (W : Int) < 2 + m := by
  have ⟨p1, p2⟩ := pick_bd w m hm
  refine ⟨(2 + pick w m).toNat, ?_, ?_, ?_⟩ <;> omega

/-! ### order -/
theorem bytesLess_self (z : List UInt8) : Op.bytesLess z z = false := by
  induction z with
  | nil => rfl
  | cons c z ih => simp [Op.bytesLess, ih]
theorem bytesLess_append (z : List UInt8) : ∀ x y : List UInt8, x.length = y.length → Op.bytesLess (x ++ z) (y ++ z) = Op.bytesLess x y
  | [], [], _ => by simp [bytesLess_self, Op.bytesLess]
  | [], _ :: _, h => by simp at h
  | _ :: _, [], h => by simp at h
  | a :: x, b :: y, h => by
    simp only [List.cons_append, Op.bytesLess]
    rw [bytesLess_append z x y (by simpa using h)]
theorem dig_lt (a b : Nat) (ha : a < 8) (hb : b < 8) : (UInt8.ofNat (48 + a) < UInt8.ofNat (48 + b)) ↔ a < b := by
  rw [UInt8.lt_iff_toNat_lt, UInt8.toNat_ofNat', UInt8.toNat_ofNat']; omega
theorem dig_eq (a b : Nat) (ha : a < 8) (hb : b < 8) : (UInt8.ofNat (48 + a) = UInt8.ofNat (48 + b)) ↔ a = b := by
  constructor
  · intro h
    have := congrArg UInt8.toNat h
    rw [UInt8.toNat_ofNat', UInt8.toNat_ofNat'] at this; omega
  · rintro rfl; rfl
theorem bytesLess_low (j a b : Nat) : Op.bytesLess (low j a) (low j b) = decide (a % 8 ^ j < b % 8 ^ j) := by
  induction j with
  | zero => simp [low, Op.bytesLess, Nat.mod_one]
  | succ j ih =>
    have ea : a % 8 ^ (j + 1) = a % 8 ^ j + 8 ^ j * (a / 8 ^ j % 8) := by rw [Nat.pow_succ, Nat.mod_mul]
    have eb : b % 8 ^ (j + 1) = b % 8 ^ j + 8 ^ j * (b / 8 ^ j % 8) := by rw [Nat.pow_succ, Nat.mod_mul]
    have hp : 0 < 8 ^ j := Nat.pow_pos (by omega)
    have ra : a % 8 ^ j < 8 ^ j := Nat.mod_lt _ hp
    have rb : b % 8 ^ j < 8 ^ j := Nat.mod_lt _ hp
    have da : a / 8 ^ j % 8 < 8 := Nat.mod_lt _ (by omega)
    have db : b / 8 ^ j % 8 < 8 := Nat.mod_lt _ (by omega)
    simp only [low, Op.bytesLess]
    rw [ih, ea, eb, Bool.eq_iff_iff]
    simp only [Bool.or_eq_true, decide_eq_true_eq, Bool.and_eq_true, beq_iff_eq]
    rw [dig_lt _ _ da db, dig_eq _ _ da db]
    generalize a % 8 ^ j = x at *
    generalize b % 8 ^ j = y at *
    generalize a / 8 ^ j % 8 = d at *
    generalize b / 8 ^ j % 8 = f at *
    generalize 8 ^ j = P at *
    rcases Nat.lt_trichotomy d f with h | h | h
    · have := Nat.mul_le_mul_left P (show d + 1 ≤ f from h)
      rw [Nat.mul_add] at this
      constructor
      · intro _; omega
      · intro _; exact .inl h
    · subst h
      constructor
      · rintro (h | ⟨_, h⟩) <;> omega
      · intro h; exact .inr ⟨rfl, by omega⟩
    · have := Nat.mul_le_mul_left P (show f + 1 ≤ d from h)
      rw [Nat.mul_add] at this
      constructor
      · rintro (h | ⟨h, _⟩) <;> omega
      · intro h; omega
theorem bytesLess_octS (a b W : Nat) (ha : a < 8 ^ (W - 1)) (hb : b < 8 ^ (W - 1)) : Op.bytesLess (octS a W) (octS b W) = decide (a < b) := by
  unfold octS
  rw [bytesLess_append _ _ _ (by rw [low_length, low_length]), bytesLess_low, Nat.mod_eq_of_lt ha, Nat.mod_eq_of_lt hb]
theorem octS_inj (a b W : Nat) (h1 : 2 ≤ W) (h2 : W ≤ 12) (ha : a < 8 ^ (W - 1)) (hb : b < 8 ^ (W - 1)) (h : octS a W = octS b W) : a = b := by
  have e1 := octRead_octS a W h1 h2 ha
  rw [h, octRead_octS b W h1 h2 hb] at e1
  have := congrArg Prod.fst e1
  simp at this
  omega

theorem toList_mk (l : List UInt8) : (ByteArray.mk l.toArray).toList = l := by rw [Lib.toList_data]

/-! ### one digit more -/
theorem octS_over (W : Nat) (h : 2 ≤ W) : ∃ r, octS (8 ^ (W - 1)) (W + 1) = 49 :: 48 :: r := by
  have e : W + 1 - 1 = (W - 2) + 1 + 1 := by omega
  have e2 : W - 1 = W - 2 + 1 := by omega
  have hp : 0 < 8 ^ (W - 2) := Nat.pow_pos (by omega)
  have d1 : 8 ^ (W - 1) / 8 ^ (W - 2 + 1) % 8 = 1 := by
    rw [e2, Nat.div_self (Nat.pow_pos (by omega))]
  have d2 : 8 ^ (W - 1) / 8 ^ (W - 2) % 8 = 0 := by
    rw [e2, Nat.pow_succ, Nat.mul_comm, Nat.mul_div_cancel _ hp]
  refine ⟨low (W - 2) (8 ^ (W - 1)) ++ [0], ?_⟩
  unfold octS
  rw [e, low, low, d1, d2]
  rfl

end
section
open Go.RowKit

/-- the cells of a new array that bears these bytes first -/
def Bears (C : Array Value) (l : List UInt8) : Prop := ∀ j (hj : j < l.length), C[j]? = some (.int .u8 (l[j].toNat : Int))
theorem Bears.set_ {C : Array Value} {l : List UInt8} (h : Bears C l) (k : Nat) (c : UInt8) : Bears (C.setIfInBounds k (.int .u8 c.toNat)) (l.set k c) := by
  intro j hj
  rw [List.length_set] at hj
  have h1 := h j hj
  rw [Array.getElem?_setIfInBounds, List.getElem_set]
  by_cases e : k = j
  · subst e
    have : k < C.size := (Array.getElem?_eq_some_iff.1 h1).1
    simp [this]
  · simp [e, h1]
theorem conv_sb (l : List UInt8) (w : World) (hl : l.length ≤ 4611686018427387904) : ∃ (c n : Nat) (C : Array Value), l.length ≤ c ∧ c ≤ maxLen ∧ C.size = n ∧ l.length ≤ n ∧ Bears C l ∧
    (convert 9 26 (.string (bs l))).run Tryd.prog w = .ok (.slice (some ⟨w.heap.size, 0, none⟩) l.length c) (w.drew.alloc (.cells C 5 (n, n + 1))) := by
  have h := run_bytes_of_string (P := Tryd.prog) w 9 26 5 (bs l) Tryd.underlying9 Tryd.underlying26 Tryd.underlying5
  rw [bs_size] at h
  refine ⟨_, _, bytesRow (bs l) (grownCap w l.length 0 5), grownCap_ge _ _ _ _, grownCap_le_maxLen _ _ _ _ (by unfold maxLen; omega), rfl, ?_, fun j hj => ?_, h⟩
  · unfold bytesRow
    have : (bs l).data.size = l.length := bs_size l
    simp [this]
  · have hj' : j < (bs l).data.size := by have : (bs l).data.size = l.length := bs_size l; omega
    rw [bytesRow_at (bs l) _ j hj']
    rfl
/-- a block that bears bytes, made into a string -/
theorem conv_bs (l : List UInt8) (w : World) (g c : Nat) (C : Array Value) (t : TypeId) (fr : Nat × Nat) (h : w.heap[g]? = some (.cells C t fr)) (hC : Bears C l) :
    (convert 26 9 (.slice (some ⟨g, 0, none⟩) l.length c)).run Tryd.prog w = .ok (.string (bs l)) w := by
  refine run_convert_bytes_back (P := Tryd.prog) w 26 9 5 ⟨g, 0, none⟩ c l Tryd.underlying26 Tryd.underlying5 Tryd.underlying9 (fun j hj => ?_)
  have e : (⟨g, 0, none⟩ : Addr).add j = ⟨g, j, none⟩ := by unfold Addr.add; split <;> simp_all
  rw [e, cell_of_row w g j C t fr h]
  exact hC j hj
/-! ### bytes in memory -/
theorem ofB_u8 (l : List UInt8) : ∀ n ∈ l.map ofB, U8 n := by
  intro n hn
  obtain ⟨b, _, rfl⟩ := List.mem_map.1 hn
  have := b.toNat_lt
  exact ⟨by unfold ofB; omega, by unfold ofB; omega⟩
theorem of_u8 : ∀ l : List Int, (∀ n ∈ l, U8 n) → ∃ b : List UInt8, l = b.map ofB
  | [], _ => ⟨[], rfl⟩
  | n :: l, h => by
    obtain ⟨b, rfl⟩ := of_u8 l (fun x hx => h x (by simp [hx]))
    have hn := h n (by simp)
    refine ⟨UInt8.ofNat n.toNat :: b, ?_⟩
    have : ofB (UInt8.ofNat n.toNat) = n := by
      unfold ofB; rw [UInt8.toNat_ofNat']; have := hn.1; have := hn.2; omega
    rw [List.map_cons, this]
/-- a slice of bytes: nil let in -/
def BytesAt (w : World) (B : Nat) (v : Value) (l : List UInt8) : Prop := IntsAt .u8 w B v (l.map ofB)
theorem conv_str {w : World} {B : Nat} {v : Value} {l : List UInt8} (h : BytesAt w B v l) :
    (convert 26 9 v).run Tryd.prog w = .ok (.string (bs l)) w := by
  obtain ⟨A, c, rfl, h1, h2, h3, hr⟩ := h
  rw [List.length_map]
  rcases A with _ | ad
  · have hl : l = [] := by
      cases l with
      | nil => rfl
      | cons b l =>
        obtain ⟨ad, e, _⟩ := hr.2 (by simp)
        cases e
    subst hl
    exact run_convert_bytes_nil (P := Tryd.prog) w 26 5 Tryd.underlying26 Tryd.underlying5 0 c 9 Tryd.underlying9
  · refine run_convert_bytes_back (P := Tryd.prog) w 26 9 5 ad c l Tryd.underlying26 Tryd.underlying5 Tryd.underlying9 (fun j hj => ?_)
    obtain ⟨ad', e, _, hc⟩ := hr.2 (by rw [List.length_map]; omega)
    cases e
    exact hc j _ (by rw [List.getElem?_map, List.getElem?_map, List.getElem?_eq_getElem hj]; rfl)
/-- a string made into bytes -/
theorem conv_sb_at (l : List UInt8) (w : World) (hl : l.length ≤ 4611686018427387904) : ∃ (v : Value) (W : World),
    (convert 9 26 (.string (bs l))).run Tryd.prog w = .ok v W ∧ BytesAt W W.heap.size v l ∧ Below w.heap.size w W := by
  obtain ⟨c, n, C, h1, h2, h3, h4, h5, h6⟩ := conv_sb l w hl
  refine ⟨_, _, h6, ⟨_, c, by rw [List.length_map], by rw [List.length_map]; exact h1, h2, (fun h => by cases h), ?_⟩, ((Below.refl _ w).drew).alloc (Nat.le_refl _) _⟩
  rw [List.length_map]
  refine ⟨by simp, fun _ => ⟨_, rfl, by simp, fun j u hu => ?_⟩⟩
  have hj : j < l.length := by have := (List.getElem?_eq_some_iff.1 hu).1; simpa using this
  have e : (⟨w.heap.size, 0, none⟩ : Addr).add j = ⟨w.heap.size, j, none⟩ := by unfold Addr.add; split <;> simp_all
  have hc := cell_of_row (w.drew.alloc (.cells C 5 (n, n + 1))) w.heap.size j C 5 (n, n + 1) (heap_alloc_new w.drew _)
  rw [e, hc, h5 j hj]
  rw [List.getElem?_map, List.getElem?_map, List.getElem?_eq_getElem hj] at hu
  exact hu
end
end Go.Proofs.YtmioinfhggbfkaaDoor
