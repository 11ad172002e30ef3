/-
  The law DiffBack: what it computes is true. Condition: raw things of the second form's bound.
-/
import Derived.Test.YtpanjldionaaiaaDoorOf
import Derived.Test.YtpanjldionaaiaaDoorTree
import Derived.Test.YtpanjldionaaiaaDoorApply
namespace Go.Proofs.YtpanjldionaaiaaDoor
set_option linter.all false
open Go.RowKit
theorem nil_ok : TreeOk ([] : List NodeP) := ⟨by simp, by simp, by simp, by simp, by simp⟩
theorem diffP_small : diffP [] smallP = smallP.map fun y => (2, y) := by rw [diffP]
theorem ChOwn.read {w : World} {base : Nat} {v : Value} {l : List (Int × NodeP)} (h : ChOwn w base v l) : ∃ A c, v = .slice A l.length c ∧ l.length ≤ c ∧ c ≤ maxLen := by
  obtain ⟨_, _, h1, _⟩ := h
  obtain ⟨A, c, e, h2, h3, _⟩ := ownsRow_read h1
  exact ⟨A, c, e, h2, h3⟩
set_option maxRecDepth 100000 in
set_option maxHeartbeats 8000000 in
theorem DiffBack_walk (w : World) (hsh : w.ShapedOpen Tryd.prog) (v : Value) (l : List RawS) (hl : RawsAt w w.heap.size v l) (hok : ∀ x ∈ l, RawOk x) (hn : l.length ≤ 1048576) (v2 : Value) (m : List RawS) (hl2 : RawsAt w w.heap.size v2 m) (hok2 : ∀ x ∈ m, RawOk x) (hn2 : m.length ≤ 1048576) :
    Calls Tryd.prog 3 #[v, v2] w fun e w' => e = .returned (.bool true) ∧ Below w.heap.size w w' := by
  have hm := ML.of_shaped hsh
  clear hsh
  have HT := Lib.hid (fun (_ : Unit) => Tree_any l v 15 w hm hl hok hn (by omega))
  have HT2 : Hid (∀ W, Below w.heap.size w W → Calls Tryd.prog 4 #[v2, .int .i64 15] W fun e w' => ∃ tv, e = .returned tv ∧ NodesOwn w' W.heap.size tv (treeP m 15) ∧ Below W.heap.size W w') := Lib.hid (fun W hb => Tree_any m v2 15 W (hm.below hb) ((hl2.below hb).more hb.size) hok2 hn2 (by omega))
  have hta := treeP_ok l 15 (by omega)
  have htb := treeP_ok m 15 (by omega)
  have hna := treeP_length l 15
  have hnb := treeP_length m 15
  have HOF : Hid (∀ W x y (a b : List NodeP), Below w.heap.size w W → NodesAt W x a → NodesAt W y b → TreeOk a → TreeOk b → Calls Tryd.prog 5 #[x, y] W fun e w' => ∃ cv, e = .returned (.tuple #[cv, .int .i64 0]) ∧ ChOwn w' W.heap.size cv (diffP a b) ∧ Below W.heap.size W w') := Lib.hid (fun W x y a b hb h1 h2 h3 h4 => Of_any x y a b W (hm.below hb) h1 h2 h3 h4)
  have HAP : Hid (∀ W x y (a b : List NodeP), Below w.heap.size w W → NodesAt W x a → ChOwn W 0 y (diffP a b) → TreeOk a → TreeOk b → a.length ≤ 15 → b.length ≤ 15 → Calls Tryd.prog 6 #[x, y] W fun e w' => ∃ tv, e = .returned (.tuple #[tv, .int .i64 0]) ∧ NodesOwn w' W.heap.size tv b ∧ Below W.heap.size W w') := Lib.hid (fun W x y a b hb h1 h2 h3 h4 h5 h6 => Apply_any x y a b W (fun W' hb' => hm.below (hb.trans (hb'.mono hb.size))) h1 h2 h3 h4 h5 h6)
  clear hm hl hok hn hl2 hok2 hn2
  generalize treeP l 15 = a at *
  generalize treeP m 15 = b at *
  have HTA := Lib.hid (And.intro hta hna)
  have HTB := Lib.hid (And.intro htb hnb)
  clear hta htb hna hnb
  go_enter Tryd.func3, Tryd.ntmps3
  go_wp2_with fail
  refine (HT.out ()).mono ?_
  rintro e' w1 ⟨av, rfl, hav, b1⟩
  have B1 := Lib.hid b1
  have HA1 := Lib.hid hav.at_
  clear b1 hav HT
  go_wp2_with fail
  refine (HT2.out _ B1.out).mono ?_
  rintro e' w2 ⟨bv, rfl, hbv, b2⟩
  have B2 := Lib.hid (B1.out.trans (b2.mono B1.out.size))
  have HA2 := Lib.hid (HA1.out.below b2)
  have HB2 := Lib.hid hbv.at_
  clear b2 hbv HT2 HA1
  go_wp2_with fail
  refine (HOF.out _ _ _ a b B2.out HA2.out HB2.out HTA.out.1 HTB.out.1).mono ?_
  rintro e' w3 ⟨xv, rfl, hxv, b3⟩
  have B3 := Lib.hid (B2.out.trans (b3.mono B2.out.size))
  have HA3 := Lib.hid (HA2.out.below b3)
  have HB3 := Lib.hid (HB2.out.below b3)
  have HX3 := Lib.hid (hxv.mono (Nat.zero_le _))
  obtain ⟨A3, c3, rfl, -⟩ := hxv.read
  clear b3 hxv HA2 HB2
  go_wp2_with fail
  refine (HAP.out _ _ _ a b B3.out HA3.out HX3.out HTA.out.1 HTB.out.1 HTA.out.2 HTB.out.2).mono ?_
  rintro e' w4 ⟨yv, rfl, hyv, b4⟩
  have B4 := Lib.hid (B3.out.trans (b4.mono B3.out.size))
  have HB4 := Lib.hid (HB3.out.below b4)
  have HY4 := Lib.hid hyv.at_
  clear b4 hyv HA3 HB3 HX3 HAP
  go_wp2_with fail
  refine (Small_any _).mono ?_
  rintro e' w5 ⟨sv, rfl, hsv, b5⟩
  have B5 := Lib.hid (B4.out.trans (b5.mono B4.out.size))
  have HY5 := Lib.hid (HY4.out.below b5)
  have HB5 := Lib.hid (HB4.out.below b5)
  have HS5 := Lib.hid hsv.at_
  clear b5 hsv HY4 HB4
  go_wp2_with fail
  refine (HOF.out _ _ _ [] smallP B5.out (NodesAt.nil _) HS5.out nil_ok small_ok).mono ?_
  rintro e' w6 ⟨zv, rfl, hzv, b6⟩
  have B6 := Lib.hid (B5.out.trans (b6.mono B5.out.size))
  have HSAME := Lib.hid (SameTree_any _ _ b b w6 (HY5.out.below b6) (HB5.out.below b6))
  rw [decide_eq_true (rfl : b = b)] at HSAME
  rw [diffP_small] at hzv
  obtain ⟨A6, c6, rfl, -⟩ := hzv.read
  rw [show (smallP.map fun y => ((2 : Int), y)).length = 3 from rfl]
  clear b6 hzv HY5 HB5
  go_wp2_with fail
  refine HSAME.out.mono ?_
  rintro e' w7 ⟨rfl, b7⟩
  have B7 := Lib.hid (B6.out.trans (b7.mono B6.out.size))
  clear b7
  go_wp2_with fail
  go_ret
  exact ⟨rfl, B7.out⟩
end Go.Proofs.YtpanjldionaaiaaDoor
