/-
  head.eye.number, text, just at good fields. Condition: what the field's own reader answers.
-/
import Derived.Test.YtnbggojmbdgkmaaDoorEye
namespace Go.Proofs.YtnbggojmbdgkmaaDoor
open Go.RowKit

set_option maxRecDepth 100000 in
set_option maxHeartbeats 400000 in
/-- a number's field that is one -/
theorem number_good (g : Nat) (a b : List UInt8) (n : Nat) (hn : n = a.length) (v : Int) (w : World) (h : Eye w g (a ++ b) 0)
    (hf : ∀ w, Calls Tryd.prog 52 #[.string (bs a)] w fun x w' => x = .returned (.tuple #[.int .i64 v, .int .i64 0]) ∧ Below w.heap.size w w') :
    Calls Tryd.prog 54 #[.pointer (some ⟨g, 0, none⟩), .int .i64 n] w fun x w' => x = .returned (.int .i64 v) ∧ Eye w' g b 0 ∧ Only g w w' := by
  have HT := Lib.hid (take_any g a b 0 n hn w h)
  have HF := Lib.hid hf
  have H1 := Lib.hid (show Eye (w.setCell ⟨g, 0, none⟩ (.string (bs b))) g b 0 from Eye.set0 h b)
  have HB := Lib.hid ((Only.refl g w).set_ 0 (.string (bs b)))
  have hlt := Lib.hid h.lt
  clear hf h hn
  generalize bs a = ba at *
  go_enter Tryd.func54, Tryd.ntmps54
  go_wp2_with fail
  refine HT.out.mono ?_
  rintro e w1 ⟨rfl, hw1⟩
  rw [← hw1] at H1 HB
  clear hw1
  go_wp2_with fail
  refine (HF.out _).mono ?_
  rintro e w2 ⟨rfl, b2⟩
  have H2 := Lib.hid (show Eye w2 g b 0 from H1.out.below b2 H1.out.lt)
  have HB2 := Lib.hid (HB.out.quiet b2)
  clear b2
  go_wp2_with fail
  refine (note_ok g b 0 w2 H2.out).mono ?_
  rintro e w3 ⟨rfl, hw3⟩
  have H3 := Lib.hid (show Eye w3 g b 0 ∧ Only g w w3 from by rw [hw3]; exact ⟨Eye.set1 H2.out 0, HB2.out.set_ 1 _⟩)
  clear hw3
  go_wp2_with fail
  go_ret
  exact ⟨rfl, H3.out.1, H3.out.2⟩
set_option maxRecDepth 100000 in
set_option maxHeartbeats 400000 in
/-- a text's field that is one -/
theorem text_good (g : Nat) (a b : List UInt8) (n : Nat) (hn : n = a.length) (whole : Bool) (v : List UInt8) (w : World) (h : Eye w g (a ++ b) 0)
    (hf : ∀ w, Calls Tryd.prog 96 #[.string (bs a), .bool whole] w fun x w' => x = .returned (.tuple #[.string (bs v), .int .i64 0]) ∧ Below w.heap.size w w') :
    Calls Tryd.prog 53 #[.pointer (some ⟨g, 0, none⟩), .int .i64 n, .bool whole] w fun x w' => x = .returned (.string (bs v)) ∧ Eye w' g b 0 ∧ Only g w w' := by
  have HT := Lib.hid (take_any g a b 0 n hn w h)
  have HF := Lib.hid hf
  have H1 := Lib.hid (show Eye (w.setCell ⟨g, 0, none⟩ (.string (bs b))) g b 0 from Eye.set0 h b)
  have HB := Lib.hid ((Only.refl g w).set_ 0 (.string (bs b)))
  have hlt := Lib.hid h.lt
  clear hf h hn
  generalize bs a = ba at *
  generalize bs v = bv at *
  go_enter Tryd.func53, Tryd.ntmps53
  go_wp2_with fail
  refine HT.out.mono ?_
  rintro e w1 ⟨rfl, hw1⟩
  rw [← hw1] at H1 HB
  clear hw1
  go_wp2_with fail
  refine (HF.out _).mono ?_
  rintro e w2 ⟨rfl, b2⟩
  have H2 := Lib.hid (show Eye w2 g b 0 from H1.out.below b2 H1.out.lt)
  have HB2 := Lib.hid (HB.out.quiet b2)
  clear b2
  go_wp2_with fail
  refine (note_ok g b 0 w2 H2.out).mono ?_
  rintro e w3 ⟨rfl, hw3⟩
  have H3 := Lib.hid (show Eye w3 g b 0 ∧ Only g w w3 from by rw [hw3]; exact ⟨Eye.set1 H2.out 0, HB2.out.set_ 1 _⟩)
  clear hw3
  go_wp2_with fail
  go_ret
  exact ⟨rfl, H3.out.1, H3.out.2⟩
set_option maxRecDepth 100000 in
set_option maxHeartbeats 400000 in
/-- just these bytes, and they lie there -/
theorem just_good (g : Nat) (a b : List UInt8) (w : World) (h : Eye w g (a ++ b) 0) :
    Calls Tryd.prog 57 #[.pointer (some ⟨g, 0, none⟩), .string (bs a)] w fun x w' => x = .returned (.tuple #[]) ∧ Eye w' g b 0 ∧ Only g w w' := by
  have HT := Lib.hid (take_any g a b 0 a.length rfl w h)
  have H1 := Lib.hid (Eye.set0 h b)
  have HB := Lib.hid ((Only.refl g w).set_ 0 (.string (bs b)))
  have hz := bs_size a
  clear h
  generalize bs a = ba at *
  go_enter Tryd.func57, Tryd.ntmps57
  go_wp2_with fail
  refine HT.out.mono ?_
  rintro e w1 ⟨rfl, hw1⟩
  rw [← hw1] at H1 HB
  clear hw1
  go_wp2_with fail
  refine bodyPost_end (results_none rfl _ _ _) rfl ?_
  exact ⟨rfl, H1.out, HB.out⟩
end Go.Proofs.YtnbggojmbdgkmaaDoor
