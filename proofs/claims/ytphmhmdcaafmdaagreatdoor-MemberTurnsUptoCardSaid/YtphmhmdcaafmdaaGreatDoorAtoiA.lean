/-
  strconv.Atoi at whatever text there is. Condition: the library's two errors lie as Go laid them.
-/
import Derived.Test.YtphmhmdcaafmdaaGreatDoorRecsQ
namespace Go.Proofs.YtphmhmdcaafmdaaGreatDoor
set_option linter.all false
open Go.RowKit
theorem err_cells {P : Program} {w : World} {t : TypeId} {ms : Array (String × TypeId)} {cs : List Value} {s : String} {d : DataW Unit} {p : List MemPlace} {fuel : Nat} (ht : P.underlying t = some (.interface ms))
    (h : DataW.trod (fun _ => ()) P w 0 (fun _ => true) false fuel t cs = some (.iface s d, p)) : ∃ u v, cs = [.iface u v] := by
  cases fuel with
  | zero => simp [DataW.trod] at h
  | succ fuel =>
    rcases cs with _ | ⟨c, _ | ⟨c2, r⟩⟩
    · simp [DataW.trod, ht] at h
    · cases c with
      | iface u v => exact ⟨u, v, rfl⟩
      | _ => simp [DataW.trod, ht] at h
    · cases c <;> simp [DataW.trod, ht] at h
/-- a variable holds an error -/
def ErrIs (w : World) (g : Nat) : Prop := ∃ u v, w.cell? ⟨g, 0, none⟩ = some (.iface u v)
theorem ErrIs.below {w w' : World} {g : Nat} (h : ErrIs w g) (hb : Below w.heap.size w w') : ErrIs w' g := by
  obtain ⟨u, v, hc⟩ := h
  have hl : g < w.heap.size := by
    rcases Nat.lt_or_ge g w.heap.size with h | h
    · exact h
    · simp [World.cell?, Array.getElem?_eq_none h] at hc
  exact ⟨u, v, (hb.cell (p := ⟨g, 0, none⟩) hl).trans hc⟩
def Sent (w : World) : Prop := ErrIs w 1 ∧ ErrIs w 2
theorem Sent.below {w w' : World} (h : Sent w) (hb : Below w.heap.size w w') : Sent w' := ⟨h.1.below hb, h.2.below hb⟩
def isSyn (x : String × DataW Unit) : Bool := x.1 == "strconv.ErrSyntax"
def isRng (x : String × DataW Unit) : Bool := x.1 == "strconv.ErrRange"
theorem ErrIs.of_head {W : World} {name : String} {s : String} {d : DataW Unit} {g : Nat} {t : TypeId} {ms : Array (String × TypeId)} (hg : Tryz.prog.globalNamed name = some g) (hty : (Tryz.prog.globals[g]?).map (·.type) = some t) (ht : Tryz.prog.underlying t = some (.interface ms))
    (h : laidMet Tryz.prog [(name, .iface s d)] W) : ErrIs W g := by
  obtain ⟨ps, ⟨g', t', cs, fuel, p, q, hg', ht', hvar, hd, _, _⟩, _⟩ := h
  obtain rfl := Option.some.inj (hg.symm.trans hg')
  obtain rfl := Option.some.inj (hty.symm.trans ht')
  obtain ⟨u, v, e⟩ := err_cells ht hd
  have := World.var?_cell hg hvar 0
  refine ⟨u, v, this.trans ?_⟩
  have e2 : cs = #[.iface u v] := by rw [← Array.toArray_toList (xs := cs), e]
  rw [e2]
  rfl
theorem Sent.of_laid {l : List (String × DataW Unit)} {W : World} {s1 s2 : String} {d1 d2 : DataW Unit} (h : laidMetH Tryz.prog l W) (hx : l.filter isSyn = [("strconv.ErrSyntax", .iface s1 d1)]) (hy : l.filter isRng = [("strconv.ErrRange", .iface s2 d2)])
    (n1 : (DataW.iface s1 d1 : DataW Unit).handleName? = none) (n2 : (DataW.iface s2 d2 : DataW Unit).handleName? = none) : Sent W := by
  have h1 := h.filter isSyn
  have h2 := h.filter isRng
  rw [hx] at h1
  rw [hy] at h2
  refine ⟨ErrIs.of_head (name := "strconv.ErrSyntax") (by kernel_rfl) (t := 132) (by kernel_rfl) Tryz.underlying132 (s := s1) (d := d1) ?_, ErrIs.of_head (name := "strconv.ErrRange") (by kernel_rfl) (t := 132) (by kernel_rfl) Tryz.underlying132 (s := s2) (d := d2) ?_⟩
  · have := (laidMetH_iff.1 h1).1
    simpa [n1] using this
  · have := (laidMetH_iff.1 h2).1
    simpa [n2] using this
def atoiV (l : List UInt8) : Int := match Lib.atoiAll l with | .ok v => v | .«syntax» => 0 | .range => Lib.atoiSat l
theorem Atoi_all (l : List UInt8) (hl : l.length ≤ 100000) (w : World) (hs : Sent w) :
    Calls Tryz.prog 109 #[.string (bs l)] w fun e w' => ∃ ev : Value, e = .returned (.tuple #[.int .i64 (atoiV l), ev]) ∧ Below w.heap.size w w' := by
  have hz := bs_size l
  obtain ⟨⟨u1, v1, h1⟩, ⟨u2, v2, h2⟩⟩ := hs
  unfold atoiV
  cases hc : Lib.atoiAll l with
  | ok v =>
    refine (Tryz.strconv_Atoi_ok (bs l) (by omega) v (by rw [bs_data]; exact hc) w).mono fun e w' ⟨q1, q2⟩ => ⟨_, q1, ?_⟩
    rcases q2 with rfl | ⟨t, rfl⟩
    · exact Below.refl _ _
    · exact Lib.bytesWorld_below _ _ _
  | «syntax» =>
    exact (Tryz.strconv_Atoi_syntax (bs l) (by omega) (by rw [bs_data]; exact hc) _ w h1 (.inr ⟨_, _, rfl⟩)).mono fun e w' ⟨N, q1, _, _, q2⟩ => ⟨_, q1, q2⟩
  | range =>
    exact (Tryz.strconv_Atoi_range (bs l) (by omega) (by rw [bs_data]; exact hc) _ w h2 (.inr ⟨_, _, rfl⟩)).mono fun e w' ⟨N, q1, _, _, q2⟩ => by
      rw [bs_data] at q1
      exact ⟨_, q1, q2⟩
end Go.Proofs.YtphmhmdcaafmdaaGreatDoor
