/-
  From a row said alone to the same row said with 'leaving', and its tied card with 'goes'. No condition.
-/
import Derived.Test.YtphmhmdcaafmdaaGreatDoorWords
import Derived.Leaving
import Derived.ClaimOpenTies
import Derived.SevenTiedAt
namespace Go.Proofs.YtphmhmdcaafmdaaGreatDoor
set_option linter.all false
theorem leaving_of_alone {p : Pinned} {s : OpenSpec} {c : OpenClaim} (hstart : c.start = .entering) (hst : c.stops = []) (hl : c.leaving = true) (hag : c.again = false) (h : ({ c with leaving := false } : OpenClaim).holds p s) : c.holds p s := by
  obtain ⟨a1, a2, a3, a4, a5, a6, a7, a8, f, fn, b1, b2, b3, b4, b5, b6, b7, b8, b9, b10, b11, b12, b13, b14, b15, b16, b17, b18, b19, b20, hos, L, hL, hall⟩ := h
  have hw : c.wf s = true := by
    clear hall hL hos a2 a3 a4 a5 a6 a7 a8 b1 b2 b3 b4 b5 b6 b7 b8 b9 b10 b11 b12 b13 b14 b15 b16 b17 b18 b19 b20 hstart hst hl
    cases c
    simp only at hag
    subst hag
    exact a1
  refine ⟨hw, a2, a3, a4, a5, a6, a7, a8, f, fn, b1, b2, b3, b4, b5, b6, b7, b8, b9, b10, b11, b12, b13, b14, b15, b16, b17, b18, b19, b20, hos, L, hL, fun os hw hq H enc inj => ?_⟩
  have F := hall os hw hq H enc inj
  unfold OpenClaim.form at F ⊢
  dsimp only at F ⊢
  rw [hstart, hst] at F ⊢
  refine fun Fi => ReturnsInOpen.mono (fun m w t q => ?_) (fun _ x => x) (F Fi)
  unfold OpenClaim.atReturn at q ⊢
  rw [hl]
  exact ⟨q.2.1, onlyLeaving_of_quiet q.1, q.2.2⟩
theorem tied_goes (Lk : Looks) {p : Pinned} {s : OpenSpec} {c : OpenClaim} (kinds : List LaidKind) (tests : Bool) (har : Bool × String) (lk goes : Bool) (hc : c.holds p s) (hw : c.wfByText s = true) (htie : c.laidByTextAt Lk p kinds tests)
    (hst : c.start = .entering) (hnb : c.noBlocks = false ∧ c.again = false) (hm : p.checked.prog.mainIs = some (har.1, har.2.toList)) (hn : (!har.1 && har.2.isEmpty && !lk) = false)
    (hl : ∀ f fn, p.checked.prog.funcNamed c.func = some f → p.checked.prog.funcs[f]? = some fn → lk = p.checked.prog.looks [] ∧ ∀ (j : Nat) t, fn.params[j]? = some t → p.checked.prog.wantsStandIn t = false)
    (hg : goes = c.goesBy p.checked.prog) :
    Claim7.holds p (.plain s) { stood := { row := c, standIns := [], harness := har, looks := lk }, kinds := [], alts := [], laidByText := true, laidKinds := kinds, laidTests := tests, laidLooks := Lk, goes := goes } := by
  have h6 : Claim7.isSixth { stood := { row := c, standIns := [], harness := har, looks := lk }, kinds := [] } = false := by simpa [Claim7.isSixth] using hn
  exact ⟨Claim7.tied_new_at Lk kinds tests (Claim7.new_of_sixth hc har lk hst hnb hm h6 hl) hw, (fun D hD => by cases hD), htie, (fun h => by cases h), hg⟩
end Go.Proofs.YtphmhmdcaafmdaaGreatDoor
