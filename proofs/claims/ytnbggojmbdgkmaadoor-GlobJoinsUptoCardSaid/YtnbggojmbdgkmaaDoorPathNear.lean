/-
  The law PathNear: what it computes is true. Condition: raw things of the second form's bound.
-/
import Derived.Test.YtnbggojmbdgkmaaDoorPaths
import Derived.Test.YtnbggojmbdgkmaaDoorGrowP
import Derived.Deep.QuietTactic
import Derived.BigQuiet
namespace Go.Proofs.YtnbggojmbdgkmaaDoor
open Go.RowKit

theorem pathsL_ok (l : List RawS) (most : Nat) : ∀ p ∈ pathsL l most, PartsOk p ∧ p.length ≤ 400 := fun p hp => by
  unfold pathsL at hp
  rcases List.mem_cons.1 hp with rfl | hp
  · exact ⟨⟨by simp, by decide⟩, by simp⟩
  · obtain ⟨x, hx, rfl⟩ := List.mem_map.1 hp
    exact treeP_parts l most x hx
/-- one path, picked -/
theorem pick_path {l : List (List UInt8)} (hl : 1 ≤ l.length) (hl2 : l.length ≤ 41) (a : Int) (ha : I64 a) : ∃ k : Nat, k < l.length ∧ (∀ w, Calls Tryd.prog 17 #[.int .i64 a, .int .i64 l.length] w fun e w' => e = .returned (.int .i64 k) ∧ ∃ n, w' = w.drewN n) := by
  obtain ⟨k, hk, bk⟩ := pick_nat a l.length hl
  refine ⟨k, bk, fun w => ?_⟩
  have h := picked_any a l.length ha (by omega) (by omega) w
  rw [hk] at h
  exact h.mono fun e w' ⟨h1, h2⟩ => ⟨h1, 0, h2.symm⟩
set_option maxRecDepth 100000 in
set_option maxHeartbeats 4000000 in
theorem PathNear_walk (w : World) (hsh : w.ShapedOpen Tryd.prog) (v : Value) (l : List RawS) (hl : RawsAt w w.heap.size v l) (hok : ∀ x ∈ l, RawOk x) (hn : l.length ≤ 1048576) (a : Int) (ha : I64 a) (b : Int) (hb : I64 b) (c : Int) (hc : I64 c) :
    Calls Tryd.prog 7 #[v, .int .i64 a, .int .i64 b, .int .i64 c] w fun e w' => e = .returned (.bool true) ∧ Below w.heap.size w w' := by
  have hm := ML.of_shaped hsh
  clear hsh
  have HP := Lib.hid (fun (_ : Unit) => paths_any l v 20 w hm hl hok hn (by omega))
  have hpl := pathsL_length l 20
  have hpo := pathsL_ok l 20
  have HML : Hid (∀ W, Below w.heap.size w W → ML W) := Lib.hid (fun W hb => hm.below hb)
  clear hm hl hok hn
  generalize pathsL l 20 = P at *
  obtain ⟨hp1, hp2⟩ := hpl
  obtain ⟨i, hi, Pi⟩ := pick_path hp1 (by omega) a ha
  obtain ⟨j, hj, Pj⟩ := pick_path hp1 (by omega) b hb
  obtain ⟨k, hk, Pk⟩ := pick_path hp1 (by omega) c hc
  have HPi := Lib.hid Pi
  have HPj := Lib.hid Pj
  have HPk := Lib.hid Pk
  clear Pi Pj Pk
  obtain ⟨⟨od, _⟩, ld⟩ := hpo _ (List.getElem_mem hi)
  obtain ⟨⟨ox, _⟩, lx⟩ := hpo _ (List.getElem_mem hj)
  obtain ⟨⟨oe, _⟩, le⟩ := hpo _ (List.getElem_mem hk)
  clear hpo
  have HC : Hid (∀ (x y : List UInt8) W, x.length ≤ 400 → y.length ≤ 400 → Below w.heap.size w W → Calls Tryd.prog 26 #[.string (bs x), .string (bs y)] W fun e w' => e = .returned (.int .i64 (cmpP x y)) ∧ Below W.heap.size W w') := Lib.hid (fun x y W hx hy hW => Compare_any x y W (by omega) (by omega) (HML.out W hW))
  have HI : Hid (∀ (x y : List UInt8) W, y.length ≤ 400 → Calls Tryd.prog 27 #[.string (bs x), .string (bs y)] W fun e w' => e = .returned (.bool (inB x y)) ∧ W = w') := Lib.hid (fun x y W hy => by
    have h := In_any (bs x) (bs y) (by rw [bs_size]; omega) W
    rw [bs_data, bs_data] at h
    exact h)
  have k0 : cmpP [97] [97, 47, 98] = -1 := by decide
  have k1 : cmpP [97, 47, 98] [97, 33] = -1 := by decide
  have HC0 : Hid (∀ W, Below w.heap.size w W → Calls Tryd.prog 26 #[.string ⟨#[97]⟩, .string ⟨#[97, 47, 98]⟩] W fun e w' => e = .returned (.int .i64 (-1)) ∧ Below W.heap.size W w') := Lib.hid (fun W hW => by rw [← k0]; exact HC.out [97] [97, 47, 98] W (by decide) (by decide) hW)
  have HC1 : Hid (∀ W, Below w.heap.size w W → Calls Tryd.prog 26 #[.string ⟨#[97, 47, 98]⟩, .string ⟨#[97, 33]⟩] W fun e w' => e = .returned (.int .i64 (-1)) ∧ Below W.heap.size W w') := Lib.hid (fun W hW => by rw [← k1]; exact HC.out [97, 47, 98] [97, 33] W (by decide) (by decide) hW)
  clear k0 k1
  obtain ⟨d, hd⟩ : ∃ d, d = P[i] := ⟨_, rfl⟩
  obtain ⟨x, hx⟩ : ∃ x, x = P[j] := ⟨_, rfl⟩
  obtain ⟨e, he⟩ : ∃ e, e = P[k] := ⟨_, rfl⟩
  rw [← hd] at od ld
  rw [← hx] at ox lx
  rw [← he] at oe le
  have HDX := Lib.hid (And.intro hd (And.intro hx he))
  clear hd hx he
  have hkey : (inB e d = false) ∨ (inB e d = true ∧ cmpP d e = -1 ∧ ((0 ≤ cmpP d x) ∨ (cmpP d x < 0 ∧ 0 ≤ cmpP x e) ∨ (cmpP d x < 0 ∧ cmpP x e < 0 ∧ inB x d = true))) := by
    cases h : inB e d with
    | false => exact .inl rfl
    | true =>
      refine .inr ⟨rfl, near_less od h, ?_⟩
      by_cases h1 : cmpP d x < 0
      · by_cases h2 : cmpP x e < 0
        · exact .inr (.inr ⟨h1, h2, near_in od ox h h1 h2⟩)
        · exact .inr (.inl ⟨h1, by omega⟩)
      · exact .inl (by omega)
  have HIed := Lib.hid (fun W => HI.out e d W ld)
  have HIxd := Lib.hid (fun W => HI.out x d W ld)
  have HCde := Lib.hid (fun W => HC.out d e W ld le)
  have HCdx := Lib.hid (fun W => HC.out d x W ld lx)
  have HCxe := Lib.hid (fun W => HC.out x e W lx le)
  clear HI HC od ox oe
  generalize inB e d = b1 at *
  generalize inB x d = b2 at *
  generalize cmpP d e = c1 at *
  generalize cmpP d x = c2 at *
  generalize cmpP x e = c3 at *
  go_enter Tryd.func7, Tryd.ntmps7
  go_wp2_with fail
  refine (HP.out ()).mono ?_
  rintro e' w1 ⟨pv, rfl, hpv, b1'⟩
  obtain ⟨gd, cd, rfl, hcd1, hcd2, -, hdc⟩ := hpv.at_ hp1
  unfold maxLen at hcd2
  have e1 := hdc i hi
  have e2 := hdc j hj
  have e3 := hdc k hk
  obtain ⟨hd, hx, he⟩ := HDX.out
  rw [← hd] at e1
  rw [← hx] at e2
  rw [← he] at e3
  have B1 := Lib.hid b1'
  clear hpv hdc hd hx he b1'
  generalize bs d = bd at *
  generalize bs x = bx at *
  generalize bs e = be at *
  go_upto_region 2 with fail
  go_quiet ((go_at_call 17; first | (with_reducible exact Calls.quiet_of (HPi.out _)) | (with_reducible exact Calls.quiet_of (HPj.out _)) | (with_reducible exact Calls.quiet_of (HPk.out _))))
  rcases hkey with rfl | ⟨rfl, rfl, h1 | ⟨h1, h2⟩ | ⟨h1, h2, rfl⟩⟩
  · go_wp2_with fail
    refine (HC0.out _ (below_drewN B1.out _)).mono ?_
    rintro e' w3 ⟨rfl, d3⟩
    have B3 := Lib.hid ((below_drewN B1.out _).trans (d3.mono (below_drewN B1.out _).size))
    clear d3
    go_wp2_with fail
    refine (HC1.out _ B3.out).mono ?_
    rintro e' w4 ⟨rfl, d4⟩
    have B4 := Lib.hid (B3.out.trans (d4.mono B3.out.size))
    clear d4
    go_wp2_with fail
    refine (HIed.out _).mono ?_
    rintro e' w' ⟨rfl, rfl⟩
    go_wp2_with fail
    refine (HIed.out _).mono ?_
    rintro e' w' ⟨rfl, rfl⟩
    go_wp2_with fail
    go_ret
    exact ⟨rfl, B4.out⟩
  · have t1 : decide ((0 : Int) ≤ c2) = true := decide_eq_true h1
    go_wp2_with fail
    refine (HC0.out _ (below_drewN B1.out _)).mono ?_
    rintro e' w3 ⟨rfl, d3⟩
    have B3 := Lib.hid ((below_drewN B1.out _).trans (d3.mono (below_drewN B1.out _).size))
    clear d3
    go_wp2_with fail
    refine (HC1.out _ B3.out).mono ?_
    rintro e' w4 ⟨rfl, d4⟩
    have B4 := Lib.hid (B3.out.trans (d4.mono B3.out.size))
    clear d4
    go_wp2_with fail
    refine (HIed.out _).mono ?_
    rintro e' w' ⟨rfl, rfl⟩
    go_wp2_with fail
    refine (HCde.out _ B4.out).mono ?_
    rintro e' w5 ⟨rfl, d5⟩
    have B5 := Lib.hid (B4.out.trans (d5.mono B4.out.size))
    clear d5
    go_wp2_with fail
    refine (HIed.out _).mono ?_
    rintro e' w' ⟨rfl, rfl⟩
    go_wp2_with fail
    refine (HCdx.out _ B5.out).mono ?_
    rintro e' w6 ⟨rfl, d6⟩
    have B6 := Lib.hid (B5.out.trans (d6.mono B5.out.size))
    clear d6
    go_wp2_with fail
    go_ret
    exact ⟨rfl, B6.out⟩
  · have t1 : decide ((0 : Int) ≤ c2) = false := decide_eq_false (by omega)
    have t2 : decide ((0 : Int) ≤ c3) = true := decide_eq_true h2
    go_wp2_with fail
    refine (HC0.out _ (below_drewN B1.out _)).mono ?_
    rintro e' w3 ⟨rfl, d3⟩
    have B3 := Lib.hid ((below_drewN B1.out _).trans (d3.mono (below_drewN B1.out _).size))
    clear d3
    go_wp2_with fail
    refine (HC1.out _ B3.out).mono ?_
    rintro e' w4 ⟨rfl, d4⟩
    have B4 := Lib.hid (B3.out.trans (d4.mono B3.out.size))
    clear d4
    go_wp2_with fail
    refine (HIed.out _).mono ?_
    rintro e' w' ⟨rfl, rfl⟩
    go_wp2_with fail
    refine (HCde.out _ B4.out).mono ?_
    rintro e' w5 ⟨rfl, d5⟩
    have B5 := Lib.hid (B4.out.trans (d5.mono B4.out.size))
    clear d5
    go_wp2_with fail
    refine (HIed.out _).mono ?_
    rintro e' w' ⟨rfl, rfl⟩
    go_wp2_with fail
    refine (HCdx.out _ B5.out).mono ?_
    rintro e' w6 ⟨rfl, d6⟩
    have B6 := Lib.hid (B5.out.trans (d6.mono B5.out.size))
    clear d6
    go_wp2_with fail
    refine (HCxe.out _ B6.out).mono ?_
    rintro e' w7 ⟨rfl, d7⟩
    have B7 := Lib.hid (B6.out.trans (d7.mono B6.out.size))
    clear d7
    go_wp2_with fail
    go_ret
    exact ⟨rfl, B7.out⟩
  · have t1 : decide ((0 : Int) ≤ c2) = false := decide_eq_false (by omega)
    have t2 : decide ((0 : Int) ≤ c3) = false := decide_eq_false (by omega)
    go_wp2_with fail
    refine (HC0.out _ (below_drewN B1.out _)).mono ?_
    rintro e' w3 ⟨rfl, d3⟩
    have B3 := Lib.hid ((below_drewN B1.out _).trans (d3.mono (below_drewN B1.out _).size))
    clear d3
    go_wp2_with fail
    refine (HC1.out _ B3.out).mono ?_
    rintro e' w4 ⟨rfl, d4⟩
    have B4 := Lib.hid (B3.out.trans (d4.mono B3.out.size))
    clear d4
    go_wp2_with fail
    refine (HIed.out _).mono ?_
    rintro e' w' ⟨rfl, rfl⟩
    go_wp2_with fail
    refine (HCde.out _ B4.out).mono ?_
    rintro e' w5 ⟨rfl, d5⟩
    have B5 := Lib.hid (B4.out.trans (d5.mono B4.out.size))
    clear d5
    go_wp2_with fail
    refine (HIed.out _).mono ?_
    rintro e' w' ⟨rfl, rfl⟩
    go_wp2_with fail
    refine (HCdx.out _ B5.out).mono ?_
    rintro e' w6 ⟨rfl, d6⟩
    have B6 := Lib.hid (B5.out.trans (d6.mono B5.out.size))
    clear d6
    go_wp2_with fail
    refine (HCxe.out _ B6.out).mono ?_
    rintro e' w7 ⟨rfl, d7⟩
    have B7 := Lib.hid (B6.out.trans (d7.mono B6.out.size))
    clear d7
    go_wp2_with fail
    refine (HIxd.out _).mono ?_
    rintro e' w' ⟨rfl, rfl⟩
    go_wp2_with fail
    go_ret
    exact ⟨rfl, B7.out⟩
end Go.Proofs.YtnbggojmbdgkmaaDoor
