/-
  The law MemberTorn: what it computes is true. Condition: raw things of the second form's bound; the library's table of powers of ten lies as Go laid it.
-/
import Derived.Test.YtmioinfhggbfkaaGreatDoorMPlain
import Derived.Test.YtmioinfhggbfkaaGreatDoorMReads
namespace Go.Proofs.YtmioinfhggbfkaaGreatDoor
set_option linter.all false
open Go.RowKit

theorem raw_blk (w : World) (cs : Array Value) : Blk (w.alloc (.cells cs 47)) w.heap.size 47 cs ∧ Below w.heap.size w (w.alloc (.cells cs 47)) := ⟨Blk.new _ _ _, (Below.refl _ _).alloc (Nat.le_refl _) _⟩
set_option maxRecDepth 100000 in
set_option maxHeartbeats 4000000 in
theorem MemberTorn_walk (w : World) (hsh : w.ShapedOpen Tryz.prog) (h10 : P10 w) (r : RawS) (h : RawOk r) (n : Int) (hn : I64 n) :
    Calls Tryz.prog 5 #[rawV r, .int .i64 n] w fun e w' => e = .returned (.bool true) ∧ Below w.heap.size w w' := by
  have hm := ML.of_shaped hsh
  clear hsh
  have hok := entP_ok h
  have HML : Hid (∀ W, Below w.heap.size w W → ML W) := Lib.hid (fun W hb => hm.below hb)
  have HP10 : Hid (∀ W, Below w.heap.size w W → P10 W) := Lib.hid (fun W hb => h10.below hb)
  have HEn := Lib.hid (fun W (hb : Below w.heap.size w W) => Entry_any r h W (HML.out W hb))
  have HWn := Lib.hid (fun W (hb : Below w.heap.size w W) => Written_any W (HML.out W hb) (HP10.out W hb))
  have hlo : 512 ≤ (memB (entP r)).length := by
    obtain ⟨g1, g2, _⟩ := memB_blocks hok
    by_cases hR : packR (entP r) = []
    · have := g1 hR; omega
    · have := g2 hR; omega
  have hhi := (memB_blocks hok).2.2.2
  clear h hm h10
  generalize entP r = x at *
  have HWr := Lib.hid (fun W (hb : Below w.heap.size w W) A c hd => MWrite_ok x hok A c W (HML.out W hb) (HP10.out W hb) hd)
  obtain ⟨k, hk, bk⟩ := pick_nat n (memB x).length (by omega)
  have hk : pick n ((memB x).length : Int) = (k : Int) := hk
  have HPK := Lib.hid (fun W => picked_any n (memB x).length hn (by omega) (by omega) W)
  rw [hk] at HPK
  have HRD := Lib.hid (fun W (hb : Below w.heap.size w W) v hv => MRead_torn x hok k bk v W (fun W' hb' => HML.out W' (hb.trans (hb'.mono hb.size))) (fun W' hb' => HP10.out W' (hb.trans (hb'.mono hb.size))) hv)
  clear hk hn hok HML HP10
  obtain ⟨lb, hlb⟩ : ∃ lb, lb = (memB x).length := ⟨_, rfl⟩
  rw [← hlb] at hlo hhi bk HPK
  have HLB := Lib.hid hlb
  clear hlb
  generalize memB x = M at *
  obtain ⟨xp, xk, xt, ⟨m1, m2, m3, m4, m5, m6, m7⟩, xd⟩ := x
  unfold entC at HEn HWr
  unfold entZA at HRD
  simp only at HEn HWr
  have e0 : ((lb : Int) == 0) = false := by simp; omega
  have e1 : (lb == 0) = false := by simp; omega
  have i1 : (0 : Int) ≤ (k : Int) := by omega
  obtain ⟨W0, hW0⟩ : ∃ W0, W0 = w.alloc (.cells #[.int .i64 r.kind, .int .i64 r.a, .int .i64 r.b, .string (bs r.text)] 47) := ⟨_, rfl⟩
  have hS := raw_blk w #[.int .i64 r.kind, .int .i64 r.a, .int .i64 r.b, .string (bs r.text)]
  rw [← hW0] at hS
  have HB0 := Lib.hid hS.2
  have q0 := hS.1.cell 0
  have q1 := hS.1.cell 1
  have q2 := hS.1.cell 2
  have q3 := hS.1.cell 3
  clear hS
  unfold rawV at HEn ⊢
  go_enter Tryz.func5, Tryz.ntmps5
  go_upto_region 1 with fail
  rw [← hW0]
  clear hW0
  go_wp2_with fail
  refine (HEn.out _ HB0.out).mono ?_
  rintro e w1 ⟨A, c, rfl, hd, b1⟩
  have HB1 := Lib.hid (HB0.out.trans (b1.mono HB0.out.size))
  have HD1 := Lib.hid hd
  clear b1 hd q0 q1 q2 q3 HEn
  go_wp2_with fail
  refine (HWr.out _ HB1.out _ _ HD1.out.bytes).mono ?_
  rintro e w2 ⟨bv, rfl, hbv, b2⟩
  have HB2 := Lib.hid (HB1.out.trans (b2.mono HB1.out.size))
  have hat := hbv.at_
  obtain ⟨Ab, cb, ev, hlc, hcm, hA0, -⟩ := id hat
  rw [List.length_map, ← HLB.out] at ev hlc
  rcases Ab with _ | ad
  · exfalso
    have := hA0 rfl
    omega
  subst ev
  unfold maxLen at hcm
  have HFR : Hid (∀ W, Below w2.heap.size w2 W → BytesAt W W.heap.size (.slice (some ad) k cb) (M.take k)) := Lib.hid (fun W hb => by
    have h2 : BytesAt W w2.heap.size (.slice (some ad) M.length cb) M := by rw [← HLB.out]; exact hat.below hb
    exact (h2.front k (by rw [← HLB.out]; omega)).more hb.size)
  have i2 : (k : Int) ≤ (cb : Int) := by omega
  have i3 : k ≤ cb := by omega
  clear hbv b2 hat hA0 HD1 HWr
  go_wp2_with fail
  refine (HWn.out _ HB2.out).mono ?_
  rintro e w3 ⟨rfl, b3⟩
  have HB3 := Lib.hid (HB2.out.trans (b3.mono HB2.out.size))
  have HFR3 := Lib.hid (HFR.out _ b3)
  clear b3 HFR HWn
  go_wp2_with fail
  refine (HPK.out _).mono ?_
  rintro e w4 ⟨rfl, rfl⟩
  go_wp2_with fail
  refine (HRD.out _ HB3.out _ HFR3.out).mono ?_
  rintro e w5 ⟨rfl, b5⟩
  have HB5 := Lib.hid (HB3.out.trans (b5.mono HB3.out.size))
  clear b5 HFR3 HPK HRD
  go_wp2_with fail
  go_ret
  exact ⟨rfl, HB5.out.alloc HB5.out.size _⟩
end Go.Proofs.YtmioinfhggbfkaaGreatDoor
