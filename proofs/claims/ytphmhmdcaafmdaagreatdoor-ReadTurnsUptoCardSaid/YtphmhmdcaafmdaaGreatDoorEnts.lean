import Derived.Test.YtphmhmdcaafmdaaGreatDoorRulesJ
import Derived.Test.YtphmhmdcaafmdaaGreatDoorMetaS
import Derived.Test.YtphmhmdcaafmdaaGreatDoorPathW
namespace Go.Proofs.YtphmhmdcaafmdaaGreatDoor
set_option linter.all false
section
open Go.RowKit
structure EntP where
  path : List UInt8
  kind : Int
  target : List UInt8
  mt : MetaP
  data : List UInt8
def entC (x : EntP) (dv : Value) : List Value:=[.string (bs x.path),.int .i64 x.kind,.string (bs x.target),.int .i64 x.mt.mode,.int .i64 x.mt.uid,.int .i64 x.mt.gid,.string (bs x.mt.user),.string (bs x.mt.group),.int .i64 x.mt.second,.int .i64 x.mt.nano,dv]
end
section
open Go.RowKit
structure EntOk (x : EntP) : Prop where
  path : checkS x.path=0∧x.path.length≤400
  mt : MetaOk x.mt
  kind : x.kind=1∨x.kind=2∨x.kind=3∨x.kind=4
  data : x.data.length≤2000∧(x.kind≠1→x.data=[])
  none : (x.kind=1∨x.kind=2)→x.target=[]
  target : x.target.length≤400∧((x.kind=3∨x.kind=4)→x.target≠[]∧(0 : UInt8) ∉ x.target)∧(x.kind=4→checkS x.target=0)
set_option maxRecDepth 100000 in
set_option maxHeartbeats 2000000 in
theorem PRight_ok (x : EntP) (h : EntOk x) (A : Option Addr) (c : Nat) (w : World) (hm : ML w) :
    Calls Tryz.prog 46 #[.agg (entC x (.slice A x.data.length c)).toArray] w fun e w' => e=.returned (.int .i64 0)∧Below w.heap.size w w':=by
  obtain ⟨path,kind,target,⟨md,ud,gd,us,gr,sc,nn⟩,data⟩:=x
  obtain ⟨⟨p1,p2⟩,hmt,hk,⟨d1,d2⟩,hn,⟨t1,t2,t6⟩⟩:=h
  simp only at p1 p2 hmt hk d1 d2 hn t1 t2 t6
  have HP:=Lib.hid (fun w hm => Check_any path w (by omega) hm)
  rw [p1] at HP
  have HM:=Lib.hid (fun w => MCheck_ok _ hmt w)
  have HML : Hid (∀ w',Below w.heap.size w w'→ML w'):=Lib.hid (fun w' hb => hm.below hb)
  unfold entC
  unfold metaCells at HM
  simp only at HM ⊢
  have z:=bs_size target
  generalize bs path=bp at *
  generalize bs us=bu at *
  generalize bs gr=bg at *
  clear hmt p1 p2 hm
  obtain ⟨W0,hW0⟩ : ∃ W0,W0=w.alloc (.cells #[.string bp,.int .i64 kind,.string (bs target),.int .i64 md,.int .i64 ud,.int .i64 gd,.string bu,.string bg,.int .i64 sc,.int .i64 nn,.slice A data.length c] 58):=⟨_,rfl⟩
  have hB : Blk W0 w.heap.size 58 #[.string bp,.int .i64 kind,.string (bs target),.int .i64 md,.int .i64 ud,.int .i64 gd,.string bu,.string bg,.int .i64 sc,.int .i64 nn,.slice A data.length c]:=by rw [hW0];exact Blk.new w _ _
  have hb0 : Below w.heap.size w W0:=by rw [hW0];exact (Below.refl _ w).alloc (Nat.le_refl _) _
  have HB:=Lib.hid hB
  have HB0:=Lib.hid hb0
  clear hB hb0
  rcases hk with rfl | rfl | rfl | rfl
  · obtain rfl:=hn (.inl rfl)
    clear hn t2 t6 d2 t1 z
    have HI:=Lib.hid (fun w => IndexByte_nul [] w)
    rw [show Lib.indexByte [] 0=-1 from rfl] at HI
    rw [show bs []=⟨#[]⟩ from rfl] at *
    go_enter Tryz.func46,Tryz.ntmps46
    go_upto_region 1 with fail
    rw [← hW0]
    have HW0:=Lib.hid hW0
    clear hW0
    have e0:=HB.out.cell 0
    have z0:=HB.out.frozen 0
    simp only [List.getElem?_toArray,List.getElem?_cons_zero] at e0
    go_wp2_with fail
    refine (HP.out _ (HML.out _ HB0.out)).mono ?_
    rintro e w1 ⟨rfl,hb1⟩
    have HB1:=Lib.hid (HB.out.below hb1 HB.out.lt)
    have HBW:=Lib.hid (HB0.out.trans (hb1.mono HB0.out.size))
    clear e0 z0 hb1
    have e0:=HB1.out.cell 0
    have e1:=HB1.out.cell 1
    have e2:=HB1.out.cell 2
    have e3:=HB1.out.cell 3
    have e4:=HB1.out.cell 4
    have e5:=HB1.out.cell 5
    have e6:=HB1.out.cell 6
    have e7:=HB1.out.cell 7
    have e8:=HB1.out.cell 8
    have e9:=HB1.out.cell 9
    have e10:=HB1.out.cell 10
    have z0:=HB1.out.frozen 0
    have z1:=HB1.out.frozen 1
    have z2:=HB1.out.frozen 2
    have z3:=HB1.out.frozen 3
    have z4:=HB1.out.frozen 4
    have z5:=HB1.out.frozen 5
    have z6:=HB1.out.frozen 6
    have z7:=HB1.out.frozen 7
    have z8:=HB1.out.frozen 8
    have z9:=HB1.out.frozen 9
    have z10:=HB1.out.frozen 10
    simp only [List.getElem?_toArray,List.getElem?_cons_zero,List.getElem?_cons_succ] at e0 e1 e2 e3 e4 e5 e6 e7 e8 e9 e10
    go_wp2_with fail
    refine (HM.out _).mono ?_
    rintro e w2 ⟨rfl,hb2⟩
    have HB2:=Lib.hid (HB1.out.below hb2 HB1.out.lt)
    have HBX:=Lib.hid (HBW.out.trans (hb2.mono HBW.out.size))
    clear e0 e1 e2 e3 e4 e5 e6 e7 e8 e9 e10 z0 z1 z2 z3 z4 z5 z6 z7 z8 z9 z10 hb2
    have e0:=HB2.out.cell 0
    have e1:=HB2.out.cell 1
    have e2:=HB2.out.cell 2
    have e3:=HB2.out.cell 3
    have e4:=HB2.out.cell 4
    have e5:=HB2.out.cell 5
    have e6:=HB2.out.cell 6
    have e7:=HB2.out.cell 7
    have e8:=HB2.out.cell 8
    have e9:=HB2.out.cell 9
    have e10:=HB2.out.cell 10
    have z0:=HB2.out.frozen 0
    have z1:=HB2.out.frozen 1
    have z2:=HB2.out.frozen 2
    have z3:=HB2.out.frozen 3
    have z4:=HB2.out.frozen 4
    have z5:=HB2.out.frozen 5
    have z6:=HB2.out.frozen 6
    have z7:=HB2.out.frozen 7
    have z8:=HB2.out.frozen 8
    have z9:=HB2.out.frozen 9
    have z10:=HB2.out.frozen 10
    simp only [List.getElem?_toArray,List.getElem?_cons_zero,List.getElem?_cons_succ] at e0 e1 e2 e3 e4 e5 e6 e7 e8 e9 e10
    go_wp2_with fail
    refine (HI.out _).mono ?_
    rintro e w' ⟨rfl,rfl⟩
    go_wp2_with fail
    go_ret
    exact ⟨rfl,HBX.out⟩
  · obtain rfl:=hn (.inr rfl)
    obtain rfl:=d2 (by omega)
    rw [List.length_nil] at HB hW0 ⊢
    clear hn t2 t6 d2 t1 z
    have HI:=Lib.hid (fun w => IndexByte_nul [] w)
    rw [show Lib.indexByte [] 0=-1 from rfl] at HI
    rw [show bs []=⟨#[]⟩ from rfl] at *
    go_enter Tryz.func46,Tryz.ntmps46
    go_upto_region 1 with fail
    rw [← hW0]
    have HW0:=Lib.hid hW0
    clear hW0
    have e0:=HB.out.cell 0
    have z0:=HB.out.frozen 0
    simp only [List.getElem?_toArray,List.getElem?_cons_zero] at e0
    go_wp2_with fail
    refine (HP.out _ (HML.out _ HB0.out)).mono ?_
    rintro e w1 ⟨rfl,hb1⟩
    have HB1:=Lib.hid (HB.out.below hb1 HB.out.lt)
    have HBW:=Lib.hid (HB0.out.trans (hb1.mono HB0.out.size))
    clear e0 z0 hb1
    have e0:=HB1.out.cell 0
    have e1:=HB1.out.cell 1
    have e2:=HB1.out.cell 2
    have e3:=HB1.out.cell 3
    have e4:=HB1.out.cell 4
    have e5:=HB1.out.cell 5
    have e6:=HB1.out.cell 6
    have e7:=HB1.out.cell 7
    have e8:=HB1.out.cell 8
    have e9:=HB1.out.cell 9
    have e10:=HB1.out.cell 10
    have z0:=HB1.out.frozen 0
    have z1:=HB1.out.frozen 1
    have z2:=HB1.out.frozen 2
    have z3:=HB1.out.frozen 3
    have z4:=HB1.out.frozen 4
    have z5:=HB1.out.frozen 5
    have z6:=HB1.out.frozen 6
    have z7:=HB1.out.frozen 7
    have z8:=HB1.out.frozen 8
    have z9:=HB1.out.frozen 9
    have z10:=HB1.out.frozen 10
    simp only [List.getElem?_toArray,List.getElem?_cons_zero,List.getElem?_cons_succ] at e0 e1 e2 e3 e4 e5 e6 e7 e8 e9 e10
    go_wp2_with fail
    refine (HM.out _).mono ?_
    rintro e w2 ⟨rfl,hb2⟩
    have HB2:=Lib.hid (HB1.out.below hb2 HB1.out.lt)
    have HBX:=Lib.hid (HBW.out.trans (hb2.mono HBW.out.size))
    clear e0 e1 e2 e3 e4 e5 e6 e7 e8 e9 e10 z0 z1 z2 z3 z4 z5 z6 z7 z8 z9 z10 hb2
    have e0:=HB2.out.cell 0
    have e1:=HB2.out.cell 1
    have e2:=HB2.out.cell 2
    have e3:=HB2.out.cell 3
    have e4:=HB2.out.cell 4
    have e5:=HB2.out.cell 5
    have e6:=HB2.out.cell 6
    have e7:=HB2.out.cell 7
    have e8:=HB2.out.cell 8
    have e9:=HB2.out.cell 9
    have e10:=HB2.out.cell 10
    have z0:=HB2.out.frozen 0
    have z1:=HB2.out.frozen 1
    have z2:=HB2.out.frozen 2
    have z3:=HB2.out.frozen 3
    have z4:=HB2.out.frozen 4
    have z5:=HB2.out.frozen 5
    have z6:=HB2.out.frozen 6
    have z7:=HB2.out.frozen 7
    have z8:=HB2.out.frozen 8
    have z9:=HB2.out.frozen 9
    have z10:=HB2.out.frozen 10
    simp only [List.getElem?_toArray,List.getElem?_cons_zero,List.getElem?_cons_succ] at e0 e1 e2 e3 e4 e5 e6 e7 e8 e9 e10
    go_wp2_with fail
    refine (HI.out _).mono ?_
    rintro e w' ⟨rfl,rfl⟩
    go_wp2_with fail
    go_ret
    exact ⟨rfl,HBX.out⟩
  · obtain ⟨t3,t4⟩:=t2 (.inl rfl)
    clear t6
    obtain rfl:=d2 (by omega)
    rw [List.length_nil] at HB hW0 ⊢
    have t7 : (bs target).toList.isEmpty=false:=by rw [bs_toList];cases target with | nil => exact absurd rfl t3 | cons _ _ => rfl
    have t6 : target.length≠0:=fun h => t3 (List.length_eq_zero_iff.1 h)
    have HI:=Lib.hid (fun w => IndexByte_nul target w)
    rw [indexByte_not t4] at HI
    clear hn t2 d2 t3 t4
    generalize bs target=bt at *
    go_enter Tryz.func46,Tryz.ntmps46
    go_upto_region 1 with fail
    rw [← hW0]
    have HW0:=Lib.hid hW0
    clear hW0
    have e0:=HB.out.cell 0
    have z0:=HB.out.frozen 0
    simp only [List.getElem?_toArray,List.getElem?_cons_zero] at e0
    go_wp2_with fail
    refine (HP.out _ (HML.out _ HB0.out)).mono ?_
    rintro e w1 ⟨rfl,hb1⟩
    have HB1:=Lib.hid (HB.out.below hb1 HB.out.lt)
    have HBW:=Lib.hid (HB0.out.trans (hb1.mono HB0.out.size))
    clear e0 z0 hb1
    have e0:=HB1.out.cell 0
    have e1:=HB1.out.cell 1
    have e2:=HB1.out.cell 2
    have e3:=HB1.out.cell 3
    have e4:=HB1.out.cell 4
    have e5:=HB1.out.cell 5
    have e6:=HB1.out.cell 6
    have e7:=HB1.out.cell 7
    have e8:=HB1.out.cell 8
    have e9:=HB1.out.cell 9
    have e10:=HB1.out.cell 10
    have z0:=HB1.out.frozen 0
    have z1:=HB1.out.frozen 1
    have z2:=HB1.out.frozen 2
    have z3:=HB1.out.frozen 3
    have z4:=HB1.out.frozen 4
    have z5:=HB1.out.frozen 5
    have z6:=HB1.out.frozen 6
    have z7:=HB1.out.frozen 7
    have z8:=HB1.out.frozen 8
    have z9:=HB1.out.frozen 9
    have z10:=HB1.out.frozen 10
    simp only [List.getElem?_toArray,List.getElem?_cons_zero,List.getElem?_cons_succ] at e0 e1 e2 e3 e4 e5 e6 e7 e8 e9 e10
    go_wp2_with fail
    refine (HM.out _).mono ?_
    rintro e w2 ⟨rfl,hb2⟩
    have HB2:=Lib.hid (HB1.out.below hb2 HB1.out.lt)
    have HBX:=Lib.hid (HBW.out.trans (hb2.mono HBW.out.size))
    clear e0 e1 e2 e3 e4 e5 e6 e7 e8 e9 e10 z0 z1 z2 z3 z4 z5 z6 z7 z8 z9 z10 hb2
    have e0:=HB2.out.cell 0
    have e1:=HB2.out.cell 1
    have e2:=HB2.out.cell 2
    have e3:=HB2.out.cell 3
    have e4:=HB2.out.cell 4
    have e5:=HB2.out.cell 5
    have e6:=HB2.out.cell 6
    have e7:=HB2.out.cell 7
    have e8:=HB2.out.cell 8
    have e9:=HB2.out.cell 9
    have e10:=HB2.out.cell 10
    have z0:=HB2.out.frozen 0
    have z1:=HB2.out.frozen 1
    have z2:=HB2.out.frozen 2
    have z3:=HB2.out.frozen 3
    have z4:=HB2.out.frozen 4
    have z5:=HB2.out.frozen 5
    have z6:=HB2.out.frozen 6
    have z7:=HB2.out.frozen 7
    have z8:=HB2.out.frozen 8
    have z9:=HB2.out.frozen 9
    have z10:=HB2.out.frozen 10
    simp only [List.getElem?_toArray,List.getElem?_cons_zero,List.getElem?_cons_succ] at e0 e1 e2 e3 e4 e5 e6 e7 e8 e9 e10
    go_wp2_with fail
    refine (HI.out _).mono ?_
    rintro e w' ⟨rfl,rfl⟩
    go_wp2_with fail
    go_ret
    exact ⟨rfl,HBX.out⟩
  · obtain ⟨t3,t4⟩:=t2 (.inr rfl)
    have t5:=t6 rfl
    clear t6
    obtain rfl:=d2 (by omega)
    rw [List.length_nil] at HB hW0 ⊢
    have t7 : (bs target).toList.isEmpty=false:=by rw [bs_toList];cases target with | nil => exact absurd rfl t3 | cons _ _ => rfl
    have t6 : target.length≠0:=fun h => t3 (List.length_eq_zero_iff.1 h)
    have HT:=Lib.hid (fun w hm => Check_any target w (by omega) hm)
    rw [t5] at HT
    clear hn t2 d2 t3 t4 t5
    generalize bs target=bt at *
    go_enter Tryz.func46,Tryz.ntmps46
    go_upto_region 1 with fail
    rw [← hW0]
    have HW0:=Lib.hid hW0
    clear hW0
    have e0:=HB.out.cell 0
    have z0:=HB.out.frozen 0
    simp only [List.getElem?_toArray,List.getElem?_cons_zero] at e0
    go_wp2_with fail
    refine (HP.out _ (HML.out _ HB0.out)).mono ?_
    rintro e w1 ⟨rfl,hb1⟩
    have HB1:=Lib.hid (HB.out.below hb1 HB.out.lt)
    have HBW:=Lib.hid (HB0.out.trans (hb1.mono HB0.out.size))
    clear e0 z0 hb1
    have e0:=HB1.out.cell 0
    have e1:=HB1.out.cell 1
    have e2:=HB1.out.cell 2
    have e3:=HB1.out.cell 3
    have e4:=HB1.out.cell 4
    have e5:=HB1.out.cell 5
    have e6:=HB1.out.cell 6
    have e7:=HB1.out.cell 7
    have e8:=HB1.out.cell 8
    have e9:=HB1.out.cell 9
    have e10:=HB1.out.cell 10
    have z0:=HB1.out.frozen 0
    have z1:=HB1.out.frozen 1
    have z2:=HB1.out.frozen 2
    have z3:=HB1.out.frozen 3
    have z4:=HB1.out.frozen 4
    have z5:=HB1.out.frozen 5
    have z6:=HB1.out.frozen 6
    have z7:=HB1.out.frozen 7
    have z8:=HB1.out.frozen 8
    have z9:=HB1.out.frozen 9
    have z10:=HB1.out.frozen 10
    simp only [List.getElem?_toArray,List.getElem?_cons_zero,List.getElem?_cons_succ] at e0 e1 e2 e3 e4 e5 e6 e7 e8 e9 e10
    go_wp2_with fail
    refine (HM.out _).mono ?_
    rintro e w2 ⟨rfl,hb2⟩
    have HB2:=Lib.hid (HB1.out.below hb2 HB1.out.lt)
    have HBX:=Lib.hid (HBW.out.trans (hb2.mono HBW.out.size))
    clear e0 e1 e2 e3 e4 e5 e6 e7 e8 e9 e10 z0 z1 z2 z3 z4 z5 z6 z7 z8 z9 z10 hb2
    have e0:=HB2.out.cell 0
    have e1:=HB2.out.cell 1
    have e2:=HB2.out.cell 2
    have e3:=HB2.out.cell 3
    have e4:=HB2.out.cell 4
    have e5:=HB2.out.cell 5
    have e6:=HB2.out.cell 6
    have e7:=HB2.out.cell 7
    have e8:=HB2.out.cell 8
    have e9:=HB2.out.cell 9
    have e10:=HB2.out.cell 10
    have z0:=HB2.out.frozen 0
    have z1:=HB2.out.frozen 1
    have z2:=HB2.out.frozen 2
    have z3:=HB2.out.frozen 3
    have z4:=HB2.out.frozen 4
    have z5:=HB2.out.frozen 5
    have z6:=HB2.out.frozen 6
    have z7:=HB2.out.frozen 7
    have z8:=HB2.out.frozen 8
    have z9:=HB2.out.frozen 9
    have z10:=HB2.out.frozen 10
    simp only [List.getElem?_toArray,List.getElem?_cons_zero,List.getElem?_cons_succ] at e0 e1 e2 e3 e4 e5 e6 e7 e8 e9 e10
    go_wp2_with fail
    refine (HT.out _ (HML.out _ HBX.out)).mono ?_
    rintro e w3 ⟨rfl,hb3⟩
    have HBY:=Lib.hid (HBX.out.trans (hb3.mono HBX.out.size))
    clear hb3
    go_wp2_with fail
    go_ret
    exact ⟨rfl,HBY.out⟩
end
end Go.Proofs.YtphmhmdcaafmdaaGreatDoor
