import Derived.Test.YtphmhmdcaafmdaaGreatDoorTreeV
import Derived.Test.YtphmhmdcaafmdaaGreatDoorNodesG
namespace Go.Proofs.YtphmhmdcaafmdaaGreatDoor
set_option linter.all false
section
open Go.RowKit
set_option maxHeartbeats 400000 in
theorem findC_any (p : List UInt8) (B : Nat) (W : World) (x : NodeV) (hB : B < W.heap.size) (hc : W.cell? ⟨B,0,none⟩=some (.string (bs p))) :
    Calls Tryz.prog 74 #[.agg (nodeC x).toArray,.pointer (some ⟨B,0,none⟩)] W fun e w' => e=.returned (.bool (x.1.path == p))∧Below W.heap.size W w':=by
  obtain ⟨⟨q,k,s,t,⟨m1,m2,m3,m4,m5,m6,m7⟩,d⟩,dv⟩:=x
  unfold nodeC
  simp only
  have hne : B≠W.heap.size:=by omega
  have hq:=Lib.hid (bs_beq q p)
  generalize bs q=bq at *
  generalize bs p=bp at *
  go_enter Tryz.func74,Tryz.ntmps74
  go_wp2
  go_ret
  exact ⟨ret_bool hq.out,(Below.refl _ _).alloc (Nat.le_refl _) _⟩
theorem eg_find : ∀ args w,(callFunc 74 args).run Tryz.prog w=.ok (.enter 74 args) w:=enters_of Tryz.func74 (by kernel_rfl) rfl
def findR (o : Option Nat) : Value:=match o with | some i => .tuple #[.int .i64 (i : Int),.int .i64 0] | none => .tuple #[.int .i64 0,.int .i64 5]
set_option maxHeartbeats 400000 in
theorem Find_any (v : Value) (l : List NodeP) (p : List UInt8) (w : World) (hl : NodesAt w v l) :
    Calls Tryz.prog 38 #[v,.string (bs p)] w fun e w' => e=.returned (findR (findP l p))∧Below w.heap.size w w':=by
  have b0 : Below w.heap.size w (w.alloc (.cells #[.string (bs p)] 9)):=(Below.refl _ _).alloc (Nat.le_refl _) _
  have hl1:=hl.below b0
  have hk:=(Blk.new w 9 #[.string (bs p)])
  have hcon:=IdxN_any 74 #[.pointer (some ⟨w.heap.size,0,none⟩)] eg_find _ l (fun x => x.path == p) _ hl1 (fun W x hb => by
    have hk2:=hk.below hb hk.lt
    have hlt:=hk2.lt
    exact (findC_any p w.heap.size W x hlt (hk2.cell 0)).mono fun e w' ⟨h1,h2⟩ => ⟨h1,hb.trans (h2.mono hb.size)⟩)
  rw [show idxN (fun x => x.path == p) l=match findP l p with | some i => (i : Int) | none => -1 from rfl] at hcon
  obtain ⟨xs,A,c,_,rfl,_⟩:=hl
  have B0:=Lib.hid b0
  cases hq : findP l p with
  | some i =>
    rw [hq] at hcon
    have HC:=Lib.hid hcon
    have hi0 : ¬ (i : Int) < 0:=by omega
    clear hcon hl1 hk b0 hq
    unfold findR
    go_enter Tryz.func38,Tryz.ntmps38
    go_wp2_with fail
    refine HC.out.mono ?_
    rintro e w' ⟨rfl,b1⟩
    have B1:=Lib.hid (B0.out.trans (b1.mono B0.out.size))
    clear b1
    go_wp2_with fail
    exact bodyPost_ret (v:=.tuple #[.int .i64 (i : Int),.int .i64 0]) (by simp [results,Tryz.results38,go_sem]) rfl ⟨rfl,B1.out⟩
  | none =>
    rw [hq] at hcon
    have HC:=Lib.hid hcon
    clear hcon hl1 hk b0 hq
    unfold findR
    go_enter Tryz.func38,Tryz.ntmps38
    go_wp2_with fail
    refine HC.out.mono ?_
    rintro e w' ⟨rfl,b1⟩
    have B1:=Lib.hid (B0.out.trans (b1.mono B0.out.size))
    clear b1
    go_wp2_with fail
    exact bodyPost_ret (v:=.tuple #[.int .i64 0,.int .i64 5]) (by simp [results,Tryz.results38,go_sem]) rfl ⟨rfl,B1.out⟩
theorem meta_first (m m' : MetaP) :
    (m=m'∧(m.mode == m'.mode)=true∧(m.uid == m'.uid)=true∧(m.gid == m'.gid)=true∧((bs m.user).toList == (bs m'.user).toList)=true∧((bs m.group).toList == (bs m'.group).toList)=true∧(m.second == m'.second)=true∧(m.nano == m'.nano)=true) ∨
    (m≠m'∧((m.mode == m'.mode)=false ∨
      ((m.mode == m'.mode)=true∧(m.uid == m'.uid)=false) ∨
      ((m.mode == m'.mode)=true∧(m.uid == m'.uid)=true∧(m.gid == m'.gid)=false) ∨
      ((m.mode == m'.mode)=true∧(m.uid == m'.uid)=true∧(m.gid == m'.gid)=true∧((bs m.user).toList == (bs m'.user).toList)=false) ∨
      ((m.mode == m'.mode)=true∧(m.uid == m'.uid)=true∧(m.gid == m'.gid)=true∧((bs m.user).toList == (bs m'.user).toList)=true∧((bs m.group).toList == (bs m'.group).toList)=false) ∨
      ((m.mode == m'.mode)=true∧(m.uid == m'.uid)=true∧(m.gid == m'.gid)=true∧((bs m.user).toList == (bs m'.user).toList)=true∧((bs m.group).toList == (bs m'.group).toList)=true∧(m.second == m'.second)=false) ∨
      ((m.mode == m'.mode)=true∧(m.uid == m'.uid)=true∧(m.gid == m'.gid)=true∧((bs m.user).toList == (bs m'.user).toList)=true∧((bs m.group).toList == (bs m'.group).toList)=true∧(m.second == m'.second)=true∧(m.nano == m'.nano)=false))):=by
  obtain ⟨a1,a2,a3,a4,a5,a6,a7⟩:=m
  obtain ⟨b1,b2,b3,b4,b5,b6,b7⟩:=m'
  simp only [bs_beq,beq_iff_eq,beq_eq_false_iff_ne,MetaP.mk.injEq,ne_eq]
  by_cases h1 : a1=b1 <;> by_cases h2 : a2=b2 <;> by_cases h3 : a3=b3 <;> by_cases h4 : a4=b4 <;> by_cases h5 : a5=b5 <;> by_cases h6 : a6=b6 <;> by_cases h7 : a7=b7 <;> simp [h1,h2,h3,h4,h5,h6,h7]
theorem alike_of {x y : NodeP} (h : x.mt=y.mt) : alikeB x y=(x.data == y.data):=by unfold alikeB;simp [h]
theorem alike_not {x y : NodeP} (h : x.mt≠y.mt) : alikeB x y=false:=by unfold alikeB;simp [h]
set_option maxHeartbeats 1000000 in
theorem Alike_any (x y : NodeV) (w : World) (hx : DataAt w 0 x.2 x.1.data) (hy : DataAt w 0 y.2 y.1.data) :
    Calls Tryz.prog 73 #[.agg (nodeC x).toArray,.agg (nodeC y).toArray] w fun e w' => e=.returned (.bool (alikeB x.1 y.1))∧Below w.heap.size w w':=by
  obtain ⟨⟨p,k,s,t,⟨m1,m2,m3,m4,m5,m6,m7⟩,d⟩,dv⟩:=x
  obtain ⟨⟨p',k',s',t',⟨n1,n2,n3,n4,n5,n6,n7⟩,d'⟩,dv'⟩:=y
  simp only at hx hy
  have hb : ∀ o1 o2,Below w.heap.size w ((w.alloc o1).alloc o2):=fun o1 o2 => ((Below.refl w.heap.size w).alloc (Nat.le_refl _) o1).alloc (by simp) o2
  have hcx:=fun o1 o2 => conv_str (hx.below (hb o1 o2)).bytes
  have hcy:=fun o1 o2 => conv_str (hy.below (hb o1 o2)).bytes
  have HB:=Lib.hid hb
  have HD:=Lib.hid (bs_beq d d')
  obtain ⟨A,c,rfl,-⟩:=hx
  obtain ⟨A',c',rfl,-⟩:=hy
  have hM:=meta_first ⟨m1,m2,m3,m4,m5,m6,m7⟩ ⟨n1,n2,n3,n4,n5,n6,n7⟩
  simp only at hM
  clear hb
  unfold nodeC
  simp only
  rcases hM with ⟨hm,q1,q2,q3,q4,q5,q6,q7⟩ | ⟨hm,hq⟩
  · have HR:=Lib.hid (alike_of (x:=⟨p,k,s,t,⟨m1,m2,m3,m4,m5,m6,m7⟩,d⟩) (y:=⟨p',k',s',t',⟨n1,n2,n3,n4,n5,n6,n7⟩,d'⟩) hm)
    clear hm
    generalize bs d=bd at *
    generalize bs d'=bd' at *
    generalize bs p=bp at *
    generalize bs p'=bp' at *
    generalize bs t=bt at *
    generalize bs t'=bt' at *
    generalize bs m4=b4 at *
    generalize bs m5=b5 at *
    generalize bs n4=c4 at *
    generalize bs n5=c5 at *
    go_enter Tryz.func73,Tryz.ntmps73
    go_wp2_with fail
    go_ret
    exact ⟨ret_bool (HD.out.trans HR.out.symm),HB.out _ _⟩
  · have HR:=Lib.hid (alike_not (x:=⟨p,k,s,t,⟨m1,m2,m3,m4,m5,m6,m7⟩,d⟩) (y:=⟨p',k',s',t',⟨n1,n2,n3,n4,n5,n6,n7⟩,d'⟩) hm)
    clear hm hcx hcy
    generalize bs p=bp at *
    generalize bs p'=bp' at *
    generalize bs t=bt at *
    generalize bs t'=bt' at *
    generalize bs m4=b4 at *
    generalize bs m5=b5 at *
    generalize bs n4=c4 at *
    generalize bs n5=c5 at *
    rcases hq with q1 | ⟨q1,q2⟩ | ⟨q1,q2,q3⟩ | ⟨q1,q2,q3,q4⟩ | ⟨q1,q2,q3,q4,q5⟩ | ⟨q1,q2,q3,q4,q5,q6⟩ | ⟨q1,q2,q3,q4,q5,q6,q7⟩
    all_goals
      go_enter Tryz.func73,Tryz.ntmps73
      go_wp2_with fail
      go_ret
      exact ⟨ret_bool HR.out.symm,HB.out _ _⟩
end
section
open Go.RowKit
set_option maxRecDepth 100000 in
set_option maxHeartbeats 2000000 in
theorem TRight_ok (x : NodeP) (h : NodeOk x) (A : Option Addr) (c : Nat) (w : World) (hm : ML w) :
    Calls Tryz.prog 72 #[.agg (nodeC (x,.slice A x.data.length c)).toArray] w fun e w' => e=.returned (.int .i64 0)∧Below w.heap.size w w':=by
  obtain ⟨path,kind,same,target,⟨md,ud,gd,us,gr,sc,nn⟩,data⟩:=x
  obtain ⟨⟨p1,p2⟩,hmt,⟨s1,s2,s3⟩,hk,⟨d1,d2⟩,hn,⟨t1,t2⟩⟩:=h
  simp only at p1 p2 hmt s1 s2 s3 hk d1 d2 hn t1 t2
  have HP:=Lib.hid (fun w hm => Check_any path w (by omega) hm)
  rw [p1] at HP
  have HM:=Lib.hid (fun w => MCheck_ok _ hmt w)
  have HML : Hid (∀ w',Below w.heap.size w w'→ML w'):=Lib.hid (fun w' hb => hm.below hb)
  unfold nodeC
  unfold metaCells at HM
  simp only at HM ⊢
  have z:=bs_size target
  generalize bs path=bp at *
  generalize bs us=bu at *
  generalize bs gr=bg at *
  clear hmt p1 p2 hm
  obtain ⟨W0,hW0⟩ : ∃ W0,W0=w.alloc (.cells #[.string bp,.int .i64 kind,.int .i64 same,.string (bs target),.int .i64 md,.int .i64 ud,.int .i64 gd,.string bu,.string bg,.int .i64 sc,.int .i64 nn,.slice A data.length c] 29):=⟨_,rfl⟩
  have hB : Blk W0 w.heap.size 29 #[.string bp,.int .i64 kind,.int .i64 same,.string (bs target),.int .i64 md,.int .i64 ud,.int .i64 gd,.string bu,.string bg,.int .i64 sc,.int .i64 nn,.slice A data.length c]:=by rw [hW0];exact Blk.new w _ _
  have hb0 : Below w.heap.size w W0:=by rw [hW0];exact (Below.refl _ w).alloc (Nat.le_refl _) _
  have HB:=Lib.hid hB
  have HB0:=Lib.hid hb0
  clear hB hb0
  rcases hk with rfl | rfl | rfl
  · obtain rfl:=hn (by omega)
    clear hn t2 d2 t1 z s3
    rw [show bs []=⟨#[]⟩ from rfl] at *
    go_enter Tryz.func72,Tryz.ntmps72
    go_upto_region 1 with fail
    rw [← hW0]
    have HW0:=Lib.hid hW0
    clear hW0
    have e0:=HB.out.cell 0
    have z0:=HB.out.frozen 0
    simp only [List.getElem?_toArray,List.getElem?_cons_zero] at e0
    go_wp2_with fail
    refine (HP.out _ (HML.out _ HB0.out)).mono ?_
    rintro e w1 ⟨rfl,hb1⟩
    have HB1:=Lib.hid (HB.out.below hb1 HB.out.lt)
    have HBW:=Lib.hid (HB0.out.trans (hb1.mono HB0.out.size))
    clear e0 z0 hb1
    have e0:=HB1.out.cell 0
    have z0:=HB1.out.frozen 0
    have e1:=HB1.out.cell 1
    have z1:=HB1.out.frozen 1
    have e2:=HB1.out.cell 2
    have z2:=HB1.out.frozen 2
    have e3:=HB1.out.cell 3
    have z3:=HB1.out.frozen 3
    have e4:=HB1.out.cell 4
    have z4:=HB1.out.frozen 4
    have e5:=HB1.out.cell 5
    have z5:=HB1.out.frozen 5
    have e6:=HB1.out.cell 6
    have z6:=HB1.out.frozen 6
    have e7:=HB1.out.cell 7
    have z7:=HB1.out.frozen 7
    have e8:=HB1.out.cell 8
    have z8:=HB1.out.frozen 8
    have e9:=HB1.out.cell 9
    have z9:=HB1.out.frozen 9
    have e10:=HB1.out.cell 10
    have z10:=HB1.out.frozen 10
    have e11:=HB1.out.cell 11
    have z11:=HB1.out.frozen 11
    simp only [List.getElem?_toArray,List.getElem?_cons_zero,List.getElem?_cons_succ] at e0 e1 e2 e3 e4 e5 e6 e7 e8 e9 e10 e11
    go_wp2_with fail
    refine (HM.out _).mono ?_
    rintro e w2 ⟨rfl,hb2⟩
    have HB2:=Lib.hid (HB1.out.below hb2 HB1.out.lt)
    have HBX:=Lib.hid (HBW.out.trans (hb2.mono HBW.out.size))
    clear e0 e1 e2 e3 e4 e5 e6 e7 e8 e9 e10 e11 z0 z1 z2 z3 z4 z5 z6 z7 z8 z9 z10 z11 hb2
    have e0:=HB2.out.cell 0
    have z0:=HB2.out.frozen 0
    have e1:=HB2.out.cell 1
    have z1:=HB2.out.frozen 1
    have e2:=HB2.out.cell 2
    have z2:=HB2.out.frozen 2
    have e3:=HB2.out.cell 3
    have z3:=HB2.out.frozen 3
    have e4:=HB2.out.cell 4
    have z4:=HB2.out.frozen 4
    have e5:=HB2.out.cell 5
    have z5:=HB2.out.frozen 5
    have e6:=HB2.out.cell 6
    have z6:=HB2.out.frozen 6
    have e7:=HB2.out.cell 7
    have z7:=HB2.out.frozen 7
    have e8:=HB2.out.cell 8
    have z8:=HB2.out.frozen 8
    have e9:=HB2.out.cell 9
    have z9:=HB2.out.frozen 9
    have e10:=HB2.out.cell 10
    have z10:=HB2.out.frozen 10
    have e11:=HB2.out.cell 11
    have z11:=HB2.out.frozen 11
    simp only [List.getElem?_toArray,List.getElem?_cons_zero,List.getElem?_cons_succ] at e0 e1 e2 e3 e4 e5 e6 e7 e8 e9 e10 e11
    go_wp2_with fail
    go_ret
    exact ⟨rfl,HBX.out⟩
  · obtain rfl:=hn (by omega)
    obtain rfl:=d2 (by omega)
    obtain rfl:=s3 (by omega)
    rw [List.length_nil] at HB hW0 ⊢
    clear hn t2 d2 t1 z s3 s1 s2
    rw [show bs []=⟨#[]⟩ from rfl] at *
    go_enter Tryz.func72,Tryz.ntmps72
    go_upto_region 1 with fail
    rw [← hW0]
    have HW0:=Lib.hid hW0
    clear hW0
    have e0:=HB.out.cell 0
    have z0:=HB.out.frozen 0
    simp only [List.getElem?_toArray,List.getElem?_cons_zero] at e0
    go_wp2_with fail
    refine (HP.out _ (HML.out _ HB0.out)).mono ?_
    rintro e w1 ⟨rfl,hb1⟩
    have HB1:=Lib.hid (HB.out.below hb1 HB.out.lt)
    have HBW:=Lib.hid (HB0.out.trans (hb1.mono HB0.out.size))
    clear e0 z0 hb1
    have e0:=HB1.out.cell 0
    have z0:=HB1.out.frozen 0
    have e1:=HB1.out.cell 1
    have z1:=HB1.out.frozen 1
    have e2:=HB1.out.cell 2
    have z2:=HB1.out.frozen 2
    have e3:=HB1.out.cell 3
    have z3:=HB1.out.frozen 3
    have e4:=HB1.out.cell 4
    have z4:=HB1.out.frozen 4
    have e5:=HB1.out.cell 5
    have z5:=HB1.out.frozen 5
    have e6:=HB1.out.cell 6
    have z6:=HB1.out.frozen 6
    have e7:=HB1.out.cell 7
    have z7:=HB1.out.frozen 7
    have e8:=HB1.out.cell 8
    have z8:=HB1.out.frozen 8
    have e9:=HB1.out.cell 9
    have z9:=HB1.out.frozen 9
    have e10:=HB1.out.cell 10
    have z10:=HB1.out.frozen 10
    have e11:=HB1.out.cell 11
    have z11:=HB1.out.frozen 11
    simp only [List.getElem?_toArray,List.getElem?_cons_zero,List.getElem?_cons_succ] at e0 e1 e2 e3 e4 e5 e6 e7 e8 e9 e10 e11
    go_wp2_with fail
    refine (HM.out _).mono ?_
    rintro e w2 ⟨rfl,hb2⟩
    have HB2:=Lib.hid (HB1.out.below hb2 HB1.out.lt)
    have HBX:=Lib.hid (HBW.out.trans (hb2.mono HBW.out.size))
    clear e0 e1 e2 e3 e4 e5 e6 e7 e8 e9 e10 e11 z0 z1 z2 z3 z4 z5 z6 z7 z8 z9 z10 z11 hb2
    have e0:=HB2.out.cell 0
    have z0:=HB2.out.frozen 0
    have e1:=HB2.out.cell 1
    have z1:=HB2.out.frozen 1
    have e2:=HB2.out.cell 2
    have z2:=HB2.out.frozen 2
    have e3:=HB2.out.cell 3
    have z3:=HB2.out.frozen 3
    have e4:=HB2.out.cell 4
    have z4:=HB2.out.frozen 4
    have e5:=HB2.out.cell 5
    have z5:=HB2.out.frozen 5
    have e6:=HB2.out.cell 6
    have z6:=HB2.out.frozen 6
    have e7:=HB2.out.cell 7
    have z7:=HB2.out.frozen 7
    have e8:=HB2.out.cell 8
    have z8:=HB2.out.frozen 8
    have e9:=HB2.out.cell 9
    have z9:=HB2.out.frozen 9
    have e10:=HB2.out.cell 10
    have z10:=HB2.out.frozen 10
    have e11:=HB2.out.cell 11
    have z11:=HB2.out.frozen 11
    simp only [List.getElem?_toArray,List.getElem?_cons_zero,List.getElem?_cons_succ] at e0 e1 e2 e3 e4 e5 e6 e7 e8 e9 e10 e11
    go_wp2_with fail
    go_ret
    exact ⟨rfl,HBX.out⟩
  · obtain ⟨t3,t4⟩:=t2 rfl
    obtain rfl:=d2 (by omega)
    obtain rfl:=s3 (by omega)
    rw [List.length_nil] at HB hW0 ⊢
    have t7 : (bs target).toList.isEmpty=false:=by rw [bs_toList];cases target with | nil => exact absurd rfl t3 | cons _ _ => rfl
    have t6 : target.length≠0:=fun h => t3 (List.length_eq_zero_iff.1 h)
    have HI:=Lib.hid (fun w => IndexByte_nul target w)
    rw [indexByte_not t4] at HI
    clear hn t2 d2 t3 t4 s3 s1 s2
    generalize bs target=bt at *
    go_enter Tryz.func72,Tryz.ntmps72
    go_upto_region 1 with fail
    rw [← hW0]
    have HW0:=Lib.hid hW0
    clear hW0
    have e0:=HB.out.cell 0
    have z0:=HB.out.frozen 0
    simp only [List.getElem?_toArray,List.getElem?_cons_zero] at e0
    go_wp2_with fail
    refine (HP.out _ (HML.out _ HB0.out)).mono ?_
    rintro e w1 ⟨rfl,hb1⟩
    have HB1:=Lib.hid (HB.out.below hb1 HB.out.lt)
    have HBW:=Lib.hid (HB0.out.trans (hb1.mono HB0.out.size))
    clear e0 z0 hb1
    have e0:=HB1.out.cell 0
    have z0:=HB1.out.frozen 0
    have e1:=HB1.out.cell 1
    have z1:=HB1.out.frozen 1
    have e2:=HB1.out.cell 2
    have z2:=HB1.out.frozen 2
    have e3:=HB1.out.cell 3
    have z3:=HB1.out.frozen 3
    have e4:=HB1.out.cell 4
    have z4:=HB1.out.frozen 4
    have e5:=HB1.out.cell 5
    have z5:=HB1.out.frozen 5
    have e6:=HB1.out.cell 6
    have z6:=HB1.out.frozen 6
    have e7:=HB1.out.cell 7
    have z7:=HB1.out.frozen 7
    have e8:=HB1.out.cell 8
    have z8:=HB1.out.frozen 8
    have e9:=HB1.out.cell 9
    have z9:=HB1.out.frozen 9
    have e10:=HB1.out.cell 10
    have z10:=HB1.out.frozen 10
    have e11:=HB1.out.cell 11
    have z11:=HB1.out.frozen 11
    simp only [List.getElem?_toArray,List.getElem?_cons_zero,List.getElem?_cons_succ] at e0 e1 e2 e3 e4 e5 e6 e7 e8 e9 e10 e11
    go_wp2_with fail
    refine (HM.out _).mono ?_
    rintro e w2 ⟨rfl,hb2⟩
    have HB2:=Lib.hid (HB1.out.below hb2 HB1.out.lt)
    have HBX:=Lib.hid (HBW.out.trans (hb2.mono HBW.out.size))
    clear e0 e1 e2 e3 e4 e5 e6 e7 e8 e9 e10 e11 z0 z1 z2 z3 z4 z5 z6 z7 z8 z9 z10 z11 hb2
    have e0:=HB2.out.cell 0
    have z0:=HB2.out.frozen 0
    have e1:=HB2.out.cell 1
    have z1:=HB2.out.frozen 1
    have e2:=HB2.out.cell 2
    have z2:=HB2.out.frozen 2
    have e3:=HB2.out.cell 3
    have z3:=HB2.out.frozen 3
    have e4:=HB2.out.cell 4
    have z4:=HB2.out.frozen 4
    have e5:=HB2.out.cell 5
    have z5:=HB2.out.frozen 5
    have e6:=HB2.out.cell 6
    have z6:=HB2.out.frozen 6
    have e7:=HB2.out.cell 7
    have z7:=HB2.out.frozen 7
    have e8:=HB2.out.cell 8
    have z8:=HB2.out.frozen 8
    have e9:=HB2.out.cell 9
    have z9:=HB2.out.frozen 9
    have e10:=HB2.out.cell 10
    have z10:=HB2.out.frozen 10
    have e11:=HB2.out.cell 11
    have z11:=HB2.out.frozen 11
    simp only [List.getElem?_toArray,List.getElem?_cons_zero,List.getElem?_cons_succ] at e0 e1 e2 e3 e4 e5 e6 e7 e8 e9 e10 e11
    go_wp2_with fail
    refine (HI.out _).mono ?_
    rintro e w' ⟨rfl,rfl⟩
    go_wp2_with fail
    go_ret
    exact ⟨rfl,HBX.out⟩
end
end Go.Proofs.YtphmhmdcaafmdaaGreatDoor
