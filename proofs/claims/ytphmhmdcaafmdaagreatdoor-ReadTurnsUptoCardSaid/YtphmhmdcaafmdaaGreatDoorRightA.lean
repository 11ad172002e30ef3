import Derived.Test.YtphmhmdcaafmdaaGreatDoorEnts
namespace Go.Proofs.YtphmhmdcaafmdaaGreatDoor
set_option linter.all false
open Go.RowKit
theorem meta_no {m : MetaP} (h : ¬ MetaOk m) : (m.mode < 0∨(0≤m.mode∧4095 < m.mode)∨(0≤m.mode∧m.mode≤4095∧m.uid < 0)∨(0≤m.mode∧m.mode≤4095∧0≤m.uid∧1125899906842624 < m.uid)∨(0≤m.mode∧m.mode≤4095∧0≤m.uid∧m.uid≤1125899906842624∧m.gid < 0)∨(0≤m.mode∧m.mode≤4095∧0≤m.uid∧m.uid≤1125899906842624∧0≤m.gid∧1125899906842624 < m.gid)) ∨
    ((0≤m.mode∧m.mode≤4095∧0≤m.uid∧m.uid≤1125899906842624∧0≤m.gid∧m.gid≤1125899906842624) ∧
      ((60 < m.user.length)∨(m.user.length≤60∧60 < m.group.length)∨(m.user.length≤60∧m.group.length≤60∧(0 : UInt8)∈m.user ++ m.group)∨(m.user.length≤60∧m.group.length≤60∧(0 : UInt8) ∉ m.user ++ m.group∧¬ timeOk m.second m.nano))):=by
  by_cases hr : 0≤m.mode∧m.mode≤4095∧0≤m.uid∧m.uid≤1125899906842624∧0≤m.gid∧m.gid≤1125899906842624
  · refine .inr ⟨hr,?_⟩
    by_cases h1 : 60 < m.user.length
    · exact .inl h1
    · by_cases h2 : 60 < m.group.length
      · exact .inr (.inl ⟨by omega,h2⟩)
      · by_cases h3 : (0 : UInt8)∈m.user ++ m.group
        · exact .inr (.inr (.inl ⟨by omega,by omega,h3⟩))
        · refine .inr (.inr (.inr ⟨by omega,by omega,h3,fun h4 => h ?_⟩))
          rw [List.mem_append] at h3
          exact ⟨⟨hr.1,hr.2.1⟩,⟨hr.2.2.1,hr.2.2.2.1⟩,hr.2.2.2.2,⟨by omega,fun k => h3 (.inl k)⟩,⟨by omega,fun k => h3 (.inr k)⟩,h4⟩
  · exact .inl (by omega)
theorem indexByte_in {l : List UInt8} {b : UInt8} (h : b∈l) : 0≤Lib.indexByte l b:=by
  obtain ⟨s,t,e,hn⟩:=List.eq_append_cons_of_mem h
  rw [e,indexByte_at hn]
  omega
set_option maxHeartbeats 1000000 in
theorem MCheck_no (m : MetaP) (h : ¬ MetaOk m) (hu : m.user.length≤1000000) (hg : m.group.length≤1000000) (w : World) :
    Calls Tryz.prog 88 #[.agg (metaCells m).toArray] w fun e w' => ∃ c,e=.returned (.int .i64 c)∧c≠0∧Below w.heap.size w w':=by
  have hs:=meta_no h
  obtain ⟨md,ud,gd,us,gr,sc,nn⟩:=m
  simp only at hs hu hg
  have hap:=bs_append us gr
  have z1:=bs_size us
  have z2:=bs_size gr
  clear h
  unfold metaCells
  simp only
  rcases hs with h1 | ⟨⟨q1,q2,q3,q4,q5,q6⟩,hs⟩
  · clear hap hu hg
    generalize bs us=bu at *
    generalize bs gr=bg at *
    rcases h1 with q1 | ⟨q1,q2⟩ | ⟨q1,q2,q3⟩ | ⟨q1,q2,q3,q4⟩ | ⟨q1,q2,q3,q4,q5⟩ | ⟨q1,q2,q3,q4,q5,q6⟩
    all_goals
      go_enter Tryz.func88,Tryz.ntmps88
      go_wp2_with fail
      go_ret
      exact ⟨4,rfl,by decide,(Below.refl _ _).alloc (Nat.le_refl _) _⟩
  · rcases hs with h1 | ⟨h1,h2⟩ | ⟨h1,h2,h3⟩ | ⟨h1,h2,h3,h4⟩
    · clear hap
      generalize bs us=bu at *
      generalize bs gr=bg at *
      go_enter Tryz.func88,Tryz.ntmps88
      go_wp2_with fail
      go_ret
      exact ⟨1,rfl,by decide,(Below.refl _ _).alloc (Nat.le_refl _) _⟩
    · clear hap
      generalize bs us=bu at *
      generalize bs gr=bg at *
      go_enter Tryz.func88,Tryz.ntmps88
      go_wp2_with fail
      go_ret
      exact ⟨1,rfl,by decide,(Below.refl _ _).alloc (Nat.le_refl _) _⟩
    · have hI:=Lib.hid (fun w => IndexByte_nul (us ++ gr) w)
      obtain ⟨i,hi⟩ : ∃ i,i=Lib.indexByte (us ++ gr) 0:=⟨_,rfl⟩
      rw [← hi,← hap] at hI
      have hi0 : 0≤i:=by rw [hi];exact indexByte_in h3
      clear hap h3 hi
      generalize bs us=bu at *
      generalize bs gr=bg at *
      go_enter Tryz.func88,Tryz.ntmps88
      go_wp2_with fail
      refine (hI.out _).mono ?_
      rintro e w' ⟨rfl,rfl⟩
      go_wp2_with fail
      go_ret
      exact ⟨3,rfl,by decide,(Below.refl _ _).alloc (Nat.le_refl _) _⟩
    · have hI:=Lib.hid (fun w => IndexByte_nul (us ++ gr) w)
      rw [indexByte_not h3,← hap] at hI
      have hS:=Lib.hid (fun w => SCheck_no sc nn h4 w)
      clear hap h3 h4
      generalize bs us=bu at *
      generalize bs gr=bg at *
      go_enter Tryz.func88,Tryz.ntmps88
      go_wp2_with fail
      refine (hI.out _).mono ?_
      rintro e w' ⟨rfl,rfl⟩
      go_wp2_with fail
      refine (hS.out _).mono ?_
      rintro e w' ⟨rfl,rfl⟩
      go_wp2_with fail
      go_ret
      exact ⟨4,rfl,by decide,(Below.refl _ _).alloc (Nat.le_refl _) _⟩
theorem MCheck_all (m : MetaP) (hu : m.user.length≤1000000) (hg : m.group.length≤1000000) (w : World) :
    Calls Tryz.prog 88 #[.agg (metaCells m).toArray] w fun e w' => ∃ c,e=.returned (.int .i64 c)∧(c=0 ↔ MetaOk m)∧Below w.heap.size w w':=by
  by_cases h : MetaOk m
  · exact (MCheck_ok m h w).mono fun e w' ⟨h1,h2⟩ => ⟨0,h1,by simp [h],h2⟩
  · exact (MCheck_no m h hu hg w).mono fun e w' ⟨c,h1,h2,h3⟩ => ⟨c,h1,by simp [h,h2],h3⟩
theorem check_len {p : List UInt8} (h : checkS p=0) : p.length≤400:=by
  unfold checkS at h
  split at h
  · cases h
  · omega
theorem ent_no {x : EntP} (h : ¬ EntOk x) (hp : checkS x.path=0) (hm : MetaOk x.mt) :
    (x.kind < 1)∨(4 < x.kind)∨(x.kind=1∧x.target≠[])∨(x.kind=1∧x.target=[]∧2000 < x.data.length) ∨
    (x.kind=2∧0 < x.data.length)∨(x.kind=2∧x.data.length=0∧x.target≠[]) ∨
    (x.kind=3∧0 < x.data.length)∨(x.kind=3∧x.data.length=0∧x.target=[])∨(x.kind=3∧x.data.length=0∧x.target≠[]∧400 < x.target.length)∨(x.kind=3∧x.data.length=0∧x.target≠[]∧x.target.length≤400∧(0 : UInt8)∈x.target) ∨
    (x.kind=4∧0 < x.data.length)∨(x.kind=4∧x.data.length=0∧x.target=[])∨(x.kind=4∧x.data.length=0∧x.target≠[]∧400 < x.target.length)∨(x.kind=4∧x.data.length=0∧x.target≠[]∧x.target.length≤400∧checkS x.target≠0):=by
  have hd : x.data.length=0 ↔ x.data=[]:=List.length_eq_zero_iff
  have hpl:=check_len hp
  by_cases k1 : x.kind < 1
  · exact .inl k1
  by_cases k2 : 4 < x.kind
  · exact .inr (.inl k2)
  obtain hk | hk | hk | hk : x.kind=1∨x.kind=2∨x.kind=3∨x.kind=4:=by omega
  · by_cases ht : x.target=[]
    · by_cases h2 : 2000 < x.data.length
      · simp [hk,ht,h2]
      · exact absurd ⟨⟨hp,hpl⟩,hm,.inl hk,⟨by omega,fun e => absurd hk e⟩,fun _ => ht,⟨by rw [ht];simp,fun e => by omega,fun e => by omega⟩⟩ h
    · simp [hk,ht]
  · by_cases h2 : 0 < x.data.length
    · simp [hk,h2]
    · by_cases ht : x.target=[]
      · exact absurd ⟨⟨hp,hpl⟩,hm,.inr (.inl hk),⟨by omega,fun _ => hd.1 (by omega)⟩,fun _ => ht,⟨by rw [ht];simp,fun e => by omega,fun e => by omega⟩⟩ h
      · have : x.data.length=0:=by omega
        simp [hk,ht,this]
  · by_cases h2 : 0 < x.data.length
    · simp [hk,h2]
    · have h3 : x.data.length=0:=by omega
      by_cases ht : x.target=[]
      · simp [hk,ht,h3]
      · by_cases h4 : 400 < x.target.length
        · simp [hk,ht,h3,h4]
        · by_cases h5 : (0 : UInt8)∈x.target
          · have : x.target.length≤400:=by omega
            simp [hk,ht,h3,h5,this]
          · exact absurd ⟨⟨hp,hpl⟩,hm,.inr (.inr (.inl hk)),⟨by omega,fun _ => hd.1 h3⟩,fun e => by omega,⟨by omega,fun _ => ⟨ht,h5⟩,fun e => by omega⟩⟩ h
  · by_cases h2 : 0 < x.data.length
    · simp [hk,h2]
    · have h3 : x.data.length=0:=by omega
      by_cases ht : x.target=[]
      · simp [hk,ht,h3]
      · by_cases h4 : 400 < x.target.length
        · simp [hk,ht,h3,h4]
        · by_cases h5 : checkS x.target=0
          · refine absurd ⟨⟨hp,hpl⟩,hm,.inr (.inr (.inr hk)),⟨by omega,fun _ => hd.1 h3⟩,fun e => by omega,⟨by omega,fun _ => ⟨ht,?_⟩,fun _ => h5⟩⟩ h
            intro h6
            unfold checkS at h5
            simp only [h6,if_true] at h5
            split at h5 <;> cases h5
          · have : x.target.length≤400:=by omega
            simp [hk,ht,h3,h5,this]
set_option maxRecDepth 100000 in
set_option maxHeartbeats 4000000 in
theorem PRight_no (x : EntP) (h : ¬ EntOk x) (hpl : x.path.length≤1000000) (htl : x.target.length≤1000000) (hu : x.mt.user.length≤1000000) (hg : x.mt.group.length≤1000000) (hdl : x.data.length≤10000000) (A : Option Addr) (c : Nat) (w : World) (hm : ML w) :
    Calls Tryz.prog 46 #[.agg (entC x (.slice A x.data.length c)).toArray] w fun e w' => ∃ c,e=.returned (.int .i64 c)∧c≠0∧Below w.heap.size w w':=by
  have hno:=ent_no h
  clear h
  obtain ⟨path,kind,target,⟨md,ud,gd,us,gr,sc,nn⟩,data⟩:=x
  simp only at hno hpl htl hu hg hdl
  have HP:=Lib.hid (fun w hm => Check_any path w (by omega) hm)
  have HML : Hid (∀ w',Below w.heap.size w w'→ML w'):=Lib.hid (fun w' hb => hm.below hb)
  have HM:=Lib.hid (fun w => MCheck_all ⟨md,ud,gd,us,gr,sc,nn⟩ hu hg w)
  have HTC:=Lib.hid (fun w hm => Check_any target w (by omega) hm)
  unfold entC
  unfold metaCells at HM
  simp only at HM ⊢
  have z:=bs_size target
  generalize bs path=bp at *
  generalize bs us=bu at *
  generalize bs gr=bg at *
  generalize data.length=dn at *
  clear hm hu hg hpl
  obtain ⟨W0,hW0⟩ : ∃ W0,W0=w.alloc (.cells #[.string bp,.int .i64 kind,.string (bs target),.int .i64 md,.int .i64 ud,.int .i64 gd,.string bu,.string bg,.int .i64 sc,.int .i64 nn,.slice A dn c] 58):=⟨_,rfl⟩
  have hB : Blk W0 w.heap.size 58 #[.string bp,.int .i64 kind,.string (bs target),.int .i64 md,.int .i64 ud,.int .i64 gd,.string bu,.string bg,.int .i64 sc,.int .i64 nn,.slice A dn c]:=by rw [hW0];exact Blk.new w _ _
  have hb0 : Below w.heap.size w W0:=by rw [hW0];exact (Below.refl _ w).alloc (Nat.le_refl _) _
  have HB:=Lib.hid hB
  have HB0:=Lib.hid hb0
  clear hB hb0
  obtain ⟨cp,hcp⟩ : ∃ cp,cp=checkS path:=⟨_,rfl⟩
  rw [← hcp] at HP hno
  have HNO:=Lib.hid hno
  clear hcp hno
  go_enter Tryz.func46,Tryz.ntmps46
  go_upto_region 1 with fail
  rw [← hW0]
  have HW0:=Lib.hid hW0
  clear hW0
  have e0:=HB.out.cell 0
  have z0:=HB.out.frozen 0
  simp only [List.getElem?_toArray,List.getElem?_cons_zero] at e0
  go_wp2_with fail
  refine (HP.out _ (HML.out _ HB0.out)).mono ?_
  rintro e w1 ⟨rfl,hb1⟩
  have HB1:=Lib.hid (HB.out.below hb1 HB.out.lt)
  have HBW:=Lib.hid (HB0.out.trans (hb1.mono HB0.out.size))
  clear e0 z0 hb1
  by_cases hc : cp=0
  case neg =>
    have hc1 : (cp == 0)=false:=beq_eq_false_iff_ne.2 hc
    have hc2 : (cp != 0)=true:=by simp [hc]
    have HC:=Lib.hid hc
    clear hc
    go_wp2_with fail
    go_ret
    exact ⟨cp,rfl,HC.out,HBW.out⟩
  subst hc
  have e0:=HB1.out.cell 0;have z0:=HB1.out.frozen 0
  have e1:=HB1.out.cell 1;have z1:=HB1.out.frozen 1
  have e2:=HB1.out.cell 2;have z2:=HB1.out.frozen 2
  have e3:=HB1.out.cell 3;have z3:=HB1.out.frozen 3
  have e4:=HB1.out.cell 4;have z4:=HB1.out.frozen 4
  have e5:=HB1.out.cell 5;have z5:=HB1.out.frozen 5
  have e6:=HB1.out.cell 6;have z6:=HB1.out.frozen 6
  have e7:=HB1.out.cell 7;have z7:=HB1.out.frozen 7
  have e8:=HB1.out.cell 8;have z8:=HB1.out.frozen 8
  have e9:=HB1.out.cell 9;have z9:=HB1.out.frozen 9
  have e10:=HB1.out.cell 10;have z10:=HB1.out.frozen 10
  simp only [List.getElem?_toArray,List.getElem?_cons_zero,List.getElem?_cons_succ] at e0 e1 e2 e3 e4 e5 e6 e7 e8 e9 e10
  go_wp2_with fail
  refine (HM.out _).mono ?_
  rintro e w2 ⟨cm,rfl,hcm,hb2⟩
  have HB2:=Lib.hid (HB1.out.below hb2 HB1.out.lt)
  have HBX:=Lib.hid (HBW.out.trans (hb2.mono HBW.out.size))
  clear e0 e1 e2 e3 e4 e5 e6 e7 e8 e9 e10 z0 z1 z2 z3 z4 z5 z6 z7 z8 z9 z10 hb2
  by_cases hc : cm=0
  case neg =>
    have hc1 : (cm == 0)=false:=beq_eq_false_iff_ne.2 hc
    have hc2 : (cm != 0)=true:=by simp [hc]
    have HC:=Lib.hid hc
    clear hc hcm
    go_wp2_with fail
    go_ret
    exact ⟨cm,rfl,HC.out,HBX.out⟩
  subst hc
  have hno:=HNO.out (by first | rfl | trivial) (hcm.1 (by first | rfl | trivial))
  clear hcm HNO
  have e0:=HB2.out.cell 0;have z0:=HB2.out.frozen 0
  have e1:=HB2.out.cell 1;have z1:=HB2.out.frozen 1
  have e2:=HB2.out.cell 2;have z2:=HB2.out.frozen 2
  have e3:=HB2.out.cell 3;have z3:=HB2.out.frozen 3
  have e4:=HB2.out.cell 4;have z4:=HB2.out.frozen 4
  have e5:=HB2.out.cell 5;have z5:=HB2.out.frozen 5
  have e6:=HB2.out.cell 6;have z6:=HB2.out.frozen 6
  have e7:=HB2.out.cell 7;have z7:=HB2.out.frozen 7
  have e8:=HB2.out.cell 8;have z8:=HB2.out.frozen 8
  have e9:=HB2.out.cell 9;have z9:=HB2.out.frozen 9
  have e10:=HB2.out.cell 10;have z10:=HB2.out.frozen 10
  simp only [List.getElem?_toArray,List.getElem?_cons_zero,List.getElem?_cons_succ] at e0 e1 e2 e3 e4 e5 e6 e7 e8 e9 e10
  have tz : target=[]→bs target=⟨#[]⟩:=fun e => by rw [e];rfl
  have tn : target≠[]→(bs target).toList.isEmpty=false:=fun e => by rw [bs_toList];cases target with | nil => exact absurd rfl e | cons _ _ => rfl
  have ti:=Lib.hid (fun (e : target≠[]) => (show target.length≠0 from fun h => e (List.length_eq_zero_iff.1 h)))
  rcases hno with h1 | h1 | ⟨rfl,h1⟩ | ⟨rfl,h1,h2⟩ | ⟨rfl,h1⟩ | ⟨rfl,h1,h2⟩ | ⟨rfl,h1⟩ | ⟨rfl,h1,h2⟩ | ⟨rfl,h1,h2,h3⟩ | ⟨rfl,h1,h2,h3,h4⟩ | ⟨rfl,h1⟩ | ⟨rfl,h1,h2⟩ | ⟨rfl,h1,h2,h3⟩ | ⟨rfl,h1,h2,h3,h4⟩
  · clear tz tn ti HTC htl z
    generalize bs target=bt at *
    go_wp2_with fail
    go_ret
    exact ⟨2,rfl,by decide,HBX.out⟩
  · clear tz tn ti HTC htl z
    generalize bs target=bt at *
    go_wp2_with fail
    go_ret
    exact ⟨2,rfl,by decide,HBX.out⟩
  · have t7:=tn h1
    have t6:=ti.out h1
    clear tz tn ti HTC htl h1
    generalize bs target=bt at *
    go_wp2_with fail
    go_ret
    exact ⟨3,rfl,by decide,HBX.out⟩
  · have t0:=tz h1
    clear tz tn ti HTC htl h1 z
    generalize bs target=bt at *
    subst t0
    have q : (2000 : Int) < (dn : Int):=by omega
    go_wp2_with fail
    go_ret
    exact ⟨1,rfl,by decide,HBX.out⟩
  · clear tz tn ti HTC htl z
    generalize bs target=bt at *
    have q : (0 : Int) < (dn : Int):=by omega
    go_wp2_with fail
    go_ret
    exact ⟨3,rfl,by decide,HBX.out⟩
  · subst h1
    have t7:=tn h2
    have t6:=ti.out h2
    clear tz tn ti HTC htl h2
    generalize bs target=bt at *
    go_wp2_with fail
    go_ret
    exact ⟨3,rfl,by decide,HBX.out⟩
  · clear tz tn ti HTC htl z
    generalize bs target=bt at *
    have q : (0 : Int) < (dn : Int):=by omega
    go_wp2_with fail
    go_ret
    exact ⟨3,rfl,by decide,HBX.out⟩
  · subst h1
    have t0:=tz h2
    clear tz tn ti HTC htl h2 z
    generalize bs target=bt at *
    subst t0
    go_wp2_with fail
    go_ret
    exact ⟨3,rfl,by decide,HBX.out⟩
  · subst h1
    have t7:=tn h2
    have t6:=ti.out h2
    clear tz tn ti HTC htl h2
    generalize bs target=bt at *
    have q : (400 : Int) < (bt.size : Int):=by omega
    have q2 : 400 < bt.size:=by omega
    go_wp2_with fail
    go_ret
    exact ⟨1,rfl,by decide,HBX.out⟩
  · subst h1
    have t7:=tn h2
    have t6:=ti.out h2
    have HI:=Lib.hid (fun w => IndexByte_nul target w)
    obtain ⟨i,hi⟩ : ∃ i,i=Lib.indexByte target 0:=⟨_,rfl⟩
    rw [← hi] at HI
    have hi0 : 0≤i:=by rw [hi];exact indexByte_in h4
    clear tz tn ti HTC htl h2 h4 hi
    generalize bs target=bt at *
    go_wp2_with fail
    refine (HI.out _).mono ?_
    rintro e w' ⟨rfl,rfl⟩
    go_wp2_with fail
    go_ret
    exact ⟨3,rfl,by decide,HBX.out⟩
  · clear tz tn ti HTC htl z
    generalize bs target=bt at *
    have q : (0 : Int) < (dn : Int):=by omega
    go_wp2_with fail
    go_ret
    exact ⟨3,rfl,by decide,HBX.out⟩
  · subst h1
    have t0:=tz h2
    clear tz tn ti HTC htl h2 z
    generalize bs target=bt at *
    subst t0
    go_wp2_with fail
    go_ret
    exact ⟨3,rfl,by decide,HBX.out⟩
  · subst h1
    have t7:=tn h2
    have t6:=ti.out h2
    clear tz tn ti HTC htl h2
    generalize bs target=bt at *
    have q : (400 : Int) < (bt.size : Int):=by omega
    have q2 : 400 < bt.size:=by omega
    go_wp2_with fail
    go_ret
    exact ⟨1,rfl,by decide,HBX.out⟩
  · subst h1
    have t7:=tn h2
    have t6:=ti.out h2
    obtain ⟨ct,hct⟩ : ∃ ct,ct=checkS target:=⟨_,rfl⟩
    rw [← hct] at HTC h4
    have HC4:=Lib.hid h4
    clear tz tn ti htl h2 h4 hct
    generalize bs target=bt at *
    go_wp2_with fail
    refine (HTC.out _ (HML.out _ HBX.out)).mono ?_
    rintro e w3 ⟨rfl,hb3⟩
    go_wp2_with fail
    go_ret
    exact ⟨ct,rfl,HC4.out,HBX.out.trans (hb3.mono HBX.out.size)⟩
end Go.Proofs.YtphmhmdcaafmdaaGreatDoor
