import Derived.Test.YtphmhmdcaafmdaaGreatDoorPChecksS
import Derived.Test.YtphmhmdcaafmdaaGreatDoorPut
import Derived.Test.YtphmhmdcaafmdaaGreatDoorTFR
namespace Go.Proofs.YtphmhmdcaafmdaaGreatDoor
set_option linter.all false
open Go.RowKit
def C1 (l : List EntP) (k : Nat) (hk : k < l.length) : Prop:=∀ j (hj : j < k),cmpP (l[j]'(by omega)).path l[k].path < 0
def C2 (l : List EntP) (k : Nat) (hk : k < l.length) : Prop:=upP l[k].path=[]∨∃ j,∃ hj : j < k,(l[j]'(by omega)).path=upP l[k].path∧(l[j]'(by omega)).kind=2
def C3 (l : List EntP) (k : Nat) (hk : k < l.length) : Prop:=l[k].kind=4→∃ j,∃ hj : j < k,(l[j]'(by omega)).path=l[k].target∧(l[j]'(by omega)).kind=1∧(l[j]'(by omega)).mt=l[k].mt
structure PreOk (l : List EntP) (k : Nat) : Prop where
  c1 : ∀ i (hi : i < l.length),i < k→C1 l i hi
  c2 : ∀ i (hi : i < l.length),i < k→C2 l i hi
  c3 : ∀ i (hi : i < l.length),i < k→C3 l i hi
theorem PreOk.zero (l : List EntP) : PreOk l 0:=⟨fun _ _ h => absurd h (Nat.not_lt_zero _),fun _ _ h => absurd h (Nat.not_lt_zero _),fun _ _ h => absurd h (Nat.not_lt_zero _)⟩
theorem PreOk.next {l : List EntP} {k : Nat} (h : PreOk l k) (hk : k < l.length) (h1 : C1 l k hk) (h2 : C2 l k hk) (h3 : C3 l k hk) : PreOk l (k + 1):=by
  refine ⟨fun i hi hl => ?_,fun i hi hl => ?_,fun i hi hl => ?_⟩
  all_goals
    rcases Nat.lt_succ_iff_lt_or_eq.1 hl with h' | rfl
  · exact h.c1 i hi h'
  · exact h1
  · exact h.c2 i hi h'
  · exact h2
  · exact h.c3 i hi h'
  · exact h3
theorem PreOk.ok {l : List EntP} (h : PreOk l l.length) (hlen : l.length≤40) (hent : ∀ x∈l,EntOk x) : EntsOk l:=by
  refine ⟨hlen,hent,?_,fun i hi => h.c2 i hi hi,fun i hi => h.c3 i hi hi⟩
  rw [List.pairwise_iff_getElem]
  intro i j hi hj hij
  exact h.c1 j hj hj i hij
theorem PreOk.behind {l : List EntP} {m : Nat} (h : PreOk l (m + 1)) (hm : m + 1 < l.length) (hc : cmpP (l[m]'(by omega)).path l[m + 1].path < 0) : C1 l (m + 1) hm:=by
  intro j hj
  rcases Nat.lt_succ_iff_lt_or_eq.1 hj with h' | rfl
  · exact cmpP_trans_lt (h.c1 m (by omega) (by omega) j h') (by omega)
  · exact hc
theorem cmpP_same (p : List UInt8) : cmpP p p=0:=cmpL_self (partsS p)
theorem PcM.next_c {xs : List EntV} {l : List EntP} {k : Nat} {M : List (List UInt8 × Value)} (h : PcM xs k M) (hx : xs.map (·.1)=l) (hk : k < l.length) (hc : C1 l k hk) (dv : Value) (hd : xs[k]'(by rw [← hx,List.length_map] at hk;exact hk)=(l[k],dv)) : PcM xs (k + 1) (smapPut M l[k].path (.agg (entC l[k] dv).toArray)):=by
  have hxl : xs.length=l.length:=by rw [← hx,List.length_map]
  have h1:=h.next (by omega : k < xs.length) (fun j hj e => by
    rw [xs_at hx (by omega) (by omega),xs_at hx hk (by omega)] at e
    have:=hc j hj
    rw [e,cmpP_same] at this
    omega)
  rw [hd] at h1
  exact h1
theorem PcM.got_c {xs : List EntV} {l : List EntP} {k : Nat} {M : List (List UInt8 × Value)} (h : PcM xs k M) (hx : xs.map (·.1)=l) (hk : k≤l.length) (hd : ∀ x∈xs,∃ A c,x.2=.slice A x.1.data.length c) (q : List UInt8) :
    (∃ (j : Nat) (hj : j < k) (f : EntP) (A : Option Addr) (c : Nat),f=l[j]'(by omega)∧f.path=q∧smapGet M q=some (.agg (entC f (.slice A f.data.length c)).toArray))∨smapGet M q=none:=by
  rw [h q]
  cases hq : (xs.take k).find? (fun x => x.1.path == q) with
  | none => exact .inr rfl
  | some x =>
    have h1:=List.find?_some hq
    have h2:=List.mem_of_find?_eq_some hq
    obtain ⟨j,hj,e⟩:=List.getElem_of_mem h2
    rw [List.length_take] at hj
    rw [List.getElem_take] at e
    have hj2 : j < xs.length:=by omega
    have hj3 : j < l.length:=by omega
    obtain ⟨A,c,e2⟩:=hd x (List.mem_of_mem_take h2)
    refine .inl ⟨j,by omega,x.1,A,c,?_,by simpa using h1,?_⟩
    · rw [← xs_at hx hj3 hj2,e]
    · obtain ⟨f,dv⟩:=x
      simp only at e2
      subst e2
      rfl
set_option maxRecDepth 100000 in
set_option maxHeartbeats 16000000 in
theorem PCheck_all (v : Value) (l : List EntP) (xs : List EntV) (w : World) (hm : ∀ W,Below w.heap.size w W→ML W) (hl : EntsAt w v l xs) (hent : ∀ x∈l,EntOk x) :
    Calls Tryz.prog 35 #[v] w fun e w' => ∃ q : Int,e=.returned (.int .i64 q)∧Below w.heap.size w w'∧(q=0→EntsOk l):=by
  have HLA:=Lib.hid hl
  have HML:=Lib.hid hm
  have HEN:=Lib.hid hent
  obtain ⟨A,c,hx,rfl,hlc,hc,-,hdat⟩:=hl
  unfold maxLen at hc
  by_cases hlen : l.length≤40
  case neg =>
    clear hdat hx hm hent
    have i1 : (40 : Int) < (l.length : Int):=by omega
    go_enter Tryz.func35,Tryz.ntmps35
    go_wp2_with fail
    go_ret
    exact ⟨1,rfl,Below.refl _ _,fun h => absurd h (by decide)⟩
  have HOK : Hid (PreOk l l.length→EntsOk l):=Lib.hid (fun h => h.ok hlen hent)
  have HX:=Lib.hid hx
  have HDV : Hid (∀ x∈xs,∃ A c,x.2=.slice A x.1.data.length c):=Lib.hid (fun x hx => by obtain ⟨A,c,e,_⟩:=hdat x hx;exact ⟨A,c,e⟩)
  have H0 : Hid (PcSt w xs 0 (w.alloc (.map #[] 0))):=Lib.hid ⟨(Below.refl _ _).alloc (Nat.le_refl _) _,[],SMap.new w,PcM.start xs⟩
  clear hm hent hx hdat
  have hmm:=@run_makeMap Tryz.prog
  go_enter Tryz.func35,Tryz.ntmps35
  go_wp2_with fail
  clear hmm
  go_loopg [15] l.length (fun gg s15 wr => ∃ k : Nat,k≤l.length∧l.length - k≤gg∧s15=.int .i64 k∧Hid (PcSt w xs k wr)∧Hid (PreOk l k))
  case atStart => exact ⟨0,Nat.zero_le _,by omega,rfl,H0,Lib.hid (PreOk.zero l)⟩
  case round =>
    obtain ⟨k,hk,hg,rfl,HS,HPO⟩:=hrel
    by_cases hlt : k < l.length
    · have hltz : (k : Int) < (l.length : Int):=by omega
      obtain ⟨ad,hkx,Ad,cd,rfl,hb,hxe,hdx,e0,e1,e2,e3,e4,e5,e6,e7,e8,e9,e10⟩:=(HLA.out.below HS.out.1).read hlt
      have hox:=HEN.out _ (List.getElem_mem hlt)
      have HNX:=Lib.hid (fun M (h : PcM xs k M) (h1 : C1 l k hlt) => h.next_c HX.out hlt h1 _ hxe)
      have HGT:=Lib.hid (fun M (h : PcM xs k M) q => h.got_c HX.out hk HDV.out q)
      have hpl:=hox.path.2
      have HRT:=Lib.hid (fun W hm => PRight_ok _ hox Ad cd W hm)
      obtain ⟨x,hxx⟩ : ∃ x,x=l[k]:=⟨_,rfl⟩
      have HXX:=Lib.hid hxx
      rw [← hxx] at hdx hpl HNX HRT e0 e1 e2 e3 e4 e5 e6 e7 e8 e9 e10
      have HDX:=Lib.hid hdx
      clear hxx hxe hdx hox
      obtain ⟨np,nk,nt,⟨o1,o2,o3,o4,o5,o6,o7⟩,nd⟩:=x
      simp only at hpl HNX HRT e0 e1 e2 e3 e4 e5 e6 e7 e8 e9 e10
      have hsz:=HS.out.1.size
      have HSB : Hid (PcNd w xs k wr.heap.size (⟨np,nk,nt,⟨o1,o2,o3,o4,o5,o6,o7⟩,nd⟩,.slice Ad nd.length cd) (wr.alloc (.cells #[.string (bs np),.int .i64 nk,.string (bs nt),.int .i64 o1,.int .i64 o2,.int .i64 o3,.string (bs o4),.string (bs o5),.int .i64 o6,.int .i64 o7,.slice Ad nd.length cd] 58))):=Lib.hid ⟨HS.out.below ((Below.refl _ _).alloc (Nat.le_refl _) _),Blk.new wr _ _,by
        obtain ⟨_,M,hM,_⟩:=HS.out
        exact hM.lt⟩
      unfold entC at HRT HNX
      simp only at HRT HNX
      go_wp2_with fail
      refine (HRT.out _ (HML.out _ HSB.out.1.1)).mono ?_
      rintro e w1 ⟨rfl,hb1⟩
      have hS1:=Lib.hid (HSB.out.below hb1)
      clear hb1
      go_upto_region 10 with fail
      clear e0 e1 e2 e3 e4 e5 e6 e7 e8 e9 e10 HSB HRT
      obtain ⟨g5,hg5⟩ : ∃ g5,g5=wr.heap.size:=⟨_,rfl⟩
      rw [← hg5] at hS1 ⊢
      clear hg5
      go_cut [15,38] from 15 to 74 (fun s15 s38 wx => s15=.int .i64 k∧∃ q,s38=.bool q∧Hid (q=true∨C1 l k hlt)∧Hid (PcNd w xs k g5 (⟨np,nk,nt,⟨o1,o2,o3,o4,o5,o6,o7⟩,nd⟩,.slice Ad nd.length cd) wx))
      case first =>
        by_cases hk0 : 0 < k
        · obtain ⟨m,rfl⟩ : ∃ m,k=m + 1:=⟨k - 1,by omega⟩
          obtain ⟨ad',-,Am,cm,had',-,-,-,p0,-⟩:=(HLA.out.below hS1.out.1.1).read (show m < l.length by omega)
          injection had' with had'
          subst had'
          have c0 : w1.cell? ⟨g5,0,none⟩=some (.string (bs np)):=hS1.out.2.1.cell 0
          have hpm:=(HEN.out _ (List.getElem_mem (show m < l.length by omega))).path.2
          have HBH : Hid (cmpP (l[m]'(by omega)).path np < 0→C1 l (m + 1) hlt):=Lib.hid (fun h => HPO.out.behind hlt (by rw [← HXX.out];exact h))
          have HCO:=Lib.hid (fun d os => Calls.regrown_of (w:=w1) (d:=d) (os:=os) (Compare_any (l[m]'(by omega)).path np _ (by omega) (by omega) (HML.out _ (hS1.out.1.1.trans ((below_regrown w1 d os).mono hS1.out.1.1.size)))))
          have f1:=fun d os => cell_regrown p0 d os
          have f0:=fun d os => cell_regrown c0 d os
          clear p0 c0 hpm hk0
          generalize cmpP (l[m]'(by omega)).path np=cc at *
          generalize bs (l[m]'(by omega)).path=bp at *
          have hw : IntKind.i64.wrap (m : Int)=m:=IntWalk.i64_in _ (by omega)
          have i1 : (m : Int) < l.length:=by omega
          have i2 : (0 : Int)≤m:=by omega
          have i3 : (0 : Int) < (m : Int) + 1:=by omega
          by_cases hcc : 0≤cc
          · have i4 : decide (0≤cc)=true:=decide_eq_true hcc
            refine wp_region_quiet_below mixed_ok (by kernel_rfl) ?_
            repeat (first | go_big_quiet_step (exact HCO.out _ _) | quiet_step (exact HCO.out _ _))
            refine wpQuiet_nil ?_
            intro _ hw'
            obtain ⟨⟨dq,osq⟩,hw''⟩:=hw'
            subst hw''
            clear f0 f1 hw i1 i2 i3 i4
            have HS4:=Lib.hid (hS1.out.below (below_regrown w1 dq osq))
            generalize Sort.grow (redrawn w1 dq) osq=w4 at *
            go_wp2_with fail
            go_meet
            case rel => exact ⟨by go_num,true,rfl,Lib.hid (.inl rfl),HS4⟩
          · have i4 : decide (0≤cc)=false:=decide_eq_false hcc
            refine wp_region_quiet_below mixed_ok (by kernel_rfl) ?_
            repeat (first | go_big_quiet_step (exact HCO.out _ _) | quiet_step (exact HCO.out _ _))
            refine wpQuiet_nil ?_
            intro _ hw'
            obtain ⟨⟨dq,osq⟩,hw''⟩:=hw'
            subst hw''
            clear f0 f1 hw i1 i2 i3 i4
            have HS4:=Lib.hid (hS1.out.below (below_regrown w1 dq osq))
            generalize Sort.grow (redrawn w1 dq) osq=w4 at *
            go_wp2_with fail
            go_meet
            case rel => exact ⟨by go_num,false,rfl,Lib.hid (.inr (HBH.out (by omega))),HS4⟩
        · obtain rfl : k=0:=by omega
          clear hk0
          refine wp_region_quiet_below mixed_ok (by kernel_rfl) ?_
          repeat (go_big_quiet_step (fail))
          refine wpQuiet_nil ?_
          intro _ hw'
          obtain ⟨⟨dq,osq⟩,hw''⟩:=hw'
          subst hw''
          have HS4:=Lib.hid (hS1.out.below (below_regrown w1 dq osq))
          generalize Sort.grow (redrawn w1 dq) osq=w4 at *
          go_wp2_with fail
          go_meet
          case rel => exact ⟨by go_num,false,rfl,Lib.hid (.inr (fun j hj => absurd hj (Nat.not_lt_zero _))),HS4⟩
      case rest =>
        obtain ⟨rfl,q,rfl,HQ,HS2⟩:=hcut
        clear hS1
        cases q with
        | true =>
          clear HQ
          go_wp2_with fail
          go_ret
          exact ⟨6,rfl,HS2.out.1.1,fun h => absurd h (by decide)⟩
        | false =>
          have HC1 : Hid (C1 l k hlt):=Lib.hid (HQ.out.resolve_left (by decide))
          clear HQ
          have c0 : wc.cell? ⟨g5,0,none⟩=some (.string (bs np)):=HS2.out.2.1.cell 0
          have HUP:=Lib.hid (fun W => Up_any np (by omega) W)
          have hul:=upP_length np
          go_upto_region 13 with (go_at_call 71;(with_reducible refine (HUP.out _).mono ?_);rintro e w' ⟨rfl,rfl⟩)
          clear c0
          go_cut [15,50] from 15 to 74 (fun s15 s50 wx => s15=.int .i64 k∧∃ q,s50=.bool q∧Hid (q=true∨C2 l k hlt)∧Hid (PcNd w xs k g5 (⟨np,nk,nt,⟨o1,o2,o3,o4,o5,o6,o7⟩,nd⟩,.slice Ad nd.length cd) wx))
          case first =>
            by_cases hu : upP np=[]
            · have t1 : (bs (upP np)).toList=[]:=by rw [bs_toList];exact hu
              have t2 : (bs (upP np)).toList.isEmpty=true:=by rw [t1];rfl
              have HC2 : Hid (C2 l k hlt):=Lib.hid (.inl (by rw [← HXX.out];exact hu))
              clear hu
              go_wp2_with fail
              go_meet
              case rel => exact ⟨rfl,false,rfl,Lib.hid (.inr HC2.out),HS2⟩
            · have t1 : ¬ (bs (upP np)).toList=[]:=by rw [bs_toList];exact hu
              have t2 : (bs (upP np)).toList.isEmpty=false:=by rw [bs_toList];exact List.isEmpty_eq_false_iff.2 hu
              obtain ⟨hB,M,hM,hPM⟩:=HS2.out.1
              have hlk:=hM.get (P:=Tryz.prog) (t:=146) Tryz.underlying146 Tryz.underlying9 (zeroE wc) (upP np)
              have hfk:=fun (w : World) a0 a1 a2 a3 a4 a5 a6 a7 a8 a9 a10 => field_kind w a0 a1 a2 a3 a4 a5 a6 a7 a8 a9 a10
              rcases HGT.out M hPM (upP np) with ⟨j,hj,f,Af,cf,hfe,hfp,hf⟩ | hf
              · rw [hf,Option.getD_some] at hlk
                clear hf
                have HC2 : Hid (f.kind=2→C2 l k hlt):=Lib.hid (fun h => .inr ⟨j,hj,by rw [← hfe,← HXX.out];exact hfp,by rw [← hfe];exact h⟩)
                clear hfe hfp hM hPM hu
                obtain ⟨fp,fk,ft,⟨p1,p2,p3,p4,p5,p6,p7⟩,fd⟩:=f
                unfold entC at hlk
                simp only at hlk HC2
                by_cases hfk2 : fk=2
                · subst hfk2
                  go_wp2_with fail
                  go_meet
                  case rel => exact ⟨rfl,false,rfl,Lib.hid (.inr (HC2.out (by trivial))),HS2⟩
                · have q1 : (fk == 2)=false:=beq_eq_false_iff_ne.2 hfk2
                  have q2 : (fk != 2)=true:=by simp [hfk2]
                  clear hfk2
                  go_wp2_with fail
                  go_meet
                  case rel => exact ⟨rfl,true,rfl,Lib.hid (.inl rfl),HS2⟩
              · rw [hf,Option.getD_none] at hlk
                clear hf hM hPM hu
                go_wp2_with fail
                go_meet
                case rel => exact ⟨rfl,true,rfl,Lib.hid (.inl rfl),HS2⟩
          case rest =>
            obtain ⟨rfl,q,rfl,HQ,HS3⟩:=hcut
            clear HS2
            obtain ⟨wd,hwd⟩ : ∃ wd,wd=wc:=⟨_,rfl⟩
            rw [← hwd] at HS3 ⊢
            clear hwd
            cases q with
            | true =>
              clear HQ
              go_wp2_with fail
              go_ret
              exact ⟨10,rfl,HS3.out.1.1,fun h => absurd h (by decide)⟩
            | false =>
              have HC2 : Hid (C2 l k hlt):=Lib.hid (HQ.out.resolve_left (by decide))
              clear HQ
              obtain ⟨hB,M,hM,hPM⟩:=HS3.out.1
              have hlk:=hM.get (P:=Tryz.prog) (t:=146) Tryz.underlying146 Tryz.underlying9 (zeroE wd) nt
              have HNM:=Lib.hid (HNX.out M hPM HC1.out)
              have hg5l:=HS3.out.2.2
              have hg5s : g5 < wd.heap.size:=HS3.out.2.1.lt
              have hml : w.heap.size < wd.heap.size:=hM.lt
              have HK3:=Lib.hid HS3.out.2.1
              obtain ⟨c0,c1,c2,c3,c4,c5,c6,c7,c8,c9,c10⟩:=HS3.out.2.1.ent
              simp only at c0 c1 c2 c3 c4 c5 c6 c7 c8 c9 c10
              rcases HGT.out M hPM nt with ⟨j,hj,f,Af,cf,hfe,hfp,hf⟩ | hf
              · rw [hf,Option.getD_some] at hlk
                clear hf
                have HC3 : Hid (f.kind=1→f.mt=⟨o1,o2,o3,o4,o5,o6,o7⟩→C3 l k hlt):=Lib.hid (fun h1 h2 _ => ⟨j,hj,by rw [← hfe,← HXX.out];exact hfp,by rw [← hfe];exact h1,by rw [← hfe,← HXX.out];exact h2⟩)
                clear hfe hfp
                obtain ⟨fp,fk,ft,fm,fd⟩:=f
                have hmf:=meta_first fm ⟨o1,o2,o3,o4,o5,o6,o7⟩
                obtain ⟨p1,p2,p3,p4,p5,p6,p7⟩:=fm
                unfold entC at hlk
                simp only at hlk HC3 hmf
                have HB4:=Lib.hid ((Below.refl wd.heap.size wd).alloc (Nat.le_refl _) (.cells #[.string (bs fp),.int .i64 fk,.string (bs ft),.int .i64 p1,.int .i64 p2,.int .i64 p3,.string (bs p4),.string (bs p5),.int .i64 p6,.int .i64 p7,.slice Af fd.length cf] 58))
                have HM4:=Lib.hid (hM.below HB4.out)
                have HK4:=Lib.hid (HK3.out.below HB4.out HK3.out.lt)
                have HBB:=Lib.hid (hB.trans (HB4.out.mono hB.size))
                clear hM hB hPM HS3
                by_cases h4 : nk=4
                · subst h4
                  by_cases hfk : fk=1
                  · subst hfk
                    rcases hmf with ⟨he,r1,r2,r3,r4,r5,r6,r7⟩ | ⟨-,hq⟩
                    · have HC3' : Hid (C3 l k hlt):=Lib.hid (HC3.out rfl he)
                      clear he HC3
                      go_wp2_with (with_reducible refine wpList_put_sm _ rfl (.tmp 70) (.tmp 72) (.tmp 73) 146 rfl _ _ Tryz.underlying146 Tryz.underlying9 w.heap.size M rfl HM4.out np _ rfl rfl ?_;intro w7 hM7 hg7;have HM7:=Lib.hid hM7;have HG7:=Lib.hid hg7;clear hM7 hg7)
                      go_roundg (l.length - (k + 1))
                      case measure => omega
                      case rel => exact ⟨k + 1,by omega,by omega,by go_num,Lib.hid ⟨HBB.out.grown HG7.out HBB.out.size (fun g hg => by cases hg;omega),_,HM7.out,HNM.out⟩,Lib.hid (HPO.out.next hlt HC1.out HC2.out HC3'.out)⟩
                    · clear HC3
                      rcases hq with r1 | ⟨r1,r2⟩ | ⟨r1,r2,r3⟩ | ⟨r1,r2,r3,r4⟩ | ⟨r1,r2,r3,r4,r5⟩ | ⟨r1,r2,r3,r4,r5,r6⟩ | ⟨r1,r2,r3,r4,r5,r6,r7⟩
                      all_goals
                        go_wp2_with fail
                        go_ret
                        exact ⟨11,rfl,HBB.out,fun h => absurd h (by decide)⟩
                  · have q1 : (fk == 1)=false:=beq_eq_false_iff_ne.2 hfk
                    have q2 : (fk != 1)=true:=by simp [hfk]
                    clear hfk hmf HC3
                    go_wp2_with fail
                    go_ret
                    exact ⟨11,rfl,HBB.out,fun h => absurd h (by decide)⟩
                · have q4 : (nk == 4)=false:=by simp [h4]
                  have HC3' : Hid (C3 l k hlt):=Lib.hid (fun h => absurd h (by rw [← HXX.out];exact h4))
                  clear h4 hmf HC3
                  go_wp2_with (with_reducible refine wpList_put_sm _ rfl (.tmp 70) (.tmp 72) (.tmp 73) 146 rfl _ _ Tryz.underlying146 Tryz.underlying9 w.heap.size M rfl HM4.out np _ rfl rfl ?_;intro w7 hM7 hg7;have HM7:=Lib.hid hM7;have HG7:=Lib.hid hg7;clear hM7 hg7)
                  go_roundg (l.length - (k + 1))
                  case measure => omega
                  case rel => exact ⟨k + 1,by omega,by omega,by go_num,Lib.hid ⟨HBB.out.grown HG7.out HBB.out.size (fun g hg => by cases hg;omega),_,HM7.out,HNM.out⟩,Lib.hid (HPO.out.next hlt HC1.out HC2.out HC3'.out)⟩
              · rw [hf,Option.getD_none] at hlk
                clear hf
                have HB4:=Lib.hid ((Below.refl wd.heap.size wd).alloc (Nat.le_refl _) (.cells #[.string ⟨#[]⟩,.int .i64 0,.string ⟨#[]⟩,.int .i64 0,.int .i64 0,.int .i64 0,.string ⟨#[]⟩,.string ⟨#[]⟩,.int .i64 0,.int .i64 0,.slice none 0 0] 58))
                have HM4:=Lib.hid (hM.below HB4.out)
                have HK4:=Lib.hid (HK3.out.below HB4.out HK3.out.lt)
                have HBB:=Lib.hid (hB.trans (HB4.out.mono hB.size))
                clear hM hB hPM HS3
                by_cases h4 : nk=4
                · subst h4
                  go_wp2_with fail
                  go_ret
                  exact ⟨11,rfl,HBB.out,fun h => absurd h (by decide)⟩
                · have q4 : (nk == 4)=false:=by simp [h4]
                  have HC3' : Hid (C3 l k hlt):=Lib.hid (fun h => absurd h (by rw [← HXX.out];exact h4))
                  clear h4
                  go_wp2_with (with_reducible refine wpList_put_sm _ rfl (.tmp 70) (.tmp 72) (.tmp 73) 146 rfl _ _ Tryz.underlying146 Tryz.underlying9 w.heap.size M rfl HM4.out np _ rfl rfl ?_;intro w7 hM7 hg7;have HM7:=Lib.hid hM7;have HG7:=Lib.hid hg7;clear hM7 hg7)
                  go_roundg (l.length - (k + 1))
                  case measure => omega
                  case rel => exact ⟨k + 1,by omega,by omega,by go_num,Lib.hid ⟨HBB.out.grown HG7.out HBB.out.size (fun g hg => by cases hg;omega),_,HM7.out,HNM.out⟩,Lib.hid (HPO.out.next hlt HC1.out HC2.out HC3'.out)⟩
    · obtain rfl : k=l.length:=by omega
      have HE:=Lib.hid (HOK.out HPO.out)
      go_wp2_with fail
      go_ret
      exact ⟨0,rfl,HS.out.1,fun _ => HE.out⟩
end Go.Proofs.YtphmhmdcaafmdaaGreatDoor
