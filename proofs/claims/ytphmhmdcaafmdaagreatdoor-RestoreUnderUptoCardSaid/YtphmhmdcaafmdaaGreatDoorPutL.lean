import Derived.Test.YtphmhmdcaafmdaaGreatDoorTCheck
import Derived.Test.YtphmhmdcaafmdaaGreatDoorPut
namespace Go.Proofs.YtphmhmdcaafmdaaGreatDoor
set_option linter.all false
open Go.RowKit
def chkL (l : List NodeP) (n : Nat) : Int:=if chkFrom l 0 n=0 then 1 else chkFrom l 0 n
theorem chkL_at {l : List NodeP} {n k : Nat} (hk : k < n) (h : ∀ j,j < k→chkAt l j=0) (hn : chkAt l k≠0) : chkL l n=chkAt l k:=by
  unfold chkL
  rw [chkFrom_at k 0 n (by omega) hk (fun j _ h2 => h j h2) hn,if_neg hn]
theorem chkL_long {l : List NodeP} {n : Nat} (h : ∀ j,j < n→chkAt l j=0) : chkL l n=1:=by
  unfold chkL
  rw [if_pos (chkFrom_zero n 0 (fun j _ h2 => h j (by omega)))]
set_option maxHeartbeats 1000000 in
theorem TRight_long (x : NodeP) (h : 400 < x.path.length∧x.path.length≤1000) (A : Option Addr) (n c : Nat) (w : World) (hm : ML w) :
    Calls Tryz.prog 72 #[.agg (nodeC (x,.slice A n c)).toArray] w fun e w' => e=.returned (.int .i64 1)∧Below w.heap.size w w':=by
  obtain ⟨path,kind,same,target,⟨md,ud,gd,us,gr,sc,nn⟩,data⟩:=x
  obtain ⟨p1,p2⟩:=h
  simp only at p1 p2
  have HP:=Lib.hid (fun w hm => Check_any path w (by omega) hm)
  rw [show checkS path=1 by unfold checkS;rw [if_pos (.inr p1)]] at HP
  have HML : Hid (∀ w',Below w.heap.size w w'→ML w'):=Lib.hid (fun w' hb => hm.below hb)
  clear hm p1 p2
  have hb0 : Below w.heap.size w (w.alloc (.cells (nodeC (⟨path,kind,same,target,⟨md,ud,gd,us,gr,sc,nn⟩,data⟩,.slice A n c)).toArray 29)):=(Below.refl _ _).alloc (Nat.le_refl _) _
  have hk:=(Blk.new w 29 (nodeC (⟨path,kind,same,target,⟨md,ud,gd,us,gr,sc,nn⟩,data⟩,.slice A n c)).toArray).cell 0
  unfold nodeC at hb0 hk ⊢
  simp only at hb0 hk ⊢
  have HB0:=Lib.hid hb0
  clear hb0
  go_enter Tryz.func72,Tryz.ntmps72
  go_wp2_with fail
  refine (HP.out _ (HML.out _ HB0.out)).mono ?_
  rintro e w1 ⟨rfl,b1⟩
  have HB1:=Lib.hid (HB0.out.trans (b1.mono HB0.out.size))
  clear b1
  go_wp2_with fail
  go_ret
  exact ⟨rfl,HB1.out⟩
set_option maxRecDepth 100000 in
set_option maxHeartbeats 40000000 in
theorem TCheck_long (v : Value) (l : List NodeP) (n : Nat) (w : World) (hm : ML w) (hl : NodesAt w v l) (hn : n < l.length) (hlen : l.length≤40) (hok : ∀ k (hk : k < l.length),k < n→NodeOk l[k]) (hlong : 400 < l[n].path.length∧l[n].path.length≤1000) :
    Calls Tryz.prog 37 #[v] w fun e w' => e=.returned (.int .i64 (chkL l n))∧Below w.heap.size w w':=by
  have HNA:=Lib.hid hl
  obtain ⟨xs,A,c,hx,rfl,hlc,hc,hA,hr,hdat⟩:=hl
  have hxl : xs.length=l.length:=by rw [← hx,List.length_map]
  unfold maxLen at hc
  have hbz : ¬ (40 : Int) < (l.length : Int):=by omega
  have HX:=Lib.hid hx
  have HOK:=Lib.hid hok
  have HLG:=Lib.hid hlong
  have HRR:=Lib.hid hr
  have HDT:=Lib.hid hdat
  have HML : Hid (∀ W,Below w.heap.size w W→ML W):=Lib.hid (fun W hb => hm.below hb)
  have H0 : Hid (CkSt w xs 0 (w.alloc (.map #[] 0))):=⟨(Below.refl _ _).alloc (Nat.le_refl _) _,[],IMap.new w,ChkM.start xs⟩
  clear hm hr hdat hx hok hlong
  have hmm:=@run_makeMap Tryz.prog
  go_enter Tryz.func37,Tryz.ntmps37
  go_wp2_with fail
  clear hmm
  go_loopg [18] l.length (fun gg s18 wr => ∃ k : Nat,k≤n∧l.length - k≤gg∧s18=.int .i64 k∧Hid (CkSt w xs k wr)∧Hid (∀ j,j < k→chkAt l j=0))
  case atStart => exact ⟨0,Nat.zero_le _,by omega,rfl,H0,Lib.hid (fun j h => absurd h (Nat.not_lt_zero _))⟩
  case round =>
    obtain ⟨k,hk,hg,rfl,HS,HC⟩:=hrel
    by_cases hkn : k < n
    · have hlt : k < l.length:=by omega
      have hltz : (k : Int) < (l.length : Int):=by omega
      have hr2:=HRR.out.below HS.out.1
      obtain ⟨ad,rfl,hb,e0,e1,e2,e3,e4,e5,e6,e7,e8,e9,e10,e11⟩:=load_node hr2 (by omega) hlt
      have hxk : xs[k].1=l[k]:=by
        have:=HX.out
        subst this
        simp
      have hdx:=HDT.out xs[k] (List.getElem_mem _)
      have hox:=HOK.out k hlt hkn
      rw [← hxk] at hox
      have HAT:=Lib.hid (fun (hn : chkAt l k≠0) => chkL_at hkn HC.out hn)
      have HGD:=Lib.hid (show l.getD k default=xs[k].1 from (getD_at hlt).trans hxk.symm)
      obtain ⟨x,hxe⟩ : ∃ x,x=xs[k]:=⟨_,rfl⟩
      have HXE:=Lib.hid hxe
      rw [← hxe] at hdx hox HGD e0 e1 e2 e3 e4 e5 e6 e7 e8 e9 e10 e11
      have HDX:=Lib.hid hdx
      have HOX:=Lib.hid hox
      clear hxk hox hr2 hxe
      obtain ⟨⟨np,nk,ns,nt,⟨o1,o2,o3,o4,o5,o6,o7⟩,nd⟩,dv⟩:=x
      obtain ⟨Ad,cd,hde,-⟩:=hdx
      simp only at hde
      subst hde
      simp only at e0 e1 e2 e3 e4 e5 e6 e7 e8 e9 e10 e11
      have hsz:=HS.out.1.size
      have HSB : Hid (CkNd w xs k wr.heap.size (⟨np,nk,ns,nt,⟨o1,o2,o3,o4,o5,o6,o7⟩,nd⟩,.slice Ad nd.length cd) (wr.alloc (.cells #[.string (bs np),.int .i64 nk,.int .i64 ns,.string (bs nt),.int .i64 o1,.int .i64 o2,.int .i64 o3,.string (bs o4),.string (bs o5),.int .i64 o6,.int .i64 o7,.slice Ad nd.length cd] 29))) :=
        ⟨HS.out.below ((Below.refl _ _).alloc (Nat.le_refl _) _),Blk.new wr _ _,by
          obtain ⟨_,M,hM,_⟩:=HS.out
          exact hM.lt⟩
      have HRT:=Lib.hid (fun W hm => TRight_ok _ HOX.out Ad cd W hm)
      unfold nodeC at HRT
      simp only at HRT
      have HK : Hid (∀ W W' g x,CkNd w xs k g x W→Below W.heap.size W W'→CkNd w xs k g x W'):=Lib.hid (fun W W' g x h hb => h.below hb)
      have hnp : np.length≤400:=HOX.out.path.2
      go_wp2_with fail
      refine (HRT.out _ (HML.out _ HSB.out.1.1)).mono ?_
      rintro e w1 ⟨rfl,hb1⟩
      have hS1:=Lib.hid (HK.out _ _ _ _ HSB.out hb1)
      clear hb1
      go_upto_region 10 with fail
      clear e0 e1 e2 e3 e4 e5 e6 e7 e8 e9 e10 e11 HSB
      go_cut [18,41] from 18 to 88 (fun s18 s41 wx => s18=.int .i64 k∧s41=.bool (badOrd l k)∧Hid (CkNd w xs k wr.heap.size (⟨np,nk,ns,nt,⟨o1,o2,o3,o4,o5,o6,o7⟩,nd⟩,.slice Ad nd.length cd) wx))
      case first =>
        by_cases hk0 : 0 < k
        · obtain ⟨m,rfl⟩ : ∃ m,k=m + 1:=⟨k - 1,by omega⟩
          have hr3:=HRR.out.below hS1.out.1.1
          obtain ⟨ad',had',_,p0,-⟩:=load_node hr3 (show m < xs.length by omega) (by omega)
          injection had' with had'
          subst had'
          have c0:=hS1.out.cells 0
          simp only [nodeC,List.getElem?_cons_zero] at c0
          have hpm : xs[m].1.path.length≤400:=by
            have h1 : xs[m].1=l[m]:=by have:=HX.out;subst this;simp
            rw [h1]
            exact (HOK.out m _ (by omega)).path.2
          have hbo : badOrd l (m + 1)=decide (0≤cmpP xs[m].1.path np):=by
            have h1 : xs[m].1=l[m]:=by have:=HX.out;subst this;simp
            unfold badOrd
            rw [HGD.out,Nat.add_sub_cancel,getD_at (by omega : m < l.length),← h1]
            simp
          have HCO:=Lib.hid (fun d os => Calls.regrown_of (w:=w1) (d:=d) (os:=os) (Compare_any xs[m].1.path np _ (by omega) (by omega) (HML.out _ (hS1.out.1.1.trans ((below_regrown w1 d os).mono hS1.out.1.1.size)))))
          have HBO:=Lib.hid hbo
          have f1:=fun d os => cell_regrown p0 d os
          have f0:=fun d os => cell_regrown c0 d os
          clear hbo hr3 p0 c0 hpm
          generalize cmpP xs[m].1.path np=cc at *
          generalize bs xs[m].1.path=bp at *
          have hw : IntKind.i64.wrap (m : Int)=m:=IntWalk.i64_in _ (by omega)
          have i1 : (m : Int) < l.length:=by omega
          have i2 : (0 : Int)≤m:=by omega
          have i3 : (0 : Int) < (m : Int) + 1:=by omega
          refine wp_region_quiet_below mixed_ok (by kernel_rfl) ?_
          repeat (first | go_big_quiet_step (exact HCO.out _ _) | quiet_step (exact HCO.out _ _))
          refine wpQuiet_nil ?_
          intro _ hw'
          obtain ⟨⟨dq,osq⟩,hw''⟩:=hw'
          subst hw''
          clear f0 f1 hw i1 i2 i3
          have HS4:=Lib.hid (HK.out _ _ _ _ hS1.out (below_regrown w1 dq osq))
          generalize Sort.grow (redrawn w1 dq) osq=w4 at *
          go_wp2_with fail
          go_meet
          case rel => exact ⟨by go_num,congrArg Value.bool HBO.out.symm,HS4⟩
        · have HBO : Hid (badOrd l k=false):=Lib.hid (decide_eq_false (fun a => hk0 a.1))
          obtain rfl : k=0:=by omega
          clear hk0
          refine wp_region_quiet_below mixed_ok (by kernel_rfl) ?_
          repeat (go_big_quiet_step (fail))
          refine wpQuiet_nil ?_
          intro _ hw'
          obtain ⟨⟨dq,osq⟩,hw''⟩:=hw'
          subst hw''
          have HS4:=Lib.hid (HK.out _ _ _ _ hS1.out (below_regrown w1 dq osq))
          generalize Sort.grow (redrawn w1 dq) osq=w4 at *
          go_wp2_with fail
          go_meet
          case rel => exact ⟨by go_num,congrArg Value.bool HBO.out.symm,HS4⟩
      case rest =>
        obtain ⟨rfl,rfl,HS2⟩:=hcut
        clear hS1
        cases hbo : badOrd l k with
        | true =>
          have HR:=Lib.hid ((HAT.out (by rw [chkAt_ord hbo];decide)).trans (chkAt_ord hbo))
          clear hbo
          go_wp2_with fail
          go_ret
          exact ⟨ret_int HR.out.symm,HS2.out.1.1⟩
        | false =>
          have HBO:=Lib.hid hbo
          clear hbo
          have c0:=HS2.out.cells 0
          simp only [nodeC,List.getElem?_cons_zero] at c0
          have HUP:=Lib.hid (fun W => Up_any np (by omega) W)
          have hul:=upP_length np
          go_upto_if 46 with (go_at_call 71;(with_reducible refine (HUP.out _).mono ?_);rintro e w' ⟨rfl,rfl⟩)
          clear c0
          go_cut [8,9,18] from 18 to 88 (fun _ _ s18 wx => s18=.int .i64 k∧Hid (upOut l k=false)∧Hid (CkNd w xs k wr.heap.size (⟨np,nk,ns,nt,⟨o1,o2,o3,o4,o5,o6,o7⟩,nd⟩,.slice Ad nd.length cd) wx))
          case first =>
            by_cases hu : upP np=[]
            · have HUO : Hid (upOut l k=false):=Lib.hid (by unfold upOut;rw [HGD.out];simp [hu])
              have t1 : (bs (upP np)).toList=[]:=by rw [bs_toList];exact hu
              have t2 : (bs (upP np)).toList.isEmpty=true:=by rw [t1];rfl
              clear hu
              simp only [t2,Bool.not_true]
              go_wp2_with fail
              go_meet
              case rel => exact ⟨rfl,HUO,HS2⟩
            · have HUQ : Hid (upOut l k=upBad l k (upP np)):=Lib.hid (by unfold upOut;rw [HGD.out];simp [hu])
              have t1 : ¬ (bs (upP np)).toList=[]:=by rw [bs_toList];exact hu
              have t2 : (bs (upP np)).toList.isEmpty=false:=by rw [bs_toList];cases hq : upP np with | nil => exact absurd hq hu | cons => rfl
              have HFI:=Lib.hid (Find_any _ _ (upP np) _ ((HNA.out.take k (by omega)).below HS2.out.1.1))
              clear hu
              have i1 : (0 : Int)≤(k : Int):=by omega
              have i2 : (k : Int)≤(c : Int):=by omega
              simp only [t2,Bool.not_false]
              cases hq : findP (l.take k) (upP np) with
              | none =>
                have HR : Hid (chkL l n=10):=Lib.hid (by
                  have h1 : upOut l k=true:=by rw [HUQ.out];unfold upBad;rw [hq]
                  exact (HAT.out (by rw [chkAt_up HBO.out h1];decide)).trans (chkAt_up HBO.out h1))
                rw [hq] at HFI
                clear hq
                unfold findR at HFI
                go_wp2_with fail
                refine HFI.out.mono ?_
                rintro e w3 ⟨rfl,b3⟩
                have B3:=Lib.hid (HS2.out.1.1.trans (b3.mono HS2.out.1.1.size))
                clear b3
                go_wp2_with fail
                go_ret
                exact ⟨ret_int HR.out.symm,B3.out⟩
              | some j =>
                obtain ⟨hj1,hj2,-⟩:=findP_take hq
                have hub : upBad l k (upP np)=((l.getD j default).kind != 2):=by unfold upBad;rw [hq]
                rw [hq] at HFI
                clear hq
                unfold findR at HFI
                have HUB:=Lib.hid hub
                clear hub
                go_wp2_with fail
                refine HFI.out.mono ?_
                rintro e w3 ⟨rfl,b3⟩
                have B3:=Lib.hid (HK.out _ _ _ _ HS2.out b3)
                clear b3
                have hr3:=HRR.out.below B3.out.1.1
                obtain ⟨ad',had',_,-,p1,-⟩:=load_node hr3 (show j < xs.length by omega) (by omega)
                injection had' with had'
                subst had'
                have hkj : xs[j].1.kind=(l.getD j default).kind:=by
                  have h1 : xs[j].1=l[j]:=by have:=HX.out;subst this;simp
                  rw [h1,getD_at hj1]
                rw [hkj] at p1
                have i3 : (j : Int) < l.length:=by omega
                have i4 : (0 : Int)≤j:=by omega
                clear hr3 hkj
                generalize (l.getD j default).kind=kj at *
                by_cases h2 : kj=2
                · have q1 : (kj == 2)=true:=by simp [h2]
                  have q2 : (kj != 2)=false:=by simp [h2]
                  have HUO : Hid (upOut l k=false):=Lib.hid (by rw [HUQ.out,HUB.out];exact q2)
                  clear h2
                  go_wp2_with fail
                  go_meet
                  case rel => exact ⟨rfl,HUO,B3⟩
                · have q1 : (kj == 2)=false:=by simp [h2]
                  have q2 : (kj != 2)=true:=by simp [h2]
                  have HR : Hid (chkL l n=10):=Lib.hid (by
                    have h1 : upOut l k=true:=by rw [HUQ.out,HUB.out];exact q2
                    exact (HAT.out (by rw [chkAt_up HBO.out h1];decide)).trans (chkAt_up HBO.out h1))
                  clear h2
                  go_wp2_with fail
                  go_ret
                  exact ⟨ret_int HR.out.symm,B3.out.1.1⟩
          case rest =>
            obtain ⟨rfl,HUO,HS3⟩:=hcut
            clear HS2
            have c2:=HS3.out.cells 2
            simp only [nodeC,List.getElem?_cons_zero,List.getElem?_cons_succ] at c2
            obtain ⟨hB3,M,hM,hCM⟩:=HS3.out.1
            have HB3:=Lib.hid hB3
            have HM:=Lib.hid hM
            have HCM:=Lib.hid hCM
            clear hB3 hM hCM
            by_cases hs : ns=0
            · have q1 : (ns == 0)=true:=by simp [hs]
              have H1 : Hid (CkSt w xs (k + 1) wc):=Lib.hid ⟨HB3.out,M,HM.out,HCM.out.none_ (by omega) (by rw [← HXE.out];exact hs)⟩
              have H2:=Lib.hid (chk_next HC.out (chkAt_alone HBO.out HUO.out (by rw [HGD.out];exact hs)))
              clear hs
              go_wp2_with fail
              go_roundg (l.length - (k + 1))
              case measure => omega
              case rel => exact ⟨k + 1,by omega,by omega,by go_num,H1,H2⟩
            · have q1 : (ns == 0)=false:=by simp [hs]
              have c0:=HS3.out.cells 0
              have c1:=HS3.out.cells 1
              have c3:=HS3.out.cells 3
              have c4:=HS3.out.cells 4
              have c5:=HS3.out.cells 5
              have c6:=HS3.out.cells 6
              have c7:=HS3.out.cells 7
              have c8:=HS3.out.cells 8
              have c9:=HS3.out.cells 9
              have c10:=HS3.out.cells 10
              have c11:=HS3.out.cells 11
              simp only [nodeC,List.getElem?_cons_zero,List.getElem?_cons_succ] at c0 c1 c3 c4 c5 c6 c7 c8 c9 c10 c11
              have hglt:=HS3.out.2.1.lt
              have hmlt:=HM.out.lt
              have hFS:=first_plain HX.out k ns
              have hCM:=HCM.out ns hs
              cases hq : (xs.take k).find? (fun x => x.1.same == ns) with
              | none =>
                rw [hq] at hFS hCM
                have hG : mapGet M ns=none:=hCM
                have H2:=Lib.hid (chk_next HC.out (chkAt_fresh HBO.out HUO.out (by rw [HGD.out];exact hFS)))
                have H1:=Lib.hid (HCM.out.fresh (by omega : k < xs.length) (by rw [← HXE.out];exact hq))
                rw [← HXE.out] at H1
                unfold nodeC at H1
                simp only at H1
                have HA : Hid (IMap (wc.alloc (.cells #[.string ⟨#[]⟩,.int .i64 0,.int .i64 0,.string ⟨#[]⟩,.int .i64 0,.int .i64 0,.int .i64 0,.string ⟨#[]⟩,.string ⟨#[]⟩,.int .i64 0,.int .i64 0,.slice none 0 0] 29)) w.heap.size M):=Lib.hid (HM.out.below ((Below.refl _ _).alloc (Nat.le_refl _) _))
                have HB4:=Lib.hid (HB3.out.alloc HB3.out.size (.cells #[.string ⟨#[]⟩,.int .i64 0,.int .i64 0,.string ⟨#[]⟩,.int .i64 0,.int .i64 0,.int .i64 0,.string ⟨#[]⟩,.string ⟨#[]⟩,.int .i64 0,.int .i64 0,.slice none 0 0] 29))
                clear hFS hCM hs hq
                go_wp2_with (first | (with_reducible refine wpList_look_im _ rfl (.tmp 69) (.tmp 71) 148 rfl _ _ Tryz.underlying148 Tryz.underlying3 (.agg #[.string ⟨#[]⟩,.int .i64 0,.int .i64 0,.string ⟨#[]⟩,.int .i64 0,.int .i64 0,.int .i64 0,.string ⟨#[]⟩,.string ⟨#[]⟩,.int .i64 0,.int .i64 0,.slice none 0 0]) (zeroN _) w.heap.size M rfl HM.out ns rfl ?_) | (with_reducible refine wpList_put_im _ rfl (.tmp 84) (.tmp 86) (.tmp 87) 148 rfl _ _ Tryz.underlying148 Tryz.underlying3 w.heap.size M rfl HA.out ns _ rfl rfl ?_;intro w7 hM7 hg7;have HM7:=Lib.hid hM7;have HG7:=Lib.hid hg7;clear hM7 hg7))
                go_roundg (l.length - (k + 1))
                case measure => omega
                case rel => exact ⟨k + 1,by omega,by omega,by go_num,Lib.hid ⟨HB4.out.grown HG7.out HB4.out.size (fun g hg => by cases hg;omega),_,HM7.out,H1.out⟩,H2⟩
              | some f =>
                rw [hq] at hFS hCM
                have H1:=Lib.hid (HCM.out.old (by omega : k < xs.length) (by rw [← HXE.out];exact hq))
                have hfm : f∈xs:=List.mem_of_mem_take (List.mem_of_find?_eq_some hq)
                have hdf:=(HDT.out f hfm).below HB3.out
                have HA:=Lib.hid (fun W (hb : Below wc.heap.size wc W) => Alike_any f (⟨np,nk,ns,nt,⟨o1,o2,o3,o4,o5,o6,o7⟩,nd⟩,.slice Ad nd.length cd) W (hdf.below hb) ((HDX.out.below HB3.out).below hb))
                have hFS' : firstSame (l.take k) (l.getD k default).same=some f.1:=by rw [HGD.out];exact hFS
                have HL:=Lib.hid (fun (h : alikeB f.1 (l.getD k default)=true) => chk_next HC.out (chkAt_like HBO.out HUO.out hFS' h))
                have HU:=Lib.hid (fun (h : alikeB f.1 (l.getD k default)=false) => (HAT.out (by rw [chkAt_unlike HBO.out HUO.out (by rw [HGD.out];exact hs) hFS' h];decide)).trans (chkAt_unlike HBO.out HUO.out (by rw [HGD.out];exact hs) hFS' h))
                rw [HGD.out] at HL HU
                obtain ⟨⟨fp,fk,fs,ft,⟨p1,p2,p3,p4,p5,p6,p7⟩,fd⟩,fv⟩:=f
                obtain ⟨Af,cf,hfe,-⟩:=hdf
                simp only at hfe
                subst hfe
                have hG : mapGet M ns=some (.agg #[.string (bs fp),.int .i64 fk,.int .i64 fs,.string (bs ft),.int .i64 p1,.int .i64 p2,.int .i64 p3,.string (bs p4),.string (bs p5),.int .i64 p6,.int .i64 p7,.slice Af fd.length cf]):=hCM
                have HB4:=Lib.hid ((Below.refl wc.heap.size wc).alloc (Nat.le_refl _) (.cells #[.string (bs fp),.int .i64 fk,.int .i64 fs,.string (bs ft),.int .i64 p1,.int .i64 p2,.int .i64 p3,.string (bs p4),.string (bs p5),.int .i64 p6,.int .i64 p7,.slice Af fd.length cf] 29))
                unfold nodeC at HA
                simp only at HA HL HU
                have HS5:=Lib.hid (show CkSt w xs (k + 1) wc from ⟨HB3.out,M,HM.out,H1.out⟩)
                clear hFS hFS' hCM hs hq hfm
                cases hal : alikeB ⟨fp,fk,fs,ft,⟨p1,p2,p3,p4,p5,p6,p7⟩,fd⟩ ⟨np,nk,ns,nt,⟨o1,o2,o3,o4,o5,o6,o7⟩,nd⟩ with
                | true =>
                  rw [hal] at HA
                  have H2:=Lib.hid (HL.out hal)
                  clear hal HL HU
                  go_wp2_with (with_reducible refine wpList_look_im _ rfl (.tmp 69) (.tmp 71) 148 rfl _ _ Tryz.underlying148 Tryz.underlying3 (.agg #[.string ⟨#[]⟩,.int .i64 0,.int .i64 0,.string ⟨#[]⟩,.int .i64 0,.int .i64 0,.int .i64 0,.string ⟨#[]⟩,.string ⟨#[]⟩,.int .i64 0,.int .i64 0,.slice none 0 0]) (zeroN _) w.heap.size M rfl HM.out ns rfl ?_)
                  refine (HA.out _ HB4.out).mono ?_
                  rintro e w5 ⟨rfl,b5⟩
                  have HB5:=Lib.hid (HB4.out.trans (b5.mono HB4.out.size))
                  have HS6:=Lib.hid (HS5.out.below HB5.out)
                  clear b5
                  go_wp2_with fail
                  go_roundg (l.length - (k + 1))
                  case measure => omega
                  case rel => exact ⟨k + 1,by omega,by omega,by go_num,HS6,H2⟩
                | false =>
                  rw [hal] at HA
                  have H2:=Lib.hid (HU.out hal)
                  clear hal HL HU
                  go_wp2_with (with_reducible refine wpList_look_im _ rfl (.tmp 69) (.tmp 71) 148 rfl _ _ Tryz.underlying148 Tryz.underlying3 (.agg #[.string ⟨#[]⟩,.int .i64 0,.int .i64 0,.string ⟨#[]⟩,.int .i64 0,.int .i64 0,.int .i64 0,.string ⟨#[]⟩,.string ⟨#[]⟩,.int .i64 0,.int .i64 0,.slice none 0 0]) (zeroN _) w.heap.size M rfl HM.out ns rfl ?_)
                  refine (HA.out _ HB4.out).mono ?_
                  rintro e w5 ⟨rfl,b5⟩
                  have HB5:=Lib.hid (HB4.out.trans (b5.mono HB4.out.size))
                  have HS6:=Lib.hid (HS5.out.below HB5.out)
                  clear b5
                  go_wp2_with fail
                  go_ret
                  exact ⟨ret_int H2.out.symm,HS6.out.1⟩
    · obtain rfl : k=n:=by omega
      have hlt : k < l.length:=hn
      have hltz : (k : Int) < (l.length : Int):=by omega
      have hr2:=HRR.out.below HS.out.1
      obtain ⟨ad,rfl,hb,e0,e1,e2,e3,e4,e5,e6,e7,e8,e9,e10,e11⟩:=load_node hr2 (by omega) hlt
      have hxk : xs[k].1=l[k]:=by
        have:=HX.out
        subst this
        simp
      have hdx:=HDT.out xs[k] (List.getElem_mem _)
      have hlg:=HLG.out
      rw [← hxk] at hlg
      have HR : Hid (chkL l k=1):=Lib.hid (by
        unfold chkL
        rw [if_pos (chkFrom_zero k 0 (fun j _ h => HC.out j (by omega)))])
      generalize xs[k]=x at *
      obtain ⟨⟨np,nk,ns,nt,⟨o1,o2,o3,o4,o5,o6,o7⟩,nd⟩,dv⟩:=x
      obtain ⟨Ad,cd,hde,-⟩:=hdx
      simp only at hde hlg
      subst hde
      simp only at e0 e1 e2 e3 e4 e5 e6 e7 e8 e9 e10 e11
      clear hxk hr2
      have HB0:=Lib.hid HS.out.1
      have HRT:=Lib.hid (fun W hm => TRight_long ⟨np,nk,ns,nt,⟨o1,o2,o3,o4,o5,o6,o7⟩,nd⟩ hlg Ad nd.length cd W hm)
      unfold nodeC at HRT
      simp only at HRT
      obtain ⟨W2,hW2⟩ : ∃ W2,W2=wr.alloc (.cells #[.string (bs np),.int .i64 nk,.int .i64 ns,.string (bs nt),.int .i64 o1,.int .i64 o2,.int .i64 o3,.string (bs o4),.string (bs o5),.int .i64 o6,.int .i64 o7,.slice Ad nd.length cd] 29):=⟨_,rfl⟩
      have HB2 : Hid (Below w.heap.size w W2):=Lib.hid (HB0.out.trans (by rw [hW2];exact ((Below.refl _ _).alloc (Nat.le_refl _) _).mono HB0.out.size))
      clear HS HB0 hlg
      go_wp2_with fail
      rw [← hW2]
      clear hW2
      refine (HRT.out _ (HML.out _ HB2.out)).mono ?_
      rintro e w1 ⟨rfl,hb1⟩
      have HB3:=Lib.hid (HB2.out.trans (hb1.mono HB2.out.size))
      clear hb1 e0 e1 e2 e3 e4 e5 e6 e7 e8 e9 e10 e11
      go_wp2_with fail
      go_ret
      exact ⟨ret_int HR.out.symm,HB3.out⟩
end Go.Proofs.YtphmhmdcaafmdaaGreatDoor
namespace Go.Proofs.YtphmhmdcaafmdaaGreatDoor
set_option linter.all false
section
open Go.RowKit
set_option maxHeartbeats 1000000 in
theorem putC_long (x : NodeV) (s : List UInt8) (w : World) (hm : ML w) (hx : x.1.path.length≤400) (hs : s.length≤1000) :
    Calls Tryz.prog 82 #[.agg (nodeC x).toArray,.string (bs s)] w fun e w' => e=.returned (.int .i64 (cmpP x.1.path s))∧Below w.heap.size w w':=by
  obtain ⟨⟨np,nk,ns,nt,⟨o1,o2,o3,o4,o5,o6,o7⟩,nd⟩,dv⟩:=x
  simp only at hx
  have hb : ∀ o,Below w.heap.size w (w.alloc o):=fun o => (Below.refl w.heap.size w).alloc (Nat.le_refl _) o
  have HC:=Lib.hid (fun W (h : Below w.heap.size w W) => Compare_any np s W (by omega) (by omega) (hm.below h))
  have HB:=Lib.hid hb
  clear hm hb
  unfold nodeC
  simp only
  generalize bs np=bp at *
  generalize bs s=bq at *
  generalize cmpP np s=cc at *
  go_enter Tryz.func82,Tryz.ntmps82
  go_wp2_with fail
  refine (HC.out _ (HB.out _)).mono ?_
  rintro e w1 ⟨rfl,b1⟩
  have B1:=Lib.hid ((HB.out _).trans (b1.mono (HB.out _).size))
  clear b1
  go_wp2_with fail
  go_ret
  exact ⟨rfl,B1.out⟩
set_option maxRecDepth 100000 in
set_option maxHeartbeats 8000000 in
theorem Put_long (v : Value) (t : List NodeP) (x : NodeV) (w : World) (hm : ML w) (hl : NodesAt w v t) (hok : ∀ y∈t,NodeOk y) (hxp : x.1.path.length≤1000) (hx : x.1.data.length≤100000) (hdx : DataAt w 0 x.2 x.1.data) (hch : chkT t=0) (cc : Int) (hput : ∀ W tv,Below w.heap.size w W→NodesAt W tv (putP t x.1)→Calls Tryz.prog 37 #[tv] W fun e w' => e=.returned (.int .i64 cc)∧Below W.heap.size W w') :
    Calls Tryz.prog 42 #[v,.agg (nodeC x).toArray] w (PutPost w.heap.size (putP t x.1) cc w):=by
  have hlen:=(chkT_all hch).1
  have hso:=chk_sorted hch
  have hpl:=putP_length t x.1
  have HCK : Hid (∀ l W tv,(∀ y∈l,NodeOk y)→chkT l=0→Below w.heap.size w W→NodesAt W tv l→Calls Tryz.prog 37 #[tv] W fun e w' => e=.returned (.int .i64 0)∧Below W.heap.size W w'):=Lib.hid (fun l W tv h1 h2 hb h3 => by
    have:=TCheck_any tv l W (hm.below hb) h3 h1
    rw [h2] at this
    exact this)
  have HCP : Hid (∀ l W tv,(∀ y∈l,y.data.length≤100000)→l.length≤1000→NodesAt W tv l→Calls Tryz.prog 77 #[tv] W fun e w' => ∃ cv,e=.returned cv∧NodesOwn w' W.heap.size cv l∧Below W.heap.size W w'):=Lib.hid (fun l W tv h1 h2 h3 => Copy_any tv l W h3 h2 (fun y hy => h1 y hy))
  have HBS : Hid (∀ W,Below w.heap.size w W→Calls Tryz.prog 81 #[v,.string (bs x.1.path),.func (.func 82) #[] #[]] W fun e w' => e=.returned (.tuple #[.int .i64 (lowP t x.1.path : Int),.bool (hasAt t x.1.path)])∧Below W.heap.size W w'):=Lib.hid (fun W hb =>
    BSF_any 82 #[] eg_put v t (bs x.1.path) (fun y => cmpP y.path x.1.path) W (hl.below hb) (by omega) (fun W2 y hy hb2 => putC_long y x.1.path W2 (hm.below (hb.trans (hb2.mono hb.size))) (hok y.1 hy).path.2 hxp) (lowP t x.1.path) (lowP_le _ _) (fun j hj h => lowP_lt hj h) (fun j hj h => lowP_ge hso hj h) (hasAt t x.1.path)
      (fun h => by unfold hasAt;rw [Bool.eq_iff_iff];simp [h]) (fun h => by unfold hasAt;exact decide_eq_false (fun ⟨a,_⟩ => h a)))
  have HOK:=Lib.hid hok
  have HCK2:=Lib.hid hput
  have HCH:=Lib.hid hch
  have HNX:=Lib.hid hx
  have HDX:=Lib.hid hdx
  have HN:=Lib.hid hl
  have hle:=lowP_le t x.1.path
  have hPP : Hid (putP t x.1=t.take (lowP t x.1.path) ++ x.1 :: t.drop (if hasAt t x.1.path then lowP t x.1.path + 1 else lowP t x.1.path)):=Lib.hid rfl
  have hhas : Hid (hasAt t x.1.path=true→lowP t x.1.path < t.length):=Lib.hid (fun h => by unfold hasAt at h;rw [decide_eq_true_eq] at h;exact h.1)
  obtain ⟨_,A,c,-,rfl,hlc,hc,-⟩:=hl
  unfold maxLen at hc
  clear hm hok hx hdx hch hput hso hxp
  generalize putP t x.1=PP at *
  obtain ⟨⟨np,nk,ns,nt,⟨o1,o2,o3,o4,o5,o6,o7⟩,nd⟩,dv⟩:=x
  simp only at HBS HNX HDX hPP hle hhas
  obtain ⟨Ax,cx,hde,-⟩:=HDX.out
  subst hde
  generalize hasAt t np=fnd at *
  generalize lowP t np=lo at *
  obtain ⟨W0,hW0⟩ : ∃ W0,W0=w.alloc (.cells #[.string (bs np),.int .i64 nk,.int .i64 ns,.string (bs nt),.int .i64 o1,.int .i64 o2,.int .i64 o3,.string (bs o4),.string (bs o5),.int .i64 o6,.int .i64 o7,.slice Ax nd.length cx] 29):=⟨_,rfl⟩
  have b0 : Below w.heap.size w W0:=by rw [hW0];exact (Below.refl _ _).alloc (Nat.le_refl _) _
  have K0 : Blk W0 w.heap.size 29 (nodeC (⟨np,nk,ns,nt,⟨o1,o2,o3,o4,o5,o6,o7⟩,nd⟩,.slice Ax nd.length cx)).toArray:=by rw [hW0];exact Blk.new _ _ _
  have B0:=Lib.hid b0
  have HK0:=Lib.hid K0
  clear b0 K0
  unfold nodeC
  go_enter Tryz.func42,Tryz.ntmps42
  go_upto_region 1 with fail
  rw [← hW0]
  clear hW0
  go_wp2_with fail
  refine (HCK.out t _ _ HOK.out HCH.out B0.out (HN.out.below B0.out)).mono ?_
  rintro e w1 ⟨rfl,b1⟩
  have B1:=Lib.hid (B0.out.trans (b1.mono B0.out.size))
  have HK1:=Lib.hid (HK0.out.below b1 HK0.out.lt)
  have k0 : w1.cell? ⟨w.heap.size,0,none⟩=some (.string (bs np)):=HK1.out.cell 0
  clear b1
  go_wp2_with fail
  refine (HBS.out _ B1.out).mono ?_
  rintro e w2 ⟨rfl,b2⟩
  have B2:=Lib.hid (B1.out.trans (b2.mono B1.out.size))
  have HK2:=Lib.hid (HK1.out.below b2 HK1.out.lt)
  have HTK:=Lib.hid ((HN.out.below B2.out).take lo hle)
  have i1 : (0 : Int)≤(lo : Int):=by omega
  have i2 : (lo : Int)≤(c : Int):=by omega
  clear b2 k0
  go_wp2_with fail
  refine (HCP.out _ _ _ (fun y hy => by have:=(HOK.out y (List.mem_of_mem_take hy)).data.1;omega) (by rw [List.length_take];omega) HTK.out).mono ?_
  rintro e w3 ⟨cv,rfl,hcv,b3⟩
  have hw23:=b3.size
  have HB23:=Lib.hid b3
  have B3:=Lib.hid (B2.out.trans (b3.mono B2.out.size))
  have HK3:=Lib.hid (HK2.out.below b3 HK2.out.lt)
  have HCV:=Lib.hid hcv
  obtain ⟨_,A3,c3,-,hcve,-⟩:=hcv.at_
  rw [List.length_take,Nat.min_eq_left hle] at hcve
  subst hcve
  obtain ⟨d0,d1,d2,d3,d4,d5,d6,d7,d8,d9,d10,d11⟩:=HK3.out.node
  clear b3 hcv
  obtain ⟨W4,hW4⟩ : ∃ W4,W4=w3.alloc (.cells (nodeC (⟨np,nk,ns,nt,⟨o1,o2,o3,o4,o5,o6,o7⟩,nd⟩,.slice Ax nd.length cx)).toArray 29):=⟨_,rfl⟩
  have b4 : Below w3.heap.size w3 W4:=by rw [hW4];exact (Below.refl _ _).alloc (Nat.le_refl _) _
  have HN4 : Hid (NodesAt W4 (.slice (some ⟨w3.heap.size,0,none⟩) 1 1) [⟨np,nk,ns,nt,⟨o1,o2,o3,o4,o5,o6,o7⟩,nd⟩]):=Lib.hid ⟨[(⟨np,nk,ns,nt,⟨o1,o2,o3,o4,o5,o6,o7⟩,nd⟩,.slice Ax nd.length cx)],_,_,rfl,rfl,Nat.le_refl _,by simp [maxLen],(fun h => by cases h),by
    have h:=new_row w3 29 (nodeC (⟨np,nk,ns,nt,⟨o1,o2,o3,o4,o5,o6,o7⟩,nd⟩,.slice Ax nd.length cx)) 1 12 rfl
    rw [← hW4] at h
    have hz : W4.heap.size=w3.heap.size + 1:=by rw [hW4];simp
    rw [hz]
    simpa using h,by
    intro y hy
    rw [List.mem_singleton] at hy
    subst hy
    exact HDX.out.below (B3.out.trans (b4.mono B3.out.size))⟩
  have hw34:=b4.size
  have HB24:=Lib.hid (HB23.out.trans (b4.mono HB23.out.size))
  have B4:=Lib.hid (B3.out.trans (b4.mono B3.out.size))
  have HCV4:=Lib.hid (HCV.out.below b4)
  clear b4
  unfold nodeC at hW4
  simp only at hW4
  go_wp2_with fail
  rw [← hW4]
  clear hW4 d0 d1 d2 d3 d4 d5 d6 d7 d8 d9 d10 d11
  refine (HCP.out _ _ _ (fun y hy => by rw [List.mem_singleton] at hy;rw [hy];exact HNX.out) (by simp) HN4.out).mono ?_
  rintro e w5 ⟨uv,rfl,huv,b5⟩
  have B5:=Lib.hid (B4.out.trans (b5.mono B4.out.size))
  have HCV5:=Lib.hid (HCV4.out.below b5)
  have hle23 : w2.heap.size≤W4.heap.size:=by omega
  have HUV5:=Lib.hid (huv.mono hle23)
  have hle5 : w2.heap.size≤w5.heap.size:=Nat.le_trans hle23 b5.size
  have hlt1 : (t.take lo).length + [(⟨np,nk,ns,nt,⟨o1,o2,o3,o4,o5,o6,o7⟩,nd⟩ : NodeP)].length≤100000:=by rw [List.length_take];simp;omega
  have HL1:=Lib.hid hlt1
  have hb25 : Below w2.heap.size w2 w5:=by
    have h1 : Below w2.heap.size w2 W4:=HB24.out
    exact h1.trans (b5.mono hle23)
  clear b5 huv hlt1 HCV HCV4 HN4
  have HLEN : Hid ((t.take lo ++ [(⟨np,nk,ns,nt,⟨o1,o2,o3,o4,o5,o6,o7⟩,nd⟩ : NodeP)]).length=lo + 1):=Lib.hid (by rw [List.length_append,List.length_take,Nat.min_eq_left hle];rfl)
  go_upto_if 32 with (at_builtin;refine wpList_app _ rfl (.tmp 27) (.tmp 30) rfl w2.heap.size _ _ _ _ rfl rfl HCV5.out HUV5.out HL1.out hle5 ?_;intro v6 w6 hv6 b6;obtain ⟨_,A6,c6,-,hv6e,hc61,hc62,-⟩:=hv6.at_;rw [HLEN.out] at hv6e;subst hv6e;have HV6:=Lib.hid hv6;have B6:=Lib.hid b6;clear hv6 b6)
  obtain ⟨r,hrd⟩ : ∃ r,r=if fnd then lo + 1 else lo:=⟨_,rfl⟩
  have hrt : fnd=true→(lo : Int) + 1=(r : Int):=fun h => by rw [hrd,if_pos h];omega
  have hrf : fnd=false→lo=r:=fun h => by rw [hrd,h];rfl
  have hrl : r≤t.length:=by
    rw [hrd]
    split
    · next h => exact hhas.out h
    · exact hle
  have HPP : Hid (PP=t.take lo ++ ⟨np,nk,ns,nt,⟨o1,o2,o3,o4,o5,o6,o7⟩,nd⟩ :: t.drop r):=Lib.hid (by rw [hPP.out,hrd])
  have HRT:=Lib.hid hrt
  have HRF:=Lib.hid hrf
  clear hrd hrt hrf hPP hhas
  go_cut [7] (fun s7 wx => s7=.int .i64 r∧wx=w6)
  case first =>
    cases fnd with
    | true =>
      have HV:=Lib.hid (HRT.out rfl)
      go_wp2_with fail
      go_meet
      case rel => exact ⟨by rw [← HV.out],rfl⟩
    | false =>
      have HV:=Lib.hid (HRF.out rfl)
      go_wp2_with fail
      go_meet
      case rel => exact ⟨by rw [← HV.out],rfl⟩
  case rest =>
    obtain ⟨rfl,rfl⟩:=hcut
    have hb2w : Below w2.heap.size w2 wc:=hb25.trans B6.out
    have b26 : Below w.heap.size w wc:=B2.out.trans (hb2w.mono B2.out.size)
    have B26:=Lib.hid b26
    have hd0:=(HN.out.below b26).drop r hrl
    have hlt2 : (t.take lo ++ [(⟨np,nk,ns,nt,⟨o1,o2,o3,o4,o5,o6,o7⟩,nd⟩ : NodeP)]).length + (t.drop r).length≤100000:=by rw [List.length_append,List.length_take,List.length_drop];simp;omega
    have HL2:=Lib.hid hlt2
    have hle6 : w2.heap.size≤wc.heap.size:=hb2w.size
    have HB2W:=Lib.hid hb2w
    have HOD : Hid (∀ y∈t.drop r,y.data.length≤100000):=Lib.hid (fun y hy => by have:=(HOK.out y (List.mem_of_mem_drop hy)).data.1;omega)
    have hld : (t.drop r).length≤1000:=by rw [List.length_drop];omega
    have HLD:=Lib.hid hld
    have i3 : (0 : Int)≤(r : Int):=by omega
    have i4 : (r : Int)≤(t.length : Int):=by omega
    have i5 : (r : Int)≤(c : Int):=by omega
    have HEND : Hid (∀ W tv,NodesOwn W w2.heap.size tv (t.take lo ++ [⟨np,nk,ns,nt,⟨o1,o2,o3,o4,o5,o6,o7⟩,nd⟩] ++ t.drop r)→NodesOwn W w.heap.size tv PP):=Lib.hid (fun W tv h => by
      rw [HPP.out]
      have e : t.take lo ++ [(⟨np,nk,ns,nt,⟨o1,o2,o3,o4,o5,o6,o7⟩,nd⟩ : NodeP)] ++ t.drop r=t.take lo ++ ⟨np,nk,ns,nt,⟨o1,o2,o3,o4,o5,o6,o7⟩,nd⟩ :: t.drop r:=by simp
      rw [e] at h
      exact h.mono B2.out.size)
    clear b26 hlt2 hb2w hld hb25 hw23 hw34 hle23
    by_cases hcap : c=r
    · rw [if_pos hcap,show t.length - r=0 by omega,show c - r=0 by omega] at hd0
      have HD:=Lib.hid hd0
      subst hcap
      clear hd0
      go_wp2_with fail
      refine (HCP.out _ _ _ HOD.out HLD.out HD.out).mono ?_
      rintro e w7 ⟨yv,rfl,hyv,b7⟩
      have HV7:=Lib.hid (HV6.out.below b7)
      have HY7:=Lib.hid (hyv.mono hle6)
      have HB27:=Lib.hid (HB2W.out.trans (b7.mono hle6))
      have hle7 : w2.heap.size≤w7.heap.size:=HB27.out.size
      clear b7 hyv
      go_wp2_with (at_builtin;refine wpList_app _ rfl (.tmp 35) (.tmp 39) rfl w2.heap.size _ _ _ _ rfl rfl HV7.out HY7.out HL2.out hle7 ?_;intro v8 w8 hv8 b8;have HV8:=Lib.hid (HEND.out _ _ hv8);have B8:=Lib.hid (B2.out.trans ((HB27.out.trans b8).mono B2.out.size));clear hv8 b8)
      refine (HCK2.out _ _ B8.out HV8.out.at_).mono ?_
      rintro e w9 ⟨rfl,b9⟩
      have B9:=Lib.hid (B8.out.trans (b9.mono B8.out.size))
      have HV9:=Lib.hid (HV8.out.below b9)
      clear b9
      by_cases h0 : cc=0
      · subst h0
        go_wp2_with fail
        go_ret2
        exact .inl ⟨rfl,_,rfl,HV9.out,B9.out⟩
      · have q1 : (cc == 0)=false:=by simp [h0]
        have q2 : (cc != 0)=true:=by simp [h0]
        have HNZ:=Lib.hid h0
        clear h0
        go_wp2_with fail
        go_ret2
        exact .inr ⟨HNZ.out,rfl,B9.out⟩
    · rw [if_neg hcap] at hd0
      have HD:=Lib.hid hd0
      clear hd0
      go_wp2_with fail
      refine (HCP.out _ _ _ HOD.out HLD.out HD.out).mono ?_
      rintro e w7 ⟨yv,rfl,hyv,b7⟩
      have HV7:=Lib.hid (HV6.out.below b7)
      have HY7:=Lib.hid (hyv.mono hle6)
      have HB27:=Lib.hid (HB2W.out.trans (b7.mono hle6))
      have hle7 : w2.heap.size≤w7.heap.size:=HB27.out.size
      clear b7 hyv
      go_wp2_with (at_builtin;refine wpList_app _ rfl (.tmp 35) (.tmp 39) rfl w2.heap.size _ _ _ _ rfl rfl HV7.out HY7.out HL2.out hle7 ?_;intro v8 w8 hv8 b8;have HV8:=Lib.hid (HEND.out _ _ hv8);have B8:=Lib.hid (B2.out.trans ((HB27.out.trans b8).mono B2.out.size));clear hv8 b8)
      refine (HCK2.out _ _ B8.out HV8.out.at_).mono ?_
      rintro e w9 ⟨rfl,b9⟩
      have B9:=Lib.hid (B8.out.trans (b9.mono B8.out.size))
      have HV9:=Lib.hid (HV8.out.below b9)
      clear b9
      by_cases h0 : cc=0
      · subst h0
        go_wp2_with fail
        go_ret2
        exact .inl ⟨rfl,_,rfl,HV9.out,B9.out⟩
      · have q1 : (cc == 0)=false:=by simp [h0]
        have q2 : (cc != 0)=true:=by simp [h0]
        have HNZ:=Lib.hid h0
        clear h0
        go_wp2_with fail
        go_ret2
        exact .inr ⟨HNZ.out,rfl,B9.out⟩
end
end Go.Proofs.YtphmhmdcaafmdaaGreatDoor
