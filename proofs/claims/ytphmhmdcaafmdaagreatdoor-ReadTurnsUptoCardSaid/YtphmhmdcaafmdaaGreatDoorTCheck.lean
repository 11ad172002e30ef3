import Derived.Test.YtphmhmdcaafmdaaGreatDoorTFR
import Derived.Test.YtphmhmdcaafmdaaGreatDoorMapsT
import Derived.Deep.CutRange
import Derived.Deep.DeepCutAuto
import Derived.Deep.Quiet
import Derived.IntWalk
import Derived.Carry
import Derived.BigQuiet
import Derived.Lib.QuietBelow
import Derived.Deep.QuietTactic
namespace Go.Proofs.YtphmhmdcaafmdaaGreatDoor
set_option linter.all false
open Go.RowKit
theorem zeroN (w : World) : (zeroValue 29).run Tryz.prog w=.ok (.agg #[.string ⟨#[]⟩,.int .i64 0,.int .i64 0,.string ⟨#[]⟩,.int .i64 0,.int .i64 0,.int .i64 0,.string ⟨#[]⟩,.string ⟨#[]⟩,.int .i64 0,.int .i64 0,.slice none 0 0]) w:=by kernel_rfl
def ChkM (xs : List NodeV) (k : Nat) (M : List (Int × Value)) : Prop:=∀ s : Int,s≠0→mapGet M s=((xs.take k).find? (fun x => x.1.same == s)).map fun x => Value.agg (nodeC x).toArray
theorem ChkM.start (xs : List NodeV) : ChkM xs 0 []:=fun _ _ => rfl
theorem take_find {xs : List NodeV} {k : Nat} (hk : k < xs.length) (s : Int) : (xs.take (k + 1)).find? (fun x => x.1.same == s)=((xs.take k).find? (fun x => x.1.same == s)).or (if xs[k].1.same=s then some xs[k] else none):=by
  rw [List.take_succ_eq_append_getElem hk,List.find?_append]
  congr 1
  by_cases h : xs[k].1.same=s
  · rw [if_pos h];simp [h]
  · rw [if_neg h];simp [h]
theorem ChkM.none_ {xs : List NodeV} {k : Nat} {M : List (Int × Value)} (h : ChkM xs k M) (hk : k < xs.length) (h0 : xs[k].1.same=0) : ChkM xs (k + 1) M:=by
  intro s hs
  rw [take_find hk,if_neg (by rw [h0];exact fun e => hs e.symm),Option.or_none]
  exact h s hs
theorem ChkM.old {xs : List NodeV} {k : Nat} {M : List (Int × Value)} {f : NodeV} (h : ChkM xs k M) (hk : k < xs.length) (hf : (xs.take k).find? (fun x => x.1.same == xs[k].1.same)=some f) : ChkM xs (k + 1) M:=by
  intro s hs
  rw [take_find hk]
  by_cases e : xs[k].1.same=s
  · rw [← e,hf,Option.some_or,← hf];exact h _ (by rw [e];exact hs)
  · rw [if_neg e,Option.or_none];exact h s hs
theorem ChkM.fresh {xs : List NodeV} {k : Nat} {M : List (Int × Value)} (h : ChkM xs k M) (hk : k < xs.length) (hf : (xs.take k).find? (fun x => x.1.same == xs[k].1.same)=none) : ChkM xs (k + 1) (mapPut M xs[k].1.same (.agg (nodeC xs[k]).toArray)):=by
  intro s hs
  rw [mapGet_put,take_find hk]
  by_cases e : s=xs[k].1.same
  · rw [if_pos e,e,hf,if_pos rfl];rfl
  · rw [if_neg e,if_neg (fun a => e a.symm),Option.or_none];exact h s hs
def CkSt (w : World) (xs : List NodeV) (k : Nat) (W : World) : Prop:=Below w.heap.size w W∧∃ M,IMap W w.heap.size M∧ChkM xs k M
theorem CkSt.below {w W W' : World} {xs : List NodeV} {k : Nat} (h : CkSt w xs k W) (hb : Below W.heap.size W W') : CkSt w xs k W':=by
  obtain ⟨h1,M,h2,h3⟩:=h
  exact ⟨h1.trans (hb.mono h1.size),M,h2.below hb,h3⟩
def CkBl (w : World) (xs : List NodeV) (k : Nat) (g : Nat) (cs : Array Value) (W : World) : Prop:=CkSt w xs k W∧Blk W g 29 cs∧w.heap.size < g
theorem CkBl.below {w W W' : World} {xs : List NodeV} {k g : Nat} {cs : Array Value} (h : CkBl w xs k g cs W) (hb : Below W.heap.size W W') : CkBl w xs k g cs W':=⟨h.1.below hb,h.2.1.below hb h.2.1.lt,h.2.2⟩
theorem NodesAt.take {w : World} {A : Option Addr} {n c : Nat} {l : List NodeP} (h : NodesAt w (.slice A n c) l) (k : Nat) (hk : k≤n) : NodesAt w (.slice A k c) (l.take k):=by
  obtain ⟨xs,A',c',h0,h1,h2,h3,h4,h5,h6⟩:=h
  injection h1 with e1 e2 e3
  subst e1 e2 e3
  have hxl : xs.length=l.length:=by rw [← h0,List.length_map]
  have hlt : (l.take k).length=k:=by rw [List.length_take];omega
  refine ⟨xs.take k,A,c,by rw [List.map_take,h0],by rw [hlt],by omega,h3,h4,?_,fun x hx => h6 x (List.mem_of_mem_take hx)⟩
  rw [hlt]
  refine ⟨by rw [flat_length nodeC_length,List.length_take];congr 1;omega,fun hp => ?_⟩
  obtain ⟨ad,e,hb,hc⟩:=h5.2 (by omega)
  refine ⟨ad,e,hb,fun j u hu => hc j u ?_⟩
  have hpre : (xs.take k).flatMap nodeC=(xs.flatMap nodeC).take (k * 12):=by
    have h9 : xs.flatMap nodeC=(xs.take k).flatMap nodeC ++ (xs.drop k).flatMap nodeC:=by rw [← List.flatMap_append,List.take_append_drop]
    rw [h9,List.take_left']
    rw [flat_length nodeC_length,List.length_take];congr 1;omega
  rw [hpre,List.getElem?_take] at hu
  split at hu
  · exact hu
  · cases hu
theorem first_plain {xs : List NodeV} {l : List NodeP} (h : xs.map (·.1)=l) (k : Nat) (s : Int) : firstSame (l.take k) s=((xs.take k).find? (fun x => x.1.same == s)).map (·.1):=by
  subst h
  unfold firstSame
  rw [← List.map_take,List.find?_map]
  rfl
def CkNd (w : World) (xs : List NodeV) (k : Nat) (g : Nat) (x : NodeV) (W : World) : Prop:=CkSt w xs k W∧Blk W g 29 (nodeC x).toArray∧w.heap.size < g
theorem CkNd.below {w W W' : World} {xs : List NodeV} {k g : Nat} {x : NodeV} (h : CkNd w xs k g x W) (hb : Below W.heap.size W W') : CkNd w xs k g x W':=⟨h.1.below hb,h.2.1.below hb h.2.1.lt,h.2.2⟩
theorem CkNd.cells {w W : World} {xs : List NodeV} {k g : Nat} {x : NodeV} (h : CkNd w xs k g x W) (j : Nat) : W.cell? ⟨g,j,none⟩=(nodeC x)[j]?:=by
  rw [h.2.1.cell j];simp
def badOrd (t : List NodeP) (i : Nat) : Bool:=decide (0 < i∧0≤cmpP (t.getD (i - 1) default).path (t.getD i default).path)
def upOut (t : List NodeP) (i : Nat) : Bool:=decide (upP (t.getD i default).path≠[]) && upBad t i (upP (t.getD i default).path)
theorem chkAt_ord {t : List NodeP} {i : Nat} (h : badOrd t i=true) : chkAt t i=6:=by
  unfold badOrd at h
  rw [decide_eq_true_eq] at h
  unfold chkAt
  rw [if_pos h]
theorem chkAt_ord_off {t : List NodeP} {i : Nat} (h : badOrd t i=false) : ¬ (0 < i∧0≤cmpP (t.getD (i - 1) default).path (t.getD i default).path):=by
  unfold badOrd at h
  rwa [decide_eq_false_iff_not] at h
theorem chkAt_up {t : List NodeP} {i : Nat} (h : badOrd t i=false) (hu : upOut t i=true) : chkAt t i=10:=by
  unfold upOut at hu
  rw [Bool.and_eq_true,decide_eq_true_eq] at hu
  unfold chkAt
  rw [if_neg (chkAt_ord_off h),if_pos hu]
theorem chkAt_up_off {t : List NodeP} {i : Nat} (hu : upOut t i=false) : ¬ (upP (t.getD i default).path≠[]∧upBad t i (upP (t.getD i default).path)=true):=by
  unfold upOut at hu
  intro h
  rw [Bool.and_eq_false_iff,decide_eq_false_iff_not] at hu
  rcases hu with hu | hu
  · exact hu h.1
  · rw [hu] at h;cases h.2
theorem chkAt_alone {t : List NodeP} {i : Nat} (h : badOrd t i=false) (hu : upOut t i=false) (hs : (t.getD i default).same=0) : chkAt t i=0:=by
  unfold chkAt
  rw [if_neg (chkAt_ord_off h),if_neg (chkAt_up_off hu),if_neg (fun a => a.1 hs)]
theorem chkAt_fresh {t : List NodeP} {i : Nat} (h : badOrd t i=false) (hu : upOut t i=false) (hf : firstSame (t.take i) (t.getD i default).same=none) : chkAt t i=0:=by
  unfold chkAt
  rw [if_neg (chkAt_ord_off h),if_neg (chkAt_up_off hu),if_neg (fun a => by have:=a.2;rw [hf] at this;cases this)]
theorem chkAt_like {t : List NodeP} {i : Nat} {f : NodeP} (h : badOrd t i=false) (hu : upOut t i=false) (hf : firstSame (t.take i) (t.getD i default).same=some f) (ha : alikeB f (t.getD i default)=true) : chkAt t i=0:=by
  unfold chkAt
  rw [if_neg (chkAt_ord_off h),if_neg (chkAt_up_off hu),if_neg (fun a => by have:=a.2;rw [hf,Option.any_some,ha] at this;cases this)]
theorem chkAt_unlike {t : List NodeP} {i : Nat} {f : NodeP} (h : badOrd t i=false) (hu : upOut t i=false) (hs : (t.getD i default).same≠0) (hf : firstSame (t.take i) (t.getD i default).same=some f) (ha : alikeB f (t.getD i default)=false) : chkAt t i=11:=by
  unfold chkAt
  rw [if_neg (chkAt_ord_off h),if_neg (chkAt_up_off hu),if_pos ⟨hs,by rw [hf,Option.any_some,ha];rfl⟩]
theorem chk_next {t : List NodeP} {k : Nat} (h : ∀ j,j < k→chkAt t j=0) (hk : chkAt t k=0) : ∀ j,j < k + 1→chkAt t j=0:=fun j hj => by
  by_cases e : j=k
  · rw [e];exact hk
  · exact h j (by omega)
theorem mixed_ok : Tryz.prog.follows .mixedOrders=true:=by kernel_rfl
set_option maxRecDepth 100000 in
set_option maxHeartbeats 40000000 in
theorem TCheck_any (v : Value) (l : List NodeP) (w : World) (hm : ML w) (hl : NodesAt w v l) (hok : ∀ x∈l,NodeOk x) :
    Calls Tryz.prog 37 #[v] w fun e w' => e=.returned (.int .i64 (chkT l))∧Below w.heap.size w w':=by
  have HNA:=Lib.hid hl
  obtain ⟨xs,A,c,hx,rfl,hlc,hc,hA,hr,hdat⟩:=hl
  have hxl : xs.length=l.length:=by rw [← hx,List.length_map]
  unfold maxLen at hc
  by_cases hbig : 40 < l.length
  · have HR:=Lib.hid (show chkT l=1 by unfold chkT;rw [if_pos hbig])
    have hbz : (40 : Int) < (l.length : Int):=by omega
    clear hm hr hdat hA hx
    go_enter Tryz.func37,Tryz.ntmps37
    go_wp2_with fail
    go_ret
    exact ⟨ret_int HR.out.symm,Below.refl _ _⟩
  have hbz : ¬ (40 : Int) < (l.length : Int):=by omega
  have HX:=Lib.hid hx
  have HOK:=Lib.hid hok
  have HRR:=Lib.hid hr
  have HDT:=Lib.hid hdat
  have HML : Hid (∀ W,Below w.heap.size w W→ML W):=Lib.hid (fun W hb => hm.below hb)
  have H0 : Hid (CkSt w xs 0 (w.alloc (.map #[] 0))):=⟨(Below.refl _ _).alloc (Nat.le_refl _) _,[],IMap.new w,ChkM.start xs⟩
  clear hm hr hdat hx hok
  have hmm:=@run_makeMap Tryz.prog
  go_enter Tryz.func37,Tryz.ntmps37
  go_wp2_with fail
  clear hmm
  go_loopg [18] l.length (fun gg s18 wr => ∃ k : Nat,k≤l.length∧l.length - k≤gg∧s18=.int .i64 k∧Hid (CkSt w xs k wr)∧Hid (∀ j,j < k→chkAt l j=0))
  case atStart => exact ⟨0,Nat.zero_le _,by omega,rfl,H0,Lib.hid (fun j h => absurd h (Nat.not_lt_zero _))⟩
  case round =>
    obtain ⟨k,hk,hg,rfl,HS,HC⟩:=hrel
    by_cases hlt : k < l.length
    · have hltz : (k : Int) < (l.length : Int):=by omega
      have hr2:=HRR.out.below HS.out.1
      obtain ⟨ad,rfl,hb,e0,e1,e2,e3,e4,e5,e6,e7,e8,e9,e10,e11⟩:=load_node hr2 (by omega) hlt
      have hxk : xs[k].1=l[k]:=by
        have:=HX.out
        subst this
        simp
      have hdx:=HDT.out xs[k] (List.getElem_mem _)
      have hox:=HOK.out l[k] (List.getElem_mem _)
      rw [← hxk] at hox
      have HAT:=Lib.hid (fun (hn : chkAt l k≠0) => chkT_at (by omega) hlt HC.out hn)
      have HGD:=Lib.hid (show l.getD k default=xs[k].1 from (getD_at hlt).trans hxk.symm)
      obtain ⟨x,hxe⟩ : ∃ x,x=xs[k]:=⟨_,rfl⟩
      have HXE:=Lib.hid hxe
      rw [← hxe] at hdx hox HGD e0 e1 e2 e3 e4 e5 e6 e7 e8 e9 e10 e11
      have HDX:=Lib.hid hdx
      have HOX:=Lib.hid hox
      clear hxk hox hr2 hxe
      obtain ⟨⟨np,nk,ns,nt,⟨o1,o2,o3,o4,o5,o6,o7⟩,nd⟩,dv⟩:=x
      obtain ⟨Ad,cd,hde,-⟩:=hdx
      simp only at hde
      subst hde
      simp only at e0 e1 e2 e3 e4 e5 e6 e7 e8 e9 e10 e11
      have hsz:=HS.out.1.size
      have HSB : Hid (CkNd w xs k wr.heap.size (⟨np,nk,ns,nt,⟨o1,o2,o3,o4,o5,o6,o7⟩,nd⟩,.slice Ad nd.length cd) (wr.alloc (.cells #[.string (bs np),.int .i64 nk,.int .i64 ns,.string (bs nt),.int .i64 o1,.int .i64 o2,.int .i64 o3,.string (bs o4),.string (bs o5),.int .i64 o6,.int .i64 o7,.slice Ad nd.length cd] 29))) :=
        ⟨HS.out.below ((Below.refl _ _).alloc (Nat.le_refl _) _),Blk.new wr _ _,by
          obtain ⟨_,M,hM,_⟩:=HS.out
          exact hM.lt⟩
      have HRT:=Lib.hid (fun W hm => TRight_ok _ HOX.out Ad cd W hm)
      unfold nodeC at HRT
      simp only at HRT
      have HK : Hid (∀ W W' g x,CkNd w xs k g x W→Below W.heap.size W W'→CkNd w xs k g x W'):=Lib.hid (fun W W' g x h hb => h.below hb)
      have hnp : np.length≤400:=HOX.out.path.2
      go_wp2_with fail
      refine (HRT.out _ (HML.out _ HSB.out.1.1)).mono ?_
      rintro e w1 ⟨rfl,hb1⟩
      have hS1:=Lib.hid (HK.out _ _ _ _ HSB.out hb1)
      clear hb1
      go_upto_region 10 with fail
      clear e0 e1 e2 e3 e4 e5 e6 e7 e8 e9 e10 e11 HSB
      go_cut [18,41] from 18 to 88 (fun s18 s41 wx => s18=.int .i64 k∧s41=.bool (badOrd l k)∧Hid (CkNd w xs k wr.heap.size (⟨np,nk,ns,nt,⟨o1,o2,o3,o4,o5,o6,o7⟩,nd⟩,.slice Ad nd.length cd) wx))
      case first =>
        by_cases hk0 : 0 < k
        · obtain ⟨m,rfl⟩ : ∃ m,k=m + 1:=⟨k - 1,by omega⟩
          have hr3:=HRR.out.below hS1.out.1.1
          obtain ⟨ad',had',_,p0,-⟩:=load_node hr3 (show m < xs.length by omega) (by omega)
          injection had' with had'
          subst had'
          have c0:=hS1.out.cells 0
          simp only [nodeC,List.getElem?_cons_zero] at c0
          have hpm : xs[m].1.path.length≤400:=by
            have h1 : xs[m].1=l[m]:=by have:=HX.out;subst this;simp
            rw [h1]
            exact (HOK.out _ (List.getElem_mem _)).path.2
          have hbo : badOrd l (m + 1)=decide (0≤cmpP xs[m].1.path np):=by
            have h1 : xs[m].1=l[m]:=by have:=HX.out;subst this;simp
            unfold badOrd
            rw [HGD.out,Nat.add_sub_cancel,getD_at (by omega : m < l.length),← h1]
            simp
          have HCO:=Lib.hid (fun d os => Calls.regrown_of (w:=w1) (d:=d) (os:=os) (Compare_any xs[m].1.path np _ (by omega) (by omega) (HML.out _ (hS1.out.1.1.trans ((below_regrown w1 d os).mono hS1.out.1.1.size)))))
          have HBO:=Lib.hid hbo
          have f1:=fun d os => cell_regrown p0 d os
          have f0:=fun d os => cell_regrown c0 d os
          clear hbo hr3 p0 c0 hpm
          generalize cmpP xs[m].1.path np=cc at *
          generalize bs xs[m].1.path=bp at *
          have hw : IntKind.i64.wrap (m : Int)=m:=IntWalk.i64_in _ (by omega)
          have i1 : (m : Int) < l.length:=by omega
          have i2 : (0 : Int)≤m:=by omega
          have i3 : (0 : Int) < (m : Int) + 1:=by omega
          refine wp_region_quiet_below mixed_ok (by kernel_rfl) ?_
          repeat (first | go_big_quiet_step (exact HCO.out _ _) | quiet_step (exact HCO.out _ _))
          refine wpQuiet_nil ?_
          intro _ hw'
          obtain ⟨⟨dq,osq⟩,hw''⟩:=hw'
          subst hw''
          clear f0 f1 hw i1 i2 i3
          have HS4:=Lib.hid (HK.out _ _ _ _ hS1.out (below_regrown w1 dq osq))
          generalize Sort.grow (redrawn w1 dq) osq=w4 at *
          go_wp2_with fail
          go_meet
          case rel => exact ⟨by go_num,congrArg Value.bool HBO.out.symm,HS4⟩
        · have HBO : Hid (badOrd l k=false):=Lib.hid (decide_eq_false (fun a => hk0 a.1))
          obtain rfl : k=0:=by omega
          clear hk0
          refine wp_region_quiet_below mixed_ok (by kernel_rfl) ?_
          repeat (go_big_quiet_step (fail))
          refine wpQuiet_nil ?_
          intro _ hw'
          obtain ⟨⟨dq,osq⟩,hw''⟩:=hw'
          subst hw''
          have HS4:=Lib.hid (HK.out _ _ _ _ hS1.out (below_regrown w1 dq osq))
          generalize Sort.grow (redrawn w1 dq) osq=w4 at *
          go_wp2_with fail
          go_meet
          case rel => exact ⟨by go_num,congrArg Value.bool HBO.out.symm,HS4⟩
      case rest =>
        obtain ⟨rfl,rfl,HS2⟩:=hcut
        clear hS1
        cases hbo : badOrd l k with
        | true =>
          have HR:=Lib.hid ((HAT.out (by rw [chkAt_ord hbo];decide)).trans (chkAt_ord hbo))
          clear hbo
          go_wp2_with fail
          go_ret
          exact ⟨ret_int HR.out.symm,HS2.out.1.1⟩
        | false =>
          have HBO:=Lib.hid hbo
          clear hbo
          have c0:=HS2.out.cells 0
          simp only [nodeC,List.getElem?_cons_zero] at c0
          have HUP:=Lib.hid (fun W => Up_any np (by omega) W)
          have hul:=upP_length np
          go_upto_if 46 with (go_at_call 71;(with_reducible refine (HUP.out _).mono ?_);rintro e w' ⟨rfl,rfl⟩)
          clear c0
          go_cut [8,9,18] from 18 to 88 (fun _ _ s18 wx => s18=.int .i64 k∧Hid (upOut l k=false)∧Hid (CkNd w xs k wr.heap.size (⟨np,nk,ns,nt,⟨o1,o2,o3,o4,o5,o6,o7⟩,nd⟩,.slice Ad nd.length cd) wx))
          case first =>
            by_cases hu : upP np=[]
            · have HUO : Hid (upOut l k=false):=Lib.hid (by unfold upOut;rw [HGD.out];simp [hu])
              have t1 : (bs (upP np)).toList=[]:=by rw [bs_toList];exact hu
              have t2 : (bs (upP np)).toList.isEmpty=true:=by rw [t1];rfl
              clear hu
              simp only [t2,Bool.not_true]
              go_wp2_with fail
              go_meet
              case rel => exact ⟨rfl,HUO,HS2⟩
            · have HUQ : Hid (upOut l k=upBad l k (upP np)):=Lib.hid (by unfold upOut;rw [HGD.out];simp [hu])
              have t1 : ¬ (bs (upP np)).toList=[]:=by rw [bs_toList];exact hu
              have t2 : (bs (upP np)).toList.isEmpty=false:=by rw [bs_toList];cases hq : upP np with | nil => exact absurd hq hu | cons => rfl
              have HFI:=Lib.hid (Find_any _ _ (upP np) _ ((HNA.out.take k (by omega)).below HS2.out.1.1))
              clear hu
              have i1 : (0 : Int)≤(k : Int):=by omega
              have i2 : (k : Int)≤(c : Int):=by omega
              simp only [t2,Bool.not_false]
              cases hq : findP (l.take k) (upP np) with
              | none =>
                have HR : Hid (chkT l=10):=Lib.hid (by
                  have h1 : upOut l k=true:=by rw [HUQ.out];unfold upBad;rw [hq]
                  exact (HAT.out (by rw [chkAt_up HBO.out h1];decide)).trans (chkAt_up HBO.out h1))
                rw [hq] at HFI
                clear hq
                unfold findR at HFI
                go_wp2_with fail
                refine HFI.out.mono ?_
                rintro e w3 ⟨rfl,b3⟩
                have B3:=Lib.hid (HS2.out.1.1.trans (b3.mono HS2.out.1.1.size))
                clear b3
                go_wp2_with fail
                go_ret
                exact ⟨ret_int HR.out.symm,B3.out⟩
              | some j =>
                obtain ⟨hj1,hj2,-⟩:=findP_take hq
                have hub : upBad l k (upP np)=((l.getD j default).kind != 2):=by unfold upBad;rw [hq]
                rw [hq] at HFI
                clear hq
                unfold findR at HFI
                have HUB:=Lib.hid hub
                clear hub
                go_wp2_with fail
                refine HFI.out.mono ?_
                rintro e w3 ⟨rfl,b3⟩
                have B3:=Lib.hid (HK.out _ _ _ _ HS2.out b3)
                clear b3
                have hr3:=HRR.out.below B3.out.1.1
                obtain ⟨ad',had',_,-,p1,-⟩:=load_node hr3 (show j < xs.length by omega) (by omega)
                injection had' with had'
                subst had'
                have hkj : xs[j].1.kind=(l.getD j default).kind:=by
                  have h1 : xs[j].1=l[j]:=by have:=HX.out;subst this;simp
                  rw [h1,getD_at hj1]
                rw [hkj] at p1
                have i3 : (j : Int) < l.length:=by omega
                have i4 : (0 : Int)≤j:=by omega
                clear hr3 hkj
                generalize (l.getD j default).kind=kj at *
                by_cases h2 : kj=2
                · have q1 : (kj == 2)=true:=by simp [h2]
                  have q2 : (kj != 2)=false:=by simp [h2]
                  have HUO : Hid (upOut l k=false):=Lib.hid (by rw [HUQ.out,HUB.out];exact q2)
                  clear h2
                  go_wp2_with fail
                  go_meet
                  case rel => exact ⟨rfl,HUO,B3⟩
                · have q1 : (kj == 2)=false:=by simp [h2]
                  have q2 : (kj != 2)=true:=by simp [h2]
                  have HR : Hid (chkT l=10):=Lib.hid (by
                    have h1 : upOut l k=true:=by rw [HUQ.out,HUB.out];exact q2
                    exact (HAT.out (by rw [chkAt_up HBO.out h1];decide)).trans (chkAt_up HBO.out h1))
                  clear h2
                  go_wp2_with fail
                  go_ret
                  exact ⟨ret_int HR.out.symm,B3.out.1.1⟩
          case rest =>
            obtain ⟨rfl,HUO,HS3⟩:=hcut
            clear HS2
            have c2:=HS3.out.cells 2
            simp only [nodeC,List.getElem?_cons_zero,List.getElem?_cons_succ] at c2
            obtain ⟨hB3,M,hM,hCM⟩:=HS3.out.1
            have HB3:=Lib.hid hB3
            have HM:=Lib.hid hM
            have HCM:=Lib.hid hCM
            clear hB3 hM hCM
            by_cases hs : ns=0
            · have q1 : (ns == 0)=true:=by simp [hs]
              have H1 : Hid (CkSt w xs (k + 1) wc):=Lib.hid ⟨HB3.out,M,HM.out,HCM.out.none_ (by omega) (by rw [← HXE.out];exact hs)⟩
              have H2:=Lib.hid (chk_next HC.out (chkAt_alone HBO.out HUO.out (by rw [HGD.out];exact hs)))
              clear hs
              go_wp2_with fail
              go_roundg (l.length - (k + 1))
              case measure => omega
              case rel => exact ⟨k + 1,by omega,by omega,by go_num,H1,H2⟩
            · have q1 : (ns == 0)=false:=by simp [hs]
              have c0:=HS3.out.cells 0
              have c1:=HS3.out.cells 1
              have c3:=HS3.out.cells 3
              have c4:=HS3.out.cells 4
              have c5:=HS3.out.cells 5
              have c6:=HS3.out.cells 6
              have c7:=HS3.out.cells 7
              have c8:=HS3.out.cells 8
              have c9:=HS3.out.cells 9
              have c10:=HS3.out.cells 10
              have c11:=HS3.out.cells 11
              simp only [nodeC,List.getElem?_cons_zero,List.getElem?_cons_succ] at c0 c1 c3 c4 c5 c6 c7 c8 c9 c10 c11
              have hglt:=HS3.out.2.1.lt
              have hmlt:=HM.out.lt
              have hFS:=first_plain HX.out k ns
              have hCM:=HCM.out ns hs
              cases hq : (xs.take k).find? (fun x => x.1.same == ns) with
              | none =>
                rw [hq] at hFS hCM
                have hG : mapGet M ns=none:=hCM
                have H2:=Lib.hid (chk_next HC.out (chkAt_fresh HBO.out HUO.out (by rw [HGD.out];exact hFS)))
                have H1:=Lib.hid (HCM.out.fresh (by omega : k < xs.length) (by rw [← HXE.out];exact hq))
                rw [← HXE.out] at H1
                unfold nodeC at H1
                simp only at H1
                have HA : Hid (IMap (wc.alloc (.cells #[.string ⟨#[]⟩,.int .i64 0,.int .i64 0,.string ⟨#[]⟩,.int .i64 0,.int .i64 0,.int .i64 0,.string ⟨#[]⟩,.string ⟨#[]⟩,.int .i64 0,.int .i64 0,.slice none 0 0] 29)) w.heap.size M):=Lib.hid (HM.out.below ((Below.refl _ _).alloc (Nat.le_refl _) _))
                have HB4:=Lib.hid (HB3.out.alloc HB3.out.size (.cells #[.string ⟨#[]⟩,.int .i64 0,.int .i64 0,.string ⟨#[]⟩,.int .i64 0,.int .i64 0,.int .i64 0,.string ⟨#[]⟩,.string ⟨#[]⟩,.int .i64 0,.int .i64 0,.slice none 0 0] 29))
                clear hFS hCM hs hq
                go_wp2_with (first | (with_reducible refine wpList_look_im _ rfl (.tmp 69) (.tmp 71) 148 rfl _ _ Tryz.underlying148 Tryz.underlying3 (.agg #[.string ⟨#[]⟩,.int .i64 0,.int .i64 0,.string ⟨#[]⟩,.int .i64 0,.int .i64 0,.int .i64 0,.string ⟨#[]⟩,.string ⟨#[]⟩,.int .i64 0,.int .i64 0,.slice none 0 0]) (zeroN _) w.heap.size M rfl HM.out ns rfl ?_) | (with_reducible refine wpList_put_im _ rfl (.tmp 84) (.tmp 86) (.tmp 87) 148 rfl _ _ Tryz.underlying148 Tryz.underlying3 w.heap.size M rfl HA.out ns _ rfl rfl ?_;intro w7 hM7 hg7;have HM7:=Lib.hid hM7;have HG7:=Lib.hid hg7;clear hM7 hg7))
                go_roundg (l.length - (k + 1))
                case measure => omega
                case rel => exact ⟨k + 1,by omega,by omega,by go_num,Lib.hid ⟨HB4.out.grown HG7.out HB4.out.size (fun g hg => by cases hg;omega),_,HM7.out,H1.out⟩,H2⟩
              | some f =>
                rw [hq] at hFS hCM
                have H1:=Lib.hid (HCM.out.old (by omega : k < xs.length) (by rw [← HXE.out];exact hq))
                have hfm : f∈xs:=List.mem_of_mem_take (List.mem_of_find?_eq_some hq)
                have hdf:=(HDT.out f hfm).below HB3.out
                have HA:=Lib.hid (fun W (hb : Below wc.heap.size wc W) => Alike_any f (⟨np,nk,ns,nt,⟨o1,o2,o3,o4,o5,o6,o7⟩,nd⟩,.slice Ad nd.length cd) W (hdf.below hb) ((HDX.out.below HB3.out).below hb))
                have hFS' : firstSame (l.take k) (l.getD k default).same=some f.1:=by rw [HGD.out];exact hFS
                have HL:=Lib.hid (fun (h : alikeB f.1 (l.getD k default)=true) => chk_next HC.out (chkAt_like HBO.out HUO.out hFS' h))
                have HU:=Lib.hid (fun (h : alikeB f.1 (l.getD k default)=false) => (HAT.out (by rw [chkAt_unlike HBO.out HUO.out (by rw [HGD.out];exact hs) hFS' h];decide)).trans (chkAt_unlike HBO.out HUO.out (by rw [HGD.out];exact hs) hFS' h))
                rw [HGD.out] at HL HU
                obtain ⟨⟨fp,fk,fs,ft,⟨p1,p2,p3,p4,p5,p6,p7⟩,fd⟩,fv⟩:=f
                obtain ⟨Af,cf,hfe,-⟩:=hdf
                simp only at hfe
                subst hfe
                have hG : mapGet M ns=some (.agg #[.string (bs fp),.int .i64 fk,.int .i64 fs,.string (bs ft),.int .i64 p1,.int .i64 p2,.int .i64 p3,.string (bs p4),.string (bs p5),.int .i64 p6,.int .i64 p7,.slice Af fd.length cf]):=hCM
                have HB4:=Lib.hid ((Below.refl wc.heap.size wc).alloc (Nat.le_refl _) (.cells #[.string (bs fp),.int .i64 fk,.int .i64 fs,.string (bs ft),.int .i64 p1,.int .i64 p2,.int .i64 p3,.string (bs p4),.string (bs p5),.int .i64 p6,.int .i64 p7,.slice Af fd.length cf] 29))
                unfold nodeC at HA
                simp only at HA HL HU
                have HS5:=Lib.hid (show CkSt w xs (k + 1) wc from ⟨HB3.out,M,HM.out,H1.out⟩)
                clear hFS hFS' hCM hs hq hfm
                cases hal : alikeB ⟨fp,fk,fs,ft,⟨p1,p2,p3,p4,p5,p6,p7⟩,fd⟩ ⟨np,nk,ns,nt,⟨o1,o2,o3,o4,o5,o6,o7⟩,nd⟩ with
                | true =>
                  rw [hal] at HA
                  have H2:=Lib.hid (HL.out hal)
                  clear hal HL HU
                  go_wp2_with (with_reducible refine wpList_look_im _ rfl (.tmp 69) (.tmp 71) 148 rfl _ _ Tryz.underlying148 Tryz.underlying3 (.agg #[.string ⟨#[]⟩,.int .i64 0,.int .i64 0,.string ⟨#[]⟩,.int .i64 0,.int .i64 0,.int .i64 0,.string ⟨#[]⟩,.string ⟨#[]⟩,.int .i64 0,.int .i64 0,.slice none 0 0]) (zeroN _) w.heap.size M rfl HM.out ns rfl ?_)
                  refine (HA.out _ HB4.out).mono ?_
                  rintro e w5 ⟨rfl,b5⟩
                  have HB5:=Lib.hid (HB4.out.trans (b5.mono HB4.out.size))
                  have HS6:=Lib.hid (HS5.out.below HB5.out)
                  clear b5
                  go_wp2_with fail
                  go_roundg (l.length - (k + 1))
                  case measure => omega
                  case rel => exact ⟨k + 1,by omega,by omega,by go_num,HS6,H2⟩
                | false =>
                  rw [hal] at HA
                  have H2:=Lib.hid (HU.out hal)
                  clear hal HL HU
                  go_wp2_with (with_reducible refine wpList_look_im _ rfl (.tmp 69) (.tmp 71) 148 rfl _ _ Tryz.underlying148 Tryz.underlying3 (.agg #[.string ⟨#[]⟩,.int .i64 0,.int .i64 0,.string ⟨#[]⟩,.int .i64 0,.int .i64 0,.int .i64 0,.string ⟨#[]⟩,.string ⟨#[]⟩,.int .i64 0,.int .i64 0,.slice none 0 0]) (zeroN _) w.heap.size M rfl HM.out ns rfl ?_)
                  refine (HA.out _ HB4.out).mono ?_
                  rintro e w5 ⟨rfl,b5⟩
                  have HB5:=Lib.hid (HB4.out.trans (b5.mono HB4.out.size))
                  have HS6:=Lib.hid (HS5.out.below HB5.out)
                  clear b5
                  go_wp2_with fail
                  go_ret
                  exact ⟨ret_int H2.out.symm,HS6.out.1⟩
    · obtain rfl : k=l.length:=by omega
      have HR:=Lib.hid (chkT_zero (by omega) HC.out)
      go_wp2_with fail
      go_ret
      exact ⟨ret_int HR.out.symm,HS.out.1⟩
end Go.Proofs.YtphmhmdcaafmdaaGreatDoor
