import Derived.Test.YtphmhmdcaafmdaaGreatDoorUnpackA
import Derived.Test.YtphmhmdcaafmdaaGreatDoorBlockA
import Derived.Test.YtphmhmdcaafmdaaGreatDoorRightA
import Derived.Test.YtphmhmdcaafmdaaGreatDoorPaxA
namespace Go.Proofs.YtphmhmdcaafmdaaGreatDoor
set_option linter.all false
open Go.RowKit
structure EntIn (x : EntP) : Prop where
  path : x.path.length≤100000
  target : x.target.length≤100000
  user : x.mt.user.length≤100000
  group : x.mt.group.length≤100000
  data : x.data.length≤5000000
set_option maxRecDepth 100000 in
set_option maxHeartbeats 2000000 in
theorem MWrite_no (x : EntP) (h : ¬ EntOk x) (hx : EntIn x) (A : Option Addr) (c : Nat) (w : World) (hm : ML w) :
    Calls Tryz.prog 13 #[.agg (entC x (.slice A x.data.length c)).toArray] w fun e w' => ∃ c : Int,c≠0∧e=.returned (.tuple #[.slice none 0 0,.int .i64 c])∧Below w.heap.size w w':=by
  have HR:=Lib.hid (fun w hm => PRight_no x h (by have:=hx.path;omega) (by have:=hx.target;omega) (by have:=hx.user;omega) (by have:=hx.group;omega) (by have:=hx.data;omega) A c w hm)
  obtain ⟨W0,hW0⟩ : ∃ W0,W0=w.alloc (.cells (entC x (.slice A x.data.length c)).toArray 58):=⟨_,rfl⟩
  have hB0 : Blk W0 w.heap.size 58 (entC x (.slice A x.data.length c)).toArray:=by rw [hW0];exact Blk.new _ _ _
  have hb0 : Below w.heap.size w W0:=by rw [hW0];exact (Below.refl _ _).alloc (Nat.le_refl _) _
  have HB0:=Lib.hid hB0
  have HBW:=Lib.hid hb0
  have HML : Hid (∀ W,Below w.heap.size w W→ML W):=Lib.hid (fun W hb => hm.below hb)
  clear hB0 hb0 hm h hx
  unfold entC at *
  obtain ⟨path,kind,target,⟨mode,uid,gid,user,group,second,nano⟩,data⟩:=x
  simp only at HR hW0 HB0 ⊢
  have c0:=HB0.out.cell 0
  have c1:=HB0.out.cell 1
  have c2:=HB0.out.cell 2
  have c3:=HB0.out.cell 3
  have c4:=HB0.out.cell 4
  have c5:=HB0.out.cell 5
  have c6:=HB0.out.cell 6
  have c7:=HB0.out.cell 7
  have c8:=HB0.out.cell 8
  have c9:=HB0.out.cell 9
  have c10:=HB0.out.cell 10
  go_enter Tryz.func13,Tryz.ntmps13
  go_upto_region 1 with fail
  rw [← hW0]
  clear hW0
  go_wp2_with fail
  refine (HR.out _ (HML.out _ HBW.out)).mono ?_
  rintro e w1 ⟨q,rfl,hq,b1⟩
  have HB1:=Lib.hid (HBW.out.trans (b1.mono HBW.out.size))
  have hq1 : (q == 0)=false:=beq_eq_false_iff_ne.2 hq
  have hq2 : (q != 0)=true:=by simp [hq]
  have HQ:=Lib.hid hq
  clear b1 hq
  clear c0 c1 c2 c3 c4 c5 c6 c7 c8 c9 c10
  go_wp2_with fail
  go_ret2
  exact ⟨q,HQ.out,rfl,HB1.out⟩
theorem MWrite_all (x : EntP) (hx : EntIn x) (A : Option Addr) (c : Nat) (w : World) (hm : ML w) (h10 : P10 w) (hdat : BytesAt w w.heap.size (.slice A x.data.length c) x.data) :
    Calls Tryz.prog 13 #[.agg (entC x (.slice A x.data.length c)).toArray] w fun e w' => ∃ (v : Value) (c : Int),e=.returned (.tuple #[v,.int .i64 c])∧Below w.heap.size w w'∧((c=0∧EntOk x∧BytesOwn w' w.heap.size v (memB x))∨(c≠0∧v=.slice none 0 0)):=by
  by_cases h : EntOk x
  · exact (MWrite_ok x h A c w hm h10 hdat).mono fun e w' ⟨v,h1,h2,h3⟩ => ⟨v,0,h1,h3,.inl ⟨rfl,h,h2⟩⟩
  · exact (MWrite_no x h hx A c w hm).mono fun e w' ⟨q,h1,h2,h3⟩ => ⟨_,q,h2,h3,.inr ⟨h1,rfl⟩⟩
theorem oneS_len (a b : List UInt8) : (oneS a b).1.length≤a.length + b.length + 1:=by
  unfold oneS
  split
  · simp
  · split
    · unfold oneL
      split
      · show b.length≤_;omega
      · simp;omega
    · simp
theorem findK_len {l : List RecS} {k s : List UInt8} (h : ∀ r∈l,RecIn r) (hs : s.length≤500) : ((findK l k).getD s).length≤500:=by
  cases hf : findK l k with
  | none => simpa using hs
  | some v =>
    obtain ⟨r,hr,rfl⟩:=findK_mem hf
    exact (h r hr).2
def unpackD (h : PHead) (l : List RecS) (D : List UInt8) : EntP:=⟨(unpackA h l).path,(unpackA h l).kind,(unpackA h l).target,(unpackA h l).mt,D⟩
theorem unpackD_in {h : PHead} {l : List RecS} {D : List UInt8} (hh : HeadIn h) (hl : ∀ r∈l,RecIn r) (hD : D.length≤5000000) : EntIn (unpackD h l D):=by
  have h1:=oneS_len h.pre h.name
  have h2:=hh.pre
  have h3:=hh.name
  have h4:=hh.link
  have h5:=hh.user
  have h6:=hh.group
  refine ⟨?_,?_,?_,?_,hD⟩
  · show ((findK l pathK).getD (oneS h.pre h.name).1).length≤100000
    have:=findK_len (k:=pathK) (s:=(oneS h.pre h.name).1) hl (by omega);omega
  · show ((findK l linkK).getD h.link).length≤100000
    have:=findK_len (k:=linkK) (s:=h.link) hl (by omega);omega
  · show ((findK l unameK).getD h.user).length≤100000
    have:=findK_len (k:=unameK) (s:=h.user) hl (by omega);omega
  · show ((findK l gnameK).getD h.group).length≤100000
    have:=findK_len (k:=gnameK) (s:=h.group) hl (by omega);omega
theorem DataAt.len {w : World} {B n c : Nat} {A : Option Addr} {l : List UInt8} (h : DataAt w B (.slice A n c) l) : n=l.length:=by
  obtain ⟨A',c',e,-⟩:=h
  exact (Value.slice.inj e).2.1
def MrSt (w : World) (g5 : Nat) (v1 v2 lv : Value) (h : PHead) (D R : List UInt8) (rs : List RecS) (W : World) : Prop :=
  RdSt w g5 (headCells h) W∧HeadIn h∧DataAt W w.heap.size v1 D∧DataAt W w.heap.size v2 R∧RecsAt W lv rs∧(∀ r∈rs,RecIn r)∧rs.length≤12
def entNone : Array Value:=#[(.string ⟨#[]⟩),(.int .i64 0),(.string ⟨#[]⟩),(.int .i64 0),(.int .i64 0),(.int .i64 0),(.string ⟨#[]⟩),(.string ⟨#[]⟩),(.int .i64 0),(.int .i64 0),(.slice none 0 0)]
def RdPost (w : World) (d : List UInt8) (e : Ending) (w' : World) : Prop :=
  Below w.heap.size w w'∧((∃ c : Int,c≠0∧e=.returned (.tuple #[.agg entNone,.int .i64 0,.int .i64 c])) ∨
    (∃ (x : EntP) (A : Option Addr) (c n : Nat),EntOk x∧n≤d.length∧memB x=d.take n∧DataAt w' w.heap.size (.slice A x.data.length c) x.data∧e=.returned (.tuple #[.agg (entC x (.slice A x.data.length c)).toArray,.int .i64 n,.int .i64 0])))
set_option maxRecDepth 100000 in
set_option maxHeartbeats 8000000 in
theorem MRead_all (v : Value) (d : List UInt8) (w : World) (hm : ∀ W,Below w.heap.size w W→ML W) (h10 : ∀ W,Below w.heap.size w W→P10 W) (hse : ∀ W,Below w.heap.size w W→Sent W) (hv : BytesAt w w.heap.size v d) (hdl : d.length≤99500) :
    Calls Tryz.prog 16 #[v] w fun e w' => RdPost w d e w':=by
  have HV:=Lib.hid (fun W (hb : Below w.heap.size w W) => hv.below hb)
  have HBK:=Lib.hid (fun W (hb : Below w.heap.size w W) => Block_all v d W ((hv.below hb).more hb.size) (by omega))
  have HB2:=Lib.hid (fun W v' l (hl : BytesAt W W.heap.size v' l) (hll : l.length≤99500) => Block_all v' l W hl (by omega))
  have HPX:=Lib.hid (fun W l (hb : Below w.heap.size w W) (hll : l.length≤99500) => PxRead_all l (by omega) W (fun W' hb' => hm W' (hb.trans (hb'.mono hb.size))) (fun W' hb' => h10 W' (hb.trans (hb'.mono hb.size))))
  have HUN:=Lib.hid (fun W h lv rs A n c (hb : Below w.heap.size w W) (hl : RecsAt W lv rs) (hh : HeadIn h) (hr : ∀ r∈rs,RecIn r) (hn : rs.length≤12) => Unpack_all h lv rs A n c W (hm W hb) (h10 W hb) hl (by omega) (fun r hrr => by have:=(hr r hrr).2;omega) (by have:=hh.pre;omega) (by have:=hh.name;omega) (hse W hb))
  have HWR:=Lib.hid (fun W x A c (hb : Below w.heap.size w W) (hx : EntIn x) hd => MWrite_all x hx A c W (hm W hb) (h10 W hb) hd)
  obtain ⟨A0,c0,ev,hlc,hcm,hA0,-⟩:=id hv
  rw [List.length_map] at ev hlc
  subst ev
  have HA0:=Lib.hid hA0
  have HFR : Hid (∀ (ad : Addr),A0=some ad→∀ k,k≤d.length→∀ W,Below w.heap.size w W→(convert 27 9 (.slice A0 k c0)).run Tryz.prog W=.ok (.string (bs (d.take k))) W):=Lib.hid (fun ad e k hk W hb => by
    subst e
    exact conv_str (BytesAt.front (show BytesAt W w.heap.size _ _ from hv.below hb) k hk))
  unfold maxLen at hcm
  clear hv hA0 hm h10 hse
  obtain ⟨ld,hld⟩ : ∃ ld,ld=d.length:=⟨_,rfl⟩
  have HLD:=Lib.hid hld
  rw [← hld] at hlc hdl HV HBK HFR ⊢
  unfold RdPost
  rw [← hld]
  clear hld
  obtain ⟨w0,hw0⟩ : ∃ w0,w0=w.alloc (.cells #[(.string ⟨#[]⟩),(.int .i64 0),(.string ⟨#[]⟩),(.int .i64 0),(.int .i64 0),(.int .i64 0),(.string ⟨#[]⟩),(.string ⟨#[]⟩),(.int .i64 0),(.int .i64 0),(.slice none 0 0)] 58):=⟨_,rfl⟩
  have hS:=entZ_blk w
  rw [← hw0] at hS
  have HS:=Lib.hid hS
  clear hS
  unfold entNone
  go_enter Tryz.func16,Tryz.ntmps16
  go_upto_region 1 with fail
  rw [← hw0]
  clear hw0
  unfold BlkPost headV headCells at HBK HB2
  unfold headV headCells at HUN
  go_wp2_with fail
  refine (HBK.out _ HS.out.2).mono ?_
  rintro e w1 ⟨⟨nm,pr,lk,md,ui,gi,sz,tm,ty,us,gr⟩,A1,n1,c1,A2,n2,c2,cc,rfl,b1,hcc⟩
  simp only at hcc ⊢
  obtain ⟨W1,hW1⟩ : ∃ W1,W1=w1.alloc (.cells #[(.string (bs nm)),(.string (bs pr)),(.string (bs lk)),(.int .i64 md),(.int .i64 ui),(.int .i64 gi),(.int .i64 sz),(.int .i64 tm),(.int .u8 ty.toNat),(.string (bs us)),(.string (bs gr))] 107):=⟨_,rfl⟩
  obtain ⟨g5,hg5⟩ : ∃ g5,g5=w1.heap.size:=⟨_,rfl⟩
  have hk5 : Blk W1 g5 107 #[(.string (bs nm)),(.string (bs pr)),(.string (bs lk)),(.int .i64 md),(.int .i64 ui),(.int .i64 gi),(.int .i64 sz),(.int .i64 tm),(.int .u8 ty.toNat),(.string (bs us)),(.string (bs gr))]:=by rw [hW1,hg5];exact Blk.new _ _ _
  have hb1 : Below w1.heap.size w1 W1:=by rw [hW1];exact (Below.refl _ _).alloc (Nat.le_refl _) _
  have hR1 : RdSt w g5 #[(.string (bs nm)),(.string (bs pr)),(.string (bs lk)),(.int .i64 md),(.int .i64 ui),(.int .i64 gi),(.int .i64 sz),(.int .i64 tm),(.int .u8 ty.toNat),(.string (bs us)),(.string (bs gr))] W1:=⟨(HS.out.1.below b1 HS.out.1.lt).below hb1 (HS.out.1.below b1 HS.out.1.lt).lt,hk5,HS.out.2.trans ((b1.trans (hb1.mono b1.size)).mono HS.out.2.size)⟩
  have HR1:=Lib.hid hR1
  have HGT : Hid (w.heap.size < g5):=Lib.hid (by rw [hg5];have:=HS.out.1.lt;have:=b1.size;omega)
  have HCC:=Lib.hid (fun h => (show 512≤ld∧HeadIn ⟨nm,pr,lk,md,ui,gi,sz,tm,ty,us,gr⟩∧∃ D R : List UInt8,D.length≤ld∧R.length≤ld∧DataAt W1 w.heap.size (.slice A1 n1 c1) D∧DataAt W1 w.heap.size (.slice A2 n2 c2) R from by
    obtain ⟨q1,q2,q3,q4⟩:=hcc h
    refine ⟨by rw [HLD.out];omega,q1,_,_,?_,?_,(q3.mono HS.out.2.size).below hb1,(q4.mono HS.out.2.size).below hb1⟩
    · rw [List.length_take,List.length_drop,← HLD.out];omega
    · rw [List.length_drop,List.length_drop,← HLD.out];omega))
  clear hk5 hb1 hR1 b1 HBK HS hcc
  have y8 : W1.cell? ⟨g5,8,none⟩=some (.int .u8 ty.toNat):=HR1.out.2.1.cell 8
  go_upto_region 2 with fail
  rw [← hW1,← hg5]
  clear hW1 hg5
  by_cases hc : cc=0
  case neg =>
    have q1 : (cc == 0)=false:=beq_eq_false_iff_ne.2 hc
    have q2 : (cc != 0)=true:=by simp [hc]
    have HQ:=Lib.hid hc
    clear hc
    have z0 : W1.cell? ⟨w.heap.size,0,none⟩=some (.string ⟨#[]⟩):=HR1.out.1.cell 0;have f0:=HR1.out.1.frozen 0
    have z1 : W1.cell? ⟨w.heap.size,1,none⟩=some (.int .i64 0):=HR1.out.1.cell 1;have f1:=HR1.out.1.frozen 1
    have z2 : W1.cell? ⟨w.heap.size,2,none⟩=some (.string ⟨#[]⟩):=HR1.out.1.cell 2;have f2:=HR1.out.1.frozen 2
    have z3 : W1.cell? ⟨w.heap.size,3,none⟩=some (.int .i64 0):=HR1.out.1.cell 3;have f3:=HR1.out.1.frozen 3
    have z4 : W1.cell? ⟨w.heap.size,4,none⟩=some (.int .i64 0):=HR1.out.1.cell 4;have f4:=HR1.out.1.frozen 4
    have z5 : W1.cell? ⟨w.heap.size,5,none⟩=some (.int .i64 0):=HR1.out.1.cell 5;have f5:=HR1.out.1.frozen 5
    have z6 : W1.cell? ⟨w.heap.size,6,none⟩=some (.string ⟨#[]⟩):=HR1.out.1.cell 6;have f6:=HR1.out.1.frozen 6
    have z7 : W1.cell? ⟨w.heap.size,7,none⟩=some (.string ⟨#[]⟩):=HR1.out.1.cell 7;have f7:=HR1.out.1.frozen 7
    have z8 : W1.cell? ⟨w.heap.size,8,none⟩=some (.int .i64 0):=HR1.out.1.cell 8;have f8:=HR1.out.1.frozen 8
    have z9 : W1.cell? ⟨w.heap.size,9,none⟩=some (.int .i64 0):=HR1.out.1.cell 9;have f9:=HR1.out.1.frozen 9
    have z10 : W1.cell? ⟨w.heap.size,10,none⟩=some (.slice none 0 0):=HR1.out.1.cell 10;have f10:=HR1.out.1.frozen 10
    go_wp2_with fail
    clear z0 f0 z1 f1 z2 f2 z3 f3 z4 f4 z5 f5 z6 f6 z7 f7 z8 f8 z9 f9 z10 f10
    have hHB : HasBlk W1 w.heap.size 58 11:=⟨_,rfl,HR1.out.1⟩
    obtain ⟨WE,hWE⟩ : ∃ WE,WE=setAll W1 w.heap.size 0 [(.string ⟨#[]⟩),(.int .i64 0),(.string ⟨#[]⟩),(.int .i64 0),(.int .i64 0),(.int .i64 0),(.string ⟨#[]⟩),(.string ⟨#[]⟩),(.int .i64 0),(.int .i64 0),(.slice none 0 0)]:=⟨_,rfl⟩
    have hk:=hHB.fill [(.string ⟨#[]⟩),(.int .i64 0),(.string ⟨#[]⟩),(.int .i64 0),(.int .i64 0),(.int .i64 0),(.string ⟨#[]⟩),(.string ⟨#[]⟩),(.int .i64 0),(.int .i64 0),(.slice none 0 0)] rfl
    have hBE:=Below.setAll (B:=w.heap.size) (g:=w.heap.size) (Nat.le_refl _) [(.string ⟨#[]⟩),(.int .i64 0),(.string ⟨#[]⟩),(.int .i64 0),(.int .i64 0),(.int .i64 0),(.string ⟨#[]⟩),(.string ⟨#[]⟩),(.int .i64 0),(.int .i64 0),(.slice none 0 0)] 0 HR1.out.2.2
    rw [← hWE] at hk hBE
    simp only [setAll,Nat.zero_add,Nat.reduceAdd] at hWE
    rw [← hWE]
    clear hWE hHB
    have x0 : WE.cell? ⟨w.heap.size,0,none⟩=some (.string ⟨#[]⟩):=hk.cell 0
    have x1 : WE.cell? ⟨w.heap.size,1,none⟩=some (.int .i64 0):=hk.cell 1
    have x2 : WE.cell? ⟨w.heap.size,2,none⟩=some (.string ⟨#[]⟩):=hk.cell 2
    have x3 : WE.cell? ⟨w.heap.size,3,none⟩=some (.int .i64 0):=hk.cell 3
    have x4 : WE.cell? ⟨w.heap.size,4,none⟩=some (.int .i64 0):=hk.cell 4
    have x5 : WE.cell? ⟨w.heap.size,5,none⟩=some (.int .i64 0):=hk.cell 5
    have x6 : WE.cell? ⟨w.heap.size,6,none⟩=some (.string ⟨#[]⟩):=hk.cell 6
    have x7 : WE.cell? ⟨w.heap.size,7,none⟩=some (.string ⟨#[]⟩):=hk.cell 7
    have x8 : WE.cell? ⟨w.heap.size,8,none⟩=some (.int .i64 0):=hk.cell 8
    have x9 : WE.cell? ⟨w.heap.size,9,none⟩=some (.int .i64 0):=hk.cell 9
    have x10 : WE.cell? ⟨w.heap.size,10,none⟩=some (.slice none 0 0):=hk.cell 10
    exact bodyPost_ret (v:=.tuple #[.agg #[(.string ⟨#[]⟩),(.int .i64 0),(.string ⟨#[]⟩),(.int .i64 0),(.int .i64 0),(.int .i64 0),(.string ⟨#[]⟩),(.string ⟨#[]⟩),(.int .i64 0),(.int .i64 0),(.slice none 0 0)],.int .i64 0,.int .i64 cc]) (by simp [results,Tryz.results16,go_sem,x0,x1,x2,x3,x4,x5,x6,x7,x8,x9,x10]) rfl ⟨hBE,.inl ⟨cc,HQ.out,rfl⟩⟩
  subst hc
  obtain ⟨h512,hin,D,R,hDl,hRl,hD,hR⟩:=HCC.out (by first | rfl | trivial)
  obtain ⟨ad,rfl⟩ : ∃ ad,A0=some ad:=by
    cases A0 with
    | some ad => exact ⟨ad,rfl⟩
    | none =>
      exfalso
      have:=HA0.out rfl
      omega
  clear h512 HA0
  obtain rfl:=hD.len
  obtain rfl:=hR.len
  have HIN:=Lib.hid hin
  have HD:=Lib.hid hD
  have HRR:=Lib.hid hR
  have HDL:=Lib.hid hDl
  have HRL:=Lib.hid hRl
  clear HCC hin hD hR hDl hRl
  obtain ⟨tx,htx⟩ : ∃ tx,((ty.toNat : Int) == 120)=tx:=⟨_,rfl⟩
  go_upto_if 27 with fail
  go_cut [6,7,8,9] from 28 to 49 (fun s6 s7 s8 s9 wx => ∃ A1 c1 A2 c2 Al cl h D R rs,s6=.slice A1 D.length c1∧s7=.slice A2 R.length c2∧s9=.slice Al rs.length cl∧D.length≤ld∧R.length≤ld∧Hid (MrSt w g5 (.slice A1 D.length c1) (.slice A2 R.length c2) (.slice Al rs.length cl) h D R rs wx))
  case first =>
    cases tx with
    | false =>
      go_wp2_with fail
      go_meet
      case rel => exact ⟨A1,c1,A2,c2,none,0,⟨nm,pr,lk,md,ui,gi,sz,tm,ty,us,gr⟩,D,R,[],rfl,rfl,rfl,HDL.out,HRL.out,Lib.hid ⟨HR1.out,HIN.out,HD.out,HRR.out,RecsAt.nil _,by simp,by simp⟩⟩
    | true =>
      have hcv:=conv_str HD.out.bytes
      have hPT:=bs_size D
      go_wp2_with fail
      refine (HPX.out _ D HR1.out.2.2 (by have:=HDL.out;omega)).mono ?_
      rintro e w2 ⟨Ap,np,cp,pc,rfl,hpc,b2⟩
      have HR2:=Lib.hid (HR1.out.below b2)
      have HV22:=Lib.hid (HRR.out.below b2)
      have HPC:=Lib.hid hpc
      clear hpc b2 hcv hPT y8
      by_cases hp : pc=0
      case neg =>
        have q1 : (pc == 0)=false:=beq_eq_false_iff_ne.2 hp
        have q2 : (pc != 0)=true:=by simp [hp]
        have HQ:=Lib.hid hp
        clear hp
        have z0 : w2.cell? ⟨w.heap.size,0,none⟩=some (.string ⟨#[]⟩):=HR2.out.1.cell 0;have f0:=HR2.out.1.frozen 0
        have z1 : w2.cell? ⟨w.heap.size,1,none⟩=some (.int .i64 0):=HR2.out.1.cell 1;have f1:=HR2.out.1.frozen 1
        have z2 : w2.cell? ⟨w.heap.size,2,none⟩=some (.string ⟨#[]⟩):=HR2.out.1.cell 2;have f2:=HR2.out.1.frozen 2
        have z3 : w2.cell? ⟨w.heap.size,3,none⟩=some (.int .i64 0):=HR2.out.1.cell 3;have f3:=HR2.out.1.frozen 3
        have z4 : w2.cell? ⟨w.heap.size,4,none⟩=some (.int .i64 0):=HR2.out.1.cell 4;have f4:=HR2.out.1.frozen 4
        have z5 : w2.cell? ⟨w.heap.size,5,none⟩=some (.int .i64 0):=HR2.out.1.cell 5;have f5:=HR2.out.1.frozen 5
        have z6 : w2.cell? ⟨w.heap.size,6,none⟩=some (.string ⟨#[]⟩):=HR2.out.1.cell 6;have f6:=HR2.out.1.frozen 6
        have z7 : w2.cell? ⟨w.heap.size,7,none⟩=some (.string ⟨#[]⟩):=HR2.out.1.cell 7;have f7:=HR2.out.1.frozen 7
        have z8 : w2.cell? ⟨w.heap.size,8,none⟩=some (.int .i64 0):=HR2.out.1.cell 8;have f8:=HR2.out.1.frozen 8
        have z9 : w2.cell? ⟨w.heap.size,9,none⟩=some (.int .i64 0):=HR2.out.1.cell 9;have f9:=HR2.out.1.frozen 9
        have z10 : w2.cell? ⟨w.heap.size,10,none⟩=some (.slice none 0 0):=HR2.out.1.cell 10;have f10:=HR2.out.1.frozen 10
        go_wp2_with fail
        clear z0 f0 z1 f1 z2 f2 z3 f3 z4 f4 z5 f5 z6 f6 z7 f7 z8 f8 z9 f9 z10 f10
        have hHB : HasBlk w2 w.heap.size 58 11:=⟨_,rfl,HR2.out.1⟩
        obtain ⟨WE,hWE⟩ : ∃ WE,WE=setAll w2 w.heap.size 0 [(.string ⟨#[]⟩),(.int .i64 0),(.string ⟨#[]⟩),(.int .i64 0),(.int .i64 0),(.int .i64 0),(.string ⟨#[]⟩),(.string ⟨#[]⟩),(.int .i64 0),(.int .i64 0),(.slice none 0 0)]:=⟨_,rfl⟩
        have hk:=hHB.fill [(.string ⟨#[]⟩),(.int .i64 0),(.string ⟨#[]⟩),(.int .i64 0),(.int .i64 0),(.int .i64 0),(.string ⟨#[]⟩),(.string ⟨#[]⟩),(.int .i64 0),(.int .i64 0),(.slice none 0 0)] rfl
        have hBE:=Below.setAll (B:=w.heap.size) (g:=w.heap.size) (Nat.le_refl _) [(.string ⟨#[]⟩),(.int .i64 0),(.string ⟨#[]⟩),(.int .i64 0),(.int .i64 0),(.int .i64 0),(.string ⟨#[]⟩),(.string ⟨#[]⟩),(.int .i64 0),(.int .i64 0),(.slice none 0 0)] 0 HR2.out.2.2
        rw [← hWE] at hk hBE
        simp only [setAll,Nat.zero_add,Nat.reduceAdd] at hWE
        rw [← hWE]
        clear hWE hHB
        have x0 : WE.cell? ⟨w.heap.size,0,none⟩=some (.string ⟨#[]⟩):=hk.cell 0
        have x1 : WE.cell? ⟨w.heap.size,1,none⟩=some (.int .i64 0):=hk.cell 1
        have x2 : WE.cell? ⟨w.heap.size,2,none⟩=some (.string ⟨#[]⟩):=hk.cell 2
        have x3 : WE.cell? ⟨w.heap.size,3,none⟩=some (.int .i64 0):=hk.cell 3
        have x4 : WE.cell? ⟨w.heap.size,4,none⟩=some (.int .i64 0):=hk.cell 4
        have x5 : WE.cell? ⟨w.heap.size,5,none⟩=some (.int .i64 0):=hk.cell 5
        have x6 : WE.cell? ⟨w.heap.size,6,none⟩=some (.string ⟨#[]⟩):=hk.cell 6
        have x7 : WE.cell? ⟨w.heap.size,7,none⟩=some (.string ⟨#[]⟩):=hk.cell 7
        have x8 : WE.cell? ⟨w.heap.size,8,none⟩=some (.int .i64 0):=hk.cell 8
        have x9 : WE.cell? ⟨w.heap.size,9,none⟩=some (.int .i64 0):=hk.cell 9
        have x10 : WE.cell? ⟨w.heap.size,10,none⟩=some (.slice none 0 0):=hk.cell 10
        exact bodyPost_ret (v:=.tuple #[.agg #[(.string ⟨#[]⟩),(.int .i64 0),(.string ⟨#[]⟩),(.int .i64 0),(.int .i64 0),(.int .i64 0),(.string ⟨#[]⟩),(.string ⟨#[]⟩),(.int .i64 0),(.int .i64 0),(.slice none 0 0)],.int .i64 0,.int .i64 pc]) (by simp [results,Tryz.results16,go_sem,x0,x1,x2,x3,x4,x5,x6,x7,x8,x9,x10]) rfl ⟨hBE,.inl ⟨pc,HQ.out,rfl⟩⟩
      subst hp
      obtain ⟨rs,hown,hrl,hri⟩:=HPC.out (by first | rfl | trivial)
      obtain rfl : np=rs.length:=by
        obtain ⟨_,_,e,-⟩:=RecsOwn.at_ hown
        exact (Value.slice.inj e).2.1
      have HO2:=Lib.hid hown
      have HRI:=Lib.hid hri
      have HRN:=Lib.hid hrl
      clear hown hrl hri HPC
      go_wp2_with fail
      refine (HB2.out _ _ R HV22.out.bytes (by have:=HRL.out;omega)).mono ?_
      rintro e w3 ⟨⟨nn,pp,ll,mm,uu,gg,zz,tt,yy,vu,vg⟩,A3,n3,c3,A4,n4,c4,cd,rfl,b3,hcd⟩
      simp only at hcd ⊢
      have hR3:=HR2.out.below b3
      have HO3:=Lib.hid (RecsOwn.below HO2.out b3)
      have HCD:=Lib.hid (fun h => (show HeadIn ⟨nn,pp,ll,mm,uu,gg,zz,tt,yy,vu,vg⟩∧∃ D' R' : List UInt8,D'.length≤ld∧R'.length≤ld∧DataAt w3 w.heap.size (.slice A3 n3 c3) D'∧DataAt w3 w.heap.size (.slice A4 n4 c4) R' from by
        obtain ⟨q1,q2,q3,q4⟩:=hcd h
        have hrl:=HRL.out
        refine ⟨q1,_,_,?_,?_,q3.mono HR2.out.2.2.size,q4.mono HR2.out.2.2.size⟩
        · rw [List.length_take,List.length_drop];omega
        · rw [List.length_drop,List.length_drop];omega))
      have HR3:=Lib.hid hR3
      clear b3 hR3 hcd
      have z0:=HR3.out.2.1.cell 0;have f0:=HR3.out.2.1.frozen 0
      have z1:=HR3.out.2.1.cell 1;have f1:=HR3.out.2.1.frozen 1
      have z2:=HR3.out.2.1.cell 2;have f2:=HR3.out.2.1.frozen 2
      have z3:=HR3.out.2.1.cell 3;have f3:=HR3.out.2.1.frozen 3
      have z4:=HR3.out.2.1.cell 4;have f4:=HR3.out.2.1.frozen 4
      have z5:=HR3.out.2.1.cell 5;have f5:=HR3.out.2.1.frozen 5
      have z6:=HR3.out.2.1.cell 6;have f6:=HR3.out.2.1.frozen 6
      have z7:=HR3.out.2.1.cell 7;have f7:=HR3.out.2.1.frozen 7
      have z8:=HR3.out.2.1.cell 8;have f8:=HR3.out.2.1.frozen 8
      have z9:=HR3.out.2.1.cell 9;have f9:=HR3.out.2.1.frozen 9
      have z10:=HR3.out.2.1.cell 10;have f10:=HR3.out.2.1.frozen 10
      obtain ⟨W4,hW4⟩ : ∃ W4,W4=setAll w3 g5 0 [(.string (bs nn)),(.string (bs pp)),(.string (bs ll)),(.int .i64 mm),(.int .i64 uu),(.int .i64 gg),(.int .i64 zz),(.int .i64 tt),(.int .u8 yy.toNat),(.string (bs vu)),(.string (bs vg))]:=⟨_,rfl⟩
      have hR4 : RdSt w g5 #[(.string (bs nn)),(.string (bs pp)),(.string (bs ll)),(.int .i64 mm),(.int .i64 uu),(.int .i64 gg),(.int .i64 zz),(.int .i64 tt),(.int .u8 yy.toNat),(.string (bs vu)),(.string (bs vg))] (setAll w3 g5 0 [(.string (bs nn)),(.string (bs pp)),(.string (bs ll)),(.int .i64 mm),(.int .i64 uu),(.int .i64 gg),(.int .i64 zz),(.int .i64 tt),(.int .u8 yy.toNat),(.string (bs vu)),(.string (bs vg))]):=⟨Blk.far_setAll (by have:=HGT.out;omega) _ 0 HR3.out.1,(show HasBlk w3 g5 107 11 from ⟨_,rfl,HR3.out.2.1⟩).fill [(.string (bs nn)),(.string (bs pp)),(.string (bs ll)),(.int .i64 mm),(.int .i64 uu),(.int .i64 gg),(.int .i64 zz),(.int .i64 tt),(.int .u8 yy.toNat),(.string (bs vu)),(.string (bs vg))] rfl,Below.setAll (by have:=HGT.out;omega) _ 0 HR3.out.2.2⟩
      have hHB : HasBlk w3 g5 107 11:=⟨_,rfl,HR3.out.2.1⟩
      have hO4:=ownsRow_setAll HO3.out HR3.out.2.1 (by decide) [(.string (bs nn)),(.string (bs pp)),(.string (bs ll)),(.int .i64 mm),(.int .i64 uu),(.int .i64 gg),(.int .i64 zz),(.int .i64 tt),(.int .u8 yy.toNat),(.string (bs vu)),(.string (bs vg))] 0
      have hKE:=U8Kept.setAll (by decide) [(.string (bs nn)),(.string (bs pp)),(.string (bs ll)),(.int .i64 mm),(.int .i64 uu),(.int .i64 gg),(.int .i64 zz),(.int .i64 tt),(.int .u8 yy.toNat),(.string (bs vu)),(.string (bs vg))] 0 hHB
      rw [← hW4] at hR4 hO4 hKE
      have HR4:=Lib.hid hR4
      have HO4:=Lib.hid (RecsOwn.at_ (show RecsOwn W4 _ _ rs from hO4))
      have HKE:=Lib.hid hKE
      simp only [setAll,Nat.zero_add,Nat.reduceAdd] at hW4
      clear hR4 hO4 hKE hHB
      go_upto_region 10 with fail
      rw [← hW4]
      clear hW4 z0 f0 z1 f1 z2 f2 z3 f3 z4 f4 z5 f5 z6 f6 z7 f7 z8 f8 z9 f9 z10 f10
      by_cases hd : cd=0
      case neg =>
        have q1 : (cd == 0)=false:=beq_eq_false_iff_ne.2 hd
        have q2 : (cd != 0)=true:=by simp [hd]
        have HQ:=Lib.hid hd
        clear hd
        have z0 : W4.cell? ⟨w.heap.size,0,none⟩=some (.string ⟨#[]⟩):=HR4.out.1.cell 0;have f0:=HR4.out.1.frozen 0
        have z1 : W4.cell? ⟨w.heap.size,1,none⟩=some (.int .i64 0):=HR4.out.1.cell 1;have f1:=HR4.out.1.frozen 1
        have z2 : W4.cell? ⟨w.heap.size,2,none⟩=some (.string ⟨#[]⟩):=HR4.out.1.cell 2;have f2:=HR4.out.1.frozen 2
        have z3 : W4.cell? ⟨w.heap.size,3,none⟩=some (.int .i64 0):=HR4.out.1.cell 3;have f3:=HR4.out.1.frozen 3
        have z4 : W4.cell? ⟨w.heap.size,4,none⟩=some (.int .i64 0):=HR4.out.1.cell 4;have f4:=HR4.out.1.frozen 4
        have z5 : W4.cell? ⟨w.heap.size,5,none⟩=some (.int .i64 0):=HR4.out.1.cell 5;have f5:=HR4.out.1.frozen 5
        have z6 : W4.cell? ⟨w.heap.size,6,none⟩=some (.string ⟨#[]⟩):=HR4.out.1.cell 6;have f6:=HR4.out.1.frozen 6
        have z7 : W4.cell? ⟨w.heap.size,7,none⟩=some (.string ⟨#[]⟩):=HR4.out.1.cell 7;have f7:=HR4.out.1.frozen 7
        have z8 : W4.cell? ⟨w.heap.size,8,none⟩=some (.int .i64 0):=HR4.out.1.cell 8;have f8:=HR4.out.1.frozen 8
        have z9 : W4.cell? ⟨w.heap.size,9,none⟩=some (.int .i64 0):=HR4.out.1.cell 9;have f9:=HR4.out.1.frozen 9
        have z10 : W4.cell? ⟨w.heap.size,10,none⟩=some (.slice none 0 0):=HR4.out.1.cell 10;have f10:=HR4.out.1.frozen 10
        go_wp2_with fail
        clear z0 f0 z1 f1 z2 f2 z3 f3 z4 f4 z5 f5 z6 f6 z7 f7 z8 f8 z9 f9 z10 f10
        have hHB : HasBlk W4 w.heap.size 58 11:=⟨_,rfl,HR4.out.1⟩
        obtain ⟨WE,hWE⟩ : ∃ WE,WE=setAll W4 w.heap.size 0 [(.string ⟨#[]⟩),(.int .i64 0),(.string ⟨#[]⟩),(.int .i64 0),(.int .i64 0),(.int .i64 0),(.string ⟨#[]⟩),(.string ⟨#[]⟩),(.int .i64 0),(.int .i64 0),(.slice none 0 0)]:=⟨_,rfl⟩
        have hk:=hHB.fill [(.string ⟨#[]⟩),(.int .i64 0),(.string ⟨#[]⟩),(.int .i64 0),(.int .i64 0),(.int .i64 0),(.string ⟨#[]⟩),(.string ⟨#[]⟩),(.int .i64 0),(.int .i64 0),(.slice none 0 0)] rfl
        have hBE:=Below.setAll (B:=w.heap.size) (g:=w.heap.size) (Nat.le_refl _) [(.string ⟨#[]⟩),(.int .i64 0),(.string ⟨#[]⟩),(.int .i64 0),(.int .i64 0),(.int .i64 0),(.string ⟨#[]⟩),(.string ⟨#[]⟩),(.int .i64 0),(.int .i64 0),(.slice none 0 0)] 0 HR4.out.2.2
        rw [← hWE] at hk hBE
        simp only [setAll,Nat.zero_add,Nat.reduceAdd] at hWE
        rw [← hWE]
        clear hWE hHB
        have x0 : WE.cell? ⟨w.heap.size,0,none⟩=some (.string ⟨#[]⟩):=hk.cell 0
        have x1 : WE.cell? ⟨w.heap.size,1,none⟩=some (.int .i64 0):=hk.cell 1
        have x2 : WE.cell? ⟨w.heap.size,2,none⟩=some (.string ⟨#[]⟩):=hk.cell 2
        have x3 : WE.cell? ⟨w.heap.size,3,none⟩=some (.int .i64 0):=hk.cell 3
        have x4 : WE.cell? ⟨w.heap.size,4,none⟩=some (.int .i64 0):=hk.cell 4
        have x5 : WE.cell? ⟨w.heap.size,5,none⟩=some (.int .i64 0):=hk.cell 5
        have x6 : WE.cell? ⟨w.heap.size,6,none⟩=some (.string ⟨#[]⟩):=hk.cell 6
        have x7 : WE.cell? ⟨w.heap.size,7,none⟩=some (.string ⟨#[]⟩):=hk.cell 7
        have x8 : WE.cell? ⟨w.heap.size,8,none⟩=some (.int .i64 0):=hk.cell 8
        have x9 : WE.cell? ⟨w.heap.size,9,none⟩=some (.int .i64 0):=hk.cell 9
        have x10 : WE.cell? ⟨w.heap.size,10,none⟩=some (.slice none 0 0):=hk.cell 10
        exact bodyPost_ret (v:=.tuple #[.agg #[(.string ⟨#[]⟩),(.int .i64 0),(.string ⟨#[]⟩),(.int .i64 0),(.int .i64 0),(.int .i64 0),(.string ⟨#[]⟩),(.string ⟨#[]⟩),(.int .i64 0),(.int .i64 0),(.slice none 0 0)],.int .i64 0,.int .i64 cd]) (by simp [results,Tryz.results16,go_sem,x0,x1,x2,x3,x4,x5,x6,x7,x8,x9,x10]) rfl ⟨hBE,.inl ⟨cd,HQ.out,rfl⟩⟩
      subst hd
      obtain ⟨hin2,D',R',hDl,hRl,hD,hR⟩:=HCD.out (by first | rfl | trivial)
      obtain rfl:=hD.len
      obtain rfl:=hR.len
      have HS4 : Hid (MrSt w g5 (.slice A3 D'.length c3) (.slice A4 R'.length c4) (.slice Ap rs.length cp) ⟨nn,pp,ll,mm,uu,gg,zz,tt,yy,vu,vg⟩ D' R' rs W4):=Lib.hid ⟨HR4.out,hin2,hD.kept HKE.out,hR.kept HKE.out,HO4.out,HRI.out,HRN.out⟩
      have HDL2:=Lib.hid hDl
      have HRL2:=Lib.hid hRl
      clear hin2 hDl hRl hD hR HCD
      go_wp2_with fail
      go_meet
      case rel => exact ⟨A3,c3,A4,c4,Ap,cp,_,D',R',rs,rfl,rfl,rfl,HDL2.out,HRL2.out,HS4⟩
  case rest =>
    clear HR1 HD HRR HDL HRL HIN HPX HB2 htx y8
    obtain ⟨A1,c1,A2,c2,Al,cl,⟨nm,pr,lk,md,ui,gi,sz,tm,ty,us,gr⟩,D,R,rs,rfl,rfl,rfl,hDl,hRl,HX⟩:=hcut
    have HRc:=Lib.hid HX.out.1
    have HUX:=Lib.hid (HUN.out wc ⟨nm,pr,lk,md,ui,gi,sz,tm,ty,us,gr⟩ (.slice Al rs.length cl) rs A1 D.length c1 HX.out.1.2.2 HX.out.2.2.2.2.1 HX.out.2.1 HX.out.2.2.2.2.2.1 HX.out.2.2.2.2.2.2)
    have HXI:=Lib.hid (unpackD_in (D:=D) HX.out.2.1 HX.out.2.2.2.2.2.1 (by omega))
    have HDc:=Lib.hid HX.out.2.2.1
    have HEX : Hid (entC (unpackA ⟨nm,pr,lk,md,ui,gi,sz,tm,ty,us,gr⟩ rs) (.slice A1 D.length c1)=entC (unpackD ⟨nm,pr,lk,md,ui,gi,sz,tm,ty,us,gr⟩ rs D) (.slice A1 D.length c1)):=Lib.hid rfl
    rw [HEX.out] at HUX
    have hdd : (unpackD ⟨nm,pr,lk,md,ui,gi,sz,tm,ty,us,gr⟩ rs D).data=D:=rfl
    generalize unpackD ⟨nm,pr,lk,md,ui,gi,sz,tm,ty,us,gr⟩ rs D=x at *
    obtain ⟨xp,xk,xt,⟨m1,m2,m3,m4,m5,m6,m7⟩,xd⟩:=x
    simp only at hdd
    subst hdd
    have HWX:=Lib.hid (fun W hb hd => HWR.out W ⟨xp,xk,xt,⟨m1,m2,m3,m4,m5,m6,m7⟩,xd⟩ A1 c1 hb HXI.out hd)
    unfold entC at HUX HWX
    simp only at HUX HWX
    clear HUN HX HEX HWR
    have y0 : wc.cell? ⟨g5,0,none⟩=some (.string (bs nm)):=HRc.out.2.1.cell 0
    have y1 : wc.cell? ⟨g5,1,none⟩=some (.string (bs pr)):=HRc.out.2.1.cell 1
    have y2 : wc.cell? ⟨g5,2,none⟩=some (.string (bs lk)):=HRc.out.2.1.cell 2
    have y3 : wc.cell? ⟨g5,3,none⟩=some (.int .i64 md):=HRc.out.2.1.cell 3
    have y4 : wc.cell? ⟨g5,4,none⟩=some (.int .i64 ui):=HRc.out.2.1.cell 4
    have y5 : wc.cell? ⟨g5,5,none⟩=some (.int .i64 gi):=HRc.out.2.1.cell 5
    have y6 : wc.cell? ⟨g5,6,none⟩=some (.int .i64 sz):=HRc.out.2.1.cell 6
    have y7 : wc.cell? ⟨g5,7,none⟩=some (.int .i64 tm):=HRc.out.2.1.cell 7
    have y8 : wc.cell? ⟨g5,8,none⟩=some (.int .u8 ty.toNat):=HRc.out.2.1.cell 8
    have y9 : wc.cell? ⟨g5,9,none⟩=some (.string (bs us)):=HRc.out.2.1.cell 9
    have y10 : wc.cell? ⟨g5,10,none⟩=some (.string (bs gr)):=HRc.out.2.1.cell 10
    go_wp2_with fail
    refine HUX.out.mono ?_
    rintro e w5 ⟨rfl,b5⟩
    obtain ⟨W6,hW6⟩ : ∃ W6,W6=w5.alloc (.cells #[(.string (bs xp)),(.int .i64 xk),(.string (bs xt)),(.int .i64 m1),(.int .i64 m2),(.int .i64 m3),(.string (bs m4)),(.string (bs m5)),(.int .i64 m6),(.int .i64 m7),(.slice A1 xd.length c1)] 58):=⟨_,rfl⟩
    obtain ⟨ge,hge⟩ : ∃ ge,ge=w5.heap.size:=⟨_,rfl⟩
    have hke : Blk W6 ge 58 #[(.string (bs xp)),(.int .i64 xk),(.string (bs xt)),(.int .i64 m1),(.int .i64 m2),(.int .i64 m3),(.string (bs m4)),(.string (bs m5)),(.int .i64 m6),(.int .i64 m7),(.slice A1 xd.length c1)]:=by rw [hW6,hge];exact Blk.new _ _ _
    have b6 : Below wc.heap.size wc W6:=by rw [hW6];exact b5.alloc b5.size _
    have HKE:=Lib.hid hke
    have HR6:=Lib.hid (HRc.out.below b6)
    have HD6:=Lib.hid (HDc.out.below b6)
    have HNE : Hid (ge≠w.heap.size):=Lib.hid (by have h1:=HRc.out.1.lt;have h2:=b5.size;omega)
    obtain ⟨n,hn⟩ : ∃ n,n=ld - R.length:=⟨_,rfl⟩
    have hnl : n≤ld:=by omega
    have i3 : ((ld : Int) - (R.length : Int))=(n : Int):=by omega
    have i4 : IntKind.i64.wrap (n : Int)=(n : Int):=IntWalk.i64_in _ ⟨by omega,by omega⟩
    have i1 : (0 : Int)≤(n : Int):=by omega
    have i2 : (n : Int)≤(c0 : Int):=by omega
    have i5 : n≤c0:=by omega
    clear b5 b6 hke HRc HDc HUX hn
    clear y0 y1 y2 y3 y4 y5 y6 y7 y8 y9 y10
    go_upto_region 13 with fail
    rw [← hW6,← hge]
    clear hW6 hge
    have e0 : W6.cell? ⟨ge,0,none⟩=some (.string (bs xp)):=HKE.out.cell 0
    have e1 : W6.cell? ⟨ge,1,none⟩=some (.int .i64 xk):=HKE.out.cell 1
    have e2 : W6.cell? ⟨ge,2,none⟩=some (.string (bs xt)):=HKE.out.cell 2
    have e3 : W6.cell? ⟨ge,3,none⟩=some (.int .i64 m1):=HKE.out.cell 3
    have e4 : W6.cell? ⟨ge,4,none⟩=some (.int .i64 m2):=HKE.out.cell 4
    have e5 : W6.cell? ⟨ge,5,none⟩=some (.int .i64 m3):=HKE.out.cell 5
    have e6 : W6.cell? ⟨ge,6,none⟩=some (.string (bs m4)):=HKE.out.cell 6
    have e7 : W6.cell? ⟨ge,7,none⟩=some (.string (bs m5)):=HKE.out.cell 7
    have e8 : W6.cell? ⟨ge,8,none⟩=some (.int .i64 m6):=HKE.out.cell 8
    have e9 : W6.cell? ⟨ge,9,none⟩=some (.int .i64 m7):=HKE.out.cell 9
    have e10 : W6.cell? ⟨ge,10,none⟩=some (.slice A1 xd.length c1):=HKE.out.cell 10
    go_wp2_with fail
    refine (HWX.out _ HR6.out.2.2 HD6.out.bytes).mono ?_
    rintro e w7 ⟨bv,cw,rfl,b7,hcw⟩
    have HR7:=Lib.hid (HR6.out.below b7)
    have HD7:=Lib.hid (HD6.out.below b7)
    have HK7:=Lib.hid (HKE.out.below b7 HKE.out.lt)
    clear HR6 HD6 HKE HWX HXI
    clear e0 e1 e2 e3 e4 e5 e6 e7 e8 e9 e10
    rcases hcw with ⟨rfl,hok,hbv⟩ | ⟨hcw,rfl⟩
    case inr =>
      have q1 : (cw == 0)=false:=beq_eq_false_iff_ne.2 hcw
      have q2 : (cw != 0)=true:=by simp [hcw]
      clear hcw b7
      go_upto_region 15 with fail
      refine wp_region_G (S:=fun W => Below w7.heap.size w7 W) (by kernel_rfl) (Below.refl _ _).drew ?_
      refine wpG_take (i:=0) (v:=?va1) rfl (by kernel_rfl) (by kernel_rfl) (by kernel_rfl) (fun _ _ _ h => h) (Or.inl ⟨by rfl,?hya1⟩) ?resta1
      case hya1 => (intro W hSw;left;(try dsimp only at hSw);go_simp;try with_reducible rfl)
      simp only [Act.put,List.setIfInBounds_toArray,List.set_cons_zero,List.set_cons_succ,List.getElem_toArray,List.getElem_cons_zero,List.getElem_cons_succ]
      refine wpG_take (i:=1) (v:=.bool true) rfl (by kernel_rfl) (by kernel_rfl) (by kernel_rfl) (fun _ _ _ h => h) (Or.inl ⟨by rfl,?hya2⟩) ?resta2
      case hya2 => (intro W hSw;left;(try dsimp only at hSw);go_simp;try with_reducible rfl)
      simp only [Act.put,List.setIfInBounds_toArray,List.set_cons_zero,List.set_cons_succ,List.getElem_toArray,List.getElem_cons_zero,List.getElem_cons_succ]
      refine wpG_take (i:=2) (v:=.bool true) rfl (by kernel_rfl) (by kernel_rfl) (by kernel_rfl) (fun _ _ _ h => h) (Or.inl ⟨by rfl,?hya3⟩) ?resta3
      case hya3 => (intro W hSw;left;(try dsimp only at hSw);go_simp;try with_reducible rfl)
      simp only [Act.put,List.setIfInBounds_toArray,List.set_cons_zero,List.set_cons_succ,List.getElem_toArray,List.getElem_cons_zero,List.getElem_cons_succ]
      refine wpG_take (i:=3) (v:=undef) rfl (by kernel_rfl) (by kernel_rfl) (by kernel_rfl) (fun _ _ _ h => h) (Or.inr ⟨by rfl,rfl⟩) ?_
      simp only [Act.put,List.setIfInBounds_toArray,List.set_cons_zero,List.set_cons_succ,List.getElem_toArray,List.getElem_cons_zero,List.getElem_cons_succ]
      refine wpG_take (i:=4) (v:=undef) rfl (by kernel_rfl) (by kernel_rfl) (by kernel_rfl) (fun _ _ _ h => h) (Or.inr ⟨by rfl,rfl⟩) ?_
      simp only [Act.put,List.setIfInBounds_toArray,List.set_cons_zero,List.set_cons_succ,List.getElem_toArray,List.getElem_cons_zero,List.getElem_cons_succ]
      refine wpG_take (i:=5) (v:=undef) rfl (by kernel_rfl) (by kernel_rfl) (by kernel_rfl) (fun _ _ _ h => h) (Or.inr ⟨by rfl,rfl⟩) ?_
      simp only [Act.put,List.setIfInBounds_toArray,List.set_cons_zero,List.set_cons_succ,List.getElem_toArray,List.getElem_cons_zero,List.getElem_cons_succ]
      refine wpG_take (i:=6) (v:=undef) rfl (by kernel_rfl) (by kernel_rfl) (by kernel_rfl) (fun _ _ _ h => h) (Or.inr ⟨by rfl,rfl⟩) ?_
      simp only [Act.put,List.setIfInBounds_toArray,List.set_cons_zero,List.set_cons_succ,List.getElem_toArray,List.getElem_cons_zero,List.getElem_cons_succ]
      refine wpG_take (i:=7) (v:=undef) rfl (by kernel_rfl) (by kernel_rfl) (by kernel_rfl) (fun _ _ _ h => h) (Or.inr ⟨by rfl,rfl⟩) ?_
      simp only [Act.put,List.setIfInBounds_toArray,List.set_cons_zero,List.set_cons_succ,List.getElem_toArray,List.getElem_cons_zero,List.getElem_cons_succ]
      refine wpG_take (i:=8) (v:=undef) rfl (by kernel_rfl) (by kernel_rfl) (by kernel_rfl) (fun _ _ _ h => h) (Or.inr ⟨by rfl,rfl⟩) ?_
      simp only [Act.put,List.setIfInBounds_toArray,List.set_cons_zero,List.set_cons_succ,List.getElem_toArray,List.getElem_cons_zero,List.getElem_cons_succ]
      refine wpG_take (i:=9) (v:=undef) rfl (by kernel_rfl) (by kernel_rfl) (by kernel_rfl) (fun _ _ _ h => h) (Or.inr ⟨by rfl,rfl⟩) ?_
      simp only [Act.put,List.setIfInBounds_toArray,List.set_cons_zero,List.set_cons_succ,List.getElem_toArray,List.getElem_cons_zero,List.getElem_cons_succ]
      refine wpG_take (i:=10) (v:=?va11) rfl (by kernel_rfl) (by kernel_rfl) (by kernel_rfl) (fun _ _ _ h => h) (Or.inl ⟨by rfl,?hya11⟩) ?resta11
      case hya11 => (intro W hSw;left;(try dsimp only at hSw);go_simp;try with_reducible rfl)
      simp only [Act.put,List.setIfInBounds_toArray,List.set_cons_zero,List.set_cons_succ,List.getElem_toArray,List.getElem_cons_zero,List.getElem_cons_succ]
      refine wpG_done (by kernel_rfl) (fun w8 hb hS => ?_) _
      have HR8:=Lib.hid (HR7.out.below hS)
      clear hb hS
      have z0 : w8.cell? ⟨w.heap.size,0,none⟩=some (.string ⟨#[]⟩):=HR8.out.1.cell 0;have f0:=HR8.out.1.frozen 0
      have z1 : w8.cell? ⟨w.heap.size,1,none⟩=some (.int .i64 0):=HR8.out.1.cell 1;have f1:=HR8.out.1.frozen 1
      have z2 : w8.cell? ⟨w.heap.size,2,none⟩=some (.string ⟨#[]⟩):=HR8.out.1.cell 2;have f2:=HR8.out.1.frozen 2
      have z3 : w8.cell? ⟨w.heap.size,3,none⟩=some (.int .i64 0):=HR8.out.1.cell 3;have f3:=HR8.out.1.frozen 3
      have z4 : w8.cell? ⟨w.heap.size,4,none⟩=some (.int .i64 0):=HR8.out.1.cell 4;have f4:=HR8.out.1.frozen 4
      have z5 : w8.cell? ⟨w.heap.size,5,none⟩=some (.int .i64 0):=HR8.out.1.cell 5;have f5:=HR8.out.1.frozen 5
      have z6 : w8.cell? ⟨w.heap.size,6,none⟩=some (.string ⟨#[]⟩):=HR8.out.1.cell 6;have f6:=HR8.out.1.frozen 6
      have z7 : w8.cell? ⟨w.heap.size,7,none⟩=some (.string ⟨#[]⟩):=HR8.out.1.cell 7;have f7:=HR8.out.1.frozen 7
      have z8 : w8.cell? ⟨w.heap.size,8,none⟩=some (.int .i64 0):=HR8.out.1.cell 8;have f8:=HR8.out.1.frozen 8
      have z9 : w8.cell? ⟨w.heap.size,9,none⟩=some (.int .i64 0):=HR8.out.1.cell 9;have f9:=HR8.out.1.frozen 9
      have z10 : w8.cell? ⟨w.heap.size,10,none⟩=some (.slice none 0 0):=HR8.out.1.cell 10;have f10:=HR8.out.1.frozen 10
      go_wp2_with fail
      clear z0 f0 z1 f1 z2 f2 z3 f3 z4 f4 z5 f5 z6 f6 z7 f7 z8 f8 z9 f9 z10 f10
      have hHB : HasBlk w8 w.heap.size 58 11:=⟨_,rfl,HR8.out.1⟩
      obtain ⟨WE,hWE⟩ : ∃ WE,WE=setAll w8 w.heap.size 0 [(.string ⟨#[]⟩),(.int .i64 0),(.string ⟨#[]⟩),(.int .i64 0),(.int .i64 0),(.int .i64 0),(.string ⟨#[]⟩),(.string ⟨#[]⟩),(.int .i64 0),(.int .i64 0),(.slice none 0 0)]:=⟨_,rfl⟩
      have hk:=hHB.fill [(.string ⟨#[]⟩),(.int .i64 0),(.string ⟨#[]⟩),(.int .i64 0),(.int .i64 0),(.int .i64 0),(.string ⟨#[]⟩),(.string ⟨#[]⟩),(.int .i64 0),(.int .i64 0),(.slice none 0 0)] rfl
      have hBE:=Below.setAll (B:=w.heap.size) (g:=w.heap.size) (Nat.le_refl _) [(.string ⟨#[]⟩),(.int .i64 0),(.string ⟨#[]⟩),(.int .i64 0),(.int .i64 0),(.int .i64 0),(.string ⟨#[]⟩),(.string ⟨#[]⟩),(.int .i64 0),(.int .i64 0),(.slice none 0 0)] 0 HR8.out.2.2
      rw [← hWE] at hk hBE
      simp only [setAll,Nat.zero_add,Nat.reduceAdd] at hWE
      rw [← hWE]
      clear hWE hHB
      have x0 : WE.cell? ⟨w.heap.size,0,none⟩=some (.string ⟨#[]⟩):=hk.cell 0
      have x1 : WE.cell? ⟨w.heap.size,1,none⟩=some (.int .i64 0):=hk.cell 1
      have x2 : WE.cell? ⟨w.heap.size,2,none⟩=some (.string ⟨#[]⟩):=hk.cell 2
      have x3 : WE.cell? ⟨w.heap.size,3,none⟩=some (.int .i64 0):=hk.cell 3
      have x4 : WE.cell? ⟨w.heap.size,4,none⟩=some (.int .i64 0):=hk.cell 4
      have x5 : WE.cell? ⟨w.heap.size,5,none⟩=some (.int .i64 0):=hk.cell 5
      have x6 : WE.cell? ⟨w.heap.size,6,none⟩=some (.string ⟨#[]⟩):=hk.cell 6
      have x7 : WE.cell? ⟨w.heap.size,7,none⟩=some (.string ⟨#[]⟩):=hk.cell 7
      have x8 : WE.cell? ⟨w.heap.size,8,none⟩=some (.int .i64 0):=hk.cell 8
      have x9 : WE.cell? ⟨w.heap.size,9,none⟩=some (.int .i64 0):=hk.cell 9
      have x10 : WE.cell? ⟨w.heap.size,10,none⟩=some (.slice none 0 0):=hk.cell 10
      exact bodyPost_ret (v:=.tuple #[.agg #[(.string ⟨#[]⟩),(.int .i64 0),(.string ⟨#[]⟩),(.int .i64 0),(.int .i64 0),(.int .i64 0),(.string ⟨#[]⟩),(.string ⟨#[]⟩),(.int .i64 0),(.int .i64 0),(.slice none 0 0)],.int .i64 0,.int .i64 3]) (by simp [results,Tryz.results16,go_sem,x0,x1,x2,x3,x4,x5,x6,x7,x8,x9,x10]) rfl ⟨hBE,.inl ⟨3,by decide,rfl⟩⟩
    have HBV:=Lib.hid hbv
    have HOK:=Lib.hid hok
    obtain ⟨Ab,cb,rfl,-⟩:=hbv.at_
    have HAG : Hid (∀ W,Below w7.heap.size w7 W→(convert 27 9 (.slice Ab (List.map ofB (memB ⟨xp,xk,xt,⟨m1,m2,m3,m4,m5,m6,m7⟩,xd⟩)).length cb)).run Tryz.prog W=.ok (.string (bs (memB ⟨xp,xk,xt,⟨m1,m2,m3,m4,m5,m6,m7⟩,xd⟩))) W):=Lib.hid (fun W hb => by
      have h1:=conv_str (HBV.out.at_.below hb)
      exact h1)
    have HFW : Hid (∀ W,Below w7.heap.size w7 W→(convert 27 9 (.slice (some ad) n c0)).run Tryz.prog W=.ok (.string (bs (d.take n))) W):=Lib.hid (fun W hb => HFR.out ad rfl n hnl W (HR7.out.2.2.trans (hb.mono HR7.out.2.2.size)))
    have HNL:=Lib.hid hnl
    obtain ⟨lm,hlm⟩ : ∃ lm,lm=(List.map ofB (memB ⟨xp,xk,xt,⟨m1,m2,m3,m4,m5,m6,m7⟩,xd⟩)).length:=⟨_,rfl⟩
    rw [← hlm] at HAG ⊢
    clear hlm HFR HBV hbv hok b7
    have HEQ : Hid (((bs (memB ⟨xp,xk,xt,⟨m1,m2,m3,m4,m5,m6,m7⟩,xd⟩)).toList != (bs (d.take n)).toList)=false→memB ⟨xp,xk,xt,⟨m1,m2,m3,m4,m5,m6,m7⟩,xd⟩=d.take n):=Lib.hid (fun h => by
      rw [bs_toList,bs_toList] at h
      simpa using h)
    generalize bs (memB ⟨xp,xk,xt,⟨m1,m2,m3,m4,m5,m6,m7⟩,xd⟩)=MM at *
    generalize bs (d.take n)=DD at *
    obtain ⟨q,hq⟩ : ∃ q,(MM.toList != DD.toList)=q:=⟨_,rfl⟩
    rw [hq] at HEQ
    cases q with
    | true =>
      have hq2 : ¬ MM.toList=DD.toList:=by simpa using hq
      go_upto_region 15 with fail
      refine wp_region_G (S:=fun W => Below w7.heap.size w7 W) (by kernel_rfl) (Below.refl _ _).drew ?_
      refine wpG_take (i:=0) (v:=?vmt1) rfl (by kernel_rfl) (by kernel_rfl) (by kernel_rfl) (fun _ _ _ h => h) (Or.inl ⟨by rfl,?hymt1⟩) ?restmt1
      case hymt1 => (intro W hSw;left;(try dsimp only at hSw);go_simp;try with_reducible rfl)
      simp only [Act.put,List.setIfInBounds_toArray,List.set_cons_zero,List.set_cons_succ,List.getElem_toArray,List.getElem_cons_zero,List.getElem_cons_succ]
      refine wpG_take (i:=1) (v:=?vmt2) rfl (by kernel_rfl) (by kernel_rfl) (by kernel_rfl) (fun _ _ _ h => h) (Or.inl ⟨by rfl,?hymt2⟩) ?restmt2
      case hymt2 => (intro W hSw;left;(try dsimp only at hSw);go_simp;try with_reducible rfl)
      simp only [Act.put,List.setIfInBounds_toArray,List.set_cons_zero,List.set_cons_succ,List.getElem_toArray,List.getElem_cons_zero,List.getElem_cons_succ]
      refine wpG_take (i:=2) (v:=?vmt3) rfl (by kernel_rfl) (by kernel_rfl) (by kernel_rfl) (fun _ _ _ h => h) (Or.inl ⟨by rfl,?hymt3⟩) ?restmt3
      case hymt3 => (intro W hSw;left;(try dsimp only at hSw);go_simp;try with_reducible rfl)
      simp only [Act.put,List.setIfInBounds_toArray,List.set_cons_zero,List.set_cons_succ,List.getElem_toArray,List.getElem_cons_zero,List.getElem_cons_succ]
      refine wpG_take (i:=3) (v:=?vmt4) rfl (by kernel_rfl) (by kernel_rfl) (by kernel_rfl) (fun _ _ _ h => h) (Or.inl ⟨by rfl,?hymt4⟩) ?restmt4
      case hymt4 => (intro W hSw;left;(try dsimp only at hSw);go_simp;try with_reducible rfl)
      simp only [Act.put,List.setIfInBounds_toArray,List.set_cons_zero,List.set_cons_succ,List.getElem_toArray,List.getElem_cons_zero,List.getElem_cons_succ]
      refine wpG_take (i:=4) (v:=?vmt5) rfl (by kernel_rfl) (by kernel_rfl) (by kernel_rfl) (fun _ _ _ h => h) (Or.inl ⟨by rfl,?hymt5⟩) ?restmt5
      case hymt5 => (intro W hSw;left;(try dsimp only at hSw);have hcA:=HAG.out _ hSw;go_simp;try with_reducible rfl)
      simp only [Act.put,List.setIfInBounds_toArray,List.set_cons_zero,List.set_cons_succ,List.getElem_toArray,List.getElem_cons_zero,List.getElem_cons_succ]
      refine wpG_take (i:=5) (v:=?vmt6) rfl (by kernel_rfl) (by kernel_rfl) (by kernel_rfl) (fun _ _ _ h => h) (Or.inl ⟨by rfl,?hymt6⟩) ?restmt6
      case hymt6 => (intro W hSw;left;(try dsimp only at hSw);go_simp;try with_reducible rfl)
      simp only [Act.put,List.setIfInBounds_toArray,List.set_cons_zero,List.set_cons_succ,List.getElem_toArray,List.getElem_cons_zero,List.getElem_cons_succ]
      refine wpG_take (i:=6) (v:=?vmt7) rfl (by kernel_rfl) (by kernel_rfl) (by kernel_rfl) (fun _ _ _ h => h) (Or.inl ⟨by rfl,?hymt7⟩) ?restmt7
      case hymt7 => (intro W hSw;left;(try dsimp only at hSw);go_simp;try with_reducible rfl)
      simp only [Act.put,List.setIfInBounds_toArray,List.set_cons_zero,List.set_cons_succ,List.getElem_toArray,List.getElem_cons_zero,List.getElem_cons_succ]
      refine wpG_take (i:=7) (v:=?vmt8) rfl (by kernel_rfl) (by kernel_rfl) (by kernel_rfl) (fun _ _ _ h => h) (Or.inl ⟨by rfl,?hymt8⟩) ?restmt8
      case hymt8 => (intro W hSw;left;(try dsimp only at hSw);go_simp;try with_reducible rfl)
      simp only [Act.put,List.setIfInBounds_toArray,List.set_cons_zero,List.set_cons_succ,List.getElem_toArray,List.getElem_cons_zero,List.getElem_cons_succ]
      refine wpG_take (i:=8) (v:=?vmt9) rfl (by kernel_rfl) (by kernel_rfl) (by kernel_rfl) (fun _ _ _ h => h) (Or.inl ⟨by rfl,?hymt9⟩) ?restmt9
      case hymt9 => (intro W hSw;left;(try dsimp only at hSw);have hcF:=HFW.out _ hSw;go_simp;try with_reducible rfl)
      simp only [Act.put,List.setIfInBounds_toArray,List.set_cons_zero,List.set_cons_succ,List.getElem_toArray,List.getElem_cons_zero,List.getElem_cons_succ]
      refine wpG_take (i:=9) (v:=.bool true) rfl (by kernel_rfl) (by kernel_rfl) (by kernel_rfl) (fun _ _ _ h => h) (Or.inl ⟨by rfl,?hymt10⟩) ?restmt10
      case hymt10 => (intro W hSw;left;(try dsimp only at hSw);go_simp;try with_reducible rfl)
      simp only [Act.put,List.setIfInBounds_toArray,List.set_cons_zero,List.set_cons_succ,List.getElem_toArray,List.getElem_cons_zero,List.getElem_cons_succ]
      refine wpG_take (i:=10) (v:=.bool true) rfl (by kernel_rfl) (by kernel_rfl) (by kernel_rfl) (fun _ _ _ h => h) (Or.inl ⟨by rfl,?hymt11⟩) ?restmt11
      case hymt11 => (intro W hSw;left;(try dsimp only at hSw);go_simp;try with_reducible rfl)
      simp only [Act.put,List.setIfInBounds_toArray,List.set_cons_zero,List.set_cons_succ,List.getElem_toArray,List.getElem_cons_zero,List.getElem_cons_succ]
      refine wpG_done (by kernel_rfl) (fun w8 hb hS => ?_) _
      have HR8:=Lib.hid (HR7.out.below hS)
      have HD8:=Lib.hid (HD7.out.below hS)
      have HK8:=Lib.hid (HK7.out.below hS HK7.out.lt)
      clear hb hS HAG HFW HR7 HD7 HK7 hq hq2
      have z0 : w8.cell? ⟨w.heap.size,0,none⟩=some (.string ⟨#[]⟩):=HR8.out.1.cell 0;have f0:=HR8.out.1.frozen 0
      have z1 : w8.cell? ⟨w.heap.size,1,none⟩=some (.int .i64 0):=HR8.out.1.cell 1;have f1:=HR8.out.1.frozen 1
      have z2 : w8.cell? ⟨w.heap.size,2,none⟩=some (.string ⟨#[]⟩):=HR8.out.1.cell 2;have f2:=HR8.out.1.frozen 2
      have z3 : w8.cell? ⟨w.heap.size,3,none⟩=some (.int .i64 0):=HR8.out.1.cell 3;have f3:=HR8.out.1.frozen 3
      have z4 : w8.cell? ⟨w.heap.size,4,none⟩=some (.int .i64 0):=HR8.out.1.cell 4;have f4:=HR8.out.1.frozen 4
      have z5 : w8.cell? ⟨w.heap.size,5,none⟩=some (.int .i64 0):=HR8.out.1.cell 5;have f5:=HR8.out.1.frozen 5
      have z6 : w8.cell? ⟨w.heap.size,6,none⟩=some (.string ⟨#[]⟩):=HR8.out.1.cell 6;have f6:=HR8.out.1.frozen 6
      have z7 : w8.cell? ⟨w.heap.size,7,none⟩=some (.string ⟨#[]⟩):=HR8.out.1.cell 7;have f7:=HR8.out.1.frozen 7
      have z8 : w8.cell? ⟨w.heap.size,8,none⟩=some (.int .i64 0):=HR8.out.1.cell 8;have f8:=HR8.out.1.frozen 8
      have z9 : w8.cell? ⟨w.heap.size,9,none⟩=some (.int .i64 0):=HR8.out.1.cell 9;have f9:=HR8.out.1.frozen 9
      have z10 : w8.cell? ⟨w.heap.size,10,none⟩=some (.slice none 0 0):=HR8.out.1.cell 10;have f10:=HR8.out.1.frozen 10
      go_wp2_with fail
      clear z0 f0 z1 f1 z2 f2 z3 f3 z4 f4 z5 f5 z6 f6 z7 f7 z8 f8 z9 f9 z10 f10
      have hHB : HasBlk w8 w.heap.size 58 11:=⟨_,rfl,HR8.out.1⟩
      obtain ⟨WE,hWE⟩ : ∃ WE,WE=setAll w8 w.heap.size 0 [(.string ⟨#[]⟩),(.int .i64 0),(.string ⟨#[]⟩),(.int .i64 0),(.int .i64 0),(.int .i64 0),(.string ⟨#[]⟩),(.string ⟨#[]⟩),(.int .i64 0),(.int .i64 0),(.slice none 0 0)]:=⟨_,rfl⟩
      have hk:=hHB.fill [(.string ⟨#[]⟩),(.int .i64 0),(.string ⟨#[]⟩),(.int .i64 0),(.int .i64 0),(.int .i64 0),(.string ⟨#[]⟩),(.string ⟨#[]⟩),(.int .i64 0),(.int .i64 0),(.slice none 0 0)] rfl
      have hBE:=Below.setAll (B:=w.heap.size) (g:=w.heap.size) (Nat.le_refl _) [(.string ⟨#[]⟩),(.int .i64 0),(.string ⟨#[]⟩),(.int .i64 0),(.int .i64 0),(.int .i64 0),(.string ⟨#[]⟩),(.string ⟨#[]⟩),(.int .i64 0),(.int .i64 0),(.slice none 0 0)] 0 HR8.out.2.2
      rw [← hWE] at hk hBE
      simp only [setAll,Nat.zero_add,Nat.reduceAdd] at hWE
      rw [← hWE]
      clear hWE hHB
      have x0 : WE.cell? ⟨w.heap.size,0,none⟩=some (.string ⟨#[]⟩):=hk.cell 0
      have x1 : WE.cell? ⟨w.heap.size,1,none⟩=some (.int .i64 0):=hk.cell 1
      have x2 : WE.cell? ⟨w.heap.size,2,none⟩=some (.string ⟨#[]⟩):=hk.cell 2
      have x3 : WE.cell? ⟨w.heap.size,3,none⟩=some (.int .i64 0):=hk.cell 3
      have x4 : WE.cell? ⟨w.heap.size,4,none⟩=some (.int .i64 0):=hk.cell 4
      have x5 : WE.cell? ⟨w.heap.size,5,none⟩=some (.int .i64 0):=hk.cell 5
      have x6 : WE.cell? ⟨w.heap.size,6,none⟩=some (.string ⟨#[]⟩):=hk.cell 6
      have x7 : WE.cell? ⟨w.heap.size,7,none⟩=some (.string ⟨#[]⟩):=hk.cell 7
      have x8 : WE.cell? ⟨w.heap.size,8,none⟩=some (.int .i64 0):=hk.cell 8
      have x9 : WE.cell? ⟨w.heap.size,9,none⟩=some (.int .i64 0):=hk.cell 9
      have x10 : WE.cell? ⟨w.heap.size,10,none⟩=some (.slice none 0 0):=hk.cell 10
      exact bodyPost_ret (v:=.tuple #[.agg #[(.string ⟨#[]⟩),(.int .i64 0),(.string ⟨#[]⟩),(.int .i64 0),(.int .i64 0),(.int .i64 0),(.string ⟨#[]⟩),(.string ⟨#[]⟩),(.int .i64 0),(.int .i64 0),(.slice none 0 0)],.int .i64 0,.int .i64 3]) (by simp [results,Tryz.results16,go_sem,x0,x1,x2,x3,x4,x5,x6,x7,x8,x9,x10]) rfl ⟨hBE,.inl ⟨3,by decide,rfl⟩⟩
    | false =>
      have hq2 : MM.toList=DD.toList:=by simpa using hq
      go_upto_region 15 with fail
      refine wp_region_G (S:=fun W => Below w7.heap.size w7 W) (by kernel_rfl) (Below.refl _ _).drew ?_
      refine wpG_take (i:=0) (v:=?vmf1) rfl (by kernel_rfl) (by kernel_rfl) (by kernel_rfl) (fun _ _ _ h => h) (Or.inl ⟨by rfl,?hymf1⟩) ?restmf1
      case hymf1 => (intro W hSw;left;(try dsimp only at hSw);go_simp;try with_reducible rfl)
      simp only [Act.put,List.setIfInBounds_toArray,List.set_cons_zero,List.set_cons_succ,List.getElem_toArray,List.getElem_cons_zero,List.getElem_cons_succ]
      refine wpG_take (i:=1) (v:=?vmf2) rfl (by kernel_rfl) (by kernel_rfl) (by kernel_rfl) (fun _ _ _ h => h) (Or.inl ⟨by rfl,?hymf2⟩) ?restmf2
      case hymf2 => (intro W hSw;left;(try dsimp only at hSw);go_simp;try with_reducible rfl)
      simp only [Act.put,List.setIfInBounds_toArray,List.set_cons_zero,List.set_cons_succ,List.getElem_toArray,List.getElem_cons_zero,List.getElem_cons_succ]
      refine wpG_take (i:=2) (v:=?vmf3) rfl (by kernel_rfl) (by kernel_rfl) (by kernel_rfl) (fun _ _ _ h => h) (Or.inl ⟨by rfl,?hymf3⟩) ?restmf3
      case hymf3 => (intro W hSw;left;(try dsimp only at hSw);go_simp;try with_reducible rfl)
      simp only [Act.put,List.setIfInBounds_toArray,List.set_cons_zero,List.set_cons_succ,List.getElem_toArray,List.getElem_cons_zero,List.getElem_cons_succ]
      refine wpG_take (i:=3) (v:=?vmf4) rfl (by kernel_rfl) (by kernel_rfl) (by kernel_rfl) (fun _ _ _ h => h) (Or.inl ⟨by rfl,?hymf4⟩) ?restmf4
      case hymf4 => (intro W hSw;left;(try dsimp only at hSw);go_simp;try with_reducible rfl)
      simp only [Act.put,List.setIfInBounds_toArray,List.set_cons_zero,List.set_cons_succ,List.getElem_toArray,List.getElem_cons_zero,List.getElem_cons_succ]
      refine wpG_take (i:=4) (v:=?vmf5) rfl (by kernel_rfl) (by kernel_rfl) (by kernel_rfl) (fun _ _ _ h => h) (Or.inl ⟨by rfl,?hymf5⟩) ?restmf5
      case hymf5 => (intro W hSw;left;(try dsimp only at hSw);have hcA:=HAG.out _ hSw;go_simp;try with_reducible rfl)
      simp only [Act.put,List.setIfInBounds_toArray,List.set_cons_zero,List.set_cons_succ,List.getElem_toArray,List.getElem_cons_zero,List.getElem_cons_succ]
      refine wpG_take (i:=5) (v:=?vmf6) rfl (by kernel_rfl) (by kernel_rfl) (by kernel_rfl) (fun _ _ _ h => h) (Or.inl ⟨by rfl,?hymf6⟩) ?restmf6
      case hymf6 => (intro W hSw;left;(try dsimp only at hSw);go_simp;try with_reducible rfl)
      simp only [Act.put,List.setIfInBounds_toArray,List.set_cons_zero,List.set_cons_succ,List.getElem_toArray,List.getElem_cons_zero,List.getElem_cons_succ]
      refine wpG_take (i:=6) (v:=?vmf7) rfl (by kernel_rfl) (by kernel_rfl) (by kernel_rfl) (fun _ _ _ h => h) (Or.inl ⟨by rfl,?hymf7⟩) ?restmf7
      case hymf7 => (intro W hSw;left;(try dsimp only at hSw);go_simp;try with_reducible rfl)
      simp only [Act.put,List.setIfInBounds_toArray,List.set_cons_zero,List.set_cons_succ,List.getElem_toArray,List.getElem_cons_zero,List.getElem_cons_succ]
      refine wpG_take (i:=7) (v:=?vmf8) rfl (by kernel_rfl) (by kernel_rfl) (by kernel_rfl) (fun _ _ _ h => h) (Or.inl ⟨by rfl,?hymf8⟩) ?restmf8
      case hymf8 => (intro W hSw;left;(try dsimp only at hSw);go_simp;try with_reducible rfl)
      simp only [Act.put,List.setIfInBounds_toArray,List.set_cons_zero,List.set_cons_succ,List.getElem_toArray,List.getElem_cons_zero,List.getElem_cons_succ]
      refine wpG_take (i:=8) (v:=?vmf9) rfl (by kernel_rfl) (by kernel_rfl) (by kernel_rfl) (fun _ _ _ h => h) (Or.inl ⟨by rfl,?hymf9⟩) ?restmf9
      case hymf9 => (intro W hSw;left;(try dsimp only at hSw);have hcF:=HFW.out _ hSw;go_simp;try with_reducible rfl)
      simp only [Act.put,List.setIfInBounds_toArray,List.set_cons_zero,List.set_cons_succ,List.getElem_toArray,List.getElem_cons_zero,List.getElem_cons_succ]
      refine wpG_take (i:=9) (v:=.bool false) rfl (by kernel_rfl) (by kernel_rfl) (by kernel_rfl) (fun _ _ _ h => h) (Or.inl ⟨by rfl,?hymf10⟩) ?restmf10
      case hymf10 => (intro W hSw;left;(try dsimp only at hSw);go_simp;try with_reducible rfl)
      simp only [Act.put,List.setIfInBounds_toArray,List.set_cons_zero,List.set_cons_succ,List.getElem_toArray,List.getElem_cons_zero,List.getElem_cons_succ]
      refine wpG_take (i:=10) (v:=.bool false) rfl (by kernel_rfl) (by kernel_rfl) (by kernel_rfl) (fun _ _ _ h => h) (Or.inl ⟨by rfl,?hymf11⟩) ?restmf11
      case hymf11 => (intro W hSw;left;(try dsimp only at hSw);go_simp;try with_reducible rfl)
      simp only [Act.put,List.setIfInBounds_toArray,List.set_cons_zero,List.set_cons_succ,List.getElem_toArray,List.getElem_cons_zero,List.getElem_cons_succ]
      refine wpG_done (by kernel_rfl) (fun w8 hb hS => ?_) _
      have HR8:=Lib.hid (HR7.out.below hS)
      have HD8:=Lib.hid (HD7.out.below hS)
      have HK8:=Lib.hid (HK7.out.below hS HK7.out.lt)
      clear hb hS HAG HFW HR7 HD7 HK7 hq hq2
      have e0 : w8.cell? ⟨ge,0,none⟩=some (.string (bs xp)):=HK8.out.cell 0;have z0 : w8.cell? ⟨w.heap.size,0,none⟩=some (.string ⟨#[]⟩):=HR8.out.1.cell 0;have f0:=HR8.out.1.frozen 0
      have e1 : w8.cell? ⟨ge,1,none⟩=some (.int .i64 xk):=HK8.out.cell 1;have z1 : w8.cell? ⟨w.heap.size,1,none⟩=some (.int .i64 0):=HR8.out.1.cell 1;have f1:=HR8.out.1.frozen 1
      have e2 : w8.cell? ⟨ge,2,none⟩=some (.string (bs xt)):=HK8.out.cell 2;have z2 : w8.cell? ⟨w.heap.size,2,none⟩=some (.string ⟨#[]⟩):=HR8.out.1.cell 2;have f2:=HR8.out.1.frozen 2
      have e3 : w8.cell? ⟨ge,3,none⟩=some (.int .i64 m1):=HK8.out.cell 3;have z3 : w8.cell? ⟨w.heap.size,3,none⟩=some (.int .i64 0):=HR8.out.1.cell 3;have f3:=HR8.out.1.frozen 3
      have e4 : w8.cell? ⟨ge,4,none⟩=some (.int .i64 m2):=HK8.out.cell 4;have z4 : w8.cell? ⟨w.heap.size,4,none⟩=some (.int .i64 0):=HR8.out.1.cell 4;have f4:=HR8.out.1.frozen 4
      have e5 : w8.cell? ⟨ge,5,none⟩=some (.int .i64 m3):=HK8.out.cell 5;have z5 : w8.cell? ⟨w.heap.size,5,none⟩=some (.int .i64 0):=HR8.out.1.cell 5;have f5:=HR8.out.1.frozen 5
      have e6 : w8.cell? ⟨ge,6,none⟩=some (.string (bs m4)):=HK8.out.cell 6;have z6 : w8.cell? ⟨w.heap.size,6,none⟩=some (.string ⟨#[]⟩):=HR8.out.1.cell 6;have f6:=HR8.out.1.frozen 6
      have e7 : w8.cell? ⟨ge,7,none⟩=some (.string (bs m5)):=HK8.out.cell 7;have z7 : w8.cell? ⟨w.heap.size,7,none⟩=some (.string ⟨#[]⟩):=HR8.out.1.cell 7;have f7:=HR8.out.1.frozen 7
      have e8 : w8.cell? ⟨ge,8,none⟩=some (.int .i64 m6):=HK8.out.cell 8;have z8 : w8.cell? ⟨w.heap.size,8,none⟩=some (.int .i64 0):=HR8.out.1.cell 8;have f8:=HR8.out.1.frozen 8
      have e9 : w8.cell? ⟨ge,9,none⟩=some (.int .i64 m7):=HK8.out.cell 9;have z9 : w8.cell? ⟨w.heap.size,9,none⟩=some (.int .i64 0):=HR8.out.1.cell 9;have f9:=HR8.out.1.frozen 9
      have e10 : w8.cell? ⟨ge,10,none⟩=some (.slice A1 xd.length c1):=HK8.out.cell 10;have z10 : w8.cell? ⟨w.heap.size,10,none⟩=some (.slice none 0 0):=HR8.out.1.cell 10;have f10:=HR8.out.1.frozen 10
      go_wp2_with fail
      clear e0 z0 f0 e1 z1 f1 e2 z2 f2 e3 z3 f3 e4 z4 f4 e5 z5 f5 e6 z6 f6 e7 z7 f7 e8 z8 f8 e9 z9 f9 e10 z10 f10
      have hHB : HasBlk w8 w.heap.size 58 11:=⟨_,rfl,HR8.out.1⟩
      obtain ⟨WE,hWE⟩ : ∃ WE,WE=setAll w8 w.heap.size 0 [(.string (bs xp)),(.int .i64 xk),(.string (bs xt)),(.int .i64 m1),(.int .i64 m2),(.int .i64 m3),(.string (bs m4)),(.string (bs m5)),(.int .i64 m6),(.int .i64 m7),(.slice A1 xd.length c1)]:=⟨_,rfl⟩
      have hk:=hHB.fill [(.string (bs xp)),(.int .i64 xk),(.string (bs xt)),(.int .i64 m1),(.int .i64 m2),(.int .i64 m3),(.string (bs m4)),(.string (bs m5)),(.int .i64 m6),(.int .i64 m7),(.slice A1 xd.length c1)] rfl
      have hD:=HD8.out.kept (U8Kept.setAll (by decide) [(.string (bs xp)),(.int .i64 xk),(.string (bs xt)),(.int .i64 m1),(.int .i64 m2),(.int .i64 m3),(.string (bs m4)),(.string (bs m5)),(.int .i64 m6),(.int .i64 m7),(.slice A1 xd.length c1)] 0 hHB)
      have hBE:=Below.setAll (B:=w.heap.size) (g:=w.heap.size) (Nat.le_refl _) [(.string (bs xp)),(.int .i64 xk),(.string (bs xt)),(.int .i64 m1),(.int .i64 m2),(.int .i64 m3),(.string (bs m4)),(.string (bs m5)),(.int .i64 m6),(.int .i64 m7),(.slice A1 xd.length c1)] 0 HR8.out.2.2
      rw [← hWE] at hk hBE hD
      simp only [setAll,Nat.zero_add,Nat.reduceAdd] at hWE
      rw [← hWE]
      clear hWE hHB
      have x0 : WE.cell? ⟨w.heap.size,0,none⟩=some (.string (bs xp)):=hk.cell 0
      have x1 : WE.cell? ⟨w.heap.size,1,none⟩=some (.int .i64 xk):=hk.cell 1
      have x2 : WE.cell? ⟨w.heap.size,2,none⟩=some (.string (bs xt)):=hk.cell 2
      have x3 : WE.cell? ⟨w.heap.size,3,none⟩=some (.int .i64 m1):=hk.cell 3
      have x4 : WE.cell? ⟨w.heap.size,4,none⟩=some (.int .i64 m2):=hk.cell 4
      have x5 : WE.cell? ⟨w.heap.size,5,none⟩=some (.int .i64 m3):=hk.cell 5
      have x6 : WE.cell? ⟨w.heap.size,6,none⟩=some (.string (bs m4)):=hk.cell 6
      have x7 : WE.cell? ⟨w.heap.size,7,none⟩=some (.string (bs m5)):=hk.cell 7
      have x8 : WE.cell? ⟨w.heap.size,8,none⟩=some (.int .i64 m6):=hk.cell 8
      have x9 : WE.cell? ⟨w.heap.size,9,none⟩=some (.int .i64 m7):=hk.cell 9
      have x10 : WE.cell? ⟨w.heap.size,10,none⟩=some (.slice A1 xd.length c1):=hk.cell 10
      exact bodyPost_ret (v:=.tuple #[.agg #[(.string (bs xp)),(.int .i64 xk),(.string (bs xt)),(.int .i64 m1),(.int .i64 m2),(.int .i64 m3),(.string (bs m4)),(.string (bs m5)),(.int .i64 m6),(.int .i64 m7),(.slice A1 xd.length c1)],.int .i64 n,.int .i64 0]) (by simp [results,Tryz.results16,go_sem,x0,x1,x2,x3,x4,x5,x6,x7,x8,x9,x10]) rfl ⟨hBE,.inr ⟨⟨xp,xk,xt,⟨m1,m2,m3,m4,m5,m6,m7⟩,xd⟩,A1,c1,n,HOK.out,HNL.out,HEQ.out (by first | rfl | trivial),hD,rfl⟩⟩
end Go.Proofs.YtphmhmdcaafmdaaGreatDoor
