import Derived.Test.YtphmhmdcaafmdaaGreatDoorTreeE
import Derived.Laws.MakeOwn
import Derived.Test.YtphmhmdcaafmdaaGreatDoorTreeV
namespace Go.Proofs.YtphmhmdcaafmdaaGreatDoor
set_option linter.all false
section
open Go.RowKit
def metaZ : MetaP:=⟨0,0,0,[],[],0,0⟩
def smallP : List NodeP:=[⟨[97],2,0,[],metaZ,[]⟩,⟨[97,47,98],1,0,[],metaZ,[120]⟩,⟨[99],3,0,[97,47,98],metaZ,[]⟩]
set_option maxRecDepth 100000 in
set_option maxHeartbeats 1000000 in
theorem Small_any (w : World) :
    Calls Tryz.prog 34 #[] w fun e w' => ∃ tv,e=.returned tv∧NodesOwn w' w.heap.size tv smallP∧Below w.heap.size w w':=by
  have kc:=fun (w : World) (C : Array Value) (n c : Nat) => Lib.run_convert_bytes_const (P:=Tryz.prog) w 27 5 C n c Tryz.underlying27 Tryz.underlying5
  go_enter Tryz.func34,Tryz.ntmps34
  go_wp2_with fail
  go_ret
  have b1:=(Below.refl w.heap.size w).alloc (Nat.le_refl _) (.cells #[.int .u8 120] 5 (1,2))
  refine ⟨_,rfl,⟨[(smallP[0],.slice none 0 0),(smallP[1],.slice (some ⟨w.heap.size,0,none⟩) 1 1),(smallP[2],.slice none 0 0)],rfl,⟨rfl,.inr ⟨w.heap.size + 1,3,_,rfl,by omega,by simpa using heap_alloc_new (w.alloc (.cells #[.int .u8 120] 5 (1,2))) _,by decide,by simp [maxLen],rfl,rfl⟩⟩,?_⟩,b1.alloc (by simp) _⟩
  intro x hx
  simp only [List.mem_cons,List.mem_nil_iff,or_false] at hx
  rcases hx with rfl | rfl | rfl
  · exact DataAt.nil _ _
  · refine ⟨_,1,rfl,Nat.le_refl 1,by simp [maxLen],(fun h => by cases h),fun ad e => ?_⟩
    cases e
    refine ⟨rfl,Nat.le_refl _,#[.int .u8 120],(1,2),?_,fun j hj => ?_⟩
    · exact (Below.heap_alloc _ _ w.heap.size (by simp)).trans (heap_alloc_new w _)
    · have hj : j < 1:=hj
      obtain rfl : j=0:=by omega
      exact ⟨rfl,rfl⟩
  · exact DataAt.nil _ _
def CpSt (w : World) (l : List NodeP) (k : Nat) (v : Value) (W : World) : Prop:=Below w.heap.size w W∧NodesOwn W w.heap.size v (l.take k)
theorem CpSt.below {w W W' : World} {l : List NodeP} {k : Nat} {v : Value} (h : CpSt w l k v W) (hb : Below W.heap.size W W') : CpSt w l k v W':=⟨h.1.trans (hb.mono h.1.size),h.2.below hb⟩
theorem grown_none {w w' : World} (h : w.grownBy w' none) : Below w.heap.size w w':=(Below.refl _ w).grown h (Nat.le_refl _) (fun k e => by cases e)
set_option maxRecDepth 100000 in
set_option maxHeartbeats 4000000 in
theorem Copy_any (v : Value) (l : List NodeP) (w : World) (hl : NodesAt w v l) (hn : l.length≤1000) (hd : ∀ x∈l,x.data.length≤100000) :
    Calls Tryz.prog 77 #[v] w fun e w' => ∃ tv,e=.returned tv∧NodesOwn w' w.heap.size tv l∧Below w.heap.size w w':=by
  obtain ⟨xs,A,c,hx,rfl,hlc,hc,hA,hr,hdat⟩:=hl
  have hxl : xs.length=l.length:=by rw [← hx,List.length_map]
  unfold maxLen at hc
  obtain ⟨i9,hi9,hy0,hy1,hy2⟩:=info_parts nodeinfo
  obtain ⟨i0,hi0,hz0,hz1,hz2⟩:=info_parts u8_info
  obtain ⟨W1,hmk,hown,hgr⟩:=run_make_own (P:=Tryz.prog) w w.heap.size 23 29 i9 _ 12 Tryz.underlying23 hi9 hy0 hy1 .i64 .i64 l.length (by rw [hy2];omega) (by simp only [maxLen];omega) (Nat.le_refl _)
  have H0 : Hid (CpSt w l 0 (.slice (some ⟨w.heap.size,0,none⟩) 0 l.length) W1):=Lib.hid ⟨grown_none hgr,[],by simp,by simpa using hown,by simp⟩
  have HX:=Lib.hid hx
  have HR:=Lib.hid hr
  have HDT:=Lib.hid hdat
  have HD:=Lib.hid hd
  clear hx hr hdat hd hown hgr hA
  go_enter Tryz.func77,Tryz.ntmps77
  go_wp2_with fail
  clear hmk
  go_loopg [3,11] l.length (fun gg s3 s11 wr => ∃ k : Nat,k≤l.length∧l.length - k≤gg∧s11=.int .i64 k∧Hid (CpSt w l k s3 wr))
  case atStart => exact ⟨0,Nat.zero_le _,by omega,rfl,H0⟩
  case round =>
    obtain ⟨k,hk,hg,rfl,HS⟩:=hrel
    by_cases hlt : k < l.length
    · have hltz : (k : Int) < (l.length : Int):=by omega
      obtain ⟨ad,rfl,hb,e0,e1,e2,e3,e4,e5,e6,e7,e8,e9,e10,e11⟩:=load_node (HR.out.below HS.out.1) (by omega) hlt
      have hxk : xs[k].1=l[k]:=by
        have:=HX.out
        subst this
        simp
      have hdx:=(HDT.out xs[k] (List.getElem_mem _)).below HS.out.1
      have hdl:=HD.out l[k] (List.getElem_mem _)
      rw [← hxk] at hdl
      have HTK : Hid (l.take (k + 1)=l.take k ++ [xs[k].1]):=Lib.hid (by rw [List.take_succ_eq_append_getElem hlt,hxk])
      obtain ⟨ys,hys,hyo,hyd⟩:=HS.out.2
      obtain ⟨At,ct,htv,-⟩:=ownsRow_read hyo
      have hlk : (l.take k).length=k:=by rw [List.length_take];omega
      rw [hlk] at htv hyo
      subst htv
      have hsz:=HS.out.1.size
      generalize xs[k]=x at *
      obtain ⟨W2,hW2⟩ : ∃ W2,W2=wr.alloc (.cells (nodeC x).toArray 29):=⟨_,rfl⟩
      have b2 : Below wr.heap.size wr W2:=by rw [hW2];exact (Below.refl _ _).alloc (Nat.le_refl _) _
      have K2 : Blk W2 wr.heap.size 29 (nodeC x).toArray:=by rw [hW2];exact Blk.new _ _ _
      obtain ⟨⟨np,nk,ns,nt,⟨o1,o2,o3,o4,o5,o6,o7⟩,nd⟩,dv⟩:=x
      simp only at hdx hdl e0 e1 e2 e3 e4 e5 e6 e7 e8 e9 e10 e11
      obtain ⟨Ad,cd,hde,hd2,hd3,-,hrd⟩:=(hdx.below b2).bytes
      rw [List.length_map] at hde hd2 hrd
      subst hde
      have HYS:=Lib.hid hys
      have HYO:=Lib.hid hyo
      have HYD:=Lib.hid hyd
      have HB2:=Lib.hid b2
      have HK2:=Lib.hid K2
      have HRD:=Lib.hid hrd
      have HDX:=Lib.hid hdx
      have HLK:=Lib.hid hlk
      clear hxk hdx hys hyo hyd b2 K2 hrd hlk
      unfold maxLen at hd3
      unfold nodeC at hW2
      simp only at hW2
      go_upto_region 5 with fail
      rw [← hW2]
      have HW2:=Lib.hid hW2
      clear hW2 e0 e1 e2 e3 e4 e5 e6 e7 e8 e9 e10 e11
      have c11:=HK2.out.cell 11
      simp only [nodeC,List.getElem?_toArray,List.getElem?_cons_zero,List.getElem?_cons_succ] at c11
      have hle2 : w.heap.size≤W2.heap.size:=Nat.le_trans hsz HB2.out.size
      go_upto_region 6 with (at_builtin;refine wpList_append_any _ rfl (.const (.slice none 0 0)) (.tmp 16) _ rfl W2.heap.size 5 i0 _ 1 1 Tryz.underlying27 hi0 hz0 hz1 hz2 rfl (by omega) (.slice none 0 0) 0 [] (by simp [Act.eval]) (World.ownsRow_nil _ _ _ _) W2.heap.size Ad nd.length cd ((nd.map ofB).map (.int .u8)) rfl HRD.out (one_u8 _) (by simp only [maxLen];omega) (by omega) (Nat.le_refl _) ?_;intro v5 w5 hown5 hg5 hat5;obtain ⟨A5,c5,hv5,-⟩:=ownsRow_read hown5;subst hv5;have HO5:=Lib.hid hown5;have HG5:=Lib.hid (grown_none hg5);have HK5:=Lib.hid (HK2.out.below (grown_none hg5) HK2.out.lt);have z11:=HK5.out.frozen 11;have d11 : w5.cell? ⟨wr.heap.size,11,none⟩=some (.slice Ad nd.length cd):=HK5.out.cell 11;clear hown5 hg5 hat5)
      obtain ⟨W6,hW6⟩ : ∃ W6,W6=w5.setCell ⟨wr.heap.size,11,none⟩ (.slice A5 nd.length c5):=⟨_,rfl⟩
      rw [← hW6]
      have b56 : Below wr.heap.size wr W6:=by rw [hW6];exact (HB2.out.trans (HG5.out.mono HB2.out.size)).setCell (p:=⟨wr.heap.size,11,none⟩) (Nat.le_refl _) _
      have HW6:=Lib.hid hW6
      have k6 : Blk W6 wr.heap.size 29 (nodeC (⟨np,nk,ns,nt,⟨o1,o2,o3,o4,o5,o6,o7⟩,nd⟩,.slice A5 nd.length c5)).toArray:=by rw [hW6];exact HK5.out.set_ 11 (.slice A5 nd.length c5)
      have k0 : W6.cell? ⟨wr.heap.size,0,none⟩=some (.string (bs np)):=k6.cell 0
      have k1 : W6.cell? ⟨wr.heap.size,1,none⟩=some (.int .i64 nk):=k6.cell 1
      have k2 : W6.cell? ⟨wr.heap.size,2,none⟩=some (.int .i64 ns):=k6.cell 2
      have k3 : W6.cell? ⟨wr.heap.size,3,none⟩=some (.string (bs nt)):=k6.cell 3
      have k4 : W6.cell? ⟨wr.heap.size,4,none⟩=some (.int .i64 o1):=k6.cell 4
      have k5 : W6.cell? ⟨wr.heap.size,5,none⟩=some (.int .i64 o2):=k6.cell 5
      have k6' : W6.cell? ⟨wr.heap.size,6,none⟩=some (.int .i64 o3):=k6.cell 6
      have k7 : W6.cell? ⟨wr.heap.size,7,none⟩=some (.string (bs o4)):=k6.cell 7
      have k8 : W6.cell? ⟨wr.heap.size,8,none⟩=some (.string (bs o5)):=k6.cell 8
      have k9 : W6.cell? ⟨wr.heap.size,9,none⟩=some (.int .i64 o6):=k6.cell 9
      have k10 : W6.cell? ⟨wr.heap.size,10,none⟩=some (.int .i64 o7):=k6.cell 10
      have k11 : W6.cell? ⟨wr.heap.size,11,none⟩=some (.slice A5 nd.length c5):=k6.cell 11
      have HN5 : Hid (DataAt W6 w.heap.size (.slice A5 nd.length c5) nd):=Lib.hid (by
        have h1 : DataAt w5 W2.heap.size (.slice A5 nd.length c5) nd:=DataAt.of_own (by simpa using HO5.out)
        refine (h1.mono hle2).kept ?_
        rw [hW6]
        exact U8Kept.set_ HK5.out (by decide) 11 _)
      have HB6:=Lib.hid (HS.out.1.trans (b56.mono hsz))
      have HO6:=Lib.hid (ownsRow_below HYO.out b56)
      have HD6 : Hid (∀ y∈ys,DataAt W6 w.heap.size y.2 y.1.data):=Lib.hid (fun y hy => (HYD.out y hy).below b56)
      have hle6 : w.heap.size≤W6.heap.size:=HB6.out.size
      clear hW6 k6 b56 c11 d11 z11
      go_wp2_with (at_builtin;refine wpList_append_any _ rfl (.tmp 19) (.tmp 21) _ rfl w.heap.size 29 i9 _ 12 144 Tryz.underlying23 hi9 hy0 hy1 hy2 rfl (by omega) _ k (ys.flatMap nodeC) rfl (ownsRow_below HO6.out ((Below.refl _ _).alloc (Nat.le_refl _) _)) (W6.heap.size + 1) (some ⟨W6.heap.size,0,none⟩) 1 1 (nodeC (⟨np,nk,ns,nt,⟨o1,o2,o3,o4,o5,o6,o7⟩,nd⟩,.slice A5 nd.length c5)) rfl (new_row W6 29 (nodeC (⟨np,nk,ns,nt,⟨o1,o2,o3,o4,o5,o6,o7⟩,nd⟩,.slice A5 nd.length c5)) 1 12 rfl) (one_node _ rfl) (by simp only [maxLen];omega) (by omega) (by simp;omega) ?_;intro v9 w9 hown9 hg9 hat9;obtain ⟨A9,c9,hv9,-⟩:=ownsRow_read hown9;subst hv9;have HO9:=Lib.hid hown9;have HG9:=Lib.hid hg9;clear hown9 hg9 hat9)
      go_roundg (l.length - (k + 1))
      case measure => omega
      case rel =>
        have bA:=(Below.refl W6.heap.size W6).alloc (Nat.le_refl _) (.cells (nodeC (⟨np,nk,ns,nt,⟨o1,o2,o3,o4,o5,o6,o7⟩,nd⟩,.slice A5 nd.length c5)).toArray 29)
        refine ⟨k + 1,by omega,by omega,by go_num,Lib.hid ⟨(HB6.out.trans (bA.mono hle6)).grown HG9.out (Nat.le_trans hle6 bA.size) (fun g hg => (own_typed (ownsRow_below HO6.out bA) hg).1),?_⟩⟩
        rw [HTK.out]
        refine NodesOwn.snoc HYS.out (fun y hy => (HD6.out y hy).below bA) (HN5.out.below bA) (by rw [HLK.out];exact ownsRow_below HO6.out bA) HG9.out (by rw [HLK.out];exact HO9.out)
    · obtain rfl : k=l.length:=by omega
      go_wp2_with fail
      go_ret
      exact ⟨_,rfl,by have h:=HS.out.2;rw [List.take_length] at h;exact h,HS.out.1⟩
end
section
open Go.RowKit
theorem metaZ_ok : MetaOk metaZ:=⟨by decide,by decide,by decide,by decide,by decide,by unfold timeOk metaZ;decide⟩
theorem small_ok : TreeOk smallP where
  len:=by decide
  node:=by
    intro x hx
    simp only [smallP,List.mem_cons,List.mem_nil_iff,or_false] at hx
    rcases hx with rfl | rfl | rfl
    all_goals exact ⟨by decide,metaZ_ok,by decide,by decide,by decide,by decide,by decide⟩
  sorted:=by decide
  up:=by decide
  alike:=by
    intro x hx y hy h
    simp only [smallP,List.mem_cons,List.mem_nil_iff,or_false] at hx
    rcases hx with rfl | rfl | rfl
    all_goals exact absurd rfl h
end
end Go.Proofs.YtphmhmdcaafmdaaGreatDoor
