import Derived.Test.YtphmhmdcaafmdaaGreatDoorEnts
import Derived.Test.YtphmhmdcaafmdaaGreatDoorRecsQ
import Derived.Test.YtphmhmdcaafmdaaGreatDoorTFR
import Derived.BigQuiet
import Derived.Deep.QuietTactic
import Derived.Test.YtphmhmdcaafmdaaGreatDoorPChecksS
import Derived.Test.YtphmhmdcaafmdaaGreatDoorPut
import Derived.Test.YtphmhmdcaafmdaaGreatDoorArcRd
import Derived.Test.YtphmhmdcaafmdaaGreatDoorSomeA
import Derived.Test.YtphmhmdcaafmdaaGreatDoorSum
namespace Go.Proofs.YtphmhmdcaafmdaaGreatDoor
set_option linter.all false
open Go.RowKit
def sameE (x y : EntP) : Bool:=x.path == y.path && (x.kind == y.kind && (x.target == y.target && (decide (x.mt=y.mt) && x.data == y.data)))
theorem sameE_iff (x y : EntP) : sameE x y=true ↔ x=y:=by
  obtain ⟨a1,a2,a4,a5,a6⟩:=x
  obtain ⟨b1,b2,b4,b5,b6⟩:=y
  unfold sameE
  simp
theorem ent_first (x y : EntP) :
    (sameE x y=(x.data == y.data)∧x.mt=y.mt∧((bs x.path).toList == (bs y.path).toList)=true∧(x.kind == y.kind)=true∧((bs x.target).toList == (bs y.target).toList)=true) ∨
    (sameE x y=false∧(((bs x.path).toList == (bs y.path).toList)=false ∨
      (((bs x.path).toList == (bs y.path).toList)=true∧(x.kind == y.kind)=false) ∨
      (((bs x.path).toList == (bs y.path).toList)=true∧(x.kind == y.kind)=true∧((bs x.target).toList == (bs y.target).toList)=false) ∨
      (((bs x.path).toList == (bs y.path).toList)=true∧(x.kind == y.kind)=true∧((bs x.target).toList == (bs y.target).toList)=true∧x.mt≠y.mt))):=by
  obtain ⟨a1,a2,a4,a5,a6⟩:=x
  obtain ⟨b1,b2,b4,b5,b6⟩:=y
  unfold sameE
  simp only [bs_beq,beq_iff_eq,beq_eq_false_iff_ne,ne_eq]
  by_cases h1 : a1=b1 <;> by_cases h2 : a2=b2 <;> by_cases h4 : a4=b4 <;> by_cases h5 : a5=b5 <;> simp [h1,h2,h4,h5]
set_option maxRecDepth 100000 in
set_option maxHeartbeats 4000000 in
theorem SameEntry_any (x y : EntP) (dv dv' : Value) (w : World) (hx : DataAt w 0 dv x.data) (hy : DataAt w 0 dv' y.data) :
    Calls Tryz.prog 18 #[.agg (entC x dv).toArray,.agg (entC y dv').toArray] w fun e w' => e=.returned (.bool (sameE x y))∧Below w.heap.size w w':=by
  have hN:=ent_first x y
  obtain ⟨p,k,t,mt,d⟩:=x
  obtain ⟨p',k',t',mt',d'⟩:=y
  simp only at hx hy hN
  have hb : ∀ o1 o2,Below w.heap.size w ((w.alloc o1).alloc o2):=fun o1 o2 => ((Below.refl w.heap.size w).alloc (Nat.le_refl _) o1).alloc (by simp) o2
  have hcx:=fun o1 o2 => conv_str (hx.below (hb o1 o2)).bytes
  have hcy:=fun o1 o2 => conv_str (hy.below (hb o1 o2)).bytes
  have HB:=Lib.hid hb
  have HD:=Lib.hid (bs_beq d d')
  obtain ⟨A,c,rfl,-⟩:=hx
  obtain ⟨A',c',rfl,-⟩:=hy
  clear hb
  unfold entC
  simp only
  rcases hN with ⟨hs,hm,q1,q2,q4⟩ | ⟨hs,hN⟩
  · have HR:=Lib.hid hs
    have hM:=meta_first mt mt'
    obtain ⟨m1,m2,m3,m4,m5,m6,m7⟩:=mt
    obtain ⟨n1,n2,n3,n4,n5,n6,n7⟩:=mt'
    simp only at hM
    rcases hM with ⟨-,r1,r2,r3,r4,r5,r6,r7⟩ | ⟨hne,-⟩
    · clear hs hm
      generalize bs d=bd at *
      generalize bs d'=bd' at *
      generalize bs p=bp at *
      generalize bs p'=bp' at *
      generalize bs t=bt at *
      generalize bs t'=bt' at *
      generalize bs m4=b4 at *
      generalize bs m5=b5 at *
      generalize bs n4=c4 at *
      generalize bs n5=c5 at *
      go_enter Tryz.func18,Tryz.ntmps18
      go_wp2_with fail
      go_ret
      exact ⟨ret_bool (HD.out.trans HR.out.symm),HB.out _ _⟩
    · exact absurd hm hne
  · have HR:=Lib.hid hs
    clear hs hcx hcy
    rcases hN with q1 | ⟨q1,q2⟩ | ⟨q1,q2,q4⟩ | ⟨q1,q2,q4,hm⟩
    iterate 3
      · generalize bs p=bp at *
        generalize bs p'=bp' at *
        generalize bs t=bt at *
        generalize bs t'=bt' at *
        go_enter Tryz.func18,Tryz.ntmps18
        go_wp2_with fail
        go_ret
        exact ⟨ret_bool HR.out.symm,HB.out _ _⟩
    · have hM:=meta_first mt mt'
      obtain ⟨m1,m2,m3,m4,m5,m6,m7⟩:=mt
      obtain ⟨n1,n2,n3,n4,n5,n6,n7⟩:=mt'
      simp only at hM
      rcases hM with ⟨he,-⟩ | ⟨-,hq⟩
      · exact absurd he hm
      clear hm
      generalize bs p=bp at *
      generalize bs p'=bp' at *
      generalize bs t=bt at *
      generalize bs t'=bt' at *
      generalize bs m4=b4 at *
      generalize bs m5=b5 at *
      generalize bs n4=c4 at *
      generalize bs n5=c5 at *
      rcases hq with r1 | ⟨r1,r2⟩ | ⟨r1,r2,r3⟩ | ⟨r1,r2,r3,r4⟩ | ⟨r1,r2,r3,r4,r5⟩ | ⟨r1,r2,r3,r4,r5,r6⟩ | ⟨r1,r2,r3,r4,r5,r6,r7⟩
      all_goals
        go_enter Tryz.func18,Tryz.ntmps18
        go_wp2_with fail
        go_ret
        exact ⟨ret_bool HR.out.symm,HB.out _ _⟩
end Go.Proofs.YtphmhmdcaafmdaaGreatDoor
namespace Go.Proofs.YtphmhmdcaafmdaaGreatDoor
set_option linter.all false
open Go.RowKit
theorem eg_sameE : ∀ args w,(callFunc 18 args).run Tryz.prog w=.ok (.enter 18 args) w:=enters_of Tryz.func18 (by kernel_rfl) rfl
end Go.Proofs.YtphmhmdcaafmdaaGreatDoor
namespace Go.Proofs.YtphmhmdcaafmdaaGreatDoor
set_option linter.all false
open Go.RowKit
noncomputable def sameL (l m : List EntP) : Bool:=@decide (l=m) (Classical.propDecidable (l=m))
theorem sameL_yes {l m : List EntP} (h : l=m) : sameL l m=true:=by unfold sameL;exact @decide_eq_true _ (Classical.propDecidable _) h
theorem sameL_no {l m : List EntP} (h : l≠m) : sameL l m=false:=by unfold sameL;exact @decide_eq_false _ (Classical.propDecidable _) h
set_option maxRecDepth 100000 in
set_option maxHeartbeats 4000000 in
theorem EqE_iff (v1 v2 : Value) (l m : List EntP) (xs ys : List EntV) (w : World) (hl : EntsAt w v1 l xs) (hm : EntsAt w v2 m ys) :
    Calls Tryz.prog 20 #[v1,v2,.func (.func 18) #[] #[]] w fun e w' => e=.returned (.bool (sameL l m))∧Below w.heap.size w w':=by
  have HX:=Lib.hid (fun W (hb : Below w.heap.size w W) => hl.below hb)
  have HY:=Lib.hid (fun W (hb : Below w.heap.size w W) => hm.below hb)
  have eg:=eg_sameE
  have HP:=Lib.hid (fun W x y dv dw h1 h2 => SameEntry_any x y dv dw W h1 h2)
  obtain ⟨A,c,-,e1,hlc,hc,-⟩:=hl
  obtain ⟨B,d,-,e2,hmd,hd,-⟩:=hm
  subst e1 e2
  unfold maxLen at hc hd
  by_cases hlen : m.length=l.length
  case neg =>
    have HD : Hid (sameL l m=false):=Lib.hid (sameL_no (fun e => hlen (by rw [e])))
    have t1 : ((l.length : Int) == (m.length : Int))=false:=beq_eq_false_iff_ne.2 (by omega)
    have t2 : ((l.length : Int) != (m.length : Int))=true:=by rw [bne,t1];rfl
    generalize l.length=a at *
    generalize m.length=b at *
    clear HX HY HP hlen
    go_enter Tryz.func20,Tryz.ntmps20
    go_wp2_with fail
    go_ret
    exact ⟨ret_bool HD.out.symm,Below.refl _ _⟩
  have HLE:=Lib.hid hlen
  rw [hlen] at hmd ⊢
  clear hlen
  have t1 : ((l.length : Int) == (l.length : Int))=true:=beq_self_eq_true _
  go_enter Tryz.func20,Tryz.ntmps20
  go_wp2_with fail
  go_loopg [17] l.length (fun gg s17 wr => ∃ k : Nat,k≤l.length∧l.length - k≤gg∧s17=.int .i64 k∧Hid (Below w.heap.size w wr)∧Hid (l.take k=m.take k))
  case atStart => exact ⟨0,Nat.zero_le _,by omega,rfl,Lib.hid (Below.refl _ w),Lib.hid (by rw [List.take_zero,List.take_zero])⟩
  case round =>
    obtain ⟨k,hk,hg,rfl,HW,HT⟩:=hrel
    by_cases hlt : k < l.length
    · have hlm : k < m.length:=by rw [HLE.out];exact hlt
      have hltz : (k : Int) < (l.length : Int):=by omega
      have i1 : (0 : Int)≤(k : Int):=by omega
      obtain ⟨ad,-,Ax,cx,hA,hb,-,hd1,e0,e1,e2,e3,e4,e5,e6,e7,e8,e9,e10⟩:=(HX.out _ HW.out).read hlt
      obtain ⟨be,-,Ay,cy,hB,hbb,-,hd2,f0,f1,f2,f3,f4,f5,f6,f7,f8,f9,f10⟩:=(HY.out _ HW.out).read hlm
      subst hA hB
      have HNX:=Lib.hid (fun (e : l[k]=m[k]) => (show l.take (k + 1)=m.take (k + 1) by rw [List.take_succ_eq_append_getElem hlt,List.take_succ_eq_append_getElem hlm,HT.out,e]))
      have HNE:=Lib.hid (fun (e : l[k]≠m[k]) => (show sameL l m=false from sameL_no (fun h => e (by subst h;rfl))))
      generalize l[k]=x at *
      generalize m[k]=y at *
      have HCL:=Lib.hid (fun W (hW : Below wr.heap.size wr W) => HP.out W x y _ _ (hd1.below hW) (hd2.below hW))
      obtain ⟨s,hs⟩ : ∃ s,s=sameE x y:=⟨_,rfl⟩
      have HN1 : Hid (s=true→l.take (k + 1)=m.take (k + 1)):=Lib.hid (fun e => HNX.out ((sameE_iff x y).1 (by rw [← hs];exact e)))
      have HN2 : Hid (s=false→sameL l m=false):=Lib.hid (fun e => HNE.out (fun h => by rw [(sameE_iff x y).2 h] at hs;rw [hs] at e;cases e))
      rw [← hs] at HCL
      clear hs HNX HNE hlm
      obtain ⟨yp,yk,yt,⟨n1,n2,n3,n4,n5,n6,n7⟩,yd⟩:=y
      obtain ⟨xp,xk,xt,⟨m1,m2,m3,m4,m5,m6,m7⟩,xd⟩:=x
      unfold entC at HCL
      simp only at hd1 hd2 HCL e0 e1 e2 e3 e4 e5 e6 e7 e8 e9 e10 f0 f1 f2 f3 f4 f5 f6 f7 f8 f9 f10
      clear hd1 hd2
      obtain ⟨W2,hW2⟩ : ∃ W2,W2=wr.alloc (.cells #[(.string (bs xp)),(.int .i64 xk),(.string (bs xt)),(.int .i64 m1),(.int .i64 m2),(.int .i64 m3),(.string (bs m4)),(.string (bs m5)),(.int .i64 m6),(.int .i64 m7),(.slice Ax xd.length cx)] 58):=⟨_,rfl⟩
      have b2 : Below wr.heap.size wr W2:=by rw [hW2];exact (Below.refl _ _).alloc (Nat.le_refl _) _
      have K2 : Blk W2 wr.heap.size 58 #[(.string (bs xp)),(.int .i64 xk),(.string (bs xt)),(.int .i64 m1),(.int .i64 m2),(.int .i64 m3),(.string (bs m4)),(.string (bs m5)),(.int .i64 m6),(.int .i64 m7),(.slice Ax xd.length cx)]:=by rw [hW2];exact Blk.new _ _ _
      obtain ⟨W3,hW3⟩ : ∃ W3,W3=W2.alloc (.cells #[(.string (bs yp)),(.int .i64 yk),(.string (bs yt)),(.int .i64 n1),(.int .i64 n2),(.int .i64 n3),(.string (bs n4)),(.string (bs n5)),(.int .i64 n6),(.int .i64 n7),(.slice Ay yd.length cy)] 58):=⟨_,rfl⟩
      have b3 : Below W2.heap.size W2 W3:=by rw [hW3];exact (Below.refl _ _).alloc (Nat.le_refl _) _
      have K3 : Blk W3 W2.heap.size 58 #[(.string (bs yp)),(.int .i64 yk),(.string (bs yt)),(.int .i64 n1),(.int .i64 n2),(.int .i64 n3),(.string (bs n4)),(.string (bs n5)),(.int .i64 n6),(.int .i64 n7),(.slice Ay yd.length cy)]:=by rw [hW3];exact Blk.new _ _ _
      have HB2:=Lib.hid (b2.trans (b3.mono b2.size))
      have HK2:=Lib.hid (K2.below b3 K2.lt)
      have HK3:=Lib.hid K3
      have HFB:=Lib.hid (fun (a : Addr) (u : Value) (h : a.block < wr.heap.size) (e : wr.cell? a=some u) => (b2.cell (p:=a) h).trans e)
      have j0 : (be.add (k * 11)).block < wr.heap.size:=by rw [block_of_add];exact hbb
      replace f0:=HFB.out _ _ j0 f0
      replace f1:=HFB.out ⟨(be.add (k * 11)).block,(be.add (k * 11)).off + 1,none⟩ _ j0 f1
      replace f2:=HFB.out ⟨(be.add (k * 11)).block,(be.add (k * 11)).off + 2,none⟩ _ j0 f2
      replace f3:=HFB.out ⟨(be.add (k * 11)).block,(be.add (k * 11)).off + 3,none⟩ _ j0 f3
      replace f4:=HFB.out ⟨(be.add (k * 11)).block,(be.add (k * 11)).off + 4,none⟩ _ j0 f4
      replace f5:=HFB.out ⟨(be.add (k * 11)).block,(be.add (k * 11)).off + 5,none⟩ _ j0 f5
      replace f6:=HFB.out ⟨(be.add (k * 11)).block,(be.add (k * 11)).off + 6,none⟩ _ j0 f6
      replace f7:=HFB.out ⟨(be.add (k * 11)).block,(be.add (k * 11)).off + 7,none⟩ _ j0 f7
      replace f8:=HFB.out ⟨(be.add (k * 11)).block,(be.add (k * 11)).off + 8,none⟩ _ j0 f8
      replace f9:=HFB.out ⟨(be.add (k * 11)).block,(be.add (k * 11)).off + 9,none⟩ _ j0 f9
      replace f10:=HFB.out ⟨(be.add (k * 11)).block,(be.add (k * 11)).off + 10,none⟩ _ j0 f10
      clear b2 K2 b3 K3 j0 hbb hb
      go_upto_region 6 with fail
      rw [← hW2]
      clear hW2 e0 e1 e2 e3 e4 e5 e6 e7 e8 e9 e10
      go_upto_region 7 with fail
      rw [← hW3]
      clear hW3 f0 f1 f2 f3 f4 f5 f6 f7 f8 f9 f10
      have c0 : W3.cell? ⟨wr.heap.size,0,none⟩=some (.string (bs xp)):=HK2.out.cell 0
      have c1 : W3.cell? ⟨wr.heap.size,1,none⟩=some (.int .i64 xk):=HK2.out.cell 1
      have c2 : W3.cell? ⟨wr.heap.size,2,none⟩=some (.string (bs xt)):=HK2.out.cell 2
      have c3 : W3.cell? ⟨wr.heap.size,3,none⟩=some (.int .i64 m1):=HK2.out.cell 3
      have c4 : W3.cell? ⟨wr.heap.size,4,none⟩=some (.int .i64 m2):=HK2.out.cell 4
      have c5 : W3.cell? ⟨wr.heap.size,5,none⟩=some (.int .i64 m3):=HK2.out.cell 5
      have c6 : W3.cell? ⟨wr.heap.size,6,none⟩=some (.string (bs m4)):=HK2.out.cell 6
      have c7 : W3.cell? ⟨wr.heap.size,7,none⟩=some (.string (bs m5)):=HK2.out.cell 7
      have c8 : W3.cell? ⟨wr.heap.size,8,none⟩=some (.int .i64 m6):=HK2.out.cell 8
      have c9 : W3.cell? ⟨wr.heap.size,9,none⟩=some (.int .i64 m7):=HK2.out.cell 9
      have c10 : W3.cell? ⟨wr.heap.size,10,none⟩=some (.slice Ax xd.length cx):=HK2.out.cell 10
      have d0 : W3.cell? ⟨W2.heap.size,0,none⟩=some (.string (bs yp)):=HK3.out.cell 0
      have d1 : W3.cell? ⟨W2.heap.size,1,none⟩=some (.int .i64 yk):=HK3.out.cell 1
      have d2 : W3.cell? ⟨W2.heap.size,2,none⟩=some (.string (bs yt)):=HK3.out.cell 2
      have d3 : W3.cell? ⟨W2.heap.size,3,none⟩=some (.int .i64 n1):=HK3.out.cell 3
      have d4 : W3.cell? ⟨W2.heap.size,4,none⟩=some (.int .i64 n2):=HK3.out.cell 4
      have d5 : W3.cell? ⟨W2.heap.size,5,none⟩=some (.int .i64 n3):=HK3.out.cell 5
      have d6 : W3.cell? ⟨W2.heap.size,6,none⟩=some (.string (bs n4)):=HK3.out.cell 6
      have d7 : W3.cell? ⟨W2.heap.size,7,none⟩=some (.string (bs n5)):=HK3.out.cell 7
      have d8 : W3.cell? ⟨W2.heap.size,8,none⟩=some (.int .i64 n6):=HK3.out.cell 8
      have d9 : W3.cell? ⟨W2.heap.size,9,none⟩=some (.int .i64 n7):=HK3.out.cell 9
      have d10 : W3.cell? ⟨W2.heap.size,10,none⟩=some (.slice Ay yd.length cy):=HK3.out.cell 10
      cases s with
      | true =>
        go_wp2_with (go_at_fn 18;refine (HCL.out _ HB2.out).mono ?_;rintro e w' ⟨rfl,hb'⟩)
        go_roundg (l.length - (k + 1))
        case measure => omega
        case rel => exact ⟨k + 1,by omega,by omega,by go_num,Lib.hid (HW.out.trans ((HB2.out.trans (hb'.mono HB2.out.size)).mono HW.out.size)),Lib.hid (HN1.out trivial)⟩
      | false =>
        go_wp2_with (go_at_fn 18;refine (HCL.out _ HB2.out).mono ?_;rintro e w' ⟨rfl,hb'⟩)
        go_ret
        exact ⟨ret_bool (HN2.out trivial).symm,HW.out.trans ((HB2.out.trans (hb'.mono HB2.out.size)).mono HW.out.size)⟩
    · obtain rfl : k=l.length:=by omega
      have HEQ : Hid (sameL l m=true):=Lib.hid (sameL_yes (by
        have h:=HT.out
        rw [List.take_of_length_le (Nat.le_refl _),List.take_of_length_le (by rw [HLE.out];exact Nat.le_refl _)] at h
        exact h))
      go_wp2_with fail
      go_ret
      exact ⟨ret_bool HEQ.out.symm,HW.out⟩
end Go.Proofs.YtphmhmdcaafmdaaGreatDoor
namespace Go.Proofs.YtphmhmdcaafmdaaGreatDoor
set_option linter.all false
open Go.RowKit
theorem endB_len : endB.length=1024:=List.length_replicate
end Go.Proofs.YtphmhmdcaafmdaaGreatDoor
namespace Go.Proofs.YtphmhmdcaafmdaaGreatDoor
set_option linter.all false
open Go.RowKit
theorem turned_ne {M C : List UInt8} (h0 : M≠[]) {a c : Int} (hc : U8 c) (h : turnL (M.map ofB) a c=C.map ofB) : C≠M:=by
  obtain ⟨x,y,m,n,h1,h2,h3,-,-,-⟩:=turnL_at (M.map ofB) a c (ofB_u8 M) hc (by simpa using h0)
  intro e
  rw [h,e,h1] at h2
  have h4:=List.append_cancel_left h2
  rw [List.cons.injEq] at h4
  exact h3 h4.1
set_option maxRecDepth 100000 in
set_option maxHeartbeats 8000000 in
theorem ReadTurns_walk (w : World) (hsh : w.ShapedOpen Tryz.prog) (h10 : P10 w) (hse : Sent w) (v : Value) (l : List RawS) (hl : RawsAt w w.heap.size v l) (hok : ∀ x∈l,RawOk x) (hn : l.length≤1048576) (a : Int) (ha : I64 a) (c : Int) (hc : U8 c) :
    Calls Tryz.prog 6 #[v,.int .i64 a,.int .u8 c] w fun e w' => e=.returned (.bool true)∧Below w.heap.size w w':=by
  have hm:=ML.of_shaped hsh
  clear hsh
  have HML : Hid (∀ W,Below w.heap.size w W→ML W):=Lib.hid (fun W hb => hm.below hb)
  have HP10 : Hid (∀ W,Below w.heap.size w W→P10 W):=Lib.hid (fun W hb => h10.below hb)
  have HSN : Hid (∀ W,Below w.heap.size w W→Sent W):=Lib.hid (fun W hb => hse.below hb)
  have HE:=Lib.hid (entriesOf_any l v 12 w hm hl hok hn (by omega))
  have hoks:=plan_ok (treeP_ok l 12 (by omega))
  have h12 : (planP (treeP l 12)).length≤12:=by rw [planP_length];exact treeP_length l 12
  obtain ⟨Al,cl,rfl,-⟩:=hl
  clear hm h10 hse hok hn
  generalize planP (treeP l 12)=x at *
  have HWA:=Lib.hid (fun W (hb : Below w.heap.size w W) v (z : List EntP) (hz : EntsOk z) b (h : EntsOwn W b v z) => (show Calls Tryz.prog 9 #[v] W fun e w' => ∃ bv,e=.returned (.tuple #[bv,.int .i64 0])∧BytesOwn w' W.heap.size bv (arcB z ++ endB)∧Below W.heap.size W w' by
    obtain ⟨xs,hx⟩:=EntsRow.at_ h
    exact WArchive_ok v z xs W (fun W' hb' => HML.out W' (hb.trans (hb'.mono hb.size))) (fun W' hb' => HP10.out W' (hb.trans (hb'.mono hb.size))) hx hz))
  have HEF:=Lib.hid (fun W v1 v2 (z : List EntP) (b1 b2 : Nat) (h1 : EntsOwn W b1 v1 x) (h2 : EntsOwn W b2 v2 z) => (show Calls Tryz.prog 20 #[v1,v2,.func (.func 18) #[] #[]] W fun e w' => e=.returned (.bool (sameL x z))∧Below W.heap.size W w' by
    obtain ⟨xs,hx⟩:=EntsRow.at_ h1
    obtain ⟨ys,hy⟩:=EntsRow.at_ h2
    exact EqE_iff v1 v2 x z xs ys W hx hy))
  have hal:=arcB_len hoks.ent
  have hL12 : x.length * 8192≤12 * 8192:=Nat.mul_le_mul_right _ h12
  have HXK:=Lib.hid hoks
  have hLn : (arcB x ++ endB).length=(arcB x).length + 1024:=by rw [List.length_append,endB_len]
  have hXM:=Lib.hid (fun z (h : arcB z ++ endB≠arcB x ++ endB) => (show sameL x z=false from sameL_no (fun e => h (by rw [e]))))
  have HWX:=Lib.hid (fun W hb v h => HWA.out W hb v x HXK.out w.heap.size h)
  obtain ⟨M,hM⟩ : ∃ M,M=arcB x ++ endB:=⟨_,rfl⟩
  rw [← hM] at hLn hXM HWX
  clear hM HXK h12 hoks
  obtain ⟨lb,hlb⟩ : ∃ lb,lb=M.length:=⟨_,rfl⟩
  rw [← hlb] at hLn
  have hlo : 1024≤lb:=by omega
  have hhi : lb≤99400:=by omega
  clear hLn hal hL12
  have hub:=ofB_u8 M
  obtain ⟨C,hC⟩:=of_u8 (turnL (M.map ofB) a c) (turnL_bd _ _ _ hub hc)
  have hne : C≠M:=turned_ne (fun e => by rw [e] at hlb;simp at hlb;omega) hc hC
  have hCl : C.length≤99500:=by
    have:=turnL_length (M.map ofB) a c
    rw [hC,List.length_map,List.length_map] at this
    omega
  have hrb : 99500≤reachBytes:=by decide
  have HTU:=Lib.hid (fun W v (hv : BytesAt W W.heap.size v M) => Turned_any v (M.map ofB) a c W hv hub (by rw [List.length_map];omega) ha hc)
  rw [hC] at HTU
  have HAV:=Lib.hid (fun W v (hb : Below w.heap.size w W) hv => Archive_all v C W (fun W' hb' => HML.out W' (hb.trans (hb'.mono hb.size))) (fun W' hb' => HP10.out W' (hb.trans (hb'.mono hb.size))) (fun W' hb' => HSN.out W' (hb.trans (hb'.mono hb.size))) hv hCl)
  have HNE : Hid (∀ z,arcB z ++ endB=C→sameL x z=false):=Lib.hid (fun z h => hXM.out z (by rw [h];exact hne))
  have HLB:=Lib.hid hlb
  clear hne hXM hC hCl hrb hub hlb HML HP10 HSN
  have t1 : ((lb : Int) == 0)=false:=beq_eq_false_iff_ne.2 (by omega)
  go_enter Tryz.func6,Tryz.ntmps6
  go_wp2_with fail
  refine HE.out.mono ?_
  rintro e w1 ⟨ev,rfl,hev,b1⟩
  have HB1:=Lib.hid b1
  have HV1:=Lib.hid hev
  obtain ⟨Ae,ce,rfl,-⟩:=hev.slice
  clear hev b1 HE
  go_wp2_with fail
  refine (HWX.out _ HB1.out _ HV1.out).mono ?_
  rintro e w2 ⟨bv,rfl,hbv,b2⟩
  have HB2:=Lib.hid (HB1.out.trans (b2.mono HB1.out.size))
  have HV2:=Lib.hid (HV1.out.below b2)
  have HAT:=Lib.hid hbv.at_
  obtain ⟨Ab,cb,evb,-⟩:=hbv.at_
  rw [List.length_map,← HLB.out] at evb
  subst evb
  clear hbv b2 HWX HV1 HB1
  go_wp2_with fail
  refine (HTU.out _ _ HAT.out).mono ?_
  rintro e w3 ⟨cv,rfl,hcv,b3⟩
  have HB3:=Lib.hid (HB2.out.trans (b3.mono HB2.out.size))
  have HV3:=Lib.hid (HV2.out.below b3)
  have HC3:=Lib.hid (show BytesAt w3 w3.heap.size cv C from hcv)
  obtain ⟨Ac,cc,rfl,-⟩:=hcv
  clear b3 HTU HAT HB2 HV2
  rw [List.length_map] at HC3 ⊢
  go_wp2_with fail
  refine (HAV.out _ _ HB3.out HC3.out).mono ?_
  unfold AvPost
  rintro e w4 ⟨b4,hres⟩
  have HB4:=Lib.hid (HB3.out.trans (b4.mono HB3.out.size))
  have HV4:=Lib.hid (HV3.out.below b4)
  have HC4:=Lib.hid ((HC3.out.below b4).more b4.size)
  clear b4 HB3 HV3 HC3 HAV
  rcases hres with ⟨q,hq,rfl⟩ | ⟨lv,z,rfl,hz,hlv,hzC⟩
  · have hq1 : (q == 0)=false:=beq_eq_false_iff_ne.2 hq
    have hq2 : (q != 0)=true:=by simp [hq]
    clear hq HWA HEF HNE HV4 HC4
    go_wp2_with fail
    go_ret
    exact ⟨rfl,HB4.out⟩
  · have HLV:=Lib.hid hlv
    have HZ:=Lib.hid hz
    have HD:=HNE.out z hzC
    obtain ⟨Ay,cy,rfl,-⟩:=hlv.slice
    have HWZ:=Lib.hid (fun W hb v h => HWA.out W hb v z HZ.out w3.heap.size h)
    have HEZ:=Lib.hid (fun W v1 v2 h1 h2 => HEF.out W v1 v2 z w.heap.size w3.heap.size h1 h2)
    rw [hzC] at HWZ
    rw [HD] at HEZ
    clear hlv hz HD HWA HEF HNE hzC HZ
    go_wp2_with fail
    refine (HWZ.out _ HB4.out _ HLV.out).mono ?_
    rintro e w5 ⟨dv,rfl,hdv,b5⟩
    have HB5:=Lib.hid (HB4.out.trans (b5.mono HB4.out.size))
    have HV5:=Lib.hid (HV4.out.below b5)
    have HL5:=Lib.hid (HLV.out.below b5)
    have HC5:=Lib.hid ((HC4.out.below b5).more b5.size)
    have HDV:=Lib.hid hdv.at_
    obtain ⟨Ad,cd,rfl,-⟩:=hdv.at_
    rw [List.length_map] at HDV ⊢
    have HCF:=Lib.hid (fun W (hb : Below w5.heap.size w5 W) => conv_str (HC5.out.below hb))
    have HCM:=Lib.hid (fun W (hb : Below w5.heap.size w5 W) => conv_str (HDV.out.below hb))
    have HF5:=Lib.hid (HEZ.out w5 _ _ HV5.out HL5.out)
    have hcA:=HCM.out w5 (Below.refl _ _)
    have hcF:=HCF.out w5 (Below.refl _ _)
    clear HDV HC5 hdv b5 HB4 HC4 HWZ HV4 HLV HEZ HV5 HL5 HCM HCF
    generalize bs C=MM at *
    go_wp2_with fail
    refine HF5.out.mono ?_
    rintro e w6 ⟨rfl,b6⟩
    have HB6:=Lib.hid (HB5.out.trans (b6.mono HB5.out.size))
    clear b6 HF5
    go_wp2_with fail
    go_ret
    exact ⟨rfl,HB6.out⟩
end Go.Proofs.YtphmhmdcaafmdaaGreatDoor
