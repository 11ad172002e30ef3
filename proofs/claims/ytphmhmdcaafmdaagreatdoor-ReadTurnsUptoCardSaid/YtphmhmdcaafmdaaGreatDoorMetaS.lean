import Derived.Test.YtphmhmdcaafmdaaGreatDoorRawW
import Derived.Test.YtphmhmdcaafmdaaGreatDoorFields
import Derived.Deep.RegionHeld3
import Derived.Deep.DeepCutAuto
import Derived.Test.YtphmhmdcaafmdaaGreatDoorWords
import Derived.Lib.ItoaNum
import Derived.Lib.ItoaMem
import Derived.Lib.TrimByte
import Derived.Lib.IndexMore
import Derived.Test.YtphmhmdcaafmdaaGreatDoorShelf
import Derived.LaidSub
import Derived.LaidHandle
import Derived.Lib.AppendIntMem
import Derived.Test.YtphmhmdcaafmdaaGreatDoorPathW
namespace Go.Proofs.YtphmhmdcaafmdaaGreatDoor
set_option linter.all false
section
open Go.RowKit
structure MetaP where
  mode : Int
  uid : Int
  gid : Int
  user : List UInt8
  group : List UInt8
  second : Int
  nano : Int
  deriving DecidableEq
def metaCells (m : MetaP) : List Value:=[.int .i64 m.mode,.int .i64 m.uid,.int .i64 m.gid,.string (bs m.user),.string (bs m.group),.int .i64 m.second,.int .i64 m.nano]
def staffS : List UInt8:=[115,116,97,102,102]
def metaBase (r : RawS) : MetaP:=⟨pick r.a 4096,pick r.b 3000,pick r.a 3000,cleanS r.text 40,staffS,pick r.b 17179869184,0⟩
def metaPick (k : Nat) (m : MetaP) (nn u2 g2 : Int) (gr : Nat) : MetaP :=
  match k with
  | 0 => { m with nano:=nn }
  | 1 => { m with second:=-m.second - 1 }
  | 2 => { m with uid:=u2 }
  | 3 => { m with gid:=g2 }
  | 4 => { m with group:=List.replicate gr 103 }
  | _ => m
def metaOf (r : RawS) : MetaP:=metaPick (pick r.kind 9).toNat (metaBase r) (pick r.a 1000000000) (pick r.b 1125899906842625) (pick r.a 1125899906842625) (pick r.a 61).toNat
def MSt (w0 : World) (G : Nat) (kd a b : Int) (bt : ByteArray) (w : World) : Prop:=G=w0.heap.size∧Blk w G 55 #[.int .i64 kd,.int .i64 a,.int .i64 b,.string bt]∧HasBlk w (G + 1) 26 7∧Below w0.heap.size w0 w
abbrev SMt (w0 : World) (G : Nat) (kd a b : Int) (bt : ByteArray) (w : World) : Prop:=w.cell? ⟨G,0,none⟩=some (.int .i64 kd)∧w.cell? ⟨G,1,none⟩=some (.int .i64 a)∧w.cell? ⟨G,2,none⟩=some (.int .i64 b)∧w.cell? ⟨G,3,none⟩=some (.string bt)∧MSt w0 G kd a b bt w
section
variable {w0 w w' : World} {G : Nat} {kd a b : Int} {bt : ByteArray}
theorem MSt.flat (h : MSt w0 G kd a b bt w) : SMt w0 G kd a b bt w:=⟨h.2.1.cell 0,h.2.1.cell 1,h.2.1.cell 2,h.2.1.cell 3,h⟩
theorem MSt.below (h : MSt w0 G kd a b bt w) (hb : Below w.heap.size w w') : MSt w0 G kd a b bt w':=⟨h.1,h.2.1.below hb h.2.1.lt,h.2.2.1.below hb,h.2.2.2.trans (hb.mono h.2.2.2.size)⟩
theorem MSt.alloc (h : MSt w0 G kd a b bt w) (o : Obj) : MSt w0 G kd a b bt (w.alloc o):=h.below ((Below.refl _ _).alloc (Nat.le_refl _) o)
theorem MSt.drew (h : MSt w0 G kd a b bt w) : MSt w0 G kd a b bt w.drew:=h.below ((Below.refl _ _).drew)
theorem MSt.set_ (h : MSt w0 G kd a b bt w) {g : Nat} (hg : G + 1 < g) (i : Nat) (u : Value) : MSt w0 G kd a b bt (w.setCell ⟨g,i,none⟩ u):=by
  obtain ⟨h1,h2,⟨cs,hn,h3⟩,h4⟩:=h
  exact ⟨h1,h2.far (p:=⟨g,i,none⟩) (by show G≠g;omega) u,⟨cs,hn,h3.far (p:=⟨g,i,none⟩) (by show G + 1≠g;omega) u⟩,h4.setCell (p:=⟨g,i,none⟩) (by show w0.heap.size≤g;omega) u⟩
theorem SMt.below (h : SMt w0 G kd a b bt w) (hb : Below w.heap.size w w') : SMt w0 G kd a b bt w':=(h.2.2.2.2.below hb).flat
theorem SMt.alloc (h : SMt w0 G kd a b bt w) (o : Obj) : SMt w0 G kd a b bt (w.alloc o):=(h.2.2.2.2.alloc o).flat
end
set_option maxRecDepth 100000 in
set_option maxHeartbeats 4000000 in
theorem Meta_any (r : RawS) (h : RawOk r) (w : World) (hm : ML w) :
    Calls Tryz.prog 26 #[rawV r] w fun e w' => e=.returned (.agg (metaCells (metaOf r)).toArray)∧Below w.heap.size w w':=by
  obtain ⟨kd,a,b,text⟩:=r
  obtain ⟨hkd,ha,hb,ht⟩:=h
  simp only at hkd ha hb ht
  obtain ⟨md,hmd,bmd⟩:=pick_nat a 4096 (by omega)
  have Pmd:=Lib.hid (fun w => picked_any a 4096 ha (by omega) (by omega) w)
  rw [show pick a 4096=(md : Int) from hmd] at Pmd
  obtain ⟨ud,hud,bud⟩:=pick_nat b 3000 (by omega)
  have Pud:=Lib.hid (fun w => picked_any b 3000 hb (by omega) (by omega) w)
  rw [show pick b 3000=(ud : Int) from hud] at Pud
  obtain ⟨gd,hgd,bgd⟩:=pick_nat a 3000 (by omega)
  have Pgd:=Lib.hid (fun w => picked_any a 3000 ha (by omega) (by omega) w)
  rw [show pick a 3000=(gd : Int) from hgd] at Pgd
  obtain ⟨sc,hsc,bsc⟩:=pick_nat b 17179869184 (by omega)
  have Psc:=Lib.hid (fun w => picked_any b 17179869184 hb (by omega) (by omega) w)
  rw [show pick b 17179869184=(sc : Int) from hsc] at Psc
  obtain ⟨kk,hkk,bkk⟩:=pick_nat kd 9 (by omega)
  have Pkk:=Lib.hid (fun w => picked_any kd 9 hkd (by omega) (by omega) w)
  rw [show pick kd 9=(kk : Int) from hkk] at Pkk
  obtain ⟨nn,hnn,bnn⟩:=pick_nat a 1000000000 (by omega)
  have Pnn:=Lib.hid (fun w => picked_any a 1000000000 ha (by omega) (by omega) w)
  rw [show pick a 1000000000=(nn : Int) from hnn] at Pnn
  obtain ⟨u2,hu2,bu2⟩:=pick_nat b 1125899906842625 (by omega)
  have Pu2:=Lib.hid (fun w => picked_any b 1125899906842625 hb (by omega) (by omega) w)
  rw [show pick b 1125899906842625=(u2 : Int) from hu2] at Pu2
  obtain ⟨g2,hg2,bg2⟩:=pick_nat a 1125899906842625 (by omega)
  have Pg2:=Lib.hid (fun w => picked_any a 1125899906842625 ha (by omega) (by omega) w)
  rw [show pick a 1125899906842625=(g2 : Int) from hg2] at Pg2
  obtain ⟨gr,hgr,bgr⟩:=pick_nat a 61 (by omega)
  have Pgr:=Lib.hid (fun w => picked_any a 61 ha (by omega) (by omega) w)
  rw [show pick a 61=(gr : Int) from hgr] at Pgr
  have C40 : Hid (∀ w,ML w→Calls Tryz.prog 28 #[.string (bs text),.int .i64 40] w fun e w' => e=.returned (.string (bs (cleanS text 40)))∧Below w.heap.size w w'):=Lib.hid (fun w hm => clean_any text 40 w (by omega) (by omega) hm)
  have HRp : Hid (∀ w,Calls Tryz.prog 27 #[.string ⟨#[103]⟩,.int .i64 gr] w fun e w' => e=.returned (.string (bs (List.replicate gr 103)))∧Below w.heap.size w w'):=Lib.hid (fun w => Repeat_byte 103 gr w (by omega))
  have hfin : Hid (metaOf ⟨kd,a,b,text⟩=metaPick kk ⟨md,ud,gd,cleanS text 40,staffS,sc,0⟩ nn u2 g2 gr):=Lib.hid (by
    unfold metaOf metaBase
    simp only [show pick a 4096=(md : Int) from hmd,show pick b 3000=(ud : Int) from hud,show pick a 3000=(gd : Int) from hgd,show pick b 17179869184=(sc : Int) from hsc,show pick kd 9=(kk : Int) from hkk,show pick a 1000000000=(nn : Int) from hnn,show pick b 1125899906842625=(u2 : Int) from hu2,show pick a 1125899906842625=(g2 : Int) from hg2,show pick a 61=(gr : Int) from hgr,Int.toNat_natCast])
  clear hmd hud hgd hsc hkk hnn hu2 hg2 hgr hkd ha hb
  unfold rawV
  simp only
  generalize hcu : bs (cleanS text 40)=cu at *
  generalize hgr : bs (List.replicate gr 103)=bgr at *
  have HCU:=Lib.hid hcu
  have HGR:=Lib.hid hgr
  clear hcu hgr
  generalize bs text=bt at *
  obtain ⟨G,hG⟩ : ∃ G,G=w.heap.size:=⟨_,rfl⟩
  obtain ⟨W0,hW0⟩ : ∃ W0,W0=(w.alloc (.cells #[.int .i64 kd,.int .i64 a,.int .i64 b,.string bt] 55)).alloc (.cells #[.int .i64 0,.int .i64 0,.int .i64 0,.string ⟨#[]⟩,.string ⟨#[]⟩,.int .i64 0,.int .i64 0] 26):=⟨_,rfl⟩
  have H0 : MSt w G kd a b bt W0:=by
    have hA:=(Blk.new w 55 #[.int .i64 kd,.int .i64 a,.int .i64 b,.string bt]).alloc (.cells #[.int .i64 0,.int .i64 0,.int .i64 0,.string ⟨#[]⟩,.string ⟨#[]⟩,.int .i64 0,.int .i64 0] 26)
    have hB:=Blk.new (w.alloc (.cells #[.int .i64 kd,.int .i64 a,.int .i64 b,.string bt] 55)) 26 #[.int .i64 0,.int .i64 0,.int .i64 0,.string ⟨#[]⟩,.string ⟨#[]⟩,.int .i64 0,.int .i64 0]
    rw [show (w.alloc (.cells #[.int .i64 kd,.int .i64 a,.int .i64 b,.string bt] 55)).heap.size=w.heap.size + 1 by simp] at hB
    rw [← hW0,← hG] at hA hB
    refine ⟨hG,hA,⟨_,rfl,hB⟩,?_⟩
    rw [hW0]
    exact ((Below.refl _ w).alloc (Nat.le_refl _) _).alloc (by simp) _
  have HS:=Lib.hid (fun (_ : Unit) => H0.drew.flat)
  have HK : Hid (∀ w1 w2,SMt w G kd a b bt w1→Below w1.heap.size w1 w2→SMt w G kd a b bt w2):=Lib.hid (fun w1 w2 h1 h2 => h1.below h2)
  have HA : Hid (∀ w1 o,SMt w G kd a b bt w1→SMt w G kd a b bt (w1.alloc o)):=Lib.hid (fun w1 o h1 => h1.alloc o)
  have HMM : Hid (∀ w1,SMt w G kd a b bt w1→ML w1):=Lib.hid (fun w1 h1 => hm.below h1.2.2.2.2.2.2.2)
  clear H0 hm
  go_enter Tryz.func26,Tryz.ntmps26
  go_upto_region 1 with fail
  rw [← hG,← hW0]
  have HW0:=Lib.hid hW0
  have HG:=Lib.hid hG
  clear hW0 hG
  go_cut [3] (fun s3 wx => ∃ g : Nat,s3=.pointer (some ⟨g,0,none⟩)∧G + 1 < g∧MSt w G kd a b bt wx∧Blk wx g 26 #[.int .i64 md,.int .i64 ud,.int .i64 gd,.string cu,.string ⟨#[115,116,97,102,102]⟩,.int .i64 sc,.int .i64 0])
  case first =>
    have HNW : Hid (∀ W w2 : World,Below (W.alloc (.cells #[.int .i64 0,.int .i64 0,.int .i64 0,.string ⟨#[]⟩,.string ⟨#[]⟩,.int .i64 0,.int .i64 0] 26)).heap.size (W.alloc (.cells #[.int .i64 0,.int .i64 0,.int .i64 0,.string ⟨#[]⟩,.string ⟨#[]⟩,.int .i64 0,.int .i64 0] 26)) w2→SMt w G kd a b bt W→HasBlk w2 W.heap.size 26 7∧G + 1 < W.heap.size):=Lib.hid (fun W w2 hb h => ⟨HasBlk.below ⟨_,rfl,Blk.new W _ _⟩ hb,h.2.2.2.2.2.2.1.lt⟩)
    have HN0 : Hid (∀ w2 : World,Below (W0.alloc (.cells #[.int .i64 0,.int .i64 0,.int .i64 0,.string ⟨#[]⟩,.string ⟨#[]⟩,.int .i64 0,.int .i64 0] 26)).drew.heap.size (W0.alloc (.cells #[.int .i64 0,.int .i64 0,.int .i64 0,.string ⟨#[]⟩,.string ⟨#[]⟩,.int .i64 0,.int .i64 0] 26)).drew w2→HasBlk w2 W0.heap.size 26 7∧G + 1 < W0.heap.size):=Lib.hid (fun w2 hb => ⟨HasBlk.below (w:=(W0.alloc (.cells #[.int .i64 0,.int .i64 0,.int .i64 0,.string ⟨#[]⟩,.string ⟨#[]⟩,.int .i64 0,.int .i64 0] 26)).drew) ⟨_,rfl,Blk.new W0 _ _⟩ hb,(HS.out ()).2.2.2.2.2.2.1.lt⟩)
    have HS2 : Hid (∀ o,SMt w G kd a b bt (W0.alloc o).drew):=Lib.hid (fun o => (HS.out ()).alloc o)
    have HST : Hid (∀ W g u0 u1 u2 u3 u4 u5 u6,G + 1 < g→SMt w G kd a b bt W→SMt w G kd a b bt (((((((W.setCell ⟨g,0,none⟩ u0).setCell ⟨g,1,none⟩ u1).setCell ⟨g,2,none⟩ u2).setCell ⟨g,3,none⟩ u3).setCell ⟨g,4,none⟩ u4).setCell ⟨g,5,none⟩ u5).setCell ⟨g,6,none⟩ u6)):=Lib.hid (fun W g u0 u1 u2 u3 u4 u5 u6 hg h => MSt.flat (MSt.set_ (MSt.set_ (MSt.set_ (MSt.set_ (MSt.set_ (MSt.set_ (MSt.set_ h.2.2.2.2 hg 0 u0) hg 1 u1) hg 2 u2) hg 3 u3) hg 4 u4) hg 5 u5) hg 6 u6))
    go_region_held3 (fun w' => w'.cell? ⟨G,0,none⟩=some (.int .i64 kd)∧w'.cell? ⟨G,1,none⟩=some (.int .i64 a)∧w'.cell? ⟨G,2,none⟩=some (.int .i64 b)∧w'.cell? ⟨G,3,none⟩=some (.string bt)∧MSt w G kd a b bt w')
      (first | (with_reducible assumption) | (with_reducible exact HS.out ()) | (with_reducible exact HS2.out _) | (with_reducible exact HA.out _ _ (by with_reducible assumption)) | (with_reducible exact HST.out _ _ _ _ _ _ _ _ _ (by with_reducible assumption) (by with_reducible assumption)) | go_keep)
      (first
        | (go_at_call 24;(first | (with_reducible refine (Pmd.out _).mono ?_) | (with_reducible refine (Pud.out _).mono ?_) | (with_reducible refine (Pgd.out _).mono ?_) | (with_reducible refine (Psc.out _).mono ?_));rintro e w' ⟨rfl,rfl⟩)
        | (go_at_call 28;(with_reducible refine (C40.out _ (HMM.out _ (by with_reducible assumption))).mono ?_);rintro e w' ⟨rfl,hb1⟩;have hbn:=HK.out _ _ (by with_reducible assumption) hb1;(try (first | (with_reducible have hnw:=HNW.out _ _ hb1 (by with_reducible assumption)) | (with_reducible have hnw:=HN0.out _ hb1));obtain ⟨hnew,hgl⟩:=hnw);(try (have n0:=hnew.peek_ (i:=0) (by omega);have n1:=hnew.peek_ (i:=1) (by omega);have n2:=hnew.peek_ (i:=2) (by omega);have n3:=hnew.peek_ (i:=3) (by omega);have n4:=hnew.peek_ (i:=4) (by omega);have n5:=hnew.peek_ (i:=5) (by omega);have n6:=hnew.peek_ (i:=6) (by omega);have m0:=hnew.frozen 0;have m1:=hnew.frozen 1;have m2:=hnew.frozen 2;have m3:=hnew.frozen 3;have m4:=hnew.frozen 4;have m5:=hnew.frozen 5;have m6:=hnew.frozen 6));clear hb1))
    all_goals (go_wp2_with fail;go_meet)
    all_goals first | (exact ⟨_,rfl,hgl,(MSt.set_ (MSt.set_ (MSt.set_ (MSt.set_ (MSt.set_ (MSt.set_ (MSt.set_ hbn.2.2.2.2 hgl 0 (.int .i64 md)) hgl 1 (.int .i64 ud)) hgl 2 (.int .i64 gd)) hgl 3 (.string cu)) hgl 4 (.string ⟨#[115,116,97,102,102]⟩)) hgl 5 (.int .i64 sc)) hgl 6 (.int .i64 0)),hnew.fill [(.int .i64 md),(.int .i64 ud),(.int .i64 gd),(.string cu),(.string ⟨#[115,116,97,102,102]⟩),(.int .i64 sc),(.int .i64 0)] rfl⟩) | (exact ⟨_,rfl,hbn.2.2.2.2.2.2.1.lt,hbn.2.2.2.2.alloc _,Blk.new _ _ _⟩)
  case rest =>
    obtain ⟨g,rfl,hg,hM,hB⟩:=hcut
    obtain ⟨q0,q1,q2,q3,_⟩:=hM.flat
    have HMf:=Lib.hid hM
    have HBf:=Lib.hid hB
    have e0:=hB.cell 0
    have e1:=hB.cell 1
    have e2:=hB.cell 2
    have e3:=hB.cell 3
    have e4:=hB.cell 4
    have e5:=hB.cell 5
    have e6:=hB.cell 6
    have z0:=hB.frozen 0
    have z1:=hB.frozen 1
    have z2:=hB.frozen 2
    have z3:=hB.frozen 3
    have z4:=hB.frozen 4
    have z5:=hB.frozen 5
    have z6:=hB.frozen 6
    have y0:=(hM).2.2.1.peek_ (i:=0) (by omega)
    have y1:=(hM).2.2.1.peek_ (i:=1) (by omega)
    have y2:=(hM).2.2.1.peek_ (i:=2) (by omega)
    have y3:=(hM).2.2.1.peek_ (i:=3) (by omega)
    have y4:=(hM).2.2.1.peek_ (i:=4) (by omega)
    have y5:=(hM).2.2.1.peek_ (i:=5) (by omega)
    have y6:=(hM).2.2.1.peek_ (i:=6) (by omega)
    have x0:=(hM).2.2.1.frozen 0
    have x1:=(hM).2.2.1.frozen 1
    have x2:=(hM).2.2.1.frozen 2
    have x3:=(hM).2.2.1.frozen 3
    have x4:=(hM).2.2.1.frozen 4
    have x5:=(hM).2.2.1.frozen 5
    have x6:=(hM).2.2.1.frozen 6
    simp only [List.getElem?_toArray,List.getElem?_cons_zero,List.getElem?_cons_succ] at e0 e1 e2 e3 e4 e5 e6
    clear hM hB
    go_wp2_with fail
    refine (Pkk.out _).mono ?_
    rintro e w' ⟨rfl,rfl⟩
    rcases (show kk=0∨kk=1∨kk=2∨kk=3∨kk=4∨kk=5∨kk=6∨kk=7∨kk=8 by omega) with rfl | rfl | rfl | rfl | rfl | rfl | rfl | rfl | rfl
    · have fin : Ending.returned (.agg #[(.int .i64 md),(.int .i64 ud),(.int .i64 gd),(.string cu),(.string ⟨#[115,116,97,102,102]⟩),(.int .i64 sc),(.int .i64 nn)])=Ending.returned (.agg (metaCells (metaOf ⟨kd,a,b,text⟩)).toArray):=by
        rw [hfin.out,← HCU.out];rfl
      have fin:=Lib.hid fin
      go_wp2_with fail
      refine (Pnn.out _).mono ?_
      rintro e w' ⟨rfl,rfl⟩
      go_wp2_with fail
      replace fin:=fin.out
      have hF : Blk ((((((((wc.setCell ⟨g,6,none⟩ (.int .i64 nn)).setCell ⟨G + 1,0,none⟩ (.int .i64 md)).setCell ⟨G + 1,1,none⟩ (.int .i64 ud)).setCell ⟨G + 1,2,none⟩ (.int .i64 gd)).setCell ⟨G + 1,3,none⟩ (.string cu)).setCell ⟨G + 1,4,none⟩ (.string ⟨#[115,116,97,102,102]⟩)).setCell ⟨G + 1,5,none⟩ (.int .i64 sc)).setCell ⟨G + 1,6,none⟩ (.int .i64 nn)) (G + 1) 26 #[(.int .i64 md),(.int .i64 ud),(.int .i64 gd),(.string cu),(.string ⟨#[115,116,97,102,102]⟩),(.int .i64 sc),(.int .i64 nn)]:=(HMf.out.set_ hg 6 (.int .i64 nn)).2.2.1.fill [(.int .i64 md),(.int .i64 ud),(.int .i64 gd),(.string cu),(.string ⟨#[115,116,97,102,102]⟩),(.int .i64 sc),(.int .i64 nn)] rfl
      have bF : Below w.heap.size w ((((((((wc.setCell ⟨g,6,none⟩ (.int .i64 nn)).setCell ⟨G + 1,0,none⟩ (.int .i64 md)).setCell ⟨G + 1,1,none⟩ (.int .i64 ud)).setCell ⟨G + 1,2,none⟩ (.int .i64 gd)).setCell ⟨G + 1,3,none⟩ (.string cu)).setCell ⟨G + 1,4,none⟩ (.string ⟨#[115,116,97,102,102]⟩)).setCell ⟨G + 1,5,none⟩ (.int .i64 sc)).setCell ⟨G + 1,6,none⟩ (.int .i64 nn)):=Below.setAll (g:=G + 1) (by rw [HG.out];omega) [(.int .i64 md),(.int .i64 ud),(.int .i64 gd),(.string cu),(.string ⟨#[115,116,97,102,102]⟩),(.int .i64 sc),(.int .i64 nn)] 0 (HMf.out.set_ hg 6 (.int .i64 nn)).2.2.2
      obtain ⟨wz,hwz⟩ : ∃ wz,wz=((((((((wc.setCell ⟨g,6,none⟩ (.int .i64 nn)).setCell ⟨G + 1,0,none⟩ (.int .i64 md)).setCell ⟨G + 1,1,none⟩ (.int .i64 ud)).setCell ⟨G + 1,2,none⟩ (.int .i64 gd)).setCell ⟨G + 1,3,none⟩ (.string cu)).setCell ⟨G + 1,4,none⟩ (.string ⟨#[115,116,97,102,102]⟩)).setCell ⟨G + 1,5,none⟩ (.int .i64 sc)).setCell ⟨G + 1,6,none⟩ (.int .i64 nn)):=⟨_,rfl⟩
      rw [← hwz] at hF bF ⊢
      have BF:=Lib.hid bF
      clear bF hwz e0 e1 e2 e3 e4 e5 e6 z0 z1 z2 z3 z4 z5 z6 y0 y1 y2 y3 y4 y5 y6 x0 x1 x2 x3 x4 x5 x6
      have c0:=hF.cell 0
      have c1:=hF.cell 1
      have c2:=hF.cell 2
      have c3:=hF.cell 3
      have c4:=hF.cell 4
      have c5:=hF.cell 5
      have c6:=hF.cell 6
      simp only [List.getElem?_toArray,List.getElem?_cons_zero,List.getElem?_cons_succ] at c0 c1 c2 c3 c4 c5 c6
      exact bodyPost_ret (v:=.agg #[(.int .i64 md),(.int .i64 ud),(.int .i64 gd),(.string cu),(.string ⟨#[115,116,97,102,102]⟩),(.int .i64 sc),(.int .i64 nn)]) (by simp [results,Tryz.results26,go_sem,c0,c1,c2,c3,c4,c5,c6]) rfl ⟨fin,BF.out⟩
    · have fin : Ending.returned (.agg #[(.int .i64 md),(.int .i64 ud),(.int .i64 gd),(.string cu),(.string ⟨#[115,116,97,102,102]⟩),(.int .i64 (-(sc : Int) - 1)),(.int .i64 0)])=Ending.returned (.agg (metaCells (metaOf ⟨kd,a,b,text⟩)).toArray):=by
        rw [hfin.out,← HCU.out];rfl
      have fin:=Lib.hid fin
      go_wp2_with fail
      replace fin:=fin.out
      have hF : Blk ((((((((wc.setCell ⟨g,5,none⟩ (.int .i64 (-(sc : Int) - 1))).setCell ⟨G + 1,0,none⟩ (.int .i64 md)).setCell ⟨G + 1,1,none⟩ (.int .i64 ud)).setCell ⟨G + 1,2,none⟩ (.int .i64 gd)).setCell ⟨G + 1,3,none⟩ (.string cu)).setCell ⟨G + 1,4,none⟩ (.string ⟨#[115,116,97,102,102]⟩)).setCell ⟨G + 1,5,none⟩ (.int .i64 (-(sc : Int) - 1))).setCell ⟨G + 1,6,none⟩ (.int .i64 0)) (G + 1) 26 #[(.int .i64 md),(.int .i64 ud),(.int .i64 gd),(.string cu),(.string ⟨#[115,116,97,102,102]⟩),(.int .i64 (-(sc : Int) - 1)),(.int .i64 0)]:=(HMf.out.set_ hg 5 (.int .i64 (-(sc : Int) - 1))).2.2.1.fill [(.int .i64 md),(.int .i64 ud),(.int .i64 gd),(.string cu),(.string ⟨#[115,116,97,102,102]⟩),(.int .i64 (-(sc : Int) - 1)),(.int .i64 0)] rfl
      have bF : Below w.heap.size w ((((((((wc.setCell ⟨g,5,none⟩ (.int .i64 (-(sc : Int) - 1))).setCell ⟨G + 1,0,none⟩ (.int .i64 md)).setCell ⟨G + 1,1,none⟩ (.int .i64 ud)).setCell ⟨G + 1,2,none⟩ (.int .i64 gd)).setCell ⟨G + 1,3,none⟩ (.string cu)).setCell ⟨G + 1,4,none⟩ (.string ⟨#[115,116,97,102,102]⟩)).setCell ⟨G + 1,5,none⟩ (.int .i64 (-(sc : Int) - 1))).setCell ⟨G + 1,6,none⟩ (.int .i64 0)):=Below.setAll (g:=G + 1) (by rw [HG.out];omega) [(.int .i64 md),(.int .i64 ud),(.int .i64 gd),(.string cu),(.string ⟨#[115,116,97,102,102]⟩),(.int .i64 (-(sc : Int) - 1)),(.int .i64 0)] 0 (HMf.out.set_ hg 5 (.int .i64 (-(sc : Int) - 1))).2.2.2
      obtain ⟨wz,hwz⟩ : ∃ wz,wz=((((((((wc.setCell ⟨g,5,none⟩ (.int .i64 (-(sc : Int) - 1))).setCell ⟨G + 1,0,none⟩ (.int .i64 md)).setCell ⟨G + 1,1,none⟩ (.int .i64 ud)).setCell ⟨G + 1,2,none⟩ (.int .i64 gd)).setCell ⟨G + 1,3,none⟩ (.string cu)).setCell ⟨G + 1,4,none⟩ (.string ⟨#[115,116,97,102,102]⟩)).setCell ⟨G + 1,5,none⟩ (.int .i64 (-(sc : Int) - 1))).setCell ⟨G + 1,6,none⟩ (.int .i64 0)):=⟨_,rfl⟩
      rw [← hwz] at hF bF ⊢
      have BF:=Lib.hid bF
      clear bF hwz e0 e1 e2 e3 e4 e5 e6 z0 z1 z2 z3 z4 z5 z6 y0 y1 y2 y3 y4 y5 y6 x0 x1 x2 x3 x4 x5 x6
      have c0:=hF.cell 0
      have c1:=hF.cell 1
      have c2:=hF.cell 2
      have c3:=hF.cell 3
      have c4:=hF.cell 4
      have c5:=hF.cell 5
      have c6:=hF.cell 6
      simp only [List.getElem?_toArray,List.getElem?_cons_zero,List.getElem?_cons_succ] at c0 c1 c2 c3 c4 c5 c6
      exact bodyPost_ret (v:=.agg #[(.int .i64 md),(.int .i64 ud),(.int .i64 gd),(.string cu),(.string ⟨#[115,116,97,102,102]⟩),(.int .i64 (-(sc : Int) - 1)),(.int .i64 0)]) (by simp [results,Tryz.results26,go_sem,c0,c1,c2,c3,c4,c5,c6]) rfl ⟨fin,BF.out⟩
    · have fin : Ending.returned (.agg #[(.int .i64 md),(.int .i64 u2),(.int .i64 gd),(.string cu),(.string ⟨#[115,116,97,102,102]⟩),(.int .i64 sc),(.int .i64 0)])=Ending.returned (.agg (metaCells (metaOf ⟨kd,a,b,text⟩)).toArray):=by
        rw [hfin.out,← HCU.out];rfl
      have fin:=Lib.hid fin
      go_wp2_with fail
      refine (Pu2.out _).mono ?_
      rintro e w' ⟨rfl,rfl⟩
      go_wp2_with fail
      replace fin:=fin.out
      have hF : Blk ((((((((wc.setCell ⟨g,1,none⟩ (.int .i64 u2)).setCell ⟨G + 1,0,none⟩ (.int .i64 md)).setCell ⟨G + 1,1,none⟩ (.int .i64 u2)).setCell ⟨G + 1,2,none⟩ (.int .i64 gd)).setCell ⟨G + 1,3,none⟩ (.string cu)).setCell ⟨G + 1,4,none⟩ (.string ⟨#[115,116,97,102,102]⟩)).setCell ⟨G + 1,5,none⟩ (.int .i64 sc)).setCell ⟨G + 1,6,none⟩ (.int .i64 0)) (G + 1) 26 #[(.int .i64 md),(.int .i64 u2),(.int .i64 gd),(.string cu),(.string ⟨#[115,116,97,102,102]⟩),(.int .i64 sc),(.int .i64 0)]:=(HMf.out.set_ hg 1 (.int .i64 u2)).2.2.1.fill [(.int .i64 md),(.int .i64 u2),(.int .i64 gd),(.string cu),(.string ⟨#[115,116,97,102,102]⟩),(.int .i64 sc),(.int .i64 0)] rfl
      have bF : Below w.heap.size w ((((((((wc.setCell ⟨g,1,none⟩ (.int .i64 u2)).setCell ⟨G + 1,0,none⟩ (.int .i64 md)).setCell ⟨G + 1,1,none⟩ (.int .i64 u2)).setCell ⟨G + 1,2,none⟩ (.int .i64 gd)).setCell ⟨G + 1,3,none⟩ (.string cu)).setCell ⟨G + 1,4,none⟩ (.string ⟨#[115,116,97,102,102]⟩)).setCell ⟨G + 1,5,none⟩ (.int .i64 sc)).setCell ⟨G + 1,6,none⟩ (.int .i64 0)):=Below.setAll (g:=G + 1) (by rw [HG.out];omega) [(.int .i64 md),(.int .i64 u2),(.int .i64 gd),(.string cu),(.string ⟨#[115,116,97,102,102]⟩),(.int .i64 sc),(.int .i64 0)] 0 (HMf.out.set_ hg 1 (.int .i64 u2)).2.2.2
      obtain ⟨wz,hwz⟩ : ∃ wz,wz=((((((((wc.setCell ⟨g,1,none⟩ (.int .i64 u2)).setCell ⟨G + 1,0,none⟩ (.int .i64 md)).setCell ⟨G + 1,1,none⟩ (.int .i64 u2)).setCell ⟨G + 1,2,none⟩ (.int .i64 gd)).setCell ⟨G + 1,3,none⟩ (.string cu)).setCell ⟨G + 1,4,none⟩ (.string ⟨#[115,116,97,102,102]⟩)).setCell ⟨G + 1,5,none⟩ (.int .i64 sc)).setCell ⟨G + 1,6,none⟩ (.int .i64 0)):=⟨_,rfl⟩
      rw [← hwz] at hF bF ⊢
      have BF:=Lib.hid bF
      clear bF hwz e0 e1 e2 e3 e4 e5 e6 z0 z1 z2 z3 z4 z5 z6 y0 y1 y2 y3 y4 y5 y6 x0 x1 x2 x3 x4 x5 x6
      have c0:=hF.cell 0
      have c1:=hF.cell 1
      have c2:=hF.cell 2
      have c3:=hF.cell 3
      have c4:=hF.cell 4
      have c5:=hF.cell 5
      have c6:=hF.cell 6
      simp only [List.getElem?_toArray,List.getElem?_cons_zero,List.getElem?_cons_succ] at c0 c1 c2 c3 c4 c5 c6
      exact bodyPost_ret (v:=.agg #[(.int .i64 md),(.int .i64 u2),(.int .i64 gd),(.string cu),(.string ⟨#[115,116,97,102,102]⟩),(.int .i64 sc),(.int .i64 0)]) (by simp [results,Tryz.results26,go_sem,c0,c1,c2,c3,c4,c5,c6]) rfl ⟨fin,BF.out⟩
    · have fin : Ending.returned (.agg #[(.int .i64 md),(.int .i64 ud),(.int .i64 g2),(.string cu),(.string ⟨#[115,116,97,102,102]⟩),(.int .i64 sc),(.int .i64 0)])=Ending.returned (.agg (metaCells (metaOf ⟨kd,a,b,text⟩)).toArray):=by
        rw [hfin.out,← HCU.out];rfl
      have fin:=Lib.hid fin
      go_wp2_with fail
      refine (Pg2.out _).mono ?_
      rintro e w' ⟨rfl,rfl⟩
      go_wp2_with fail
      replace fin:=fin.out
      have hF : Blk ((((((((wc.setCell ⟨g,2,none⟩ (.int .i64 g2)).setCell ⟨G + 1,0,none⟩ (.int .i64 md)).setCell ⟨G + 1,1,none⟩ (.int .i64 ud)).setCell ⟨G + 1,2,none⟩ (.int .i64 g2)).setCell ⟨G + 1,3,none⟩ (.string cu)).setCell ⟨G + 1,4,none⟩ (.string ⟨#[115,116,97,102,102]⟩)).setCell ⟨G + 1,5,none⟩ (.int .i64 sc)).setCell ⟨G + 1,6,none⟩ (.int .i64 0)) (G + 1) 26 #[(.int .i64 md),(.int .i64 ud),(.int .i64 g2),(.string cu),(.string ⟨#[115,116,97,102,102]⟩),(.int .i64 sc),(.int .i64 0)]:=(HMf.out.set_ hg 2 (.int .i64 g2)).2.2.1.fill [(.int .i64 md),(.int .i64 ud),(.int .i64 g2),(.string cu),(.string ⟨#[115,116,97,102,102]⟩),(.int .i64 sc),(.int .i64 0)] rfl
      have bF : Below w.heap.size w ((((((((wc.setCell ⟨g,2,none⟩ (.int .i64 g2)).setCell ⟨G + 1,0,none⟩ (.int .i64 md)).setCell ⟨G + 1,1,none⟩ (.int .i64 ud)).setCell ⟨G + 1,2,none⟩ (.int .i64 g2)).setCell ⟨G + 1,3,none⟩ (.string cu)).setCell ⟨G + 1,4,none⟩ (.string ⟨#[115,116,97,102,102]⟩)).setCell ⟨G + 1,5,none⟩ (.int .i64 sc)).setCell ⟨G + 1,6,none⟩ (.int .i64 0)):=Below.setAll (g:=G + 1) (by rw [HG.out];omega) [(.int .i64 md),(.int .i64 ud),(.int .i64 g2),(.string cu),(.string ⟨#[115,116,97,102,102]⟩),(.int .i64 sc),(.int .i64 0)] 0 (HMf.out.set_ hg 2 (.int .i64 g2)).2.2.2
      obtain ⟨wz,hwz⟩ : ∃ wz,wz=((((((((wc.setCell ⟨g,2,none⟩ (.int .i64 g2)).setCell ⟨G + 1,0,none⟩ (.int .i64 md)).setCell ⟨G + 1,1,none⟩ (.int .i64 ud)).setCell ⟨G + 1,2,none⟩ (.int .i64 g2)).setCell ⟨G + 1,3,none⟩ (.string cu)).setCell ⟨G + 1,4,none⟩ (.string ⟨#[115,116,97,102,102]⟩)).setCell ⟨G + 1,5,none⟩ (.int .i64 sc)).setCell ⟨G + 1,6,none⟩ (.int .i64 0)):=⟨_,rfl⟩
      rw [← hwz] at hF bF ⊢
      have BF:=Lib.hid bF
      clear bF hwz e0 e1 e2 e3 e4 e5 e6 z0 z1 z2 z3 z4 z5 z6 y0 y1 y2 y3 y4 y5 y6 x0 x1 x2 x3 x4 x5 x6
      have c0:=hF.cell 0
      have c1:=hF.cell 1
      have c2:=hF.cell 2
      have c3:=hF.cell 3
      have c4:=hF.cell 4
      have c5:=hF.cell 5
      have c6:=hF.cell 6
      simp only [List.getElem?_toArray,List.getElem?_cons_zero,List.getElem?_cons_succ] at c0 c1 c2 c3 c4 c5 c6
      exact bodyPost_ret (v:=.agg #[(.int .i64 md),(.int .i64 ud),(.int .i64 g2),(.string cu),(.string ⟨#[115,116,97,102,102]⟩),(.int .i64 sc),(.int .i64 0)]) (by simp [results,Tryz.results26,go_sem,c0,c1,c2,c3,c4,c5,c6]) rfl ⟨fin,BF.out⟩
    · have fin : Ending.returned (.agg #[(.int .i64 md),(.int .i64 ud),(.int .i64 gd),(.string cu),(.string bgr),(.int .i64 sc),(.int .i64 0)])=Ending.returned (.agg (metaCells (metaOf ⟨kd,a,b,text⟩)).toArray):=by
        rw [hfin.out,← HCU.out,← HGR.out];rfl
      have fin:=Lib.hid fin
      go_wp2_with fail
      refine (Pgr.out _).mono ?_
      rintro e w' ⟨rfl,rfl⟩
      go_wp2_with fail
      refine (HRp.out _).mono ?_
      rintro e w2 ⟨rfl,b2⟩
      have hM2:=HMf.out.below b2
      have hB2:=HBf.out.below b2 HBf.out.lt
      clear b2 q0 q1 q2 q3 e0 e1 e2 e3 e4 e5 e6 z0 z1 z2 z3 z4 z5 z6 y0 y1 y2 y3 y4 y5 y6 x0 x1 x2 x3 x4 x5 x6
      have e0:=hB2.cell 0
      have e1:=hB2.cell 1
      have e2:=hB2.cell 2
      have e3:=hB2.cell 3
      have e4:=hB2.cell 4
      have e5:=hB2.cell 5
      have e6:=hB2.cell 6
      have z0:=hB2.frozen 0
      have z1:=hB2.frozen 1
      have z2:=hB2.frozen 2
      have z3:=hB2.frozen 3
      have z4:=hB2.frozen 4
      have z5:=hB2.frozen 5
      have z6:=hB2.frozen 6
      have y0:=(hM2).2.2.1.peek_ (i:=0) (by omega)
      have y1:=(hM2).2.2.1.peek_ (i:=1) (by omega)
      have y2:=(hM2).2.2.1.peek_ (i:=2) (by omega)
      have y3:=(hM2).2.2.1.peek_ (i:=3) (by omega)
      have y4:=(hM2).2.2.1.peek_ (i:=4) (by omega)
      have y5:=(hM2).2.2.1.peek_ (i:=5) (by omega)
      have y6:=(hM2).2.2.1.peek_ (i:=6) (by omega)
      have x0:=(hM2).2.2.1.frozen 0
      have x1:=(hM2).2.2.1.frozen 1
      have x2:=(hM2).2.2.1.frozen 2
      have x3:=(hM2).2.2.1.frozen 3
      have x4:=(hM2).2.2.1.frozen 4
      have x5:=(hM2).2.2.1.frozen 5
      have x6:=(hM2).2.2.1.frozen 6
      simp only [List.getElem?_toArray,List.getElem?_cons_zero,List.getElem?_cons_succ] at e0 e1 e2 e3 e4 e5 e6
      have HM2:=Lib.hid hM2
      clear hM2 hB2
      go_wp2_with fail
      replace fin:=fin.out
      have hF : Blk ((((((((w2.setCell ⟨g,4,none⟩ (.string bgr)).setCell ⟨G + 1,0,none⟩ (.int .i64 md)).setCell ⟨G + 1,1,none⟩ (.int .i64 ud)).setCell ⟨G + 1,2,none⟩ (.int .i64 gd)).setCell ⟨G + 1,3,none⟩ (.string cu)).setCell ⟨G + 1,4,none⟩ (.string bgr)).setCell ⟨G + 1,5,none⟩ (.int .i64 sc)).setCell ⟨G + 1,6,none⟩ (.int .i64 0)) (G + 1) 26 #[(.int .i64 md),(.int .i64 ud),(.int .i64 gd),(.string cu),(.string bgr),(.int .i64 sc),(.int .i64 0)]:=(HM2.out.set_ hg 4 (.string bgr)).2.2.1.fill [(.int .i64 md),(.int .i64 ud),(.int .i64 gd),(.string cu),(.string bgr),(.int .i64 sc),(.int .i64 0)] rfl
      have bF : Below w.heap.size w ((((((((w2.setCell ⟨g,4,none⟩ (.string bgr)).setCell ⟨G + 1,0,none⟩ (.int .i64 md)).setCell ⟨G + 1,1,none⟩ (.int .i64 ud)).setCell ⟨G + 1,2,none⟩ (.int .i64 gd)).setCell ⟨G + 1,3,none⟩ (.string cu)).setCell ⟨G + 1,4,none⟩ (.string bgr)).setCell ⟨G + 1,5,none⟩ (.int .i64 sc)).setCell ⟨G + 1,6,none⟩ (.int .i64 0)):=Below.setAll (g:=G + 1) (by rw [HG.out];omega) [(.int .i64 md),(.int .i64 ud),(.int .i64 gd),(.string cu),(.string bgr),(.int .i64 sc),(.int .i64 0)] 0 (HM2.out.set_ hg 4 (.string bgr)).2.2.2
      obtain ⟨wz,hwz⟩ : ∃ wz,wz=((((((((w2.setCell ⟨g,4,none⟩ (.string bgr)).setCell ⟨G + 1,0,none⟩ (.int .i64 md)).setCell ⟨G + 1,1,none⟩ (.int .i64 ud)).setCell ⟨G + 1,2,none⟩ (.int .i64 gd)).setCell ⟨G + 1,3,none⟩ (.string cu)).setCell ⟨G + 1,4,none⟩ (.string bgr)).setCell ⟨G + 1,5,none⟩ (.int .i64 sc)).setCell ⟨G + 1,6,none⟩ (.int .i64 0)):=⟨_,rfl⟩
      rw [← hwz] at hF bF ⊢
      have BF:=Lib.hid bF
      clear bF hwz e0 e1 e2 e3 e4 e5 e6 z0 z1 z2 z3 z4 z5 z6 y0 y1 y2 y3 y4 y5 y6 x0 x1 x2 x3 x4 x5 x6
      have c0:=hF.cell 0
      have c1:=hF.cell 1
      have c2:=hF.cell 2
      have c3:=hF.cell 3
      have c4:=hF.cell 4
      have c5:=hF.cell 5
      have c6:=hF.cell 6
      simp only [List.getElem?_toArray,List.getElem?_cons_zero,List.getElem?_cons_succ] at c0 c1 c2 c3 c4 c5 c6
      exact bodyPost_ret (v:=.agg #[(.int .i64 md),(.int .i64 ud),(.int .i64 gd),(.string cu),(.string bgr),(.int .i64 sc),(.int .i64 0)]) (by simp [results,Tryz.results26,go_sem,c0,c1,c2,c3,c4,c5,c6]) rfl ⟨fin,BF.out⟩
    · have fin : Ending.returned (.agg #[(.int .i64 md),(.int .i64 ud),(.int .i64 gd),(.string cu),(.string ⟨#[115,116,97,102,102]⟩),(.int .i64 sc),(.int .i64 0)])=Ending.returned (.agg (metaCells (metaOf ⟨kd,a,b,text⟩)).toArray):=by
        rw [hfin.out,← HCU.out];rfl
      have fin:=Lib.hid fin
      go_wp2_with fail
      replace fin:=fin.out
      have hF : Blk (((((((wc.setCell ⟨G + 1,0,none⟩ (.int .i64 md)).setCell ⟨G + 1,1,none⟩ (.int .i64 ud)).setCell ⟨G + 1,2,none⟩ (.int .i64 gd)).setCell ⟨G + 1,3,none⟩ (.string cu)).setCell ⟨G + 1,4,none⟩ (.string ⟨#[115,116,97,102,102]⟩)).setCell ⟨G + 1,5,none⟩ (.int .i64 sc)).setCell ⟨G + 1,6,none⟩ (.int .i64 0)) (G + 1) 26 #[(.int .i64 md),(.int .i64 ud),(.int .i64 gd),(.string cu),(.string ⟨#[115,116,97,102,102]⟩),(.int .i64 sc),(.int .i64 0)]:=(HMf.out).2.2.1.fill [(.int .i64 md),(.int .i64 ud),(.int .i64 gd),(.string cu),(.string ⟨#[115,116,97,102,102]⟩),(.int .i64 sc),(.int .i64 0)] rfl
      have bF : Below w.heap.size w (((((((wc.setCell ⟨G + 1,0,none⟩ (.int .i64 md)).setCell ⟨G + 1,1,none⟩ (.int .i64 ud)).setCell ⟨G + 1,2,none⟩ (.int .i64 gd)).setCell ⟨G + 1,3,none⟩ (.string cu)).setCell ⟨G + 1,4,none⟩ (.string ⟨#[115,116,97,102,102]⟩)).setCell ⟨G + 1,5,none⟩ (.int .i64 sc)).setCell ⟨G + 1,6,none⟩ (.int .i64 0)):=Below.setAll (g:=G + 1) (by rw [HG.out];omega) [(.int .i64 md),(.int .i64 ud),(.int .i64 gd),(.string cu),(.string ⟨#[115,116,97,102,102]⟩),(.int .i64 sc),(.int .i64 0)] 0 (HMf.out).2.2.2
      obtain ⟨wz,hwz⟩ : ∃ wz,wz=(((((((wc.setCell ⟨G + 1,0,none⟩ (.int .i64 md)).setCell ⟨G + 1,1,none⟩ (.int .i64 ud)).setCell ⟨G + 1,2,none⟩ (.int .i64 gd)).setCell ⟨G + 1,3,none⟩ (.string cu)).setCell ⟨G + 1,4,none⟩ (.string ⟨#[115,116,97,102,102]⟩)).setCell ⟨G + 1,5,none⟩ (.int .i64 sc)).setCell ⟨G + 1,6,none⟩ (.int .i64 0)):=⟨_,rfl⟩
      rw [← hwz] at hF bF ⊢
      have BF:=Lib.hid bF
      clear bF hwz e0 e1 e2 e3 e4 e5 e6 z0 z1 z2 z3 z4 z5 z6 y0 y1 y2 y3 y4 y5 y6 x0 x1 x2 x3 x4 x5 x6
      have c0:=hF.cell 0
      have c1:=hF.cell 1
      have c2:=hF.cell 2
      have c3:=hF.cell 3
      have c4:=hF.cell 4
      have c5:=hF.cell 5
      have c6:=hF.cell 6
      simp only [List.getElem?_toArray,List.getElem?_cons_zero,List.getElem?_cons_succ] at c0 c1 c2 c3 c4 c5 c6
      exact bodyPost_ret (v:=.agg #[(.int .i64 md),(.int .i64 ud),(.int .i64 gd),(.string cu),(.string ⟨#[115,116,97,102,102]⟩),(.int .i64 sc),(.int .i64 0)]) (by simp [results,Tryz.results26,go_sem,c0,c1,c2,c3,c4,c5,c6]) rfl ⟨fin,BF.out⟩
    · have fin : Ending.returned (.agg #[(.int .i64 md),(.int .i64 ud),(.int .i64 gd),(.string cu),(.string ⟨#[115,116,97,102,102]⟩),(.int .i64 sc),(.int .i64 0)])=Ending.returned (.agg (metaCells (metaOf ⟨kd,a,b,text⟩)).toArray):=by
        rw [hfin.out,← HCU.out];rfl
      have fin:=Lib.hid fin
      go_wp2_with fail
      replace fin:=fin.out
      have hF : Blk (((((((wc.setCell ⟨G + 1,0,none⟩ (.int .i64 md)).setCell ⟨G + 1,1,none⟩ (.int .i64 ud)).setCell ⟨G + 1,2,none⟩ (.int .i64 gd)).setCell ⟨G + 1,3,none⟩ (.string cu)).setCell ⟨G + 1,4,none⟩ (.string ⟨#[115,116,97,102,102]⟩)).setCell ⟨G + 1,5,none⟩ (.int .i64 sc)).setCell ⟨G + 1,6,none⟩ (.int .i64 0)) (G + 1) 26 #[(.int .i64 md),(.int .i64 ud),(.int .i64 gd),(.string cu),(.string ⟨#[115,116,97,102,102]⟩),(.int .i64 sc),(.int .i64 0)]:=(HMf.out).2.2.1.fill [(.int .i64 md),(.int .i64 ud),(.int .i64 gd),(.string cu),(.string ⟨#[115,116,97,102,102]⟩),(.int .i64 sc),(.int .i64 0)] rfl
      have bF : Below w.heap.size w (((((((wc.setCell ⟨G + 1,0,none⟩ (.int .i64 md)).setCell ⟨G + 1,1,none⟩ (.int .i64 ud)).setCell ⟨G + 1,2,none⟩ (.int .i64 gd)).setCell ⟨G + 1,3,none⟩ (.string cu)).setCell ⟨G + 1,4,none⟩ (.string ⟨#[115,116,97,102,102]⟩)).setCell ⟨G + 1,5,none⟩ (.int .i64 sc)).setCell ⟨G + 1,6,none⟩ (.int .i64 0)):=Below.setAll (g:=G + 1) (by rw [HG.out];omega) [(.int .i64 md),(.int .i64 ud),(.int .i64 gd),(.string cu),(.string ⟨#[115,116,97,102,102]⟩),(.int .i64 sc),(.int .i64 0)] 0 (HMf.out).2.2.2
      obtain ⟨wz,hwz⟩ : ∃ wz,wz=(((((((wc.setCell ⟨G + 1,0,none⟩ (.int .i64 md)).setCell ⟨G + 1,1,none⟩ (.int .i64 ud)).setCell ⟨G + 1,2,none⟩ (.int .i64 gd)).setCell ⟨G + 1,3,none⟩ (.string cu)).setCell ⟨G + 1,4,none⟩ (.string ⟨#[115,116,97,102,102]⟩)).setCell ⟨G + 1,5,none⟩ (.int .i64 sc)).setCell ⟨G + 1,6,none⟩ (.int .i64 0)):=⟨_,rfl⟩
      rw [← hwz] at hF bF ⊢
      have BF:=Lib.hid bF
      clear bF hwz e0 e1 e2 e3 e4 e5 e6 z0 z1 z2 z3 z4 z5 z6 y0 y1 y2 y3 y4 y5 y6 x0 x1 x2 x3 x4 x5 x6
      have c0:=hF.cell 0
      have c1:=hF.cell 1
      have c2:=hF.cell 2
      have c3:=hF.cell 3
      have c4:=hF.cell 4
      have c5:=hF.cell 5
      have c6:=hF.cell 6
      simp only [List.getElem?_toArray,List.getElem?_cons_zero,List.getElem?_cons_succ] at c0 c1 c2 c3 c4 c5 c6
      exact bodyPost_ret (v:=.agg #[(.int .i64 md),(.int .i64 ud),(.int .i64 gd),(.string cu),(.string ⟨#[115,116,97,102,102]⟩),(.int .i64 sc),(.int .i64 0)]) (by simp [results,Tryz.results26,go_sem,c0,c1,c2,c3,c4,c5,c6]) rfl ⟨fin,BF.out⟩
    · have fin : Ending.returned (.agg #[(.int .i64 md),(.int .i64 ud),(.int .i64 gd),(.string cu),(.string ⟨#[115,116,97,102,102]⟩),(.int .i64 sc),(.int .i64 0)])=Ending.returned (.agg (metaCells (metaOf ⟨kd,a,b,text⟩)).toArray):=by
        rw [hfin.out,← HCU.out];rfl
      have fin:=Lib.hid fin
      go_wp2_with fail
      replace fin:=fin.out
      have hF : Blk (((((((wc.setCell ⟨G + 1,0,none⟩ (.int .i64 md)).setCell ⟨G + 1,1,none⟩ (.int .i64 ud)).setCell ⟨G + 1,2,none⟩ (.int .i64 gd)).setCell ⟨G + 1,3,none⟩ (.string cu)).setCell ⟨G + 1,4,none⟩ (.string ⟨#[115,116,97,102,102]⟩)).setCell ⟨G + 1,5,none⟩ (.int .i64 sc)).setCell ⟨G + 1,6,none⟩ (.int .i64 0)) (G + 1) 26 #[(.int .i64 md),(.int .i64 ud),(.int .i64 gd),(.string cu),(.string ⟨#[115,116,97,102,102]⟩),(.int .i64 sc),(.int .i64 0)]:=(HMf.out).2.2.1.fill [(.int .i64 md),(.int .i64 ud),(.int .i64 gd),(.string cu),(.string ⟨#[115,116,97,102,102]⟩),(.int .i64 sc),(.int .i64 0)] rfl
      have bF : Below w.heap.size w (((((((wc.setCell ⟨G + 1,0,none⟩ (.int .i64 md)).setCell ⟨G + 1,1,none⟩ (.int .i64 ud)).setCell ⟨G + 1,2,none⟩ (.int .i64 gd)).setCell ⟨G + 1,3,none⟩ (.string cu)).setCell ⟨G + 1,4,none⟩ (.string ⟨#[115,116,97,102,102]⟩)).setCell ⟨G + 1,5,none⟩ (.int .i64 sc)).setCell ⟨G + 1,6,none⟩ (.int .i64 0)):=Below.setAll (g:=G + 1) (by rw [HG.out];omega) [(.int .i64 md),(.int .i64 ud),(.int .i64 gd),(.string cu),(.string ⟨#[115,116,97,102,102]⟩),(.int .i64 sc),(.int .i64 0)] 0 (HMf.out).2.2.2
      obtain ⟨wz,hwz⟩ : ∃ wz,wz=(((((((wc.setCell ⟨G + 1,0,none⟩ (.int .i64 md)).setCell ⟨G + 1,1,none⟩ (.int .i64 ud)).setCell ⟨G + 1,2,none⟩ (.int .i64 gd)).setCell ⟨G + 1,3,none⟩ (.string cu)).setCell ⟨G + 1,4,none⟩ (.string ⟨#[115,116,97,102,102]⟩)).setCell ⟨G + 1,5,none⟩ (.int .i64 sc)).setCell ⟨G + 1,6,none⟩ (.int .i64 0)):=⟨_,rfl⟩
      rw [← hwz] at hF bF ⊢
      have BF:=Lib.hid bF
      clear bF hwz e0 e1 e2 e3 e4 e5 e6 z0 z1 z2 z3 z4 z5 z6 y0 y1 y2 y3 y4 y5 y6 x0 x1 x2 x3 x4 x5 x6
      have c0:=hF.cell 0
      have c1:=hF.cell 1
      have c2:=hF.cell 2
      have c3:=hF.cell 3
      have c4:=hF.cell 4
      have c5:=hF.cell 5
      have c6:=hF.cell 6
      simp only [List.getElem?_toArray,List.getElem?_cons_zero,List.getElem?_cons_succ] at c0 c1 c2 c3 c4 c5 c6
      exact bodyPost_ret (v:=.agg #[(.int .i64 md),(.int .i64 ud),(.int .i64 gd),(.string cu),(.string ⟨#[115,116,97,102,102]⟩),(.int .i64 sc),(.int .i64 0)]) (by simp [results,Tryz.results26,go_sem,c0,c1,c2,c3,c4,c5,c6]) rfl ⟨fin,BF.out⟩
    · have fin : Ending.returned (.agg #[(.int .i64 md),(.int .i64 ud),(.int .i64 gd),(.string cu),(.string ⟨#[115,116,97,102,102]⟩),(.int .i64 sc),(.int .i64 0)])=Ending.returned (.agg (metaCells (metaOf ⟨kd,a,b,text⟩)).toArray):=by
        rw [hfin.out,← HCU.out];rfl
      have fin:=Lib.hid fin
      go_wp2_with fail
      replace fin:=fin.out
      have hF : Blk (((((((wc.setCell ⟨G + 1,0,none⟩ (.int .i64 md)).setCell ⟨G + 1,1,none⟩ (.int .i64 ud)).setCell ⟨G + 1,2,none⟩ (.int .i64 gd)).setCell ⟨G + 1,3,none⟩ (.string cu)).setCell ⟨G + 1,4,none⟩ (.string ⟨#[115,116,97,102,102]⟩)).setCell ⟨G + 1,5,none⟩ (.int .i64 sc)).setCell ⟨G + 1,6,none⟩ (.int .i64 0)) (G + 1) 26 #[(.int .i64 md),(.int .i64 ud),(.int .i64 gd),(.string cu),(.string ⟨#[115,116,97,102,102]⟩),(.int .i64 sc),(.int .i64 0)]:=(HMf.out).2.2.1.fill [(.int .i64 md),(.int .i64 ud),(.int .i64 gd),(.string cu),(.string ⟨#[115,116,97,102,102]⟩),(.int .i64 sc),(.int .i64 0)] rfl
      have bF : Below w.heap.size w (((((((wc.setCell ⟨G + 1,0,none⟩ (.int .i64 md)).setCell ⟨G + 1,1,none⟩ (.int .i64 ud)).setCell ⟨G + 1,2,none⟩ (.int .i64 gd)).setCell ⟨G + 1,3,none⟩ (.string cu)).setCell ⟨G + 1,4,none⟩ (.string ⟨#[115,116,97,102,102]⟩)).setCell ⟨G + 1,5,none⟩ (.int .i64 sc)).setCell ⟨G + 1,6,none⟩ (.int .i64 0)):=Below.setAll (g:=G + 1) (by rw [HG.out];omega) [(.int .i64 md),(.int .i64 ud),(.int .i64 gd),(.string cu),(.string ⟨#[115,116,97,102,102]⟩),(.int .i64 sc),(.int .i64 0)] 0 (HMf.out).2.2.2
      obtain ⟨wz,hwz⟩ : ∃ wz,wz=(((((((wc.setCell ⟨G + 1,0,none⟩ (.int .i64 md)).setCell ⟨G + 1,1,none⟩ (.int .i64 ud)).setCell ⟨G + 1,2,none⟩ (.int .i64 gd)).setCell ⟨G + 1,3,none⟩ (.string cu)).setCell ⟨G + 1,4,none⟩ (.string ⟨#[115,116,97,102,102]⟩)).setCell ⟨G + 1,5,none⟩ (.int .i64 sc)).setCell ⟨G + 1,6,none⟩ (.int .i64 0)):=⟨_,rfl⟩
      rw [← hwz] at hF bF ⊢
      have BF:=Lib.hid bF
      clear bF hwz e0 e1 e2 e3 e4 e5 e6 z0 z1 z2 z3 z4 z5 z6 y0 y1 y2 y3 y4 y5 y6 x0 x1 x2 x3 x4 x5 x6
      have c0:=hF.cell 0
      have c1:=hF.cell 1
      have c2:=hF.cell 2
      have c3:=hF.cell 3
      have c4:=hF.cell 4
      have c5:=hF.cell 5
      have c6:=hF.cell 6
      simp only [List.getElem?_toArray,List.getElem?_cons_zero,List.getElem?_cons_succ] at c0 c1 c2 c3 c4 c5 c6
      exact bodyPost_ret (v:=.agg #[(.int .i64 md),(.int .i64 ud),(.int .i64 gd),(.string cu),(.string ⟨#[115,116,97,102,102]⟩),(.int .i64 sc),(.int .i64 0)]) (by simp [results,Tryz.results26,go_sem,c0,c1,c2,c3,c4,c5,c6]) rfl ⟨fin,BF.out⟩
end
section
section
open Go.RowKit
def isDig (b : UInt8) : Bool:=decide (48≤b.toNat) && decide (b.toNat≤57)
def valStep (n : Nat) (b : UInt8) : Nat:=10 * n + (b.toNat - 48)
def valD (l : List UInt8) : Nat:=l.foldl valStep 0
theorem valD_snoc (l : List UInt8) (b : UInt8) : valD (l ++ [b])=10 * valD l + (b.toNat - 48):=by simp [valD,valStep]
theorem digB (k : Nat) (h : k < 10) : (UInt8.ofNat (48 + k)).toNat=48 + k:=by rw [UInt8.toNat_ofNat'];omega
theorem dec_small {n : Nat} (h : n < 10) : Lib.decDigits n=[UInt8.ofNat (48 + n)]:=Lib.decDigits_one h
theorem dec_big {n : Nat} (h : ¬ n < 10) : Lib.decDigits n=Lib.decDigits (n / 10) ++ [UInt8.ofNat (48 + n % 10)]:=by rw [Lib.decDigits,dif_neg h]
theorem dec_ind {P : Nat→List UInt8→Prop} (h1 : ∀ n,n < 10→P n [UInt8.ofNat (48 + n)]) (h2 : ∀ n,¬ n < 10→P (n / 10) (Lib.decDigits (n / 10))→P n (Lib.decDigits (n / 10) ++ [UInt8.ofNat (48 + n % 10)])) (n : Nat) : P n (Lib.decDigits n):=by
  induction n using Nat.strongRecOn with
  | ind n ih =>
    by_cases h : n < 10
    · rw [dec_small h];exact h1 n h
    · rw [dec_big h];exact h2 n h (ih _ (by omega))
theorem dec_digs (n : Nat) : (Lib.decDigits n).all isDig=true:=by
  refine dec_ind (P:=fun _ l => l.all isDig=true) (fun n h => ?_) (fun n h ih => ?_) n
  · have:=digB n h
    simp [isDig];omega
  · have:=digB (n % 10) (by omega)
    rw [List.all_append,ih]
    simp [isDig];omega
theorem dec_ne (n : Nat) : Lib.decDigits n≠[]:=by
  refine dec_ind (P:=fun _ l => l≠[]) (fun n h => ?_) (fun n h ih => ?_) n <;> simp
theorem dec_len : ∀ (k n : Nat),n < 10 ^ (k + 1)→(Lib.decDigits n).length≤k + 1
  | 0,n,h => by rw [dec_small (by simpa using h)];simp
  | k + 1,n,h => by
    by_cases h1 : n < 10
    · rw [dec_small h1];simp
    · rw [dec_big h1,List.length_append]
      have h2 : n / 10 < 10 ^ (k + 1):=by
        rw [Nat.div_lt_iff_lt_mul (by omega)]
        rw [Nat.pow_succ] at h
        exact h
      have:=dec_len k (n / 10) h2
      simp only [List.length_singleton]
      omega
theorem dec_mem {n : Nat} {b : UInt8} (h : b∈Lib.decDigits n) : 48≤b.toNat∧b.toNat≤57:=by
  have:=List.all_eq_true.1 (dec_digs n) b h
  simpa [isDig] using this
theorem dec_not {n : Nat} {b : UInt8} (h : b.toNat < 48∨57 < b.toNat) : b ∉ Lib.decDigits n:=fun hb => by
  have:=dec_mem hb
  omega
theorem trimR_nil (c : UInt8) : Lib.trimRightB [] c=[]:=rfl
theorem trimR_snoc (l : List UInt8) (b c : UInt8) : Lib.trimRightB (l ++ [b]) c=if b=c then Lib.trimRightB l c else l ++ [b]:=by
  unfold Lib.trimRightB
  rw [List.reverse_append]
  simp only [List.reverse_cons,List.reverse_nil,List.nil_append,List.cons_append]
  by_cases h : b=c
  · rw [List.dropWhile_cons_of_pos (by simpa using h),if_pos h]
  · rw [List.dropWhile_cons_of_neg (by simpa using h),if_neg h];simp
theorem trimR_split (c : UInt8) (l : List UInt8) : ∃ k,l=Lib.trimRightB l c ++ List.replicate k c∧∀ r x,Lib.trimRightB l c=r ++ [x]→x≠c:=by
  rcases List.eq_nil_or_concat l with rfl | ⟨l',b,rfl⟩
  · exact ⟨0,rfl,fun r x h => by simp [trimR_nil] at h⟩
  · rw [List.concat_eq_append,trimR_snoc]
    by_cases h : b=c
    · rw [if_pos h]
      obtain ⟨k,e,hx⟩:=trimR_split c l'
      refine ⟨k + 1,?_,hx⟩
      rw [h,List.replicate_succ',← List.append_assoc,← e]
    · rw [if_neg h]
      refine ⟨0,by simp,fun r x e => ?_⟩
      have:=List.append_inj_right' e rfl
      simp only [List.cons.injEq,and_true] at this
      rw [← this];exact h
termination_by l.length
decreasing_by simp_all
def pad9 (n : Nat) : List UInt8:=List.replicate (9 - (Lib.decDigits n).length) 48 ++ Lib.decDigits n
def frac (n : Nat) : List UInt8:=Lib.trimRightB (pad9 n) 48
def bodyS (s f : Nat) : List UInt8:=Lib.decDigits s ++ if f=0 then [] else 46 :: frac f
def absT (second nano : Int) : Nat × Nat:=if second < 0 then (if 0 < nano then ((-second - 1).toNat,(1000000000 - nano).toNat) else ((-second).toNat,0)) else (second.toNat,nano.toNat)
def textT (second nano : Int) : List UInt8:=(if second < 0 then [45] else []) ++ bodyS (absT second nano).1 (absT second nano).2
theorem pad9_length (n : Nat) (h : n < 1000000000) : (pad9 n).length=9:=by
  have:=dec_len 8 n (by simpa using h)
  simp [pad9];omega
theorem frac_len (n : Nat) (h : n < 1000000000) : (frac n).length≤9:=by
  obtain ⟨k,h1,_⟩:=trimR_split 48 (pad9 n)
  have h2:=congrArg List.length h1
  rw [pad9_length n h,List.length_append] at h2
  show (Lib.trimRightB (pad9 n) 48).length≤9
  omega
theorem cut_at {c : UInt8} {a r : List UInt8} (h : c ∉ a) : Lib.cut (a ++ c :: r) [c]=(a,r,true):=by
  unfold Lib.cut
  rw [Lib.index_one,indexByte_at h,if_pos (by omega)]
  simp only [Int.toNat_natCast,List.length_singleton]
  simp
theorem cut_not {c : UInt8} {a : List UInt8} (h : c ∉ a) : Lib.cut a [c]=(a,[],false):=by
  unfold Lib.cut
  rw [Lib.index_one,indexByte_not h]
  rfl
end
section
open Go.RowKit
def P10 (w : World) : Prop := Lib.TabIs Tryz.prog w "internal/strconv.uint64pow10" .u64 Lib.pow10Tab
theorem P10.below {w w' : World} (h : P10 w) (hb : Below w.heap.size w w') : P10 w':=Lib.tabBelow_of_tabIs h w' hb
def ten (x : String × DataW Unit) : Bool := x.1 == "internal/strconv.uint64pow10"
theorem P10.of_laid {l : List (String × DataW Unit)} {W : World} (h : laidMetH Tryz.prog l W) (hx : l.filter ten = [("internal/strconv.uint64pow10", Lib.tabData .u64 Lib.pow10Tab)]) : P10 W := by
  have h2:=h.filter ten
  rw [hx] at h2
  exact Lib.tabIs_of_head (P:=Tryz.prog) (g:=5) (t:=347) (e:=200) (n:=20) (by kernel_rfl) (by kernel_rfl) (by kernel_rfl) (by kernel_rfl) (by kernel_rfl) (by kernel_rfl) h2
theorem Itoa_any (n : Int) (hn : I64 n) (w : World) (h : P10 w) :
    Calls Tryz.prog 144 #[.int .i64 n] w fun e w' => e=.returned (.string (bs (Lib.itoa n)))∧Below w.heap.size w w' :=
  (Tryz.strconv_Itoa n hn.1 hn.2 w h).mono fun e w' ⟨h1,k,os,h2⟩ => ⟨h1,by rw [h2];exact Lib.below_grow _ w (Nat.le_refl _) k os⟩
end
section
open Go.RowKit
def timeOk (s n : Int) : Prop:=-1099511627776≤s∧s≤1099511627776∧0≤n∧n≤999999999
set_option maxHeartbeats 400000 in
theorem SCheck_ok (s n : Int) (h : timeOk s n) (w : World) :
    Calls Tryz.prog 142 #[.int .i64 s,.int .i64 n] w fun e w' => e=.returned (.int .i64 0)∧w=w':=by
  obtain ⟨h1,h2,h3,h4⟩:=h
  go_enter Tryz.func142,Tryz.ntmps142
  go_wp2_with fail
  go_ret
  exact ⟨rfl,rfl⟩
set_option maxHeartbeats 800000 in
theorem SCheck_no (s n : Int) (h : ¬ timeOk s n) (w : World) :
    Calls Tryz.prog 142 #[.int .i64 s,.int .i64 n] w fun e w' => e=.returned (.int .i64 4)∧w=w':=by
  by_cases h1 : s < -1099511627776
  · go_enter Tryz.func142,Tryz.ntmps142
    go_wp2_with fail
    go_ret
    exact ⟨rfl,rfl⟩
  by_cases h2 : 1099511627776 < s
  · go_enter Tryz.func142,Tryz.ntmps142
    go_wp2_with fail
    go_ret
    exact ⟨rfl,rfl⟩
  by_cases h3 : n < 0
  · go_enter Tryz.func142,Tryz.ntmps142
    go_wp2_with fail
    go_ret
    exact ⟨rfl,rfl⟩
  have h4 : 999999999 < n:=by
    unfold timeOk at h
    omega
  go_enter Tryz.func142,Tryz.ntmps142
  go_wp2_with fail
  go_ret
  exact ⟨rfl,rfl⟩
theorem itoa_nat (n : Nat) : Lib.itoa (n : Int)=Lib.decDigits n:=Lib.itoa_nonneg n
theorem TrimRight_0 (l : List UInt8) (w : World) (hs : l.length≤1000) :
    Calls Tryz.prog 145 #[.string (bs l),.string ⟨#[48]⟩] w fun e w' => e=.returned (.string (bs (Lib.trimRightB l 48)))∧w=w' :=
  (Tryz.strings_TrimRight_one (bs l) 48 (by decide) w (by rw [bs_size];omega)).mono fun e w' ⟨h1,h2⟩ => ⟨by rw [h1,bs_data];rfl,h2.symm⟩
theorem dec13 (n : Nat) (h : n≤1099511627776) : (Lib.decDigits n).length≤13:=dec_len 12 n (by omega)
theorem dec9 (n : Nat) (h : n < 1000000000) : (Lib.decDigits n).length≤9:=dec_len 8 n (by omega)
def Sg (second : Int) : List UInt8:=if second < 0 then [45] else []
theorem textT_eq (second nano : Int) {S F : Nat} (h : absT second nano=(S,F)) : textT second nano=Sg second ++ bodyS S F:=by
  unfold textT Sg;rw [h]
theorem text_zero {second nano : Int} {S : Nat} (h : absT second nano=(S,0)) : bs (Sg second) ++ bs (Lib.decDigits S)=bs (textT second nano):=by
  rw [textT_eq second nano h,bs_append];simp [bodyS]
theorem text_frac {second nano : Int} {S F : Nat} (h : absT second nano=(S,F)) (hF : F≠0) :
    bs (Sg second) ++ bs (Lib.decDigits S) ++ ⟨#[46]⟩ ++ bs (frac F)=bs (textT second nano):=by
  rw [textT_eq second nano h,show (⟨#[46]⟩ : ByteArray)=bs [46] from rfl,bs_append,bs_append,bs_append]
  unfold bodyS;rw [if_neg hF];simp
theorem pad_eq (F : Nat) : bs (List.replicate (9 - (Lib.decDigits F).length) 48) ++ bs (Lib.decDigits F)=bs (pad9 F):=bs_append _ _
theorem Itoa_as (n : Int) (S : Nat) (h : n=S) (h2 : S≤1099511627776) (w : World) (h10 : P10 w) :
    Calls Tryz.prog 144 #[.int .i64 n] w fun e w' => e=.returned (.string (bs (Lib.decDigits S)))∧Below w.heap.size w w':=by
  subst h
  exact (Itoa_any S ⟨by omega,by omega⟩ w h10).mono fun e w' ⟨h1,h2⟩ => ⟨by rw [h1,itoa_nat],h2⟩
theorem Repeat_0 (n : Nat) (x : Int) (h : x=n) (h2 : n≤1000) (w : World) :
    Calls Tryz.prog 27 #[.string ⟨#[48]⟩,.int .i64 x] w fun e w' => e=.returned (.string (bs (List.replicate n 48)))∧Below w.heap.size w w':=by
  subst h
  exact Repeat_byte 48 n w (by omega)
theorem Trim_pad (F : Nat) (h : F < 1000000000) (w : World) :
    Calls Tryz.prog 145 #[.string (bs (pad9 F)),.string ⟨#[48]⟩] w fun e w' => e=.returned (.string (bs (frac F)))∧w=w' :=
  TrimRight_0 (pad9 F) w (by rw [pad9_length F h];omega)
set_option maxRecDepth 100000 in
set_option maxHeartbeats 1000000 in
theorem Text_negfrac (second nano : Int) (h : timeOk second nano) (hs : second < 0) (hn : 0 < nano) (w : World) (h10 : P10 w) :
    Calls Tryz.prog 93 #[.int .i64 second,.int .i64 nano] w fun e w' => e=.returned (.tuple #[.string (bs (textT second nano)),.int .i64 0])∧Below w.heap.size w w':=by
  have hC:=Lib.hid (fun w => SCheck_ok second nano h w)
  obtain ⟨h1,h2,h3,h4⟩:=h
  have H10:=Lib.hid h10
  clear h10
  have sg : bs (Sg second)=⟨#[45]⟩:=by unfold Sg;rw [if_pos hs];rfl
  have zg : (ByteArray.mk #[45]).size=1:=rfl
  obtain ⟨S,hS⟩:=Int.eq_ofNat_of_zero_le (show 0≤-second - 1 by omega)
  obtain ⟨F,hF⟩:=Int.eq_ofNat_of_zero_le (show 0≤1000000000 - nano by omega)
  have ha : absT second nano=(S,F):=by unfold absT;rw [if_pos hs,if_pos hn,hS,hF];simp
  have hF1 : F < 1000000000:=by omega
  have fin:=text_frac ha (by omega)
  rw [sg] at fin
  have Fin:=Lib.hid fin
  have hI1:=Lib.hid (fun w h => Itoa_as (-second - 1) S hS (by omega) w h)
  have hI2:=Lib.hid (fun w h => Itoa_as (1000000000 - nano) F hF (by omega) w h)
  have hp:=pad_eq F
  have lS:=dec13 S (by omega)
  have lF:=dec9 F (by omega)
  have lP:=pad9_length F (by omega)
  have lQ:=frac_len F (by omega)
  have hT:=Lib.hid (fun w => Trim_pad F hF1 w)
  have zS:=bs_size (Lib.decDigits S)
  have zF:=bs_size (Lib.decDigits F)
  have zP:=bs_size (pad9 F)
  have zQ:=bs_size (frac F)
  rw [lP] at zP
  have hR:=Lib.hid (fun x h w => Repeat_0 (9 - (Lib.decDigits F).length) x h (by omega) w)
  have zR:=bs_rep_size 48 (9 - (Lib.decDigits F).length)
  have zz : 9 - (Lib.decDigits F).length≤9:=by omega
  clear sg fin ha lP
  have HS:=Lib.hid hS;have HF:=Lib.hid hF
  clear hS hF
  generalize bs (List.replicate (9 - (Lib.decDigits F).length) 48)=bR at *
  generalize bs (pad9 F)=bP at *
  generalize bs (frac F)=bQ at *
  generalize (frac F).length=nQ at *
  generalize bs (Lib.decDigits S)=bS at *
  generalize bs (Lib.decDigits F)=bF at *
  generalize (Lib.decDigits S).length=nS at *
  generalize hnF : (Lib.decDigits F).length=nF at *
  clear hnF
  go_enter Tryz.func93,Tryz.ntmps93
  go_wp2_with fail
  refine (hC.out _).mono ?_
  rintro e w' ⟨rfl,rfl⟩
  go_wp2_with fail
  refine (hI1.out _ H10.out).mono ?_
  rintro e w1 ⟨rfl,b1⟩
  go_wp2_with fail
  refine (hI2.out _ (H10.out.below b1)).mono ?_
  rintro e w2 ⟨rfl,b2⟩
  go_wp2_with fail
  refine (hR.out _ (by omega) _).mono ?_
  rintro e w3 ⟨rfl,b3⟩
  go_wp2_with fail
  refine (hT.out _).mono ?_
  rintro e w' ⟨rfl,rfl⟩
  have kb:=Lib.hid (b1.trans ((b2.trans (b3.mono b2.size)).mono b1.size))
  clear b1 b2 b3
  go_wp2_with fail
  go_ret2
  exact ⟨ret_si (Fin.out) rfl,kb.out⟩
set_option maxRecDepth 100000 in
set_option maxHeartbeats 1000000 in
theorem Text_posfrac (second nano : Int) (h : timeOk second nano) (hs : ¬ second < 0) (hn : 0 < nano) (w : World) (h10 : P10 w) :
    Calls Tryz.prog 93 #[.int .i64 second,.int .i64 nano] w fun e w' => e=.returned (.tuple #[.string (bs (textT second nano)),.int .i64 0])∧Below w.heap.size w w':=by
  have hC:=Lib.hid (fun w => SCheck_ok second nano h w)
  obtain ⟨h1,h2,h3,h4⟩:=h
  have H10:=Lib.hid h10
  clear h10
  have sg : bs (Sg second)=⟨#[]⟩:=by unfold Sg;rw [if_neg hs];rfl
  have zg : (ByteArray.mk #[]).size=0:=rfl
  obtain ⟨S,hS⟩:=Int.eq_ofNat_of_zero_le (show 0≤second by omega)
  obtain ⟨F,hF⟩:=Int.eq_ofNat_of_zero_le (show 0≤nano by omega)
  have ha : absT second nano=(S,F):=by unfold absT;rw [if_neg hs,hS,hF];simp
  have hF1 : F < 1000000000:=by omega
  have fin:=text_frac ha (by omega)
  rw [sg] at fin
  have Fin:=Lib.hid fin
  have hI1:=Lib.hid (fun w h => Itoa_as (second) S hS (by omega) w h)
  have hI2:=Lib.hid (fun w h => Itoa_as (nano) F hF (by omega) w h)
  have hp:=pad_eq F
  have lS:=dec13 S (by omega)
  have lF:=dec9 F (by omega)
  have lP:=pad9_length F (by omega)
  have lQ:=frac_len F (by omega)
  have hT:=Lib.hid (fun w => Trim_pad F hF1 w)
  have zS:=bs_size (Lib.decDigits S)
  have zF:=bs_size (Lib.decDigits F)
  have zP:=bs_size (pad9 F)
  have zQ:=bs_size (frac F)
  rw [lP] at zP
  have hR:=Lib.hid (fun x h w => Repeat_0 (9 - (Lib.decDigits F).length) x h (by omega) w)
  have zR:=bs_rep_size 48 (9 - (Lib.decDigits F).length)
  have zz : 9 - (Lib.decDigits F).length≤9:=by omega
  clear sg fin ha lP
  have HS:=Lib.hid hS;have HF:=Lib.hid hF
  clear hS hF
  generalize bs (List.replicate (9 - (Lib.decDigits F).length) 48)=bR at *
  generalize bs (pad9 F)=bP at *
  generalize bs (frac F)=bQ at *
  generalize (frac F).length=nQ at *
  generalize bs (Lib.decDigits S)=bS at *
  generalize bs (Lib.decDigits F)=bF at *
  generalize (Lib.decDigits S).length=nS at *
  generalize hnF : (Lib.decDigits F).length=nF at *
  clear hnF
  go_enter Tryz.func93,Tryz.ntmps93
  go_wp2_with fail
  refine (hC.out _).mono ?_
  rintro e w' ⟨rfl,rfl⟩
  go_wp2_with fail
  refine (hI1.out _ H10.out).mono ?_
  rintro e w1 ⟨rfl,b1⟩
  go_wp2_with fail
  refine (hI2.out _ (H10.out.below b1)).mono ?_
  rintro e w2 ⟨rfl,b2⟩
  go_wp2_with fail
  refine (hR.out _ (by omega) _).mono ?_
  rintro e w3 ⟨rfl,b3⟩
  go_wp2_with fail
  refine (hT.out _).mono ?_
  rintro e w' ⟨rfl,rfl⟩
  have kb:=Lib.hid (b1.trans ((b2.trans (b3.mono b2.size)).mono b1.size))
  clear b1 b2 b3
  go_wp2_with fail
  go_ret2
  exact ⟨ret_si (Fin.out) rfl,kb.out⟩
set_option maxRecDepth 100000 in
set_option maxHeartbeats 1000000 in
theorem Text_neg (second nano : Int) (h : timeOk second nano) (hs : second < 0) (hn : ¬ 0 < nano) (w : World) (h10 : P10 w) :
    Calls Tryz.prog 93 #[.int .i64 second,.int .i64 nano] w fun e w' => e=.returned (.tuple #[.string (bs (textT second nano)),.int .i64 0])∧Below w.heap.size w w':=by
  have hC:=Lib.hid (fun w => SCheck_ok second nano h w)
  obtain ⟨h1,h2,h3,h4⟩:=h
  have H10:=Lib.hid h10
  clear h10
  have sg : bs (Sg second)=⟨#[45]⟩:=by unfold Sg;rw [if_pos hs];rfl
  have zg : (ByteArray.mk #[45]).size=1:=rfl
  obtain ⟨S,hS⟩:=Int.eq_ofNat_of_zero_le (show 0≤-second by omega)
  have ha : absT second nano=(S,0):=by unfold absT;rw [if_pos hs,if_neg hn,hS];simp;try omega
  have fin:=text_zero ha
  rw [sg] at fin
  have Fin:=Lib.hid fin
  have hI1:=Lib.hid (fun w h => Itoa_as (-second) S hS (by omega) w h)
  have lS:=dec13 S (by omega)
  have zS:=bs_size (Lib.decDigits S)
  have hn0 : (nano == 0)=true:=by rw [beq_iff_eq];omega
  clear sg fin ha
  have HS:=Lib.hid hS
  clear hS
  generalize bs (Lib.decDigits S)=bS at *
  generalize (Lib.decDigits S).length=nS at *
  go_enter Tryz.func93,Tryz.ntmps93
  go_wp2_with fail
  refine (hC.out _).mono ?_
  rintro e w' ⟨rfl,rfl⟩
  go_wp2_with fail
  refine (hI1.out _ H10.out).mono ?_
  rintro e w1 ⟨rfl,b1⟩
  go_wp2_with fail
  go_ret2
  exact ⟨ret_si (Fin.out) rfl,b1⟩
set_option maxRecDepth 100000 in
set_option maxHeartbeats 1000000 in
theorem Text_pos (second nano : Int) (h : timeOk second nano) (hs : ¬ second < 0) (hn : ¬ 0 < nano) (w : World) (h10 : P10 w) :
    Calls Tryz.prog 93 #[.int .i64 second,.int .i64 nano] w fun e w' => e=.returned (.tuple #[.string (bs (textT second nano)),.int .i64 0])∧Below w.heap.size w w':=by
  have hC:=Lib.hid (fun w => SCheck_ok second nano h w)
  obtain ⟨h1,h2,h3,h4⟩:=h
  have H10:=Lib.hid h10
  clear h10
  have sg : bs (Sg second)=⟨#[]⟩:=by unfold Sg;rw [if_neg hs];rfl
  have zg : (ByteArray.mk #[]).size=0:=rfl
  obtain ⟨S,hS⟩:=Int.eq_ofNat_of_zero_le (show 0≤second by omega)
  have ha : absT second nano=(S,0):=by unfold absT;rw [if_neg hs,hS];simp;try omega
  have fin:=text_zero ha
  rw [sg] at fin
  have Fin:=Lib.hid fin
  have hI1:=Lib.hid (fun w h => Itoa_as (second) S hS (by omega) w h)
  have lS:=dec13 S (by omega)
  have zS:=bs_size (Lib.decDigits S)
  have hn0 : (nano == 0)=true:=by rw [beq_iff_eq];omega
  clear sg fin ha
  have HS:=Lib.hid hS
  clear hS
  generalize bs (Lib.decDigits S)=bS at *
  generalize (Lib.decDigits S).length=nS at *
  go_enter Tryz.func93,Tryz.ntmps93
  go_wp2_with fail
  refine (hC.out _).mono ?_
  rintro e w' ⟨rfl,rfl⟩
  go_wp2_with fail
  refine (hI1.out _ H10.out).mono ?_
  rintro e w1 ⟨rfl,b1⟩
  go_wp2_with fail
  go_ret2
  exact ⟨ret_si (Fin.out) rfl,b1⟩
theorem Text_ok (second nano : Int) (h : timeOk second nano) (w : World) (h10 : P10 w) :
    Calls Tryz.prog 93 #[.int .i64 second,.int .i64 nano] w fun e w' => e=.returned (.tuple #[.string (bs (textT second nano)),.int .i64 0])∧Below w.heap.size w w':=by
  by_cases hs : second < 0 <;> by_cases hn : 0 < nano
  · exact Text_negfrac second nano h hs hn w h10
  · exact Text_neg second nano h hs hn w h10
  · exact Text_posfrac second nano h hs hn w h10
  · exact Text_pos second nano h hs hn w h10
set_option maxHeartbeats 400000 in
theorem Text_no (second nano : Int) (h : ¬ timeOk second nano) (w : World) :
    Calls Tryz.prog 93 #[.int .i64 second,.int .i64 nano] w fun e w' => e=.returned (.tuple #[.string (bs []),.int .i64 4])∧w=w':=by
  go_enter Tryz.func93,Tryz.ntmps93
  go_wp2_with fail
  refine (SCheck_no second nano h _).mono ?_
  rintro e w' ⟨rfl,rfl⟩
  go_wp2_with fail
  go_ret2
  exact ⟨rfl,rfl⟩
end
end
section
open Go.RowKit
structure MetaOk (m : MetaP) : Prop where
  mode : 0≤m.mode∧m.mode≤4095
  uid : 0≤m.uid∧m.uid≤1125899906842624
  gid : 0≤m.gid∧m.gid≤1125899906842624
  user : m.user.length≤60∧(0 : UInt8) ∉ m.user
  group : m.group.length≤60∧(0 : UInt8) ∉ m.group
  time : timeOk m.second m.nano
theorem metaOf_ok (r : RawS) : MetaOk (metaOf r):=by
  have b1:=pick_bd r.a 4096 (by omega)
  have b2:=pick_bd r.b 3000 (by omega)
  have b3:=pick_bd r.a 3000 (by omega)
  have b4:=pick_bd r.b 17179869184 (by omega)
  have b5:=pick_bd r.a 1000000000 (by omega)
  have b6:=pick_bd r.b 1125899906842625 (by omega)
  have b7:=pick_bd r.a 1125899906842625 (by omega)
  have b8:=pick_bd r.a 61 (by omega)
  have c1:=cleanS_length r.text 40
  have c2:=cleanS_no r.text 40
  have s1 : (0 : UInt8) ∉ staffS:=by decide
  have s2 : staffS.length=5:=rfl
  have hB : MetaOk (metaBase r):=⟨⟨by show 0≤pick r.a 4096;omega,by show pick r.a 4096≤_;omega⟩,⟨by show 0≤pick r.b 3000;omega,by show pick r.b 3000≤_;omega⟩,⟨by show 0≤pick r.a 3000;omega,by show pick r.a 3000≤_;omega⟩,⟨by show (cleanS r.text 40).length≤_;omega,c2⟩,⟨by show staffS.length≤_;omega,s1⟩,
    ⟨by show _≤pick r.b 17179869184;omega,by show pick r.b 17179869184≤_;omega,by show (0 : Int)≤0;omega,by show (0 : Int)≤_;omega⟩⟩
  unfold metaOf
  generalize (pick r.kind 9).toNat=k
  unfold metaPick
  split
  · exact { hB with time:=⟨hB.time.1,hB.time.2.1,b5.1,by show pick r.a 1000000000≤_;omega⟩ }
  · exact { hB with time:=⟨by show _≤-pick r.b 17179869184 - 1;omega,by show -pick r.b 17179869184 - 1≤_;omega,hB.time.2.2.1,hB.time.2.2.2⟩ }
  · exact { hB with uid:=⟨b6.1,by show pick r.b 1125899906842625≤_;omega⟩ }
  · exact { hB with gid:=⟨b7.1,by show pick r.a 1125899906842625≤_;omega⟩ }
  · exact { hB with group:=⟨by show (List.replicate _ (103 : UInt8)).length≤_;rw [List.length_replicate];omega,by show (0 : UInt8) ∉ List.replicate _ (103 : UInt8);rw [List.mem_replicate];simp⟩ }
  · exact hB
set_option maxHeartbeats 1000000 in
theorem MCheck_ok (m : MetaP) (h : MetaOk m) (w : World) :
    Calls Tryz.prog 88 #[.agg (metaCells m).toArray] w fun e w' => e=.returned (.int .i64 0)∧Below w.heap.size w w':=by
  obtain ⟨md,ud,gd,us,gr,sc,nn⟩:=m
  obtain ⟨⟨h1,h2⟩,⟨h3,h4⟩,⟨h5,h6⟩,⟨h7,h8⟩,⟨h9,h10⟩,h11⟩:=h
  simp only at h1 h2 h3 h4 h5 h6 h7 h8 h9 h10 h11
  have hS:=Lib.hid (fun w => SCheck_ok sc nn h11 w)
  have hix : Lib.indexByte (us ++ gr) 0=-1:=indexByte_not (by rw [List.mem_append];exact fun h => h.elim h8 h10)
  have hI:=Lib.hid (fun w => IndexByte_nul (us ++ gr) w)
  rw [hix] at hI
  have hap:=bs_append us gr
  have z1:=bs_size us
  have z2:=bs_size gr
  rw [← hap] at hI
  clear hix h8 h10 h11 hap
  unfold metaCells
  simp only
  generalize bs us=bu at *
  generalize bs gr=bg at *
  go_enter Tryz.func88,Tryz.ntmps88
  go_wp2_with fail
  refine (hI.out _).mono ?_
  rintro e w' ⟨rfl,rfl⟩
  go_wp2_with fail
  refine (hS.out _).mono ?_
  rintro e w' ⟨rfl,rfl⟩
  go_wp2_with fail
  go_ret
  exact ⟨rfl,(Below.refl _ _).alloc (Nat.le_refl _) _⟩
end
end Go.Proofs.YtphmhmdcaafmdaaGreatDoor
