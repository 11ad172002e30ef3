import Derived.Test.YtphmhmdcaafmdaaGreatDoorPathW
import Derived.Test.YtphmhmdcaafmdaaGreatDoorFields
import Derived.BigQuiet
import Derived.Deep.QuietTactic
namespace Go.Proofs.YtphmhmdcaafmdaaGreatDoor
set_option linter.all false
section
open Go.RowKit
def items (c : UInt8) (inn : Bool) : List UInt8→Bool
  | [] => inn
  | low :: b => if 2≤b.length∧b.headD 0=45 then items c (inn || (decide (low≤c) && decide (c≤b.tail.headD 0))) (b.drop 2) else items c (inn || (decide (low≤c) && decide (c≤low))) b
termination_by l => l.length
decreasing_by all_goals (simp only [List.length_drop,List.length_cons];omega)
def setT (neg : Bool) (x : UInt8) (body : List UInt8) : List UInt8:=91 :: ((if neg then [33] else []) ++ (x :: (body ++ [93])))
theorem le_byte (a b : UInt8) : decide ((a.toNat : Int)≤(b.toNat : Int))=decide (a≤b):=by
  rw [decide_eq_decide,UInt8.le_iff_toNat_le];omega
theorem bs_drop1 (a : UInt8) (l : List UInt8) : (bs (a :: l)).extract 1 (l.length + 1)=bs l:=by
  rw [bs_extract];congr 1;simp
theorem bs_at0 (a : UInt8) (l : List UInt8) (h : 0 < (bs (a :: l)).size) : (((bs (a :: l))[0]'h).toNat : Int)=a.toNat:=by rw [bs_get];rfl
theorem nat_byte {c d : UInt8} (h : c≠d) : ¬ (c.toNat : Int)=d.toNat:=fun e => h (UInt8.toNat.inj (by omega))
theorem hasPrefix_one (a b : UInt8) (l : List UInt8) : Lib.hasPrefix (a :: l) [b]=(b == a):=by simp [Lib.hasPrefix,List.isPrefixOf]
theorem ret_bs {a b : Bool} {s t : ByteArray} (h : a=b) (h2 : s=t) : Ending.returned (.tuple #[.bool a,.string s])=.returned (.tuple #[.bool b,.string t]):=by rw [h,h2]
theorem items_one {c low : UInt8} {inn : Bool} {b : List UInt8} (h : ¬ (2≤b.length∧b.headD 0=45)) : items c inn (low :: b)=items c (inn || (decide (low≤c) && decide (c≤low))) b:=by
  rw [items,if_neg h]
theorem items_range {c low h : UInt8} {inn : Bool} {b : List UInt8} : items c inn (low :: 45 :: h :: b)=items c (inn || (decide (low≤c) && decide (c≤h))) b:=by
  rw [items,if_pos ⟨by simp,rfl⟩];rfl
theorem items_nil (c : UInt8) (inn : Bool) : items c inn []=inn:=by rw [items]
def SetRel (_neg : Bool) (x : UInt8) (body : List UInt8) (c : UInt8) (w : World) (r i k : Value) (wr : World) : Prop :=
  ∃ (cur : List UInt8) (inn : Bool) (kk : Nat),r=.string (bs (cur ++ [93]))∧i=.bool inn∧k=.int .i64 kk∧kk + cur.length≤body.length + 1∧(kk=0∧cur≠[]∨0 < kk∧(93 : UInt8) ∉ cur)∧(93 : UInt8) ∉ cur.tail∧Hid (items c false (x :: body)=items c inn cur)∧wr=w
def strLen (v : Value) : Nat:=match v with | .string s => s.size | _ => 0
theorem bs_drop2 (a b : UInt8) (l : List UInt8) : (bs (a :: b :: l)).extract 2 (l.length + 2)=bs l:=by
  rw [bs_extract];congr 1;simp
set_option maxRecDepth 100000 in
set_option maxHeartbeats 8000000 in
theorem set_any (neg : Bool) (x : UInt8) (body : List UInt8) (c : UInt8) (hx : neg=false→x≠33) (hb : (93 : UInt8) ∉ body) (hl : body.length≤1000) (w : World) :
    Calls Tryz.prog 263 #[.string (bs (setT neg x body)),.int .u8 c.toNat] w fun e w' => ∃ t,e=.returned (.tuple #[.bool (items c false (x :: body) != neg),.string t])∧∃ n,w'=w.drewN n:=by
  obtain ⟨rest,hrest⟩ : ∃ r,r=x :: (body ++ [93]):=⟨_,rfl⟩
  have hrl : rest.length=body.length + 2:=by rw [hrest];simp
  have hpx : Lib.hasPrefix (x :: (body ++ [93])) [33]=(33 == x):=hasPrefix_one _ _ _
  obtain ⟨C,hC⟩ : ∃ C : Int,C=c.toNat:=⟨_,rfl⟩
  rw [← hC]
  have HC:=Lib.hid hC
  clear hC
  have zr:=bs_size rest
  rw [hrl] at zr
  cases neg
  · have e0 : setT false x body=91 :: rest:=by rw [hrest];rfl
    have z0:=bs_size (91 :: rest)
    have x0:=bs_drop1 91 rest
    rw [List.length_cons,hrl] at z0
    rw [hrl] at x0
    have hP:=Lib.hid (fun w => HasPrefix_at rest [33] false (by rw [hrest,hpx,beq_eq_false_iff_ne];exact fun e => hx rfl e.symm) w)
    rw [e0]
    clear hpx e0
    have HR:=Lib.hid hrest
    clear hrest hrl
    generalize bs (91 :: rest)=s0 at *
    go_enter Tryz.func263,Tryz.ntmps263
    go_wp2_with fail
    refine (hP.out _).mono ?_
    rintro e w' ⟨rfl,rfl⟩
    go_wp2_with fail
    go_loopw [6,8,9] (fun r i k wr => SetRel false x body c w r i k wr) (fun r _ _ _ => strLen r)
    case atStart => exact ⟨x :: body,false,0,by rw [HR.out];rfl,rfl,rfl,by simp,.inl ⟨rfl,by simp⟩,hb,Lib.hid rfl,rfl⟩
    case round =>
      obtain ⟨cur,inn,kk,rfl,rfl,rfl,hkk,hcur,htl,hit,rfl⟩:=hrel
      rcases cur with _ | ⟨low,b⟩
      · have hk0 : 0 < kk:=by
          rcases hcur with ⟨_,h⟩ | ⟨h,_⟩
          · exact absurd rfl h
          · exact h
        have t1 : decide ((0 : Int) < kk)=true:=decide_eq_true (by omega)
        have t1n : decide (0 < kk)=true:=decide_eq_true (by omega)
        have z2:=bs_size [93]
        have t2 : 0 < (bs [93]).size:=by rw [bs_size];decide
        have t3 : (((bs [93])[0]'t2).toNat : Int)=93:=by rw [bs_get];rfl
        rw [show ([] : List UInt8) ++ [93]=[93] from rfl]
        rw [show [(93 : UInt8)].length=1 from rfl] at z2
        generalize bs [93]=s9 at *
        have HI:=hit.out
        rw [items_nil] at HI
        have HI2:=Lib.hid HI
        clear HI hit hcur htl
        cases inn
        all_goals
          go_wp2_with fail
          go_quiet (fail)
          go_wp2_with fail
          go_ret2
          exact ⟨_,ret_bs (by rw [HI2.out];rfl) rfl,_,rfl⟩
      · obtain ⟨L,hL⟩ : ∃ L : Int,L=low.toNat:=⟨_,rfl⟩
        have t0 : (low :: b) ++ [93]=low :: (b ++ [93]):=rfl
        have zs:=bs_size (low :: (b ++ [93]))
        have ts : 0 < (bs (low :: (b ++ [93]))).size:=by rw [bs_size];simp
        have t3:=bs_at0 low (b ++ [93]) ts
        rw [← hL] at t3
        have x3:=bs_drop1 low (b ++ [93])
        have zs1:=bs_size (b ++ [93])
        rw [List.length_cons,List.length_append,List.length_singleton] at zs
        rw [List.length_append,List.length_singleton] at x3 zs1
        have hbl2 : b.length≤1000:=by simp at hkk;omega
        have hk93 : (kk=0)∨(0 < kk∧¬ L=93):=by
          rcases hcur with ⟨h,_⟩ | ⟨h,h2⟩
          · exact .inl h
          · refine .inr ⟨h,fun e => h2 ?_⟩
            have : low=93:=UInt8.toNat.inj (show low.toNat=93 by omega)
            rw [this];simp
        have hb93 : (93 : UInt8) ∉ b:=htl
        rw [t0]
        clear t0 hcur htl
        have hnext : (∃ hi : UInt8,∃ b' : List UInt8,b=45 :: hi :: b'∧hi≠93)∨¬ (2≤b.length∧b.headD 0=45):=by
          by_cases h : 2≤b.length∧b.headD 0=45
          · rcases b with _ | ⟨d,_ | ⟨hi,b'⟩⟩
            · simp at h
            · simp at h
            · have hd : d=45:=h.2
              exact .inl ⟨hi,b',by rw [hd],fun e => hb93 (by simp [e])⟩
          · exact .inr h
        have hlc : decide (L≤C)=decide (low≤c):=by rw [hL,HC.out];exact le_byte low c
        have hcl : decide (C≤L)=decide (c≤low):=by rw [hL,HC.out];exact le_byte c low
        rcases hnext with ⟨hi,b',rfl,hhi⟩ | hno
        · have x4:=bs_drop2 45 hi (b' ++ [93])
          have ts1 : 0 < (bs (45 :: hi :: b' ++ [93])).size:=by rw [bs_size];simp
          have ts2 : 1 < (bs (45 :: hi :: b' ++ [93])).size:=by rw [bs_size];simp
          have t5 : (((bs (45 :: hi :: b' ++ [93]))[0]'ts1).toNat : Int)=45:=by rw [bs_get];rfl
          have t6 : (((bs (45 :: hi :: b' ++ [93]))[1]'ts2).toNat : Int)=hi.toNat:=by rw [bs_get];rfl
          obtain ⟨G,hG⟩ : ∃ G : Int,G=hi.toNat:=⟨_,rfl⟩
          rw [← hG] at t6
          have tG : ¬ G=93:=fun e => hhi (UInt8.toNat.inj (show hi.toNat=93 by omega))
          have tG2 : (G == 93)=false:=beq_eq_false_iff_ne.2 tG
          have tG3 : (G != 93)=true:=by rw [bne_iff_ne];exact tG
          have hcg : decide (C≤G)=decide (c≤hi):=by rw [hG,HC.out];exact le_byte c hi
          have hlen : (45 :: hi :: b').length=b'.length + 2:=rfl
          rw [hlen] at zs zs1 x3
          rw [List.length_append,List.length_singleton] at x4
          have d1 : decide ((2 : Int) < (b'.length : Int) + 2 + 1)=true:=decide_eq_true (by omega)
          have hx4 : (bs (45 :: hi :: b' ++ [93])).extract 2 (b'.length + 2 + 1)=bs (b' ++ [93]):=by rw [show b'.length + 2 + 1=b'.length + 1 + 2 by omega];exact x4
          have hzb:=bs_size (b' ++ [93])
          rw [List.length_append,List.length_singleton] at hzb
          have hnb : (93 : UInt8) ∉ b':=fun h => hb93 (by simp [h])
          have hnt : (93 : UInt8) ∉ b'.tail:=fun h => hnb (List.mem_of_mem_tail h)
          have hkk2 : kk + 1 + b'.length≤body.length + 1:=by simp at hkk;omega
          have HIT : Hid (∀ q,(inn || (decide (low≤c) && decide (c≤hi)))=q→items c false (x :: body)=items c q b'):=Lib.hid (fun q hq => by rw [← hq,hit.out,items_range])
          have HL:=Lib.hid hlc;have HG:=Lib.hid hcg;have HNB:=Lib.hid hnb;have HNT:=Lib.hid hnt
          clear hL hG hlc hcg hcl x4 hit hb93 hnb hnt hhi hkk hlen
          generalize bs (low :: (45 :: hi :: b' ++ [93]))=sa at *
          generalize bs (45 :: hi :: b' ++ [93])=sb at *
          generalize hsc : bs (b' ++ [93])=sc at *
          have HSC:=Lib.hid hsc
          clear hsc
          generalize hnn : b'.length=n at *
          have HN:=Lib.hid hnn
          clear hnn
          have hq : inn=true∨(inn=false∧decide (L≤C)=false)∨(inn=false∧decide (L≤C)=true∧decide (C≤G)=false)∨(inn=false∧decide (L≤C)=true∧decide (C≤G)=true):=by
            cases inn <;> cases decide (L≤C) <;> cases decide (C≤G) <;> simp
          rcases hk93 with rfl | ⟨hk0,hL93⟩
          · rcases hq with rfl | ⟨rfl,q1⟩ | ⟨rfl,q1,q2⟩ | ⟨rfl,q1,q2⟩
            · go_wp2_with fail
              go_roundw
              case rel => exact ⟨b',true,1,by rw [HSC.out],rfl,by first | rfl | go_num,by rw [HN.out];omega,.inr ⟨by omega,HNB.out⟩,HNT.out,Lib.hid (HIT.out _ (rfl)),rfl⟩
              case measure => simp [strLen];omega
            · go_wp2_with fail
              go_roundw
              case rel => exact ⟨b',false,1,by rw [HSC.out],rfl,by first | rfl | go_num,by rw [HN.out];omega,.inr ⟨by omega,HNB.out⟩,HNT.out,Lib.hid (HIT.out _ (by rw [← HL.out,q1];rfl)),rfl⟩
              case measure => simp [strLen];omega
            · go_wp2_with fail
              go_roundw
              case rel => exact ⟨b',false,1,by rw [HSC.out],rfl,by first | rfl | go_num,by rw [HN.out];omega,.inr ⟨by omega,HNB.out⟩,HNT.out,Lib.hid (HIT.out _ (by rw [← HL.out,← HG.out,q1,q2];rfl)),rfl⟩
              case measure => simp [strLen];omega
            · go_wp2_with fail
              go_roundw
              case rel => exact ⟨b',true,1,by rw [HSC.out],rfl,by first | rfl | go_num,by rw [HN.out];omega,.inr ⟨by omega,HNB.out⟩,HNT.out,Lib.hid (HIT.out _ (by rw [← HL.out,← HG.out,q1,q2];rfl)),rfl⟩
              case measure => simp [strLen];omega
          · have t1 : decide ((0 : Int) < kk)=true:=decide_eq_true (by omega)
            have l1 : (L == 93)=false:=beq_eq_false_iff_ne.2 hL93
            rcases hq with rfl | ⟨rfl,q1⟩ | ⟨rfl,q1,q2⟩ | ⟨rfl,q1,q2⟩
            · go_wp2_with fail
              go_roundw
              case rel => exact ⟨b',true,kk + 1,by rw [HSC.out],rfl,by go_num,by rw [HN.out];omega,.inr ⟨by omega,HNB.out⟩,HNT.out,Lib.hid (HIT.out _ (rfl)),rfl⟩
              case measure => simp [strLen];omega
            · go_wp2_with fail
              go_roundw
              case rel => exact ⟨b',false,kk + 1,by rw [HSC.out],rfl,by go_num,by rw [HN.out];omega,.inr ⟨by omega,HNB.out⟩,HNT.out,Lib.hid (HIT.out _ (by rw [← HL.out,q1];rfl)),rfl⟩
              case measure => simp [strLen];omega
            · go_wp2_with fail
              go_roundw
              case rel => exact ⟨b',false,kk + 1,by rw [HSC.out],rfl,by go_num,by rw [HN.out];omega,.inr ⟨by omega,HNB.out⟩,HNT.out,Lib.hid (HIT.out _ (by rw [← HL.out,← HG.out,q1,q2];rfl)),rfl⟩
              case measure => simp [strLen];omega
            · go_wp2_with fail
              go_roundw
              case rel => exact ⟨b',true,kk + 1,by rw [HSC.out],rfl,by go_num,by rw [HN.out];omega,.inr ⟨by omega,HNB.out⟩,HNT.out,Lib.hid (HIT.out _ (by rw [← HL.out,← HG.out,q1,q2];rfl)),rfl⟩
              case measure => simp [strLen];omega
        · have hno2 : ¬ (2≤b.length∧b.headD 0=45):=hno
          have HIT : Hid (∀ q,(inn || (decide (low≤c) && decide (c≤low)))=q→items c false (x :: body)=items c q b):=Lib.hid (fun q hq => by rw [← hq,hit.out,items_one hno2])
          have hnt : (93 : UInt8) ∉ b.tail:=fun h => hb93 (List.mem_of_mem_tail h)
          have hkk2 : kk + 1 + b.length≤body.length + 1:=by simp at hkk;omega
          have hfork : decide ((2 : Int) < (b.length : Int) + 1)=false∨(decide ((2 : Int) < (b.length : Int) + 1)=true∧∃ h : 0 < (bs (b ++ [93])).size,∃ D : Int,(((bs (b ++ [93]))[0]'h).toNat : Int)=D∧(D == 45)=false):=by
            by_cases h2 : 2≤b.length
            · refine .inr ⟨decide_eq_true (by omega),by rw [bs_size];simp,_,rfl,?_⟩
              rcases b with _ | ⟨d,b⟩
              · simp at h2
              · have hd : d≠45:=fun e => hno ⟨h2,e⟩
                exact (congrArg (· == (45 : Int)) (bs_at0 d (b ++ [93]) _)).trans (byte_ne (d:=45) hd)
            · exact .inl (decide_eq_false (by omega))
          have HL:=Lib.hid hlc;have HG:=Lib.hid hcl;have HNB:=Lib.hid hb93;have HNT:=Lib.hid hnt
          clear hL hlc hcl hit hb93 hnt hkk hno hno2
          generalize bs (low :: (b ++ [93]))=sa at *
          generalize hsc : bs (b ++ [93])=sc at *
          have HSC:=Lib.hid hsc
          clear hsc
          generalize hnn : b.length=n at *
          have HN:=Lib.hid hnn
          clear hnn
          have hq : inn=true∨(inn=false∧decide (L≤C)=false)∨(inn=false∧decide (L≤C)=true∧decide (C≤L)=false)∨(inn=false∧decide (L≤C)=true∧decide (C≤L)=true):=by
            cases inn <;> cases decide (L≤C) <;> cases decide (C≤L) <;> simp
          rcases hk93 with rfl | ⟨hk0,hL93⟩
          · rcases hfork with f1 | ⟨f1,f2,D,f3,f4⟩
            · rcases hq with rfl | ⟨rfl,q1⟩ | ⟨rfl,q1,q2⟩ | ⟨rfl,q1,q2⟩
              · go_wp2_with fail
                go_roundw
                case rel => exact ⟨b,true,1,by rw [HSC.out],rfl,by first | rfl | go_num,by rw [HN.out];omega,.inr ⟨by omega,HNB.out⟩,HNT.out,Lib.hid (HIT.out _ (rfl)),rfl⟩
                case measure => simp [strLen];omega
              · go_wp2_with fail
                go_roundw
                case rel => exact ⟨b,false,1,by rw [HSC.out],rfl,by first | rfl | go_num,by rw [HN.out];omega,.inr ⟨by omega,HNB.out⟩,HNT.out,Lib.hid (HIT.out _ (by rw [← HL.out,q1];rfl)),rfl⟩
                case measure => simp [strLen];omega
              · go_wp2_with fail
                go_roundw
                case rel => exact ⟨b,false,1,by rw [HSC.out],rfl,by first | rfl | go_num,by rw [HN.out];omega,.inr ⟨by omega,HNB.out⟩,HNT.out,Lib.hid (HIT.out _ (by rw [← HL.out,← HG.out,q1,q2];rfl)),rfl⟩
                case measure => simp [strLen];omega
              · go_wp2_with fail
                go_roundw
                case rel => exact ⟨b,true,1,by rw [HSC.out],rfl,by first | rfl | go_num,by rw [HN.out];omega,.inr ⟨by omega,HNB.out⟩,HNT.out,Lib.hid (HIT.out _ (by rw [← HL.out,← HG.out,q1,q2];rfl)),rfl⟩
                case measure => simp [strLen];omega
            · rcases hq with rfl | ⟨rfl,q1⟩ | ⟨rfl,q1,q2⟩ | ⟨rfl,q1,q2⟩
              · go_wp2_with fail
                go_roundw
                case rel => exact ⟨b,true,1,by rw [HSC.out],rfl,by first | rfl | go_num,by rw [HN.out];omega,.inr ⟨by omega,HNB.out⟩,HNT.out,Lib.hid (HIT.out _ (rfl)),rfl⟩
                case measure => simp [strLen];omega
              · go_wp2_with fail
                go_roundw
                case rel => exact ⟨b,false,1,by rw [HSC.out],rfl,by first | rfl | go_num,by rw [HN.out];omega,.inr ⟨by omega,HNB.out⟩,HNT.out,Lib.hid (HIT.out _ (by rw [← HL.out,q1];rfl)),rfl⟩
                case measure => simp [strLen];omega
              · go_wp2_with fail
                go_roundw
                case rel => exact ⟨b,false,1,by rw [HSC.out],rfl,by first | rfl | go_num,by rw [HN.out];omega,.inr ⟨by omega,HNB.out⟩,HNT.out,Lib.hid (HIT.out _ (by rw [← HL.out,← HG.out,q1,q2];rfl)),rfl⟩
                case measure => simp [strLen];omega
              · go_wp2_with fail
                go_roundw
                case rel => exact ⟨b,true,1,by rw [HSC.out],rfl,by first | rfl | go_num,by rw [HN.out];omega,.inr ⟨by omega,HNB.out⟩,HNT.out,Lib.hid (HIT.out _ (by rw [← HL.out,← HG.out,q1,q2];rfl)),rfl⟩
                case measure => simp [strLen];omega
          · have t1 : decide ((0 : Int) < kk)=true:=decide_eq_true (by omega)
            have t1n : decide (0 < kk)=true:=decide_eq_true (by omega)
            have l1 : (L == 93)=false:=beq_eq_false_iff_ne.2 hL93
            rcases hfork with f1 | ⟨f1,f2,D,f3,f4⟩
            · rcases hq with rfl | ⟨rfl,q1⟩ | ⟨rfl,q1,q2⟩ | ⟨rfl,q1,q2⟩
              · go_wp2_with fail
                go_roundw
                case rel => exact ⟨b,true,kk + 1,by rw [HSC.out],rfl,by go_num,by rw [HN.out];omega,.inr ⟨by omega,HNB.out⟩,HNT.out,Lib.hid (HIT.out _ (rfl)),rfl⟩
                case measure => simp [strLen];omega
              · go_wp2_with fail
                go_roundw
                case rel => exact ⟨b,false,kk + 1,by rw [HSC.out],rfl,by go_num,by rw [HN.out];omega,.inr ⟨by omega,HNB.out⟩,HNT.out,Lib.hid (HIT.out _ (by rw [← HL.out,q1];rfl)),rfl⟩
                case measure => simp [strLen];omega
              · go_wp2_with fail
                go_roundw
                case rel => exact ⟨b,false,kk + 1,by rw [HSC.out],rfl,by go_num,by rw [HN.out];omega,.inr ⟨by omega,HNB.out⟩,HNT.out,Lib.hid (HIT.out _ (by rw [← HL.out,← HG.out,q1,q2];rfl)),rfl⟩
                case measure => simp [strLen];omega
              · go_wp2_with fail
                go_roundw
                case rel => exact ⟨b,true,kk + 1,by rw [HSC.out],rfl,by go_num,by rw [HN.out];omega,.inr ⟨by omega,HNB.out⟩,HNT.out,Lib.hid (HIT.out _ (by rw [← HL.out,← HG.out,q1,q2];rfl)),rfl⟩
                case measure => simp [strLen];omega
            · rcases hq with rfl | ⟨rfl,q1⟩ | ⟨rfl,q1,q2⟩ | ⟨rfl,q1,q2⟩
              · go_wp2_with fail
                go_roundw
                case rel => exact ⟨b,true,kk + 1,by rw [HSC.out],rfl,by go_num,by rw [HN.out];omega,.inr ⟨by omega,HNB.out⟩,HNT.out,Lib.hid (HIT.out _ (rfl)),rfl⟩
                case measure => simp [strLen];omega
              · go_wp2_with fail
                go_roundw
                case rel => exact ⟨b,false,kk + 1,by rw [HSC.out],rfl,by go_num,by rw [HN.out];omega,.inr ⟨by omega,HNB.out⟩,HNT.out,Lib.hid (HIT.out _ (by rw [← HL.out,q1];rfl)),rfl⟩
                case measure => simp [strLen];omega
              · go_wp2_with fail
                go_roundw
                case rel => exact ⟨b,false,kk + 1,by rw [HSC.out],rfl,by go_num,by rw [HN.out];omega,.inr ⟨by omega,HNB.out⟩,HNT.out,Lib.hid (HIT.out _ (by rw [← HL.out,← HG.out,q1,q2];rfl)),rfl⟩
                case measure => simp [strLen];omega
              · go_wp2_with fail
                go_roundw
                case rel => exact ⟨b,true,kk + 1,by rw [HSC.out],rfl,by go_num,by rw [HN.out];omega,.inr ⟨by omega,HNB.out⟩,HNT.out,Lib.hid (HIT.out _ (by rw [← HL.out,← HG.out,q1,q2];rfl)),rfl⟩
                case measure => simp [strLen];omega
  · have e0 : setT true x body=91 :: 33 :: rest:=by rw [hrest];rfl
    have z0:=bs_size (91 :: 33 :: rest)
    have x0:=bs_drop1 91 (33 :: rest)
    have z1:=bs_size (33 :: rest)
    have x1:=bs_drop1 33 rest
    rw [List.length_cons,List.length_cons,hrl] at z0
    rw [List.length_cons,hrl] at x0 z1
    rw [hrl] at x1
    have hP:=Lib.hid (fun w => HasPrefix_at (33 :: rest) [33] true (by rw [hasPrefix_one];rfl) w)
    rw [e0]
    clear hpx e0
    have HR:=Lib.hid hrest
    clear hrest hrl
    generalize bs (91 :: 33 :: rest)=s0 at *
    generalize bs (33 :: rest)=s1 at *
    go_enter Tryz.func263,Tryz.ntmps263
    go_wp2_with fail
    refine (hP.out _).mono ?_
    rintro e w' ⟨rfl,rfl⟩
    go_wp2_with fail
    go_loopw [6,8,9] (fun r i k wr => SetRel true x body c w r i k wr) (fun r _ _ _ => strLen r)
    case atStart => exact ⟨x :: body,false,0,by rw [HR.out];rfl,rfl,rfl,by simp,.inl ⟨rfl,by simp⟩,hb,Lib.hid rfl,rfl⟩
    case round =>
      obtain ⟨cur,inn,kk,rfl,rfl,rfl,hkk,hcur,htl,hit,rfl⟩:=hrel
      rcases cur with _ | ⟨low,b⟩
      · have hk0 : 0 < kk:=by
          rcases hcur with ⟨_,h⟩ | ⟨h,_⟩
          · exact absurd rfl h
          · exact h
        have t1 : decide ((0 : Int) < kk)=true:=decide_eq_true (by omega)
        have t1n : decide (0 < kk)=true:=decide_eq_true (by omega)
        have z2:=bs_size [93]
        have t2 : 0 < (bs [93]).size:=by rw [bs_size];decide
        have t3 : (((bs [93])[0]'t2).toNat : Int)=93:=by rw [bs_get];rfl
        rw [show ([] : List UInt8) ++ [93]=[93] from rfl]
        rw [show [(93 : UInt8)].length=1 from rfl] at z2
        generalize bs [93]=s9 at *
        have HI:=hit.out
        rw [items_nil] at HI
        have HI2:=Lib.hid HI
        clear HI hit hcur htl
        cases inn
        all_goals
          go_wp2_with fail
          go_quiet (fail)
          go_wp2_with fail
          go_ret2
          exact ⟨_,ret_bs (by rw [HI2.out];rfl) rfl,_,rfl⟩
      · obtain ⟨L,hL⟩ : ∃ L : Int,L=low.toNat:=⟨_,rfl⟩
        have t0 : (low :: b) ++ [93]=low :: (b ++ [93]):=rfl
        have zs:=bs_size (low :: (b ++ [93]))
        have ts : 0 < (bs (low :: (b ++ [93]))).size:=by rw [bs_size];simp
        have t3:=bs_at0 low (b ++ [93]) ts
        rw [← hL] at t3
        have x3:=bs_drop1 low (b ++ [93])
        have zs1:=bs_size (b ++ [93])
        rw [List.length_cons,List.length_append,List.length_singleton] at zs
        rw [List.length_append,List.length_singleton] at x3 zs1
        have hbl2 : b.length≤1000:=by simp at hkk;omega
        have hk93 : (kk=0)∨(0 < kk∧¬ L=93):=by
          rcases hcur with ⟨h,_⟩ | ⟨h,h2⟩
          · exact .inl h
          · refine .inr ⟨h,fun e => h2 ?_⟩
            have : low=93:=UInt8.toNat.inj (show low.toNat=93 by omega)
            rw [this];simp
        have hb93 : (93 : UInt8) ∉ b:=htl
        rw [t0]
        clear t0 hcur htl
        have hnext : (∃ hi : UInt8,∃ b' : List UInt8,b=45 :: hi :: b'∧hi≠93)∨¬ (2≤b.length∧b.headD 0=45):=by
          by_cases h : 2≤b.length∧b.headD 0=45
          · rcases b with _ | ⟨d,_ | ⟨hi,b'⟩⟩
            · simp at h
            · simp at h
            · have hd : d=45:=h.2
              exact .inl ⟨hi,b',by rw [hd],fun e => hb93 (by simp [e])⟩
          · exact .inr h
        have hlc : decide (L≤C)=decide (low≤c):=by rw [hL,HC.out];exact le_byte low c
        have hcl : decide (C≤L)=decide (c≤low):=by rw [hL,HC.out];exact le_byte c low
        rcases hnext with ⟨hi,b',rfl,hhi⟩ | hno
        · have x4:=bs_drop2 45 hi (b' ++ [93])
          have ts1 : 0 < (bs (45 :: hi :: b' ++ [93])).size:=by rw [bs_size];simp
          have ts2 : 1 < (bs (45 :: hi :: b' ++ [93])).size:=by rw [bs_size];simp
          have t5 : (((bs (45 :: hi :: b' ++ [93]))[0]'ts1).toNat : Int)=45:=by rw [bs_get];rfl
          have t6 : (((bs (45 :: hi :: b' ++ [93]))[1]'ts2).toNat : Int)=hi.toNat:=by rw [bs_get];rfl
          obtain ⟨G,hG⟩ : ∃ G : Int,G=hi.toNat:=⟨_,rfl⟩
          rw [← hG] at t6
          have tG : ¬ G=93:=fun e => hhi (UInt8.toNat.inj (show hi.toNat=93 by omega))
          have tG2 : (G == 93)=false:=beq_eq_false_iff_ne.2 tG
          have tG3 : (G != 93)=true:=by rw [bne_iff_ne];exact tG
          have hcg : decide (C≤G)=decide (c≤hi):=by rw [hG,HC.out];exact le_byte c hi
          have hlen : (45 :: hi :: b').length=b'.length + 2:=rfl
          rw [hlen] at zs zs1 x3
          rw [List.length_append,List.length_singleton] at x4
          have d1 : decide ((2 : Int) < (b'.length : Int) + 2 + 1)=true:=decide_eq_true (by omega)
          have hx4 : (bs (45 :: hi :: b' ++ [93])).extract 2 (b'.length + 2 + 1)=bs (b' ++ [93]):=by rw [show b'.length + 2 + 1=b'.length + 1 + 2 by omega];exact x4
          have hzb:=bs_size (b' ++ [93])
          rw [List.length_append,List.length_singleton] at hzb
          have hnb : (93 : UInt8) ∉ b':=fun h => hb93 (by simp [h])
          have hnt : (93 : UInt8) ∉ b'.tail:=fun h => hnb (List.mem_of_mem_tail h)
          have hkk2 : kk + 1 + b'.length≤body.length + 1:=by simp at hkk;omega
          have HIT : Hid (∀ q,(inn || (decide (low≤c) && decide (c≤hi)))=q→items c false (x :: body)=items c q b'):=Lib.hid (fun q hq => by rw [← hq,hit.out,items_range])
          have HL:=Lib.hid hlc;have HG:=Lib.hid hcg;have HNB:=Lib.hid hnb;have HNT:=Lib.hid hnt
          clear hL hG hlc hcg hcl x4 hit hb93 hnb hnt hhi hkk hlen
          generalize bs (low :: (45 :: hi :: b' ++ [93]))=sa at *
          generalize bs (45 :: hi :: b' ++ [93])=sb at *
          generalize hsc : bs (b' ++ [93])=sc at *
          have HSC:=Lib.hid hsc
          clear hsc
          generalize hnn : b'.length=n at *
          have HN:=Lib.hid hnn
          clear hnn
          have hq : inn=true∨(inn=false∧decide (L≤C)=false)∨(inn=false∧decide (L≤C)=true∧decide (C≤G)=false)∨(inn=false∧decide (L≤C)=true∧decide (C≤G)=true):=by
            cases inn <;> cases decide (L≤C) <;> cases decide (C≤G) <;> simp
          rcases hk93 with rfl | ⟨hk0,hL93⟩
          · rcases hq with rfl | ⟨rfl,q1⟩ | ⟨rfl,q1,q2⟩ | ⟨rfl,q1,q2⟩
            · go_wp2_with fail
              go_roundw
              case rel => exact ⟨b',true,1,by rw [HSC.out],rfl,by first | rfl | go_num,by rw [HN.out];omega,.inr ⟨by omega,HNB.out⟩,HNT.out,Lib.hid (HIT.out _ (rfl)),rfl⟩
              case measure => simp [strLen];omega
            · go_wp2_with fail
              go_roundw
              case rel => exact ⟨b',false,1,by rw [HSC.out],rfl,by first | rfl | go_num,by rw [HN.out];omega,.inr ⟨by omega,HNB.out⟩,HNT.out,Lib.hid (HIT.out _ (by rw [← HL.out,q1];rfl)),rfl⟩
              case measure => simp [strLen];omega
            · go_wp2_with fail
              go_roundw
              case rel => exact ⟨b',false,1,by rw [HSC.out],rfl,by first | rfl | go_num,by rw [HN.out];omega,.inr ⟨by omega,HNB.out⟩,HNT.out,Lib.hid (HIT.out _ (by rw [← HL.out,← HG.out,q1,q2];rfl)),rfl⟩
              case measure => simp [strLen];omega
            · go_wp2_with fail
              go_roundw
              case rel => exact ⟨b',true,1,by rw [HSC.out],rfl,by first | rfl | go_num,by rw [HN.out];omega,.inr ⟨by omega,HNB.out⟩,HNT.out,Lib.hid (HIT.out _ (by rw [← HL.out,← HG.out,q1,q2];rfl)),rfl⟩
              case measure => simp [strLen];omega
          · have t1 : decide ((0 : Int) < kk)=true:=decide_eq_true (by omega)
            have l1 : (L == 93)=false:=beq_eq_false_iff_ne.2 hL93
            rcases hq with rfl | ⟨rfl,q1⟩ | ⟨rfl,q1,q2⟩ | ⟨rfl,q1,q2⟩
            · go_wp2_with fail
              go_roundw
              case rel => exact ⟨b',true,kk + 1,by rw [HSC.out],rfl,by go_num,by rw [HN.out];omega,.inr ⟨by omega,HNB.out⟩,HNT.out,Lib.hid (HIT.out _ (rfl)),rfl⟩
              case measure => simp [strLen];omega
            · go_wp2_with fail
              go_roundw
              case rel => exact ⟨b',false,kk + 1,by rw [HSC.out],rfl,by go_num,by rw [HN.out];omega,.inr ⟨by omega,HNB.out⟩,HNT.out,Lib.hid (HIT.out _ (by rw [← HL.out,q1];rfl)),rfl⟩
              case measure => simp [strLen];omega
            · go_wp2_with fail
              go_roundw
              case rel => exact ⟨b',false,kk + 1,by rw [HSC.out],rfl,by go_num,by rw [HN.out];omega,.inr ⟨by omega,HNB.out⟩,HNT.out,Lib.hid (HIT.out _ (by rw [← HL.out,← HG.out,q1,q2];rfl)),rfl⟩
              case measure => simp [strLen];omega
            · go_wp2_with fail
              go_roundw
              case rel => exact ⟨b',true,kk + 1,by rw [HSC.out],rfl,by go_num,by rw [HN.out];omega,.inr ⟨by omega,HNB.out⟩,HNT.out,Lib.hid (HIT.out _ (by rw [← HL.out,← HG.out,q1,q2];rfl)),rfl⟩
              case measure => simp [strLen];omega
        · have hno2 : ¬ (2≤b.length∧b.headD 0=45):=hno
          have HIT : Hid (∀ q,(inn || (decide (low≤c) && decide (c≤low)))=q→items c false (x :: body)=items c q b):=Lib.hid (fun q hq => by rw [← hq,hit.out,items_one hno2])
          have hnt : (93 : UInt8) ∉ b.tail:=fun h => hb93 (List.mem_of_mem_tail h)
          have hkk2 : kk + 1 + b.length≤body.length + 1:=by simp at hkk;omega
          have hfork : decide ((2 : Int) < (b.length : Int) + 1)=false∨(decide ((2 : Int) < (b.length : Int) + 1)=true∧∃ h : 0 < (bs (b ++ [93])).size,∃ D : Int,(((bs (b ++ [93]))[0]'h).toNat : Int)=D∧(D == 45)=false):=by
            by_cases h2 : 2≤b.length
            · refine .inr ⟨decide_eq_true (by omega),by rw [bs_size];simp,_,rfl,?_⟩
              rcases b with _ | ⟨d,b⟩
              · simp at h2
              · have hd : d≠45:=fun e => hno ⟨h2,e⟩
                exact (congrArg (· == (45 : Int)) (bs_at0 d (b ++ [93]) _)).trans (byte_ne (d:=45) hd)
            · exact .inl (decide_eq_false (by omega))
          have HL:=Lib.hid hlc;have HG:=Lib.hid hcl;have HNB:=Lib.hid hb93;have HNT:=Lib.hid hnt
          clear hL hlc hcl hit hb93 hnt hkk hno hno2
          generalize bs (low :: (b ++ [93]))=sa at *
          generalize hsc : bs (b ++ [93])=sc at *
          have HSC:=Lib.hid hsc
          clear hsc
          generalize hnn : b.length=n at *
          have HN:=Lib.hid hnn
          clear hnn
          have hq : inn=true∨(inn=false∧decide (L≤C)=false)∨(inn=false∧decide (L≤C)=true∧decide (C≤L)=false)∨(inn=false∧decide (L≤C)=true∧decide (C≤L)=true):=by
            cases inn <;> cases decide (L≤C) <;> cases decide (C≤L) <;> simp
          rcases hk93 with rfl | ⟨hk0,hL93⟩
          · rcases hfork with f1 | ⟨f1,f2,D,f3,f4⟩
            · rcases hq with rfl | ⟨rfl,q1⟩ | ⟨rfl,q1,q2⟩ | ⟨rfl,q1,q2⟩
              · go_wp2_with fail
                go_roundw
                case rel => exact ⟨b,true,1,by rw [HSC.out],rfl,by first | rfl | go_num,by rw [HN.out];omega,.inr ⟨by omega,HNB.out⟩,HNT.out,Lib.hid (HIT.out _ (rfl)),rfl⟩
                case measure => simp [strLen];omega
              · go_wp2_with fail
                go_roundw
                case rel => exact ⟨b,false,1,by rw [HSC.out],rfl,by first | rfl | go_num,by rw [HN.out];omega,.inr ⟨by omega,HNB.out⟩,HNT.out,Lib.hid (HIT.out _ (by rw [← HL.out,q1];rfl)),rfl⟩
                case measure => simp [strLen];omega
              · go_wp2_with fail
                go_roundw
                case rel => exact ⟨b,false,1,by rw [HSC.out],rfl,by first | rfl | go_num,by rw [HN.out];omega,.inr ⟨by omega,HNB.out⟩,HNT.out,Lib.hid (HIT.out _ (by rw [← HL.out,← HG.out,q1,q2];rfl)),rfl⟩
                case measure => simp [strLen];omega
              · go_wp2_with fail
                go_roundw
                case rel => exact ⟨b,true,1,by rw [HSC.out],rfl,by first | rfl | go_num,by rw [HN.out];omega,.inr ⟨by omega,HNB.out⟩,HNT.out,Lib.hid (HIT.out _ (by rw [← HL.out,← HG.out,q1,q2];rfl)),rfl⟩
                case measure => simp [strLen];omega
            · rcases hq with rfl | ⟨rfl,q1⟩ | ⟨rfl,q1,q2⟩ | ⟨rfl,q1,q2⟩
              · go_wp2_with fail
                go_roundw
                case rel => exact ⟨b,true,1,by rw [HSC.out],rfl,by first | rfl | go_num,by rw [HN.out];omega,.inr ⟨by omega,HNB.out⟩,HNT.out,Lib.hid (HIT.out _ (rfl)),rfl⟩
                case measure => simp [strLen];omega
              · go_wp2_with fail
                go_roundw
                case rel => exact ⟨b,false,1,by rw [HSC.out],rfl,by first | rfl | go_num,by rw [HN.out];omega,.inr ⟨by omega,HNB.out⟩,HNT.out,Lib.hid (HIT.out _ (by rw [← HL.out,q1];rfl)),rfl⟩
                case measure => simp [strLen];omega
              · go_wp2_with fail
                go_roundw
                case rel => exact ⟨b,false,1,by rw [HSC.out],rfl,by first | rfl | go_num,by rw [HN.out];omega,.inr ⟨by omega,HNB.out⟩,HNT.out,Lib.hid (HIT.out _ (by rw [← HL.out,← HG.out,q1,q2];rfl)),rfl⟩
                case measure => simp [strLen];omega
              · go_wp2_with fail
                go_roundw
                case rel => exact ⟨b,true,1,by rw [HSC.out],rfl,by first | rfl | go_num,by rw [HN.out];omega,.inr ⟨by omega,HNB.out⟩,HNT.out,Lib.hid (HIT.out _ (by rw [← HL.out,← HG.out,q1,q2];rfl)),rfl⟩
                case measure => simp [strLen];omega
          · have t1 : decide ((0 : Int) < kk)=true:=decide_eq_true (by omega)
            have t1n : decide (0 < kk)=true:=decide_eq_true (by omega)
            have l1 : (L == 93)=false:=beq_eq_false_iff_ne.2 hL93
            rcases hfork with f1 | ⟨f1,f2,D,f3,f4⟩
            · rcases hq with rfl | ⟨rfl,q1⟩ | ⟨rfl,q1,q2⟩ | ⟨rfl,q1,q2⟩
              · go_wp2_with fail
                go_roundw
                case rel => exact ⟨b,true,kk + 1,by rw [HSC.out],rfl,by go_num,by rw [HN.out];omega,.inr ⟨by omega,HNB.out⟩,HNT.out,Lib.hid (HIT.out _ (rfl)),rfl⟩
                case measure => simp [strLen];omega
              · go_wp2_with fail
                go_roundw
                case rel => exact ⟨b,false,kk + 1,by rw [HSC.out],rfl,by go_num,by rw [HN.out];omega,.inr ⟨by omega,HNB.out⟩,HNT.out,Lib.hid (HIT.out _ (by rw [← HL.out,q1];rfl)),rfl⟩
                case measure => simp [strLen];omega
              · go_wp2_with fail
                go_roundw
                case rel => exact ⟨b,false,kk + 1,by rw [HSC.out],rfl,by go_num,by rw [HN.out];omega,.inr ⟨by omega,HNB.out⟩,HNT.out,Lib.hid (HIT.out _ (by rw [← HL.out,← HG.out,q1,q2];rfl)),rfl⟩
                case measure => simp [strLen];omega
              · go_wp2_with fail
                go_roundw
                case rel => exact ⟨b,true,kk + 1,by rw [HSC.out],rfl,by go_num,by rw [HN.out];omega,.inr ⟨by omega,HNB.out⟩,HNT.out,Lib.hid (HIT.out _ (by rw [← HL.out,← HG.out,q1,q2];rfl)),rfl⟩
                case measure => simp [strLen];omega
            · rcases hq with rfl | ⟨rfl,q1⟩ | ⟨rfl,q1,q2⟩ | ⟨rfl,q1,q2⟩
              · go_wp2_with fail
                go_roundw
                case rel => exact ⟨b,true,kk + 1,by rw [HSC.out],rfl,by go_num,by rw [HN.out];omega,.inr ⟨by omega,HNB.out⟩,HNT.out,Lib.hid (HIT.out _ (rfl)),rfl⟩
                case measure => simp [strLen];omega
              · go_wp2_with fail
                go_roundw
                case rel => exact ⟨b,false,kk + 1,by rw [HSC.out],rfl,by go_num,by rw [HN.out];omega,.inr ⟨by omega,HNB.out⟩,HNT.out,Lib.hid (HIT.out _ (by rw [← HL.out,q1];rfl)),rfl⟩
                case measure => simp [strLen];omega
              · go_wp2_with fail
                go_roundw
                case rel => exact ⟨b,false,kk + 1,by rw [HSC.out],rfl,by go_num,by rw [HN.out];omega,.inr ⟨by omega,HNB.out⟩,HNT.out,Lib.hid (HIT.out _ (by rw [← HL.out,← HG.out,q1,q2];rfl)),rfl⟩
                case measure => simp [strLen];omega
              · go_wp2_with fail
                go_roundw
                case rel => exact ⟨b,true,kk + 1,by rw [HSC.out],rfl,by go_num,by rw [HN.out];omega,.inr ⟨by omega,HNB.out⟩,HNT.out,Lib.hid (HIT.out _ (by rw [← HL.out,← HG.out,q1,q2];rfl)),rfl⟩
                case measure => simp [strLen];omega
end
section
open Go.RowKit
def endK (p : List UInt8) : Nat:=if Lib.hasPrefix (p.drop 1) [33] then 2 else 1
def endI (p : List UInt8) : Int:=if endK p < p.length then Lib.indexByte (p.drop (endK p + 1)) 93 else -1
def endV (p : List UInt8) : Int:=if endI p < 0 then -1 else endK p + 1 + endI p + 1
theorem IndexByte_93 (l : List UInt8) (w : World) :
    Calls Tryz.prog 89 #[.string (bs l),.int .u8 93] w fun e w' => e=.returned (.int .i64 (Lib.indexByte l 93))∧w=w' :=
  (Tryz.strings_IndexByte (bs l) 93 w).mono fun e w' ⟨h1,h2⟩ => ⟨by rw [h1,bs_data];rfl,h2.symm⟩
theorem ex_drop (l : List UInt8) (k : Nat) : (bs l).extract k l.length=bs (l.drop k):=by
  rw [bs_extract];congr 1;rw [List.take_of_length_le (by rw [List.length_drop];exact Nat.le_refl _)]
set_option maxRecDepth 100000 in
set_option maxHeartbeats 1000000 in
theorem end_any (p : List UInt8) (h1 : 1≤p.length) (h2 : p.length≤1000) (w : World) :
    Calls Tryz.prog 218 #[.string (bs p)] w fun e w' => e=.returned (.int .i64 (endV p))∧w=w':=by
  have z:=bs_size p
  have x1:=ex_drop p 1
  have hP:=Lib.hid (fun w d h => HasPrefix_at (p.drop 1) [33] d h w)
  cases hd : Lib.hasPrefix (p.drop 1) [33]
  · have hk : endK p=1:=by unfold endK;rw [hd];rfl
    by_cases hlt : 1 < p.length
    · have hi : endI p=Lib.indexByte (p.drop 2) 93:=by unfold endI;rw [hk,if_pos hlt]
      have x2:=ex_drop p 2
      have fin:=Lib.hid (show endV p=if Lib.indexByte (p.drop 2) 93 < 0 then -1 else 1 + 1 + Lib.indexByte (p.drop 2) 93 + 1 by unfold endV;rw [hi,hk];rfl)
      have hI:=Lib.hid (fun w => IndexByte_93 (p.drop 2) w)
      have hge:=indexByte_ge (p.drop 2) 93
      obtain ⟨g1,g2⟩:=hge
      rw [List.length_drop] at g2
      have HP:=Lib.hid (fun w => hP.out w false hd)
      clear hP hd hk hi
      generalize Lib.indexByte (p.drop 2) 93=ix at *
      generalize bs (p.drop 2)=s2 at *
      generalize bs (p.drop 1)=s1 at *
      generalize bs p=s0 at *
      generalize hn : p.length=n at *
      have HN:=Lib.hid hn
      clear hn
      have t1 : decide ((1 : Int) < n)=true:=decide_eq_true (by omega)
      have t1n : decide (1 < n)=true:=decide_eq_true (by omega)
      by_cases hneg : ix < 0
      · have fin2:=Lib.hid (fin.out.trans (if_pos hneg))
        have t2 : decide (ix < 0)=true:=decide_eq_true hneg
        go_enter Tryz.func218,Tryz.ntmps218
        go_wp2_with fail
        refine (HP.out _).mono ?_
        rintro e w' ⟨rfl,rfl⟩
        go_wp2_with fail
        refine (hI.out _).mono ?_
        rintro e w' ⟨rfl,rfl⟩
        go_wp2_with fail
        go_ret
        exact ⟨ret_int (by rw [fin2.out]),rfl⟩
      · have fin2:=Lib.hid (fin.out.trans (if_neg hneg))
        have t2 : decide (ix < 0)=false:=decide_eq_false hneg
        go_enter Tryz.func218,Tryz.ntmps218
        go_wp2_with fail
        refine (HP.out _).mono ?_
        rintro e w' ⟨rfl,rfl⟩
        go_wp2_with fail
        refine (hI.out _).mono ?_
        rintro e w' ⟨rfl,rfl⟩
        go_wp2_with fail
        go_ret
        exact ⟨ret_int (by rw [fin2.out];first | rfl | omega),rfl⟩
    · have fin:=Lib.hid (show endV p=-1 by unfold endV endI;rw [hk,if_neg hlt];rfl)
      have HP:=Lib.hid (fun w => hP.out w false hd)
      clear hP hd hk
      generalize bs (p.drop 1)=s1 at *
      generalize bs p=s0 at *
      generalize hn : p.length=n at *
      have HN:=Lib.hid hn
      clear hn
      have t1 : decide ((1 : Int) < n)=false:=decide_eq_false (by omega)
      have t1n : decide (1 < n)=false:=decide_eq_false (by omega)
      go_enter Tryz.func218,Tryz.ntmps218
      go_wp2_with fail
      refine (HP.out _).mono ?_
      rintro e w' ⟨rfl,rfl⟩
      go_wp2_with fail
      go_ret
      exact ⟨ret_int (by rw [fin.out]),rfl⟩
  · have hk : endK p=2:=by unfold endK;rw [hd];rfl
    by_cases hlt : 2 < p.length
    · have hi : endI p=Lib.indexByte (p.drop 3) 93:=by unfold endI;rw [hk,if_pos hlt]
      have x2:=ex_drop p 3
      have fin:=Lib.hid (show endV p=if Lib.indexByte (p.drop 3) 93 < 0 then -1 else 2 + 1 + Lib.indexByte (p.drop 3) 93 + 1 by unfold endV;rw [hi,hk];rfl)
      have hI:=Lib.hid (fun w => IndexByte_93 (p.drop 3) w)
      have hge:=indexByte_ge (p.drop 3) 93
      obtain ⟨g1,g2⟩:=hge
      rw [List.length_drop] at g2
      have HP:=Lib.hid (fun w => hP.out w true hd)
      clear hP hd hk hi
      generalize Lib.indexByte (p.drop 3) 93=ix at *
      generalize bs (p.drop 3)=s2 at *
      generalize bs (p.drop 1)=s1 at *
      generalize bs p=s0 at *
      generalize hn : p.length=n at *
      have HN:=Lib.hid hn
      clear hn
      have t1 : decide ((2 : Int) < n)=true:=decide_eq_true (by omega)
      have t1n : decide (2 < n)=true:=decide_eq_true (by omega)
      by_cases hneg : ix < 0
      · have fin2:=Lib.hid (fin.out.trans (if_pos hneg))
        have t2 : decide (ix < 0)=true:=decide_eq_true hneg
        go_enter Tryz.func218,Tryz.ntmps218
        go_wp2_with fail
        refine (HP.out _).mono ?_
        rintro e w' ⟨rfl,rfl⟩
        go_wp2_with fail
        refine (hI.out _).mono ?_
        rintro e w' ⟨rfl,rfl⟩
        go_wp2_with fail
        go_ret
        exact ⟨ret_int (by rw [fin2.out]),rfl⟩
      · have fin2:=Lib.hid (fin.out.trans (if_neg hneg))
        have t2 : decide (ix < 0)=false:=decide_eq_false hneg
        go_enter Tryz.func218,Tryz.ntmps218
        go_wp2_with fail
        refine (HP.out _).mono ?_
        rintro e w' ⟨rfl,rfl⟩
        go_wp2_with fail
        refine (hI.out _).mono ?_
        rintro e w' ⟨rfl,rfl⟩
        go_wp2_with fail
        go_ret
        exact ⟨ret_int (by rw [fin2.out];first | rfl | omega),rfl⟩
    · have fin:=Lib.hid (show endV p=-1 by unfold endV endI;rw [hk,if_neg hlt];rfl)
      have hge2 : 2≤p.length:=by
        rcases Nat.lt_or_ge p.length 2 with h | h
        · exfalso
          have : p.drop 1=[]:=List.eq_nil_of_length_eq_zero (by rw [List.length_drop];omega)
          rw [this] at hd
          exact absurd hd (by decide)
        · exact h
      have HP:=Lib.hid (fun w => hP.out w true hd)
      clear hP hd hk
      generalize bs (p.drop 1)=s1 at *
      generalize bs p=s0 at *
      generalize hn : p.length=n at *
      have HN:=Lib.hid hn
      clear hn
      have t1 : decide ((2 : Int) < n)=false:=decide_eq_false (by omega)
      have t1n : decide (2 < n)=false:=decide_eq_false (by omega)
      go_enter Tryz.func218,Tryz.ntmps218
      go_wp2_with fail
      refine (HP.out _).mono ?_
      rintro e w' ⟨rfl,rfl⟩
      go_wp2_with fail
      go_ret
      exact ⟨ret_int (by rw [fin.out]),rfl⟩
abbrev Piece : Type:=UInt8 ⊕ (Bool × UInt8 × List UInt8)
def textP : Piece→List UInt8
  | .inl b => [b]
  | .inr (neg,x,body) => setT neg x body
def okP : Piece→Prop
  | .inl b => b≠91
  | .inr (neg,x,body) => (neg=false→x≠33)∧(93 : UInt8) ∉ body∧body.length≤1000
def starP : Piece→Bool
  | .inl b => b == 42
  | .inr _ => false
def fitsP : Piece→UInt8→Bool
  | .inl b,c => b == 63 || b == c
  | .inr (neg,x,body),c => items c false (x :: body) != neg
theorem ret_bool2 {a b : Bool} (h : a=b) : Ending.returned (.bool a)=.returned (.bool b):=by rw [h]
set_option maxRecDepth 100000 in
set_option maxHeartbeats 1000000 in
theorem sign_any (q : Piece) (hq : okP q) (c : UInt8) (w : World) :
    Calls Tryz.prog 258 #[.string (bs (textP q)),.int .u8 c.toNat] w fun e w' => e=.returned (.bool (fitsP q c))∧∃ n,w'=w.drewN n:=by
  rcases q with b | ⟨neg,x,body⟩
  · have ts : 0 < (bs [b]).size:=by rw [bs_size];simp
    have t3:=bs_at0 b [] ts
    have z:=bs_size [b]
    have hb91 : ¬ (b.toNat : Int)=91:=nat_byte (d:=91) hq
    have e91 : ((b.toNat : Int) == 91)=false:=beq_eq_false_iff_ne.2 hb91
    show Calls _ _ #[.string (bs [b]),_] _ _
    by_cases h63 : b=63
    · have e63 : ((b.toNat : Int) == 63)=true:=byte_eq (d:=63) h63
      have fin:=Lib.hid (show fitsP (.inl b) c=true by unfold fitsP;rw [h63];rfl)
      clear h63
      rw [show [b].length=1 from rfl] at z
      generalize bs [b]=s at *
      generalize (b.toNat : Int)=B at *
      go_enter Tryz.func258,Tryz.ntmps258
      go_wp2_with fail
      go_ret
      exact ⟨ret_bool2 (by rw [fin.out]),0,rfl⟩
    · have e63 : ((b.toNat : Int) == 63)=false:=byte_ne (d:=63) h63
      have fin:=Lib.hid (show fitsP (.inl b) c=((b.toNat : Int) == (c.toNat : Int)) by
        show (b == 63 || b == c)=_
        rw [show (b == 63)=false from beq_eq_false_iff_ne.2 h63,Bool.false_or]
        by_cases hbc : b=c
        · rw [byte_eq hbc,hbc];exact beq_self_eq_true _
        · rw [byte_ne hbc];exact beq_eq_false_iff_ne.2 hbc)
      clear h63
      rw [show [b].length=1 from rfl] at z
      generalize bs [b]=s at *
      generalize (b.toNat : Int)=B at *
      generalize (c.toNat : Int)=C at *
      go_enter Tryz.func258,Tryz.ntmps258
      go_wp2_with fail
      go_ret
      exact ⟨ret_bool2 (by rw [fin.out]),0,rfl⟩
  · obtain ⟨h1,h2,h3⟩:=hq
    have hS:=Lib.hid (fun w => set_any neg x body c h1 h2 h3 w)
    obtain ⟨r,hr⟩ : ∃ r,setT neg x body=91 :: r:=⟨_,rfl⟩
    show Calls _ _ #[.string (bs (setT neg x body)),_] _ _
    rw [hr] at hS ⊢
    have ts : 0 < (bs (91 :: r)).size:=by rw [bs_size];simp
    have t3:=bs_at0 91 r ts
    rw [show ((91 : UInt8).toNat : Int)=91 from rfl] at t3
    have fin:=Lib.hid (show fitsP (.inr (neg,x,body)) c=(items c false (x :: body) != neg) from rfl)
    clear hr h1 h2
    generalize (items c false (x :: body) != neg)=v at *
    generalize bs (91 :: r)=s at *
    generalize (c.toNat : Int)=C at *
    go_enter Tryz.func258,Tryz.ntmps258
    go_wp2_with fail
    refine (hS.out _).mono ?_
    rintro e w1 ⟨t,rfl,n,rfl⟩
    go_wp2_with fail
    go_ret
    exact ⟨ret_bool2 (by rw [fin.out]),n,rfl⟩
end
section
open Go.RowKit
def textPs (ps : List Piece) : List UInt8:=(ps.map textP).flatten
theorem textPs_cons (q : Piece) (ps : List Piece) : textPs (q :: ps)=textP q ++ textPs ps:=rfl
theorem textP_ne (q : Piece) : textP q≠[]:=by
  rcases q with b | ⟨neg,x,body⟩
  · simp [textP]
  · simp [textP,setT]
theorem endV_set (neg : Bool) (x : UInt8) (body rest : List UInt8) (h1 : neg=false→x≠33) (h2 : (93 : UInt8) ∉ body) : endV (setT neg x body ++ rest)=(setT neg x body).length:=by
  have hk : endK (setT neg x body ++ rest)=if neg then 2 else 1:=by
    unfold endK
    cases neg
    · have : x≠33:=h1 rfl
      have e : (33 == x)=false:=beq_eq_false_iff_ne.2 (fun e => this e.symm)
      simp [setT,Lib.hasPrefix,List.isPrefixOf,e]
    · simp [setT,Lib.hasPrefix,List.isPrefixOf]
  have hi : endI (setT neg x body ++ rest)=body.length:=by
    unfold endI
    cases neg
    · have hk1 : endK (setT false x body ++ rest)=1:=hk
      have e : (setT false x body ++ rest).drop (1 + 1)=body ++ 93 :: rest:=by simp [setT]
      rw [hk1,e,indexByte_at h2,if_pos (by simp [setT])]
    · have hk1 : endK (setT true x body ++ rest)=2:=hk
      have e : (setT true x body ++ rest).drop (2 + 1)=body ++ 93 :: rest:=by simp [setT]
      rw [hk1,e,indexByte_at h2,if_pos (by simp [setT])]
  unfold endV
  rw [hi,hk,if_neg (by omega)]
  cases neg <;> simp [setT] <;> omega
theorem new_strs (w : World) (t : TypeId) (x : Value) : Reads (w.alloc (.cells #[x] t)) (w.heap.size + 1) 1 (some ⟨w.heap.size,0,none⟩) 1 [x] :=
  ⟨by simp,fun _ => ⟨_,rfl,Nat.lt_succ_self _,fun j u hu => by
    rcases j with _ | j
    · have hB:=Blk.new w t #[x]
      have e : (⟨w.heap.size,0,none⟩ : Addr).add 0=⟨w.heap.size,0,none⟩:=rfl
      rw [e,hB.cell 0]
      simpa using hu
    · simp at hu⟩⟩
theorem str_info : (Tryz.prog.info? 9).map (fun i => (i.zero,i.size,i.bytes))=some (some (.string ⟨#[]⟩),1,16):=by kernel_rfl
theorem StrsAt.of_own {w : World} {base : Nat} {v : Value} {l : List (List UInt8)} (h : w.ownsRow base 9 1 v l.length (l.map fun s => .string (bs s))) : StrsAt w w.heap.size v l:=by
  rcases h.2 with ⟨rfl,h0⟩ | ⟨g,cap,cur,rfl,_,_,hn,hm,_⟩
  · obtain rfl : l=[]:=List.eq_nil_of_length_eq_zero h0
    exact ⟨none,0,rfl,by simp,by simp,fun _ => rfl,Reads.none_⟩
  · exact ⟨_,cap,rfl,hn,hm,(fun h => by cases h),Reads.of_own h⟩
def strLen2 (v : Value) : Nat:=match v with | .string s => s.size | _ => 0
theorem block_ge {w : World} {base n size : Nat} {e : TypeId} {v : Value} {xs : List Value} (h : w.ownsRow base e size v n xs) {x : Nat} (hx : v.ownBlock=some x) : base≤x:=by
  rcases h.2 with ⟨rfl,_⟩ | ⟨g,cap,cur,rfl,hbg,_⟩
  · cases hx
  · cases hx;exact hbg
theorem textPs_take (ps : List Piece) (k : Nat) (h : k < ps.length) : textPs (ps.drop k)=textP ps[k] ++ textPs (ps.drop (k + 1)):=by
  rw [List.drop_eq_getElem_cons h,textPs_cons]
set_option maxRecDepth 100000 in
set_option maxHeartbeats 2000000 in
theorem split_any (ps : List Piece) (hp : ∀ q∈ps,okP q) (hl : (textPs ps).length≤1000) (w : World) :
    Calls Tryz.prog 255 #[.string (bs (textPs ps))] w fun e w' => ∃ v,e=.returned v∧StrsAt w' w'.heap.size v (ps.map textP)∧Below w.heap.size w w':=by
  obtain ⟨i0,hi0,hz0,hz1,hz2⟩:=info_parts str_info
  have HP:=Lib.hid hp
  have hdl : Hid (∀ k,(textPs (ps.drop k)).length≤1000):=Lib.hid (fun k => by
    have : textPs ps=textPs (ps.take k) ++ textPs (ps.drop k):=by unfold textPs;rw [← List.flatten_append,← List.map_append,List.take_append_drop]
    rw [this,List.length_append] at hl
    omega)
  have hpl : ps.length≤1000:=by
    have : ∀ l : List Piece,l.length≤(textPs l).length:=by
      intro l
      induction l with
      | nil => simp
      | cons q l ih =>
        rw [textPs_cons,List.length_append,List.length_cons]
        have:=List.length_pos_iff.2 (textP_ne q)
        omega
    have:=this ps
    omega
  clear hp hl
  obtain ⟨G,hG⟩ : ∃ G,G=w.heap.size:=⟨_,rfl⟩
  have HG:=Lib.hid hG
  rw [← hG]
  clear hG
  go_enter Tryz.func255,Tryz.ntmps255
  go_wp2_with fail
  go_loopw [0,3] (fun p v wr => ∃ k : Nat,k≤ps.length∧p=.string (bs (textPs (ps.drop k)))∧wr.ownsRow G 9 1 v k ((ps.take k).map fun q => .string (bs (textP q)))∧Below G w wr) (fun p _ _ => strLen2 p)
  case atStart => exact ⟨0,Nat.zero_le _,rfl,World.ownsRow_nil _ _ _ _,Below.refl _ _⟩
  case round =>
    obtain ⟨k,hk,rfl,hown,hb⟩:=hrel
    by_cases hlt : k < ps.length
    · have hq:=HP.out ps[k] (List.getElem_mem hlt)
      have ht:=textPs_take ps k hlt
      have hlen:=hdl.out k
      have hown2 : Hid ((ps.take (k + 1)).map (fun q => Value.string (bs (textP q)))=(ps.take k).map (fun q => Value.string (bs (textP q))) ++ [.string (bs (textP ps[k]))]):=Lib.hid (by
        rw [List.take_succ_eq_append_getElem hlt,List.map_append];rfl)
      have hne:=textP_ne ps[k]
      have hGs : G≤wr.heap.size:=by rw [HG.out];have:=hb.size;exact this
      have hdrop : Hid (textPs (ps.drop (k + 1))=textPs (ps.drop (k + 1))):=Lib.hid rfl
      rw [ht] at hlen ⊢
      have t0 : ¬ (bs (textP ps[k] ++ textPs (ps.drop (k + 1)))).toList=[]:=by rw [bs_toList];simp [hne]
      have t1 : (bs (textP ps[k] ++ textPs (ps.drop (k + 1)))).toList.isEmpty=false:=by simpa using t0
      have z:=bs_size (textP ps[k] ++ textPs (ps.drop (k + 1)))
      rw [List.length_append] at z hlen
      have xa : (bs (textP ps[k] ++ textPs (ps.drop (k + 1)))).extract 0 (textP ps[k]).length=bs (textP ps[k]):=by rw [bs_extract];congr 1;simp
      have xb : (bs (textP ps[k] ++ textPs (ps.drop (k + 1)))).extract (textP ps[k]).length ((textP ps[k]).length + (textPs (ps.drop (k + 1))).length)=bs (textPs (ps.drop (k + 1))):=by
        rw [bs_extract];congr 1;simp
      have hpos:=List.length_pos_iff.2 hne
      have HB:=Lib.hid (bs_size (textPs (ps.drop (k + 1))))
      clear ht hdrop hne
      generalize hrs : textPs (ps.drop (k + 1))=rest at *
      have HRS:=Lib.hid hrs
      clear hrs
      generalize ps[k]=q at *
      rcases q with b | ⟨neg,x,body⟩
      · have ts : 0 < (bs (textP (.inl b) ++ rest)).size:=by rw [z];omega
        have t3 : (((bs (textP (.inl b) ++ rest))[0]'ts).toNat : Int)=b.toNat:=bs_at0 b rest ts
        have hb91 : ¬ (b.toNat : Int)=91:=nat_byte (d:=91) hq
        have e91 : ((b.toNat : Int) == 91)=false:=beq_eq_false_iff_ne.2 hb91
        have hl1 : (textP (.inl b)).length=1:=rfl
        rw [hl1] at z xa xb hlen
        clear hl1 hb91 hq hpos
        generalize bs (textP (.inl b) ++ rest)=s at *
        generalize hsp : bs (textP (.inl b))=sp at *
        have HSP:=Lib.hid hsp
        clear hsp
        generalize hrl : rest.length=rl at *
        have HRL:=Lib.hid hrl
        clear hrl
        generalize (b.toNat : Int)=B at *
        go_wp2_with (at_builtin;refine wpList_append_any _ rfl (.tmp 12) (.tmp 16) _ rfl G 9 i0 _ 1 16 Tryz.underlying70 hi0 hz0 hz1 hz2 rfl (by omega) _ k _ rfl (hown.alloc _) (wr.heap.size + 1) (some ⟨wr.heap.size,0,none⟩) 1 1 [.string sp] rfl (new_strs _ _ _) (by simp [Value.oneCell']) (by simp only [maxLen];omega) (by omega) (by simp;omega) ?_;intro v3 w3 hown3 hg3 hat3)
        go_roundw
        case rel => exact ⟨k + 1,by omega,by rw [HRS.out],by rw [hown2.out];first | exact hown3 | (rw [HSP.out];exact hown3),(hb.alloc hGs _).grown hg3 (by simp;omega) (fun x hx => block_ge hown hx)⟩
        case measure => have hB:=HB.out;simp [strLen2];omega
      · obtain ⟨h1,h2,h3⟩:=hq
        have hE:=Lib.hid (fun w => end_any (setT neg x body ++ rest) (by simp [setT]) (by rw [List.length_append];exact hlen) w)
        rw [endV_set neg x body rest h1 h2] at hE
        have ts : 0 < (bs (textP (.inr (neg,x,body)) ++ rest)).size:=by rw [z];omega
        have t3 : (((bs (textP (.inr (neg,x,body)) ++ rest))[0]'ts).toNat : Int)=91:=by
          rw [bs_get];rfl
        clear h1 h2
        have hE2 : Hid (∀ w : World,Calls Tryz.prog 218 #[.string (bs (textP (.inr (neg,x,body)) ++ rest))] w fun e w' => e=.returned (.int .i64 (textP (.inr (neg,x,body))).length)∧w=w'):=hE
        clear hE
        generalize bs (textP (.inr (neg,x,body)) ++ rest)=s at *
        generalize hsp : bs (textP (.inr (neg,x,body)))=sp at *
        have HSP:=Lib.hid hsp
        clear hsp
        generalize (textP (.inr (neg,x,body))).length=n at *
        generalize hrl : rest.length=rl at *
        have HRL:=Lib.hid hrl
        clear hrl
        go_wp2_with (first | (at_builtin;refine wpList_append_any _ rfl (.tmp 12) (.tmp 16) _ rfl G 9 i0 _ 1 16 Tryz.underlying70 hi0 hz0 hz1 hz2 rfl (by omega) _ k _ rfl (hown.alloc _) (wr.heap.size + 1) (some ⟨wr.heap.size,0,none⟩) 1 1 [.string sp] rfl (new_strs _ _ _) (by simp [Value.oneCell']) (by simp only [maxLen];omega) (by omega) (by simp;omega) ?_;intro v3 w3 hown3 hg3 hat3) | (go_at_call 218;refine (hE2.out _).mono ?_;rintro e w' ⟨rfl,rfl⟩))
        go_roundw
        case rel => exact ⟨k + 1,by omega,by rw [HRS.out],by rw [hown2.out];first | exact hown3 | (rw [HSP.out];exact hown3),(hb.alloc hGs _).grown hg3 (by simp;omega) (fun x hx => block_ge hown hx)⟩
        case measure => have hB:=HB.out;simp [strLen2];omega
    · obtain rfl : k=ps.length:=by omega
      have hnil : textPs (ps.drop ps.length)=[]:=by rw [List.drop_length];rfl
      rw [hnil]
      have t0 : (bs []).toList=[]:=bs_toList []
      rw [List.take_length] at hown
      clear hnil
      go_wp2_with fail
      go_ret
      refine ⟨_,rfl,?_,hb⟩
      refine StrsAt.of_own (base:=G) ?_
      rw [List.length_map,List.map_map]
      exact hown
end
section
open Go.RowKit
def partOk (s : List UInt8) : Prop:=s≠[]∧∃ ps : List Piece,s=textPs ps∧∀ q∈ps,okP q
set_option maxRecDepth 100000 in
set_option maxHeartbeats 2000000 in
theorem GCheck_ok (p : List UInt8) (h1 : 1≤p.length) (h2 : p.length≤400) (hp : ∀ s∈splitC 47 p,partOk s) (hpl : ∀ s∈splitC 47 p,s.length≤400) (w : World) (hm : ML w) :
    Calls Tryz.prog 180 #[.string (bs p)] w fun e w' => e=.returned (.int .i64 0)∧Below w.heap.size w w':=by
  have hz:=bs_size p
  have hspl:=splitC_length 47 p
  have hS:=Lib.hid (fun hs => Split_slash p w hs hm)
  have HP:=Lib.hid hp
  have HL:=Lib.hid hpl
  have d1 : decide ((p.length : Int) < 1)=false:=decide_eq_false (by omega)
  have d2 : decide (400 < (p.length : Int))=false:=decide_eq_false (by omega)
  clear hp hpl hm
  generalize splitC 47 p=P at *
  go_enter Tryz.func180,Tryz.ntmps180
  go_wp2_with fail
  refine (hS.out (by omega)).mono ?_
  rintro e w1 ⟨v,rfl,hv,hb⟩
  obtain ⟨A,c,rfl,h11,h12,h13,hr⟩:=hv
  unfold maxLen at h12
  go_wp2_with fail
  go_loop [17] (fun i => ∃ k : Nat,k≤P.length∧i=.int .i64 k) (fun i => P.length - (intOf i).toNat)
  case atStart => exact ⟨0,Nat.zero_le _,rfl⟩
  case round =>
    obtain ⟨k,hk,rfl⟩:=hrel
    by_cases hx : k < P.length
    · obtain ⟨ad1,u1,rfl,_,hu1,hc1⟩:=hr.at_ hx
      rw [List.getElem?_map,List.getElem?_eq_getElem hx] at hu1
      obtain rfl : Value.string (bs P[k])=u1:=by simpa using hu1
      have hpo:=HP.out P[k] (List.getElem_mem hx)
      have hlo:=HL.out P[k] (List.getElem_mem hx)
      clear hu1
      generalize P[k]=s at *
      obtain ⟨hne,ps,rfl,hok⟩:=hpo
      have t0 : ¬ (bs (textPs ps)).toList=[]:=by rw [bs_toList];exact hne
      have t1 : (bs (textPs ps)).toList.isEmpty=false:=by simpa using t0
      have HK:=Lib.hid hok
      have hdl : Hid (∀ k,(textPs (ps.drop k)).length≤400):=Lib.hid (fun k => by
        have : textPs ps=textPs (ps.take k) ++ textPs (ps.drop k):=by unfold textPs;rw [← List.flatten_append,← List.map_append,List.take_append_drop]
        rw [this,List.length_append] at hlo
        omega)
      clear hne hok hlo
      go_wp2_with fail
      go_loop [4] (fun t => ∃ j : Nat,j≤ps.length∧t=.string (bs (textPs (ps.drop j)))) (fun t => strLen2 t)
      case atStart => exact ⟨0,Nat.zero_le _,rfl⟩
      case round =>
        obtain ⟨j,hj,rfl⟩:=hrel
        by_cases hlt : j < ps.length
        · have hq:=HK.out ps[j] (List.getElem_mem hlt)
          have ht:=textPs_take ps j hlt
          have hlen:=hdl.out j
          rw [ht] at hlen ⊢
          have hne:=textP_ne ps[j]
          have u0 : ¬ (bs (textP ps[j] ++ textPs (ps.drop (j + 1)))).toList=[]:=by rw [bs_toList];simp [hne]
          have u1 : (bs (textP ps[j] ++ textPs (ps.drop (j + 1)))).toList.isEmpty=false:=by simpa using u0
          have z:=bs_size (textP ps[j] ++ textPs (ps.drop (j + 1)))
          rw [List.length_append] at z hlen
          have xb : (bs (textP ps[j] ++ textPs (ps.drop (j + 1)))).extract (textP ps[j]).length ((textP ps[j]).length + (textPs (ps.drop (j + 1))).length)=bs (textPs (ps.drop (j + 1))):=by
            rw [bs_extract];congr 1;simp
          have hpos:=List.length_pos_iff.2 hne
          have HB:=Lib.hid (bs_size (textPs (ps.drop (j + 1))))
          clear ht hne
          generalize hrs : textPs (ps.drop (j + 1))=rest at *
          have HRS:=Lib.hid hrs
          clear hrs
          generalize ps[j]=q at *
          by_cases hss : textP q ++ rest=[42,42]
          · have e1 : ((bs (textP q ++ rest)).toList == [42,42])=true:=by rw [bs_toList,hss];rfl
            have e2 : ((bs (textP q ++ rest)).toList != [42,42])=false:=by rw [bs_toList,hss];rfl
            have e3 : (bs (textP q ++ rest)).toList=[42,42]:=by rw [bs_toList,hss]
            clear hss u0 u1
            generalize bs (textP q ++ rest)=s at *
            go_wp2_with fail
            go_round
            case rel => exact ⟨k + 1,by omega,by go_num⟩
            case measure => simp [intOf];omega
          · have e1 : ((bs (textP q ++ rest)).toList == [42,42])=false:=by rw [bs_toList];exact beq_eq_false_iff_ne.2 hss
            have e2 : ((bs (textP q ++ rest)).toList != [42,42])=true:=by rw [bs_toList];exact bne_iff_ne.2 hss
            have e3 : ¬ (bs (textP q ++ rest)).toList=[42,42]:=by rw [bs_toList];exact hss
            clear hss
            rcases q with b | ⟨neg,x,body⟩
            · have ts : 0 < (bs (textP (.inl b) ++ rest)).size:=by rw [z];omega
              have t3 : (((bs (textP (.inl b) ++ rest))[0]'ts).toNat : Int)=b.toNat:=bs_at0 b rest ts
              have hb91 : ¬ (b.toNat : Int)=91:=nat_byte (d:=91) hq
              have e91 : ((b.toNat : Int) == 91)=false:=beq_eq_false_iff_ne.2 hb91
              have hl1 : (textP (.inl b)).length=1:=rfl
              rw [hl1] at z xb hlen
              clear hl1 hb91 hq hpos
              generalize bs (textP (.inl b) ++ rest)=s at *
              generalize hrl : rest.length=rl at *
              have HRL:=Lib.hid hrl
              clear hrl
              generalize (b.toNat : Int)=Bb at *
              go_wp2_with fail
              go_round
              case rel => exact ⟨j + 1,by omega,by rw [HRS.out]⟩
              case measure => have hB:=HB.out;simp [strLen2];omega
            · obtain ⟨h1,h2,h3⟩:=hq
              have hE:=Lib.hid (fun w => end_any (setT neg x body ++ rest) (by simp [setT]) (by rw [List.length_append];exact Nat.le_trans hlen (by omega)) w)
              rw [endV_set neg x body rest h1 h2] at hE
              have ts : 0 < (bs (textP (.inr (neg,x,body)) ++ rest)).size:=by rw [z];omega
              have t3 : (((bs (textP (.inr (neg,x,body)) ++ rest))[0]'ts).toNat : Int)=91:=by
                rw [bs_get];rfl
              clear h1 h2
              have hE2 : Hid (∀ w : World,Calls Tryz.prog 218 #[.string (bs (textP (.inr (neg,x,body)) ++ rest))] w fun e w' => e=.returned (.int .i64 (textP (.inr (neg,x,body))).length)∧w=w'):=hE
              clear hE
              generalize bs (textP (.inr (neg,x,body)) ++ rest)=s at *
              generalize (textP (.inr (neg,x,body))).length=n at *
              generalize hrl : rest.length=rl at *
              have HRL:=Lib.hid hrl
              clear hrl
              go_wp2_with fail
              refine (hE2.out _).mono ?_
              rintro e w' ⟨rfl,rfl⟩
              go_wp2_with fail
              go_round
              case rel => exact ⟨j + 1,by omega,by rw [HRS.out]⟩
              case measure => have hB:=HB.out;simp [strLen2];omega
        · obtain rfl : j=ps.length:=by omega
          have hnil : textPs (ps.drop ps.length)=[]:=by rw [List.drop_length];rfl
          rw [hnil]
          have u0 : (bs []).toList=[]:=bs_toList []
          clear hnil
          go_wp2_with fail
          go_round
          case rel => exact ⟨k + 1,by omega,by go_num⟩
          case measure => simp [intOf];omega
    · go_wp2_with fail
      go_ret
      exact ⟨rfl,hb⟩
end
end Go.Proofs.YtphmhmdcaafmdaaGreatDoor
