import Derived.Test.YtphmhmdcaafmdaaGreatDoorSortN
import Derived.Test.YtphmhmdcaafmdaaGreatDoorTreeE
import Derived.Test.YtphmhmdcaafmdaaGreatDoorTreeR
import Derived.Deep.CutRange
import Derived.Deep.DeepCutAuto
import Derived.Deep.RegionHeld3
namespace Go.Proofs.YtphmhmdcaafmdaaGreatDoor
set_option linter.all false
open Go.RowKit
set_option maxRecDepth 100000 in
set_option maxHeartbeats 40000000 in
theorem Tree_any1 (l : List RawS) (v : Value) (most : Nat) (w : World) (hm : ML w) (hl : RawsAt w w.heap.size v l) (hok : ∀ x∈l,RawOk x) (hn : l.length≤1048577) (hmost : most≤40) :
    Calls Tryz.prog 7 #[v,.int .i64 most] w fun e w' => ∃ tv,e=.returned tv∧NodesOwn w' w.heap.size tv (treeP l most)∧Below w.heap.size w w':=by
  obtain ⟨A,c,rfl,hlc,hc,hA,hr⟩:=hl
  unfold maxLen at hc
  have HMl : Hid (∀ W,Below w.heap.size w W→ML W):=Lib.hid (fun W hb => hm.below hb)
  have HML:=Lib.hid hm.lt
  have HR:=Lib.hid hr
  have HOK:=Lib.hid hok
  clear hm hr hok hA
  have H0 : Hid (TrSt w ⟨[],[[]]⟩ (.slice (some ⟨w.heap.size + 1,0,none⟩) 1 1) ((w.alloc (.cells #[.slice none 0 0] 23)).alloc (.cells #[.string ⟨#[]⟩] 9))):=by
    have hb:=(Blk.new (w.alloc (.cells #[.slice none 0 0] 23)) 9 #[.string ⟨#[]⟩])
    rw [show (w.alloc (.cells #[.slice none 0 0] 23)).heap.size=w.heap.size + 1 by simp] at hb
    refine ⟨((Below.refl _ w).alloc (Nat.le_refl _) _).alloc (by simp) _,⟨_,(Blk.new w 23 #[.slice none 0 0]).alloc _,[],rfl,⟨by simp,.inl ⟨rfl,rfl⟩⟩,by simp⟩,by simp,.inr ⟨w.heap.size + 1,1,#[.string ⟨#[]⟩],rfl,by omega,hb,Nat.le_refl _,by simp [maxLen],by simp,rfl⟩⟩
  go_enter Tryz.func7,Tryz.ntmps7
  go_wp2_with fail
  go_loopg [6,17] l.length (fun gg s6 s17 wr => ∃ k : Nat,k≤l.length∧l.length - k≤gg∧s17=.int .i64 k∧Hid (TrSt w (growN most l k) s6 wr))
  case atStart => exact ⟨0,Nat.zero_le _,by omega,rfl,H0⟩
  case round =>
    obtain ⟨k,hk,hg,rfl,HS⟩:=hrel
    obtain ⟨At,ct,hct,hct1,hct2,hno,hfz,hlt0⟩:=HS.out.tree
    have hne0 : w.heap.size≠wr.heap.size:=by omega
    unfold maxLen at hct2
    by_cases hgo : k < l.length∧(growN most l k).t.length < most
    · obtain ⟨hlt,hfull⟩:=hgo
      have hstep:=growN_succ (most:=most) hlt
      have hsk:=growN_ok most l k
      obtain ⟨ad,rfl,had,q0,q1,q2,q3⟩:=load_raw (HR.out.below HS.out.1) hlt
      have hrk:=HOK.out _ (List.getElem_mem hlt)
      have hdl:=hsk.dirs
      have hdle:=hsk.dirsLe
      obtain ⟨gd,cd,rfl,hcd1,hcd2,hgd,hdc⟩:=HS.out.2.2.at_ hdl
      have hne1 : gd≠wr.heap.size:=by omega
      unfold maxLen at hcd2
      obtain ⟨ib,hib,bib⟩:=pick_nat l[k].b (growN most l k).dirs.length hdl
      have Pib:=Lib.hid (fun w => picked_any l[k].b (growN most l k).dirs.length hrk.b (by omega) (by omega) w)
      rw [hib] at Pib
      have hd:=hdc ib bib
      clear hdc
      have hltz : (k : Int) < (l.length : Int):=by omega
      have hfz2 : ¬ ((most : Int)≤((growN most l k).t.length : Int)):=by omega
      generalize hgs : growN most l k=gs at *
      generalize hrr : l[k]=r at *
      have HSTEP:=Lib.hid hstep
      have HGS:=Lib.hid hgs
      clear hstep hgs
      obtain ⟨d,hdd⟩ : ∃ d,d=gs.dirs[ib]:=⟨_,rfl⟩
      rw [← hdd] at hd
      obtain ⟨g9,hg9⟩ : ∃ g9,g9=wr.heap.size:=⟨_,rfl⟩
      obtain ⟨W1,hW1⟩ : ∃ W1,W1=wr.alloc (.cells #[.int .i64 r.kind,.int .i64 r.a,.int .i64 r.b,.string (bs r.text)] 55):=⟨_,rfl⟩
      have b01 : Below wr.heap.size wr W1:=by rw [hW1];exact (Below.refl _ _).alloc (Nat.le_refl _) _
      have K1 : Blk W1 g9 55 #[.int .i64 r.kind,.int .i64 r.a,.int .i64 r.b,.string (bs r.text)]:=by rw [hW1,hg9];exact Blk.new _ _ _
      have HSr:=Lib.hid (show TrBl w gs (.slice (some ⟨gd,0,none⟩) gs.dirs.length cd) g9 55 #[.int .i64 r.kind,.int .i64 r.a,.int .i64 r.b,.string (bs r.text)] W1 from ⟨HS.out.below b01,K1⟩)
      have c1:=(b01.cell (p:=⟨w.heap.size,0,none⟩) hlt0).trans hct
      have c2:=(b01.cell (p:=⟨gd,ib,none⟩) hgd).trans hd
      have c3:=K1.cell 0
      have c4:=K1.cell 1
      have c5:=K1.cell 2
      have c6:=K1.cell 3
      clear b01 K1
      go_upto_region 11 with fail
      rw [← hW1,← hg9]
      refine (Pib.out _).mono ?_
      rintro e w' ⟨rfl,rfl⟩
      have HW1:=Lib.hid hW1
      have HG9:=Lib.hid hg9
      have HD:=Lib.hid hdd
      clear hW1 hg9 hct hd q0 q1 q2 q3 hdd
      go_upto_if 34 with fail
      go_cut [10,17] from 17 to 140 (fun s10 s17 wx => s10=.string (bs (upS d))∧s17=.int .i64 k∧wx=W1)
      case first =>
        have hz:=bs_size d
        have hz2 : d.length≤400:=hsk.dirLen d (by rw [HD.out];exact List.getElem_mem bib)
        by_cases hdn : d=[]
        · have HE:=Lib.hid (show bs d=bs (upS d) from by unfold upS;rw [if_pos hdn,hdn])
          have t1 : (bs d).toList=[]:=by rw [bs_toList];exact hdn
          have t2 : (bs d).toList.isEmpty=true:=by rw [t1];rfl
          clear hdn
          simp only [t2,Bool.not_true]
          go_wp2_with fail
          go_meet
          case rel => exact ⟨by rw [HE.out],rfl,rfl⟩
        · have HE:=Lib.hid (show bs d ++ ⟨#[47]⟩=bs (upS d) from by unfold upS;rw [if_neg hdn];exact bs_append d [47])
          have t1 : ¬ (bs d).toList=[]:=by rw [bs_toList];exact hdn
          have t2 : (bs d).toList.isEmpty=false:=by rw [bs_toList];cases d with | nil => exact absurd rfl hdn | cons => rfl
          clear hdn
          simp only [t2,Bool.not_false]
          go_wp2_with fail
          go_meet
          case rel => exact ⟨by rw [← HE.out],rfl,rfl⟩
      case rest =>
        obtain ⟨rfl,rfl,rfl⟩:=hcut
        have hp : growPath gs.dirs r=upS d ++ namesL.getD (pick r.a 11).toNat []:=by
          unfold growPath
          rw [hib,HD.out]
          simp only [Int.toNat_natCast]
          rw [show gs.dirs.getD ib []=gs.dirs[ib] by rw [List.getD_eq_getElem?_getD,List.getElem?_eq_getElem bib];rfl]
        have hpl:=growPath_length hsk r
        have hz1 : (bs (upS d)).size≤531:=by rw [bs_size];rw [hp,List.length_append] at hpl;omega
        have HP : Hid (bs (upS d) ++ bs (namesL.getD (pick r.a 11).toNat [])=bs (growPath gs.dirs r)):=Lib.hid (by rw [hp];exact bs_append _ _)
        have HPL:=Lib.hid hpl
        clear hp hpl
        go_upto_region 11 with fail
        refine reg11 w gs (.slice (some ⟨gd,0,none⟩) gs.dirs.length cd) g9 r hrk (bs (upS d)) hz1 _ HSr.out _ _ _ _ _ _ _ _ _ _ _ _ _ _ _ _ _ _ _ _ _ _ _ _ _ _ _ _ _ _ _ _ _ _ _ _ _ _ _ _ _ _ _ _ _ _ _ _ _ _ _ _ _ _ _ _ _ _ _ _ _ _ _ _ _ _ _ _ _ _ _ _ _ _ _ _ _ _ _ _ _ _ _ _ _ _ _ _ _ _ _ _ _ _ _ _ _ _ _ _ _ _ _ _ _ _ _ _ _ _ _ _ _ _ _ _ _ _ _ _ _ _ _ _ _ _ _ _ _ _ _ _ _ _ _ _ _ _ _ _ _ _ _ _ _ _ _ ?_
        intro v37 v38 v39 v40 v41 v42 v43 v44 v45 v46 wc HB1
        rw [HP.out]
        · skip
          have HB:=Lib.hid HB1
          clear HB1 hz1 HP
          have hpl:=HPL.out
          obtain ⟨p,hpp⟩ : ∃ p,p=growPath gs.dirs r:=⟨_,rfl⟩
          rw [← hpp] at hpl ⊢
          have HPP:=Lib.hid hpp
          clear hpp HPL
          have HAT:=Lib.hid (fun W h => At_any w gs (.slice (some ⟨gd,0,none⟩) gs.dirs.length cd) p W h)
          have hzp:=bs_size p
          by_cases hlong : 400 < p.length
          · have HST : Hid (growN most l (k + 1)=gs):=Lib.hid (by rw [HSTEP.out];unfold growStep;rw [if_neg (by omega),← HPP.out,if_pos (.inl hlong)])
            have hlz : (400 : Int) < (p.length : Int):=by omega
            go_wp2_with fail
            go_roundg (l.length - (k + 1))
            case measure => omega
            case rel => exact ⟨k + 1,by omega,by omega,by go_num,Lib.hid (by rw [HST.out];exact HB.out.1)⟩
          · have hlz : ¬ (400 : Int) < (p.length : Int):=by omega
            by_cases hhas : hasPath gs.t p=true
            · have HST : Hid (growN most l (k + 1)=gs):=Lib.hid (by rw [HSTEP.out];unfold growStep;rw [if_neg (by omega),← HPP.out,if_pos (.inr hhas)])
              obtain ⟨ix,_,hix,_⟩:=idxN_nat hhas
              have HIX:=Lib.hid hix
              clear hix hhas
              go_wp2_with fail
              refine (HAT.out _ HB.out.1).mono ?_
              rintro e w2 ⟨rfl,b2⟩
              rw [HIX.out]
              have HB2:=Lib.hid (HB.out.below b2)
              clear b2
              go_wp2_with fail
              go_roundg (l.length - (k + 1))
              case measure => omega
              case rel => exact ⟨k + 1,by omega,by omega,by go_num,Lib.hid (by rw [HST.out];exact HB2.out.1)⟩
            · have hhas2 : hasPath gs.t p=false:=by simpa using hhas
              have HST : Hid (growN most l (k + 1)=growKind gs r p (pick r.kind 7).toNat):=Lib.hid (by
                rw [HSTEP.out];unfold growStep
                rw [if_neg (by omega),← HPP.out,if_neg (by rw [hhas2];simp;omega)])
              have HIX:=Lib.hid (idxN_neg hhas2)
              clear hhas hhas2
              go_wp2_with fail
              refine (HAT.out _ HB.out.1).mono ?_
              rintro e w2 ⟨rfl,b2⟩
              rw [HIX.out]
              have HB2:=Lib.hid (HB.out.below b2)
              clear b2
              go_upto_region 13 with fail
              refine reg13 w2 (HMl.out _ HB2.out.1.1) g9 r hrk p (RSt.start HB2.out.2) _ _ _ _ _ _ _ _ _ _ _ _ _ _ _ _ _ _ _ _ _ _ _ _ _ _ _ _ _ _ _ _ _ _ _ _ _ _ _ _ _ _ _ _ _ _ _ _ _ _ _ _ _ _ _ _ _ _ _ _ _ _ _ _ _ _ _ _ _ _ _ _ _ _ _ _ _ _ _ _ _ _ _ _ _ _ _ _ _ _ _ _ _ _ _ _ _ _ _ _ _ _ _ _ _ _ _ _ _ _ _ _ _ _ _ _ _ _ _ _ _ _ _ _ _ _ _ _ _ _ _ _ _ _ _ _ _ _ _ _ _ _ _ _ _ _ _ ?_
              intro v56 v57 v58 v59 v60 v61 v62 v63 v64 v65 v66 v67 g11 dv wc hg11 HR3 K11 D11
              · obtain ⟨mm,hmm⟩ : ∃ mm,mm=metaOf r:=⟨_,rfl⟩
                obtain ⟨m1,m2,m3,m4,m5,m6,m7⟩:=mm
                have HMM:=Lib.hid hmm
                obtain ⟨dat,hdat⟩ : ∃ dat,dat=(plainN r p).data:=⟨_,rfl⟩
                have HDAT : Hid (plainN r p=⟨p,1,0,[],⟨m1,m2,m3,m4,m5,m6,m7⟩,dat⟩):=Lib.hid (by unfold plainN;rw [← hmm,hdat];rfl)
                rw [← hdat] at D11
                rw [HDAT.out] at K11
                replace K11 : Blk wc g11 29 #[.string (bs p),.int .i64 1,.int .i64 0,.string ⟨#[]⟩,.int .i64 m1,.int .i64 m2,.int .i64 m3,.string (bs m4),.string (bs m5),.int .i64 m6,.int .i64 m7,dv]:=K11
                clear hmm hdat
                generalize hbt : bs r.text=bt at *
                have HBT:=Lib.hid hbt
                clear hbt
                obtain ⟨e0,e1,e2,e3,hg9c,hB3⟩:=id HR3
                have HE3:=Lib.hid (HB2.out.1.below hB3)
                have HK11:=Lib.hid K11
                have HD11:=Lib.hid D11
                have HRS3:=Lib.hid HR3
                obtain ⟨kk,hkk,bkk⟩:=pick_nat r.kind 7 (by omega)
                have hkk : pick r.kind 7=(kk : Int):=hkk
                have Pkk:=Lib.hid (fun w => picked_any r.kind 7 hrk.kind (by omega) (by omega) w)
                rw [hkk] at Pkk
                have HST2 : Hid (growN most l (k + 1)=growKind gs r p kk):=Lib.hid (by rw [HST.out,hkk,Int.toNat_natCast])
                clear hkk HR3 K11 D11 HST hB3
                go_wp2_with fail
                refine (Pkk.out _).mono ?_
                rintro e w' ⟨rfl,rfl⟩
                go_upto_block 2 with fail
                go_cut [6,12,17] from 17 to 140 (fun s6 _ s17 wx => s17=.int .i64 k∧TrEnd w (growKind gs r p kk) g11 s6 wx)
                case first =>
                  have hfz1:=HK11.out.frozen 1
                  have hfz2:=HK11.out.frozen 2
                  have hfz3:=HK11.out.frozen 3
                  have hfz11:=HK11.out.frozen 11
                  have c0:=HK11.out.cell 0
                  have c1:=HK11.out.cell 1
                  have c2:=HK11.out.cell 2
                  have c3:=HK11.out.cell 3
                  have c4:=HK11.out.cell 4
                  have c5:=HK11.out.cell 5
                  have c6:=HK11.out.cell 6
                  have c7:=HK11.out.cell 7
                  have c8:=HK11.out.cell 8
                  have c9:=HK11.out.cell 9
                  have c10:=HK11.out.cell 10
                  have c11:=HK11.out.cell 11
                  rcases (show kk=0∨kk=1∨kk=2∨kk=3∨kk=4∨5≤kk by omega) with rfl | rfl | rfl | rfl | rfl | h5
                  ·
                    obtain ⟨W4,hW4⟩ : ∃ W4,W4=(wc.setCell ⟨g11,1,none⟩ (.int .i64 2)).setCell ⟨g11,11,none⟩ (.slice none 0 0):=⟨_,rfl⟩
                    have b4 : Below w2.heap.size w2 W4:=by
                      rw [hW4]
                      exact (HRS3.out.2.2.2.2.2.setCell (p:=⟨g11,1,none⟩) hg11 _).setCell (p:=⟨g11,11,none⟩) hg11 _
                    have HT4:=Lib.hid (HB2.out.1.below b4)
                    have HN4 : Hid (NodeBlk W4 w.heap.size g11 (dirN r p)):=Lib.hid ⟨.slice none 0 0,by
                      have k4:=(HK11.out.set_ 1 (.int .i64 2)).set_ 11 (.slice none 0 0)
                      rw [← hW4] at k4
                      unfold dirN
                      rw [← HMM.out]
                      exact k4,DataAt.nil _ _⟩
                    clear b4
                    have HGK : Hid (growKind gs r p 0=⟨gs.t ++ [dirN r p],gs.dirs ++ [p]⟩):=Lib.hid (by unfold growKind;rw [if_pos (by omega)])
                    obtain ⟨i9,hi9,hy0,hy1,hy2⟩:=info_parts strinfo
                    have hl1 : gs.dirs.length + 1≤41:=by omega
                    go_upto_region 18 with fail
                    rw [← hW4]
                    clear hW4
                    have HA4:=Lib.hid ((Below.refl W4.heap.size W4).alloc (Nat.le_refl _) (.cells #[.string (bs p)] 9))
                    have HT5:=Lib.hid (HT4.out.below HA4.out)
                    have HN5:=Lib.hid (HN4.out.below HA4.out)
                    have hsz5 : w.heap.size≤(W4.alloc (.cells #[.string (bs p)] 9)).heap.size:=HT5.out.1.size
                    go_wp2_with (at_builtin;refine wpList_append_any _ rfl (.tmp 76) (.tmp 78) _ rfl w.heap.size 9 i9 _ 1 16 Tryz.underlying70 hi9 hy0 hy1 hy2 rfl (by omega) _ gs.dirs.length (gs.dirs.map fun d => .string (bs d)) rfl HT5.out.2.2 (W4.heap.size + 1) (some ⟨W4.heap.size,0,none⟩) 1 1 [.string (bs p)] rfl (new_row W4 9 [.string (bs p)] 1 1 rfl) (by simp [Value.oneCell']) (by simp only [maxLen];omega) (by omega) hsz5 ?_;intro v5 w5 hown5 hg5 hat5)
                    go_meet
                    case rel =>
                      refine ⟨rfl,?_⟩
                      rw [HGK.out]
                      refine ⟨gs.t,dirN r p,gs.dirs ++ [p],rfl,HT5.out.dir hg5 ?_,HN5.out.grown hg5 (dirs_typed HT5.out)⟩
                      unfold DirsOwn
                      rw [List.length_append,List.map_append]
                      exact hown5
                  ·
                    obtain ⟨W4,hW4⟩ : ∃ W4,W4=(wc.setCell ⟨g11,1,none⟩ (.int .i64 2)).setCell ⟨g11,11,none⟩ (.slice none 0 0):=⟨_,rfl⟩
                    have b4 : Below w2.heap.size w2 W4:=by
                      rw [hW4]
                      exact (HRS3.out.2.2.2.2.2.setCell (p:=⟨g11,1,none⟩) hg11 _).setCell (p:=⟨g11,11,none⟩) hg11 _
                    have HT4:=Lib.hid (HB2.out.1.below b4)
                    have HN4 : Hid (NodeBlk W4 w.heap.size g11 (dirN r p)):=Lib.hid ⟨.slice none 0 0,by
                      have k4:=(HK11.out.set_ 1 (.int .i64 2)).set_ 11 (.slice none 0 0)
                      rw [← hW4] at k4
                      unfold dirN
                      rw [← HMM.out]
                      exact k4,DataAt.nil _ _⟩
                    clear b4
                    have HGK : Hid (growKind gs r p 1=⟨gs.t ++ [dirN r p],gs.dirs ++ [p]⟩):=Lib.hid (by unfold growKind;rw [if_pos (by omega)])
                    obtain ⟨i9,hi9,hy0,hy1,hy2⟩:=info_parts strinfo
                    have hl1 : gs.dirs.length + 1≤41:=by omega
                    go_upto_region 18 with fail
                    rw [← hW4]
                    clear hW4
                    have HA4:=Lib.hid ((Below.refl W4.heap.size W4).alloc (Nat.le_refl _) (.cells #[.string (bs p)] 9))
                    have HT5:=Lib.hid (HT4.out.below HA4.out)
                    have HN5:=Lib.hid (HN4.out.below HA4.out)
                    have hsz5 : w.heap.size≤(W4.alloc (.cells #[.string (bs p)] 9)).heap.size:=HT5.out.1.size
                    go_wp2_with (at_builtin;refine wpList_append_any _ rfl (.tmp 76) (.tmp 78) _ rfl w.heap.size 9 i9 _ 1 16 Tryz.underlying70 hi9 hy0 hy1 hy2 rfl (by omega) _ gs.dirs.length (gs.dirs.map fun d => .string (bs d)) rfl HT5.out.2.2 (W4.heap.size + 1) (some ⟨W4.heap.size,0,none⟩) 1 1 [.string (bs p)] rfl (new_row W4 9 [.string (bs p)] 1 1 rfl) (by simp [Value.oneCell']) (by simp only [maxLen];omega) (by omega) hsz5 ?_;intro v5 w5 hown5 hg5 hat5)
                    go_meet
                    case rel =>
                      refine ⟨rfl,?_⟩
                      rw [HGK.out]
                      refine ⟨gs.t,dirN r p,gs.dirs ++ [p],rfl,HT5.out.dir hg5 ?_,HN5.out.grown hg5 (dirs_typed HT5.out)⟩
                      unfold DirsOwn
                      rw [List.length_append,List.map_append]
                      exact hown5
                  ·
                    obtain ⟨i20,hi20,bi20⟩:=pick_nat r.a 20 (by omega)
                    have hi20 : pick r.a 20=(i20 : Int):=hi20
                    have P20:=Lib.hid (fun w => picked_any r.a 20 hrk.a (by omega) (by omega) w)
                    rw [hi20] at P20
                    have C10 : Hid (∀ W,ML W→Calls Tryz.prog 28 #[.string bt,.int .i64 10] W fun e w' => e=.returned (.string (bs (cleanS r.text 10)))∧Below W.heap.size W w'):=Lib.hid (fun W hm => by rw [← HBT.out];exact clean_any r.text 10 W (by have:=hrk.text;omega) (by omega) hm)
                    have hcl:=cleanS_length r.text 10
                    have h20 : (cleanS r.text 10).length * i20≤10 * 20:=Nat.mul_le_mul hcl (by omega)
                    have HRp2 : Hid (∀ W,Calls Tryz.prog 27 #[.string (bs (cleanS r.text 10)),.int .i64 i20] W fun e w' => e=.returned (.string (bs (Lib.repeatL (cleanS r.text 10) i20)))∧Below W.heap.size W w'):=Lib.hid (fun W => Repeat_of _ _ W (by omega) (by omega))
                    have hrl2 : (Lib.repeatL (cleanS r.text 10) i20).length≤200:=by
                      have h1 : (Lib.repeatL (cleanS r.text 10) i20).length=(cleanS r.text 10).length * i20:=(Lib.repeatL_length _ _).trans (Nat.mul_comm _ _)
                      omega
                    have HSYM : Hid (symN r p=⟨p,3,0,116 :: Lib.repeatL (cleanS r.text 10) i20,⟨m1,m2,m3,m4,m5,m6,m7⟩,[]⟩):=Lib.hid (by
                      unfold symN
                      rw [hi20,← HMM.out,Int.toNat_natCast])
                    have HGK : Hid (growKind gs r p 2=⟨gs.t ++ [symN r p],gs.dirs⟩):=Lib.hid (by unfold growKind;rw [if_neg (by omega),if_pos rfl])
                    clear hi20 hcl h20
                    generalize Lib.repeatL (cleanS r.text 10) i20=rep at *
                    have hz20 : (bs rep).size≤200:=by rw [bs_size];exact hrl2
                    have nk : ¬ 9223372036854775807 < 1 + (bs rep).size:=by omega
                    have HCAT : Hid ((⟨#[116]⟩ : ByteArray) ++ bs rep=bs (116 :: rep)):=Lib.hid (bs_append [116] rep)
                    generalize bs rep=brep at *
                    generalize bs (cleanS r.text 10)=bc10 at *
                    have HQ0:=Lib.hid (fun (_ : Unit) => HRS3.out.drew)
                    have HK : Hid (∀ wx wy,RSt w2 g9 r.kind r.a r.b bt wx→Below wx.heap.size wx wy→RSt w2 g9 r.kind r.a r.b bt wy):=Lib.hid (fun wx wy h hb => h.below hb)
                    have HQS : Hid (∀ wx i u,RSt w2 g9 r.kind r.a r.b bt wx→RSt w2 g9 r.kind r.a r.b bt (wx.setCell ⟨g11,i,none⟩ u)):=Lib.hid (fun wx i u h => h.set_ hg11 i u)
                    have HMx : Hid (∀ wx,RSt w2 g9 r.kind r.a r.b bt wx→ML wx):=Lib.hid (fun wx h => HMl.out _ (HB2.out.1.1.trans (h.2.2.2.2.2.mono HB2.out.1.1.size)))
                    go_upto_region 20 with fail
                    go_region_held3 (fun w' => w'.cell? ⟨g9,0,none⟩=some (.int .i64 r.kind)∧w'.cell? ⟨g9,1,none⟩=some (.int .i64 r.a)∧w'.cell? ⟨g9,2,none⟩=some (.int .i64 r.b)∧w'.cell? ⟨g9,3,none⟩=some (.string bt)∧g9 < w2.heap.size∧Below w2.heap.size w2 w')
                      (first | (with_reducible assumption) | (with_reducible exact HQ0.out ()) | (with_reducible exact HQS.out _ _ _ (by with_reducible assumption)) | go_keep)
                      (first
                        | (go_at_call 24;(with_reducible refine (P20.out _).mono ?_);rintro e w' ⟨rfl,rfl⟩)
                        | (go_at_call 28;(with_reducible refine (C10.out _ (HMx.out _ (by with_reducible assumption))).mono ?_);rintro e w' ⟨rfl,hb1⟩;have hbn:=HK.out _ _ (by with_reducible assumption) hb1;have hk1:=HK11.out.below (B:=wc.heap.size) ⟨hb1.os,hb1.tape,hb1.output,hb1.size,hb1.block⟩ HK11.out.lt;have HK1:=Lib.hid hk1;clear hb1 hk1)
                        | (go_at_call 27;(with_reducible refine (HRp2.out _).mono ?_);rintro e w' ⟨rfl,hb1⟩;have hbn2:=HK.out _ _ (by with_reducible assumption) hb1;have hk2:=HK1.out.below hb1 HK1.out.lt;have z1:=hk2.frozen 1;have z3:=hk2.frozen 3;have z11:=hk2.frozen 11;have k1:=hk2.cell 1;have k3:=hk2.cell 3;have k11:=hk2.cell 11;have HK2:=Lib.hid hk2;clear hb1 hk2))
                    all_goals (go_wp2_with fail;go_meet)
                    all_goals
                      refine ⟨rfl,?_⟩
                      rw [HGK.out]
                      refine ⟨gs.t,symN r p,gs.dirs,rfl,HB2.out.1.below (((hbn2.2.2.2.2.2.setCell (p:=⟨g11,1,none⟩) hg11 _).setCell (p:=⟨g11,11,none⟩) hg11 _).setCell (p:=⟨g11,3,none⟩) hg11 _),.slice none 0 0,?_,?_⟩
                      · rw [HSYM.out]
                        rw [HCAT.out]
                        exact ((HK2.out.set_ 1 (.int .i64 3)).set_ 11 (.slice none 0 0)).set_ 3 (.string (bs (116 :: rep)))
                      · rw [HSYM.out]
                        exact DataAt.nil _ _
                  ·
                    obtain ⟨ij,hij,bij⟩:=pick_nat r.a (gs.t.length + 1) (by omega)
                    have hij : pick r.a ((gs.t.length : Int) + 1)=(ij : Int):=by simpa using hij
                    have Pij:=Lib.hid (fun w => picked_any r.a ((gs.t.length : Int) + 1) hrk.a (by omega) (by omega) w)
                    rw [hij] at Pij
                    have hijn : (pick r.a ((gs.t.length : Int) + 1)).toNat=ij:=by rw [hij,Int.toNat_natCast]
                    have HIJ:=Lib.hid hijn
                    clear hij hijn
                    obtain ⟨Ax,cx,hx1,hx2,hx3,hx4,hx5,hx6⟩:=HB2.out.1.tree
                    have hx1c:=(HRS3.out.2.2.2.2.2.cell (p:=⟨w.heap.size,0,none⟩) hx6).trans hx1
                    have hx4c:=hx4.below HRS3.out.2.2.2.2.2
                    unfold maxLen at hx3
                    have HPL : Hid (linkAt gs r=none→TrEnd w (growKind gs r p 3) g11 (.slice (some ⟨gd,0,none⟩) gs.dirs.length cd) wc):=Lib.hid (fun hno => ⟨gs.t,plainN r p,gs.dirs,by
                      unfold growKind
                      rw [if_neg (by omega),if_neg (by omega),if_pos (by omega),hno],HE3.out,dv,by rw [HDAT.out];exact HK11.out,by rw [HDAT.out];exact HD11.out.mono HB2.out.1.1.size⟩)
                    by_cases hlt2 : ij < gs.t.length
                    · obtain ⟨gt,ctt,hve,hgb,hglt,hcn,hcm,hfr,hrow⟩:=hx4c.row (by omega)
                      have hgt2 : gt < w2.heap.size:=by
                        obtain ⟨gt2,ctt2,hve2,_,hglt2,_⟩:=hx4.row (by omega)
                        rw [hve] at hve2
                        injection hve2 with h9
                        injection h9 with h9
                        injection h9 with h9
                        rw [h9];exact hglt2
                      obtain ⟨hve1,hve2⟩ : Ax=some ⟨gt,0,none⟩∧cx=ctt:=by injection hve with h1 _ h2;exact ⟨h1,h2⟩
                      subst hve1 hve2
                      clear hve
                      have HFR:=Lib.hid hfr
                      have hfr2:=hfr (ij * 12 + 2)
                      obtain ⟨dvx,hdx,hc0,hcj⟩:=hrow ij hlt2
                      obtain ⟨x,hx⟩ : ∃ x,x=gs.t[ij]:=⟨_,rfl⟩
                      rw [← hx] at hdx hc0 hcj
                      have hxg : gs.t[ij]?=some x:=by rw [hx,List.getElem?_eq_getElem hlt2]
                      have HXG:=Lib.hid hxg
                      have HX:=Lib.hid hx
                      clear hx hxg hrow hfr
                      obtain ⟨xp,xk,xs,xt,⟨y1,y2,y3,y4,y5,y6,y7⟩,xd⟩:=x
                      have d1:=hcj 1 (by omega)
                      have d2:=hcj 2 (by omega)
                      simp only [nodeC,List.getElem?_cons_zero,List.getElem?_cons_succ] at hc0 d1 d2
                      have HDX:=Lib.hid hdx
                      clear hdx hcj
                      by_cases hk1 : xk=1
                      · have hk1b : (xk == 1)=true:=by simp [hk1]
                        have HGK : Hid (growKind gs r p 3=⟨gs.t.set ij (marked ⟨xp,xk,xs,xt,⟨y1,y2,y3,y4,y5,y6,y7⟩,xd⟩ ij) ++ [linkN ⟨xp,xk,xs,xt,⟨y1,y2,y3,y4,y5,y6,y7⟩,xd⟩ ij p],gs.dirs⟩):=Lib.hid (by
                          unfold growKind
                          rw [if_neg (by omega),if_neg (by omega),if_pos (by omega),linkAt_some HIJ.out HXG.out hk1]
                          simp only
                          rw [List.getD_eq_getElem?_getD,HXG.out]
                          rfl)
                        have HXK:=Lib.hid hk1
                        clear hk1
                        generalize hss : (if xs=0 then (ij : Int) + 1 else xs)=ss at *
                        have HMK : Hid (marked ⟨xp,xk,xs,xt,⟨y1,y2,y3,y4,y5,y6,y7⟩,xd⟩ ij=⟨xp,xk,ss,xt,⟨y1,y2,y3,y4,y5,y6,y7⟩,xd⟩):=Lib.hid (by unfold marked;simp only;rw [hss])
                        have HLK : Hid (linkN ⟨xp,xk,xs,xt,⟨y1,y2,y3,y4,y5,y6,y7⟩,xd⟩ ij p=⟨p,xk,ss,xt,⟨y1,y2,y3,y4,y5,y6,y7⟩,xd⟩):=Lib.hid (by unfold linkN;simp only;rw [hss])
                        have HSS:=Lib.hid hss
                        clear hss
                        go_wp2_with fail
                        refine (Pij.out _).mono ?_
                        rintro e w' ⟨rfl,rfl⟩
                        go_upto_if 119 with (fail)
                        go_cut [17] from 17 to 140 (fun s17 wx => s17=.int .i64 k∧TrSt w ⟨gs.t.set ij (marked ⟨xp,xk,xs,xt,⟨y1,y2,y3,y4,y5,y6,y7⟩,xd⟩ ij),gs.dirs⟩ (.slice (some ⟨gd,0,none⟩) gs.dirs.length cd) wx∧wx.cell? ⟨w.heap.size,0,none⟩=some (.slice (some ⟨gt,0,none⟩) gs.t.length cx)∧Blk wx g11 29 #[.string (bs p),.int .i64 1,.int .i64 0,.string ⟨#[]⟩,.int .i64 m1,.int .i64 m2,.int .i64 m3,.string (bs m4),.string (bs m5),.int .i64 m6,.int .i64 m7,dv])
                        case first =>
                          by_cases hs0 : xs=0
                          · have hs0b : (xs == 0)=true:=by simp [hs0]
                            have hss1 : ss=(ij : Int) + 1:=by rw [← HSS.out,if_pos hs0]
                            have HM:=Lib.hid (HE3.out.mark (u:=.int .i64 ((ij : Int) + 1)) hx1c hlt2 (by omega : 2 < 12) (marked ⟨xp,xk,xs,xt,⟨y1,y2,y3,y4,y5,y6,y7⟩,xd⟩ ij) (by rw [← HX.out];rfl) (fun dv => by rw [← HX.out,HMK.out,hss1];rfl))
                            have HM2:=Lib.hid (HK11.out.far (p:=⟨gt,ij * 12 + 2,none⟩) (by show g11≠gt;omega) (.int .i64 ((ij : Int) + 1)))
                            clear hs0 hss1
                            go_wp2_with fail
                            go_meet
                            case rel => exact ⟨rfl,HM.out.1,HM.out.2,HM2.out⟩
                          · have hs0b : (xs == 0)=false:=by simp [hs0]
                            have HM : Hid (gs.t.set ij (marked ⟨xp,xk,xs,xt,⟨y1,y2,y3,y4,y5,y6,y7⟩,xd⟩ ij)=gs.t):=Lib.hid (by
                              rw [HMK.out,← HSS.out,if_neg hs0]
                              apply List.ext_getElem?
                              intro i
                              rw [List.getElem?_set]
                              split
                              · next e => subst e;first | (rw [HXG.out]) | (rw [if_pos hlt2,HXG.out])
                              · rfl)
                            clear hs0
                            go_wp2_with fail
                            go_meet
                            case rel => exact ⟨rfl,by rw [HM.out];exact HE3.out,hx1c,HK11.out⟩
                        case rest =>
                          obtain ⟨rfl,hT5,hc5,hk5⟩:=hcut
                          have hno5 : NodesOwn wc w.heap.size (.slice (some ⟨gt,0,none⟩) gs.t.length cx) (gs.t.set ij (marked ⟨xp,xk,xs,xt,⟨y1,y2,y3,y4,y5,y6,y7⟩,xd⟩ ij)):=by
                            obtain ⟨A5,n5,q1,_,_,q4,_,_⟩:=hT5.tree
                            rw [hc5] at q1
                            have q2:=Option.some.inj q1
                            rw [← q2] at q4
                            exact q4
                          obtain ⟨gt5,ct5,hv5,-,hgt5,-,-,-,hrow5⟩:=hno5.row (by rw [List.length_set];omega)
                          have h9 : gt=gt5:=by injection hv5 with h9;injection h9 with h9;injection h9
                          subst h9
                          clear hv5
                          obtain ⟨dvy,hdy,b0,bj⟩:=hrow5 ij (by rw [List.length_set];exact hlt2)
                          rw [List.getElem_set_self,HMK.out,HXK.out] at hdy b0 bj
                          obtain ⟨Ad5,cd5,hde,-⟩:=id hdy
                          simp only at hde
                          subst hde
                          have b1:=bj 1 (by omega)
                          have b2:=bj 2 (by omega)
                          have b3:=bj 3 (by omega)
                          have b4:=bj 4 (by omega)
                          have b5:=bj 5 (by omega)
                          have b6:=bj 6 (by omega)
                          have b7:=bj 7 (by omega)
                          have b8:=bj 8 (by omega)
                          have b9:=bj 9 (by omega)
                          have b10:=bj 10 (by omega)
                          have b11:=bj 11 (by omega)
                          simp only [nodeC,List.getElem?_cons_zero,List.getElem?_cons_succ] at b0 b1 b2 b3 b4 b5 b6 b7 b8 b9 b10 b11
                          obtain ⟨W6,hW6⟩ : ∃ W6,W6=((((((((((((wc.setCell ⟨g11,0,none⟩ (.string (bs xp))).setCell ⟨g11,1,none⟩ (.int .i64 1)).setCell ⟨g11,2,none⟩ (.int .i64 ss)).setCell ⟨g11,3,none⟩ (.string (bs xt))).setCell ⟨g11,4,none⟩ (.int .i64 y1)).setCell ⟨g11,5,none⟩ (.int .i64 y2)).setCell ⟨g11,6,none⟩ (.int .i64 y3)).setCell ⟨g11,7,none⟩ (.string (bs y4))).setCell ⟨g11,8,none⟩ (.string (bs y5))).setCell ⟨g11,9,none⟩ (.int .i64 y6)).setCell ⟨g11,10,none⟩ (.int .i64 y7)).setCell ⟨g11,11,none⟩ (.slice Ad5 xd.length cd5)).setCell ⟨g11,0,none⟩ (.string (bs p)):=⟨_,rfl⟩
                          have hb5 : HasBlk wc g11 29 12:=⟨_,rfl,hk5⟩
                          have hn5:=hb5.node [.string (bs xp),.int .i64 1,.int .i64 ss,.string (bs xt),.int .i64 y1,.int .i64 y2,.int .i64 y3,.string (bs y4),.string (bs y5),.int .i64 y6,.int .i64 y7,.slice Ad5 xd.length cd5] rfl
                          have hBg : w.heap.size≤g11:=Nat.le_trans HB2.out.1.1.size hg11
                          have hf5:=TrSt.farAll (show g11≠gt by omega) hBg [.string (bs xp),.int .i64 1,.int .i64 ss,.string (bs xt),.int .i64 y1,.int .i64 y2,.int .i64 y3,.string (bs y4),.string (bs y5),.int .i64 y6,.int .i64 y7,.slice Ad5 xd.length cd5] 0 hT5 hc5 hb5
                          have hf6:=hf5.1.far hf5.2 (show g11≠gt by omega) hBg (hb5.setAll [.string (bs xp),.int .i64 1,.int .i64 ss,.string (bs xt),.int .i64 y1,.int .i64 y2,.int .i64 y3,.string (bs y4),.string (bs y5),.int .i64 y6,.int .i64 y7,.slice Ad5 xd.length cd5] 0) 0 (.string (bs p))
                          have hu6:=hn5.2.trans (U8Kept.set_ (g:=g11) hn5.1 (by decide) 0 (.string (bs p)))
                          have hk6:=hn5.1.set_ 0 (.string (bs p))
                          have HF6 : Hid (TrSt w ⟨gs.t.set ij (marked ⟨xp,xk,xs,xt,⟨y1,y2,y3,y4,y5,y6,y7⟩,xd⟩ ij),gs.dirs⟩ (.slice (some ⟨gd,0,none⟩) gs.dirs.length cd) W6):=Lib.hid (by rw [hW6];exact hf6.1)
                          have HC6 : Hid (W6.cell? ⟨w.heap.size,0,none⟩=some (.slice (some ⟨gt,0,none⟩) gs.t.length cx)):=Lib.hid (by rw [hW6];exact hf6.2)
                          have HD6 : Hid (DataAt W6 w.heap.size (.slice Ad5 xd.length cd5) xd):=Lib.hid (by rw [hW6];exact hdy.kept hu6)
                          have HK6 : Hid (Blk W6 g11 29 #[.string (bs p),.int .i64 1,.int .i64 ss,.string (bs xt),.int .i64 y1,.int .i64 y2,.int .i64 y3,.string (bs y4),.string (bs y5),.int .i64 y6,.int .i64 y7,.slice Ad5 xd.length cd5]):=Lib.hid (by rw [hW6];exact hk6)
                          have hxd : xd.length≤1200:=by
                            have:=growN_data most l k
                            rw [HGS.out] at this
                            exact this _ (List.mem_of_getElem? HXG.out)
                          have HCL:=Lib.hid (fun (_ : Unit) => Clone_data (.slice Ad5 xd.length cd5) xd W6 w.heap.size HD6.out (by omega))
                          have z0:=hk5.frozen 0
                          have k0:=hk5.cell 0
                          have z1:=hk5.frozen 1
                          have k1:=hk5.cell 1
                          have z2:=hk5.frozen 2
                          have k2:=hk5.cell 2
                          have z3:=hk5.frozen 3
                          have k3:=hk5.cell 3
                          have z4:=hk5.frozen 4
                          have k4:=hk5.cell 4
                          have z5:=hk5.frozen 5
                          have k5:=hk5.cell 5
                          have z6:=hk5.frozen 6
                          have k6:=hk5.cell 6
                          have z7:=hk5.frozen 7
                          have k7:=hk5.cell 7
                          have z8:=hk5.frozen 8
                          have k8:=hk5.cell 8
                          have z9:=hk5.frozen 9
                          have k9:=hk5.cell 9
                          have z10:=hk5.frozen 10
                          have k10:=hk5.cell 10
                          have z11:=hk5.frozen 11
                          have k11:=hk5.cell 11
                          clear hb5 hn5 hf5 hf6 hu6 hk6 hdy bj hno5 hrow5 hT5 hk5
                          have HW6:=Lib.hid hW6
                          clear hW6
                          go_wp2_with fail
                          rw [← HW6.out]
                          clear HW6
                          refine (HCL.out ()).mono ?_
                          rintro e w7 ⟨v7,rfl,hd7,hb7⟩
                          obtain ⟨A7,c7,hde7,-⟩:=id hd7
                          subst hde7
                          have HK7:=Lib.hid (HK6.out.below hb7 HK6.out.lt)
                          have HF7:=Lib.hid (HF6.out.below hb7)
                          have HD7:=Lib.hid (hd7.mono (Nat.le_trans HB2.out.1.1.size (by have:=HF6.out.1.size;have:=HK6.out.lt;omega) : w.heap.size≤W6.heap.size))
                          have HC7:=Lib.hid ((hb7.cell (p:=⟨w.heap.size,0,none⟩) (by have:=HF6.out.tree;obtain ⟨_,_,_,_,_,_,_,q⟩:=this;exact q)).trans HC6.out)
                          have q11:=HK7.out.cell 11
                          have p11:=HK7.out.frozen 11
                          clear hd7 hb7
                          go_wp2_with fail
                          go_meet
                          case rel =>
                            refine ⟨rfl,?_⟩
                            rw [HGK.out]
                            have hf8:=HF7.out.far HC7.out (show g11≠gt by omega) hBg ⟨_,rfl,HK7.out⟩ 11 (.slice A7 xd.length c7)
                            refine ⟨_,_,gs.dirs,rfl,hf8.1,.slice A7 xd.length c7,?_,?_⟩
                            · rw [HLK.out,HXK.out]
                              exact HK7.out.set_ 11 (.slice A7 xd.length c7)
                            · rw [HLK.out]
                              exact HD7.out.kept (U8Kept.set_ (g:=g11) HK7.out (by decide) 11 (.slice A7 xd.length c7))
                      · have hk1b : (xk == 1)=false:=by simp [hk1]
                        have HEND:=Lib.hid (HPL.out (linkAt_none HIJ.out (fun z hz e => hk1 (by rw [HXG.out] at hz;cases hz;exact e))))
                        clear hk1
                        go_wp2_with fail
                        refine (Pij.out _).mono ?_
                        rintro e w' ⟨rfl,rfl⟩
                        go_wp2_with fail
                        go_meet
                        case rel => exact ⟨rfl,HEND.out⟩
                    · have HEND:=Lib.hid (HPL.out (linkAt_none HIJ.out (fun z hz e => by rw [List.getElem?_eq_none (by omega)] at hz;cases hz)))
                      go_wp2_with fail
                      refine (Pij.out _).mono ?_
                      rintro e w' ⟨rfl,rfl⟩
                      go_wp2_with fail
                      go_meet
                      case rel => exact ⟨rfl,HEND.out⟩
                  ·
                    obtain ⟨ij,hij,bij⟩:=pick_nat r.a (gs.t.length + 1) (by omega)
                    have hij : pick r.a ((gs.t.length : Int) + 1)=(ij : Int):=by simpa using hij
                    have Pij:=Lib.hid (fun w => picked_any r.a ((gs.t.length : Int) + 1) hrk.a (by omega) (by omega) w)
                    rw [hij] at Pij
                    have hijn : (pick r.a ((gs.t.length : Int) + 1)).toNat=ij:=by rw [hij,Int.toNat_natCast]
                    have HIJ:=Lib.hid hijn
                    clear hij hijn
                    obtain ⟨Ax,cx,hx1,hx2,hx3,hx4,hx5,hx6⟩:=HB2.out.1.tree
                    have hx1c:=(HRS3.out.2.2.2.2.2.cell (p:=⟨w.heap.size,0,none⟩) hx6).trans hx1
                    have hx4c:=hx4.below HRS3.out.2.2.2.2.2
                    unfold maxLen at hx3
                    have HPL : Hid (linkAt gs r=none→TrEnd w (growKind gs r p 4) g11 (.slice (some ⟨gd,0,none⟩) gs.dirs.length cd) wc):=Lib.hid (fun hno => ⟨gs.t,plainN r p,gs.dirs,by
                      unfold growKind
                      rw [if_neg (by omega),if_neg (by omega),if_pos (by omega),hno],HE3.out,dv,by rw [HDAT.out];exact HK11.out,by rw [HDAT.out];exact HD11.out.mono HB2.out.1.1.size⟩)
                    by_cases hlt2 : ij < gs.t.length
                    · obtain ⟨gt,ctt,hve,hgb,hglt,hcn,hcm,hfr,hrow⟩:=hx4c.row (by omega)
                      have hgt2 : gt < w2.heap.size:=by
                        obtain ⟨gt2,ctt2,hve2,_,hglt2,_⟩:=hx4.row (by omega)
                        rw [hve] at hve2
                        injection hve2 with h9
                        injection h9 with h9
                        injection h9 with h9
                        rw [h9];exact hglt2
                      obtain ⟨hve1,hve2⟩ : Ax=some ⟨gt,0,none⟩∧cx=ctt:=by injection hve with h1 _ h2;exact ⟨h1,h2⟩
                      subst hve1 hve2
                      clear hve
                      have HFR:=Lib.hid hfr
                      have hfr2:=hfr (ij * 12 + 2)
                      obtain ⟨dvx,hdx,hc0,hcj⟩:=hrow ij hlt2
                      obtain ⟨x,hx⟩ : ∃ x,x=gs.t[ij]:=⟨_,rfl⟩
                      rw [← hx] at hdx hc0 hcj
                      have hxg : gs.t[ij]?=some x:=by rw [hx,List.getElem?_eq_getElem hlt2]
                      have HXG:=Lib.hid hxg
                      have HX:=Lib.hid hx
                      clear hx hxg hrow hfr
                      obtain ⟨xp,xk,xs,xt,⟨y1,y2,y3,y4,y5,y6,y7⟩,xd⟩:=x
                      have d1:=hcj 1 (by omega)
                      have d2:=hcj 2 (by omega)
                      simp only [nodeC,List.getElem?_cons_zero,List.getElem?_cons_succ] at hc0 d1 d2
                      have HDX:=Lib.hid hdx
                      clear hdx hcj
                      by_cases hk1 : xk=1
                      · have hk1b : (xk == 1)=true:=by simp [hk1]
                        have HGK : Hid (growKind gs r p 4=⟨gs.t.set ij (marked ⟨xp,xk,xs,xt,⟨y1,y2,y3,y4,y5,y6,y7⟩,xd⟩ ij) ++ [linkN ⟨xp,xk,xs,xt,⟨y1,y2,y3,y4,y5,y6,y7⟩,xd⟩ ij p],gs.dirs⟩):=Lib.hid (by
                          unfold growKind
                          rw [if_neg (by omega),if_neg (by omega),if_pos (by omega),linkAt_some HIJ.out HXG.out hk1]
                          simp only
                          rw [List.getD_eq_getElem?_getD,HXG.out]
                          rfl)
                        have HXK:=Lib.hid hk1
                        clear hk1
                        generalize hss : (if xs=0 then (ij : Int) + 1 else xs)=ss at *
                        have HMK : Hid (marked ⟨xp,xk,xs,xt,⟨y1,y2,y3,y4,y5,y6,y7⟩,xd⟩ ij=⟨xp,xk,ss,xt,⟨y1,y2,y3,y4,y5,y6,y7⟩,xd⟩):=Lib.hid (by unfold marked;simp only;rw [hss])
                        have HLK : Hid (linkN ⟨xp,xk,xs,xt,⟨y1,y2,y3,y4,y5,y6,y7⟩,xd⟩ ij p=⟨p,xk,ss,xt,⟨y1,y2,y3,y4,y5,y6,y7⟩,xd⟩):=Lib.hid (by unfold linkN;simp only;rw [hss])
                        have HSS:=Lib.hid hss
                        clear hss
                        go_wp2_with fail
                        refine (Pij.out _).mono ?_
                        rintro e w' ⟨rfl,rfl⟩
                        go_upto_if 119 with (fail)
                        go_cut [17] from 17 to 140 (fun s17 wx => s17=.int .i64 k∧TrSt w ⟨gs.t.set ij (marked ⟨xp,xk,xs,xt,⟨y1,y2,y3,y4,y5,y6,y7⟩,xd⟩ ij),gs.dirs⟩ (.slice (some ⟨gd,0,none⟩) gs.dirs.length cd) wx∧wx.cell? ⟨w.heap.size,0,none⟩=some (.slice (some ⟨gt,0,none⟩) gs.t.length cx)∧Blk wx g11 29 #[.string (bs p),.int .i64 1,.int .i64 0,.string ⟨#[]⟩,.int .i64 m1,.int .i64 m2,.int .i64 m3,.string (bs m4),.string (bs m5),.int .i64 m6,.int .i64 m7,dv])
                        case first =>
                          by_cases hs0 : xs=0
                          · have hs0b : (xs == 0)=true:=by simp [hs0]
                            have hss1 : ss=(ij : Int) + 1:=by rw [← HSS.out,if_pos hs0]
                            have HM:=Lib.hid (HE3.out.mark (u:=.int .i64 ((ij : Int) + 1)) hx1c hlt2 (by omega : 2 < 12) (marked ⟨xp,xk,xs,xt,⟨y1,y2,y3,y4,y5,y6,y7⟩,xd⟩ ij) (by rw [← HX.out];rfl) (fun dv => by rw [← HX.out,HMK.out,hss1];rfl))
                            have HM2:=Lib.hid (HK11.out.far (p:=⟨gt,ij * 12 + 2,none⟩) (by show g11≠gt;omega) (.int .i64 ((ij : Int) + 1)))
                            clear hs0 hss1
                            go_wp2_with fail
                            go_meet
                            case rel => exact ⟨rfl,HM.out.1,HM.out.2,HM2.out⟩
                          · have hs0b : (xs == 0)=false:=by simp [hs0]
                            have HM : Hid (gs.t.set ij (marked ⟨xp,xk,xs,xt,⟨y1,y2,y3,y4,y5,y6,y7⟩,xd⟩ ij)=gs.t):=Lib.hid (by
                              rw [HMK.out,← HSS.out,if_neg hs0]
                              apply List.ext_getElem?
                              intro i
                              rw [List.getElem?_set]
                              split
                              · next e => subst e;first | (rw [HXG.out]) | (rw [if_pos hlt2,HXG.out])
                              · rfl)
                            clear hs0
                            go_wp2_with fail
                            go_meet
                            case rel => exact ⟨rfl,by rw [HM.out];exact HE3.out,hx1c,HK11.out⟩
                        case rest =>
                          obtain ⟨rfl,hT5,hc5,hk5⟩:=hcut
                          have hno5 : NodesOwn wc w.heap.size (.slice (some ⟨gt,0,none⟩) gs.t.length cx) (gs.t.set ij (marked ⟨xp,xk,xs,xt,⟨y1,y2,y3,y4,y5,y6,y7⟩,xd⟩ ij)):=by
                            obtain ⟨A5,n5,q1,_,_,q4,_,_⟩:=hT5.tree
                            rw [hc5] at q1
                            have q2:=Option.some.inj q1
                            rw [← q2] at q4
                            exact q4
                          obtain ⟨gt5,ct5,hv5,-,hgt5,-,-,-,hrow5⟩:=hno5.row (by rw [List.length_set];omega)
                          have h9 : gt=gt5:=by injection hv5 with h9;injection h9 with h9;injection h9
                          subst h9
                          clear hv5
                          obtain ⟨dvy,hdy,b0,bj⟩:=hrow5 ij (by rw [List.length_set];exact hlt2)
                          rw [List.getElem_set_self,HMK.out,HXK.out] at hdy b0 bj
                          obtain ⟨Ad5,cd5,hde,-⟩:=id hdy
                          simp only at hde
                          subst hde
                          have b1:=bj 1 (by omega)
                          have b2:=bj 2 (by omega)
                          have b3:=bj 3 (by omega)
                          have b4:=bj 4 (by omega)
                          have b5:=bj 5 (by omega)
                          have b6:=bj 6 (by omega)
                          have b7:=bj 7 (by omega)
                          have b8:=bj 8 (by omega)
                          have b9:=bj 9 (by omega)
                          have b10:=bj 10 (by omega)
                          have b11:=bj 11 (by omega)
                          simp only [nodeC,List.getElem?_cons_zero,List.getElem?_cons_succ] at b0 b1 b2 b3 b4 b5 b6 b7 b8 b9 b10 b11
                          obtain ⟨W6,hW6⟩ : ∃ W6,W6=((((((((((((wc.setCell ⟨g11,0,none⟩ (.string (bs xp))).setCell ⟨g11,1,none⟩ (.int .i64 1)).setCell ⟨g11,2,none⟩ (.int .i64 ss)).setCell ⟨g11,3,none⟩ (.string (bs xt))).setCell ⟨g11,4,none⟩ (.int .i64 y1)).setCell ⟨g11,5,none⟩ (.int .i64 y2)).setCell ⟨g11,6,none⟩ (.int .i64 y3)).setCell ⟨g11,7,none⟩ (.string (bs y4))).setCell ⟨g11,8,none⟩ (.string (bs y5))).setCell ⟨g11,9,none⟩ (.int .i64 y6)).setCell ⟨g11,10,none⟩ (.int .i64 y7)).setCell ⟨g11,11,none⟩ (.slice Ad5 xd.length cd5)).setCell ⟨g11,0,none⟩ (.string (bs p)):=⟨_,rfl⟩
                          have hb5 : HasBlk wc g11 29 12:=⟨_,rfl,hk5⟩
                          have hn5:=hb5.node [.string (bs xp),.int .i64 1,.int .i64 ss,.string (bs xt),.int .i64 y1,.int .i64 y2,.int .i64 y3,.string (bs y4),.string (bs y5),.int .i64 y6,.int .i64 y7,.slice Ad5 xd.length cd5] rfl
                          have hBg : w.heap.size≤g11:=Nat.le_trans HB2.out.1.1.size hg11
                          have hf5:=TrSt.farAll (show g11≠gt by omega) hBg [.string (bs xp),.int .i64 1,.int .i64 ss,.string (bs xt),.int .i64 y1,.int .i64 y2,.int .i64 y3,.string (bs y4),.string (bs y5),.int .i64 y6,.int .i64 y7,.slice Ad5 xd.length cd5] 0 hT5 hc5 hb5
                          have hf6:=hf5.1.far hf5.2 (show g11≠gt by omega) hBg (hb5.setAll [.string (bs xp),.int .i64 1,.int .i64 ss,.string (bs xt),.int .i64 y1,.int .i64 y2,.int .i64 y3,.string (bs y4),.string (bs y5),.int .i64 y6,.int .i64 y7,.slice Ad5 xd.length cd5] 0) 0 (.string (bs p))
                          have hu6:=hn5.2.trans (U8Kept.set_ (g:=g11) hn5.1 (by decide) 0 (.string (bs p)))
                          have hk6:=hn5.1.set_ 0 (.string (bs p))
                          have HF6 : Hid (TrSt w ⟨gs.t.set ij (marked ⟨xp,xk,xs,xt,⟨y1,y2,y3,y4,y5,y6,y7⟩,xd⟩ ij),gs.dirs⟩ (.slice (some ⟨gd,0,none⟩) gs.dirs.length cd) W6):=Lib.hid (by rw [hW6];exact hf6.1)
                          have HC6 : Hid (W6.cell? ⟨w.heap.size,0,none⟩=some (.slice (some ⟨gt,0,none⟩) gs.t.length cx)):=Lib.hid (by rw [hW6];exact hf6.2)
                          have HD6 : Hid (DataAt W6 w.heap.size (.slice Ad5 xd.length cd5) xd):=Lib.hid (by rw [hW6];exact hdy.kept hu6)
                          have HK6 : Hid (Blk W6 g11 29 #[.string (bs p),.int .i64 1,.int .i64 ss,.string (bs xt),.int .i64 y1,.int .i64 y2,.int .i64 y3,.string (bs y4),.string (bs y5),.int .i64 y6,.int .i64 y7,.slice Ad5 xd.length cd5]):=Lib.hid (by rw [hW6];exact hk6)
                          have hxd : xd.length≤1200:=by
                            have:=growN_data most l k
                            rw [HGS.out] at this
                            exact this _ (List.mem_of_getElem? HXG.out)
                          have HCL:=Lib.hid (fun (_ : Unit) => Clone_data (.slice Ad5 xd.length cd5) xd W6 w.heap.size HD6.out (by omega))
                          have z0:=hk5.frozen 0
                          have k0:=hk5.cell 0
                          have z1:=hk5.frozen 1
                          have k1:=hk5.cell 1
                          have z2:=hk5.frozen 2
                          have k2:=hk5.cell 2
                          have z3:=hk5.frozen 3
                          have k3:=hk5.cell 3
                          have z4:=hk5.frozen 4
                          have k4:=hk5.cell 4
                          have z5:=hk5.frozen 5
                          have k5:=hk5.cell 5
                          have z6:=hk5.frozen 6
                          have k6:=hk5.cell 6
                          have z7:=hk5.frozen 7
                          have k7:=hk5.cell 7
                          have z8:=hk5.frozen 8
                          have k8:=hk5.cell 8
                          have z9:=hk5.frozen 9
                          have k9:=hk5.cell 9
                          have z10:=hk5.frozen 10
                          have k10:=hk5.cell 10
                          have z11:=hk5.frozen 11
                          have k11:=hk5.cell 11
                          clear hb5 hn5 hf5 hf6 hu6 hk6 hdy bj hno5 hrow5 hT5 hk5
                          have HW6:=Lib.hid hW6
                          clear hW6
                          go_wp2_with fail
                          rw [← HW6.out]
                          clear HW6
                          refine (HCL.out ()).mono ?_
                          rintro e w7 ⟨v7,rfl,hd7,hb7⟩
                          obtain ⟨A7,c7,hde7,-⟩:=id hd7
                          subst hde7
                          have HK7:=Lib.hid (HK6.out.below hb7 HK6.out.lt)
                          have HF7:=Lib.hid (HF6.out.below hb7)
                          have HD7:=Lib.hid (hd7.mono (Nat.le_trans HB2.out.1.1.size (by have:=HF6.out.1.size;have:=HK6.out.lt;omega) : w.heap.size≤W6.heap.size))
                          have HC7:=Lib.hid ((hb7.cell (p:=⟨w.heap.size,0,none⟩) (by have:=HF6.out.tree;obtain ⟨_,_,_,_,_,_,_,q⟩:=this;exact q)).trans HC6.out)
                          have q11:=HK7.out.cell 11
                          have p11:=HK7.out.frozen 11
                          clear hd7 hb7
                          go_wp2_with fail
                          go_meet
                          case rel =>
                            refine ⟨rfl,?_⟩
                            rw [HGK.out]
                            have hf8:=HF7.out.far HC7.out (show g11≠gt by omega) hBg ⟨_,rfl,HK7.out⟩ 11 (.slice A7 xd.length c7)
                            refine ⟨_,_,gs.dirs,rfl,hf8.1,.slice A7 xd.length c7,?_,?_⟩
                            · rw [HLK.out,HXK.out]
                              exact HK7.out.set_ 11 (.slice A7 xd.length c7)
                            · rw [HLK.out]
                              exact HD7.out.kept (U8Kept.set_ (g:=g11) HK7.out (by decide) 11 (.slice A7 xd.length c7))
                      · have hk1b : (xk == 1)=false:=by simp [hk1]
                        have HEND:=Lib.hid (HPL.out (linkAt_none HIJ.out (fun z hz e => hk1 (by rw [HXG.out] at hz;cases hz;exact e))))
                        clear hk1
                        go_wp2_with fail
                        refine (Pij.out _).mono ?_
                        rintro e w' ⟨rfl,rfl⟩
                        go_wp2_with fail
                        go_meet
                        case rel => exact ⟨rfl,HEND.out⟩
                    · have HEND:=Lib.hid (HPL.out (linkAt_none HIJ.out (fun z hz e => by rw [List.getElem?_eq_none (by omega)] at hz;cases hz)))
                      go_wp2_with fail
                      refine (Pij.out _).mono ?_
                      rintro e w' ⟨rfl,rfl⟩
                      go_wp2_with fail
                      go_meet
                      case rel => exact ⟨rfl,HEND.out⟩
                  · have n0 : ((kk : Int) == 0)=false:=by simp;omega
                    have n1 : ((kk : Int) == 1)=false:=by simp;omega
                    have n2 : ((kk : Int) == 2)=false:=by simp;omega
                    have n3 : ((kk : Int) == 3)=false:=by simp;omega
                    have n4 : ((kk : Int) == 4)=false:=by simp;omega
                    have HEND : Hid (TrEnd w (growKind gs r p kk) g11 (.slice (some ⟨gd,0,none⟩) gs.dirs.length cd) wc):=Lib.hid ⟨gs.t,plainN r p,gs.dirs,by
                      unfold growKind
                      rw [if_neg (by omega),if_neg (by omega),if_neg (by omega)],HE3.out,dv,by rw [HDAT.out];exact HK11.out,by rw [HDAT.out];exact HD11.out.mono HB2.out.1.1.size⟩
                    go_wp2_with fail
                    go_meet
                    case rel => exact ⟨rfl,HEND.out⟩
                case rest =>
                  obtain ⟨rfl,t',n',ds',hgk,hT',dvn,hkn,hdn⟩:=hcut
                  have HGK:=Lib.hid hgk
                  have hlen9 : t'.length + 1≤40:=by
                    have h1:=(growN_ok most l (k + 1)).len
                    rw [HST2.out,hgk,List.length_append] at h1
                    simp only [List.length_singleton] at h1
                    omega
                  obtain ⟨A8,c8,r1,r2,r3,r4,-,r6⟩:=hT'.tree
                  unfold maxLen at r3
                  obtain ⟨xs,hxs,hown,hdat⟩:=id r4
                  simp only at r1 r2 hown hxs
                  obtain ⟨Ad6,cd6,hde,-⟩:=id hdn
                  subst hde
                  obtain ⟨np,nk,ns,nt,⟨o1,o2,o3,o4,o5,o6,o7⟩,nd⟩:=n'
                  have k0 : wc.cell? ⟨g11,0,none⟩=some (.string (bs np)):=hkn.cell 0
                  have k1 : wc.cell? ⟨g11,1,none⟩=some (.int .i64 nk):=hkn.cell 1
                  have k2 : wc.cell? ⟨g11,2,none⟩=some (.int .i64 ns):=hkn.cell 2
                  have k3 : wc.cell? ⟨g11,3,none⟩=some (.string (bs nt)):=hkn.cell 3
                  have k4 : wc.cell? ⟨g11,4,none⟩=some (.int .i64 o1):=hkn.cell 4
                  have k5 : wc.cell? ⟨g11,5,none⟩=some (.int .i64 o2):=hkn.cell 5
                  have k6 : wc.cell? ⟨g11,6,none⟩=some (.int .i64 o3):=hkn.cell 6
                  have k7 : wc.cell? ⟨g11,7,none⟩=some (.string (bs o4)):=hkn.cell 7
                  have k8 : wc.cell? ⟨g11,8,none⟩=some (.string (bs o5)):=hkn.cell 8
                  have k9 : wc.cell? ⟨g11,9,none⟩=some (.int .i64 o6):=hkn.cell 9
                  have k10 : wc.cell? ⟨g11,10,none⟩=some (.int .i64 o7):=hkn.cell 10
                  have k11 : wc.cell? ⟨g11,11,none⟩=some (.slice Ad6 nd.length cd6):=hkn.cell 11
                  have HT8:=Lib.hid hT'
                  have HOW:=Lib.hid hown
                  have HXS:=Lib.hid hxs
                  have HDA:=Lib.hid hdat
                  have HDN:=Lib.hid hdn
                  have hsz8 : w.heap.size≤wc.heap.size:=hT'.1.size
                  have hne8 : w.heap.size≠wc.heap.size:=by omega
                  have R1:=Lib.hid r1
                  obtain ⟨i9,hi9,hy0,hy1,hy2⟩:=info_parts nodeinfo
                  clear hgk hT' hkn hdn r4 hown hxs hdat
                  go_wp2_with (at_builtin;refine wpList_append_any _ rfl (.tmp 136) (.tmp 138) _ rfl w.heap.size 29 i9 _ 12 144 Tryz.underlying23 hi9 hy0 hy1 hy2 rfl (by omega) _ t'.length (xs.flatMap nodeC) rfl (ownsRow_below HOW.out ((Below.refl _ _).alloc (Nat.le_refl _) _)) (wc.heap.size + 1) (some ⟨wc.heap.size,0,none⟩) 1 1 (nodeC (⟨np,nk,ns,nt,⟨o1,o2,o3,o4,o5,o6,o7⟩,nd⟩,.slice Ad6 nd.length cd6)) rfl (new_row wc 29 (nodeC (⟨np,nk,ns,nt,⟨o1,o2,o3,o4,o5,o6,o7⟩,nd⟩,.slice Ad6 nd.length cd6)) 1 12 rfl) (one_node _ rfl) (by simp only [maxLen];omega) (by omega) (by simp;omega) ?_;intro v9 w9 hown9 hg9 hat9;obtain ⟨A9,c9,hv9,-⟩:=ownsRow_read hown9;subst hv9;have HT9:=Lib.hid (HT8.out.below ((Below.refl wc.heap.size wc).alloc (Nat.le_refl _) (.cells (nodeC (⟨np,nk,ns,nt,⟨o1,o2,o3,o4,o5,o6,o7⟩,nd⟩,.slice Ad6 nd.length cd6)).toArray 29)));have HC9:=Lib.hid ((((Below.refl wc.heap.size wc).alloc (Nat.le_refl _) (.cells (nodeC (⟨np,nk,ns,nt,⟨o1,o2,o3,o4,o5,o6,o7⟩,nd⟩,.slice Ad6 nd.length cd6)).toArray 29)).cell (p:=⟨w.heap.size,0,none⟩) r6).trans R1.out);obtain ⟨tb1,tb2⟩:=HT9.out.tblk HC9.out hg9;have HO9:=Lib.hid hown9;have HG9:=Lib.hid hg9;clear hown9 hg9 hat9)
                  go_roundg (l.length - (k + 1))
                  case measure => omega
                  case rel =>
                    refine ⟨k + 1,by omega,by omega,by go_num,Lib.hid ?_⟩
                    rw [HST2.out,HGK.out]
                    have bA:=(Below.refl wc.heap.size wc).alloc (Nat.le_refl _) (.cells (nodeC (⟨np,nk,ns,nt,⟨o1,o2,o3,o4,o5,o6,o7⟩,nd⟩,.slice Ad6 nd.length cd6)).toArray 29)
                    exact HT9.out.node HC9.out HG9.out (NodesOwn.snoc HXS.out (fun x hx => (HDA.out x hx).below bA) (HDN.out.below bA) (ownsRow_below HOW.out bA) HG9.out HO9.out)
    · have HALL : Hid (growN most l k=growAll most l):=Lib.hid (by
        by_cases h : l.length≤k
        · exact growN_all h
        · exact growN_full (by omega))
      have hgo2 : k < l.length→most≤(growN most l k).t.length:=fun h => by omega
      have HSO : Hid (∀ W,Below wr.heap.size wr W→Calls Tryz.prog 30 #[.slice At (growN most l k).t.length ct,.func (.func 31) #[] #[]] W fun e w' =>
          e=.returned (.tuple #[])∧NodesOwn w' w.heap.size (.slice At (growN most l k).t.length ct) (treeP l most)∧w'.cell? ⟨w.heap.size,0,none⟩=some (.slice At (growN most l k).t.length ct)∧Below w.heap.size w w'):=Lib.hid (fun W hb => by
        have hW:=HS.out.below hb
        have hc:=(hb.cell (p:=⟨w.heap.size,0,none⟩) hlt0).trans hct
        have hok2:=growN_ok most l k
        refine (SortN_any _ (growN most l k).t w.heap.size W (HMl.out _ hW.1) HML.out (hno.below hb) hok2.path (by have:=hok2.len;omega)).mono ?_
        rintro e w' ⟨rfl,⟨m,hp,hs,hm⟩,hg⟩
        have e1 : m=treeP l most:=treeP_of (by rw [← HALL.out];exact hp) hs
        rw [e1] at hm
        refine ⟨rfl,hm,(hW.tblk hc hg).1,hW.1.grown hg hW.1.size (fun g e => ?_)⟩
        obtain ⟨xs,_,h5,_⟩:=hno
        exact (own_typed h5 e).1)
      generalize hN : (growN most l k).t.length=N at *
      clear hno hgo
      by_cases hlt : k < l.length
      · have hfull:=hgo2 hlt
        obtain ⟨ad,rfl,had,q0,q1,q2,q3⟩:=load_raw (HR.out.below HS.out.1) hlt
        have hltz : (k : Int) < (l.length : Int):=by omega
        have hfz2 : (most : Int)≤(N : Int):=by omega
        generalize l[k]=r at *
        clear hgo2
        go_wp2_with fail
        refine (HSO.out _ ((Below.refl _ _).alloc (Nat.le_refl _) _)).mono ?_
        rintro e w' ⟨rfl,hn1,hn2,hn3⟩
        have HN1:=Lib.hid hn1
        have HN3:=Lib.hid hn3
        clear hn1 hn3
        go_wp2_with fail
        go_ret
        exact ⟨_,rfl,HN1.out,HN3.out⟩
      · have hltz : ¬ (k : Int) < (l.length : Int):=by omega
        clear hgo2
        go_wp2_with fail
        refine (HSO.out _ (Below.refl _ _)).mono ?_
        rintro e w' ⟨rfl,hn1,hn2,hn3⟩
        have HN1:=Lib.hid hn1
        have HN3:=Lib.hid hn3
        clear hn1 hn3
        go_wp2_with fail
        go_ret
        exact ⟨_,rfl,HN1.out,HN3.out⟩
theorem Tree_any (l : List RawS) (v : Value) (most : Nat) (w : World) (hm : ML w) (hl : RawsAt w w.heap.size v l) (hok : ∀ x∈l,RawOk x) (hn : l.length≤1048576) (hmost : most≤40) :
    Calls Tryz.prog 7 #[v,.int .i64 most] w fun e w' => ∃ tv,e=.returned tv∧NodesOwn w' w.heap.size tv (treeP l most)∧Below w.heap.size w w':=Tree_any1 l v most w hm hl hok (by omega) hmost
end Go.Proofs.YtphmhmdcaafmdaaGreatDoor
