import Derived.Test.YtphmhmdcaafmdaaGreatDoorRecA
import Derived.Test.YtphmhmdcaafmdaaGreatDoorRecsQ
namespace Go.Proofs.YtphmhmdcaafmdaaGreatDoor
set_option linter.all false
open Go.RowKit
set_option maxRecDepth 100000 in
set_option maxHeartbeats 4000000 in
theorem PxCheck_all (v : Value) (l : List RecS) (w : World) (hl : RecsAt w v l) (hok : ∀ r∈l,r.key.length≤100000∧r.value.length≤100000) (hn : l.length≤100000) :
    Calls Tryz.prog 96 #[v] w fun e w' => ∃ c : Int,e=.returned (.int .i64 c)∧(c=0→l.length≤12)∧Below w.heap.size w w':=by
  obtain ⟨A,c,rfl,hc1,hc2,hA,hr⟩:=hl
  unfold maxLen at hc2
  by_cases h12 : 12 < l.length
  · have q : (12 : Int) < (l.length : Int):=by omega
    clear hr hok
    go_enter Tryz.func96,Tryz.ntmps96
    go_wp2_with fail
    go_ret
    exact ⟨1,rfl,fun h => absurd h (by decide),Below.refl _ _⟩
  have HR:=Lib.hid hr
  have HOK:=Lib.hid hok
  have HLE:=Lib.hid (show l.length≤12 by omega)
  clear hr hok hA
  go_enter Tryz.func96,Tryz.ntmps96
  go_wp2_with fail
  go_loopg [11] l.length (fun gg s11 wr => ∃ k : Nat,k≤l.length∧l.length - k≤gg∧s11=.int .i64 k∧Hid (Below w.heap.size w wr))
  case atStart => exact ⟨0,Nat.zero_le _,by omega,rfl,Lib.hid (Below.refl _ _)⟩
  case round =>
    obtain ⟨k,hk,hg,rfl,HW⟩:=hrel
    by_cases hlt : k < l.length
    · have hltz : (k : Int) < (l.length : Int):=by omega
      obtain ⟨ad,rfl,had,e0,e1⟩:=(HR.out.below HW.out).rec_at hlt
      have hb2:=HOK.out _ (List.getElem_mem hlt)
      have HC:=Lib.hid (fun W => RCheck_all l[k] hb2.1 hb2.2 W)
      obtain ⟨W1,hW1⟩ : ∃ W1,W1=wr.alloc (.cells #[.string (bs l[k].key),.string (bs l[k].value)] 174):=⟨_,rfl⟩
      obtain ⟨g,hg1⟩ : ∃ g,g=wr.heap.size:=⟨_,rfl⟩
      have HK1 : Hid (Blk W1 g 174 #[.string (bs l[k].key),.string (bs l[k].value)]):=Lib.hid (by rw [hW1,hg1];exact Blk.new _ _ _)
      have HB1 : Hid (Below wr.heap.size wr W1):=Lib.hid (by rw [hW1];exact (Below.refl _ _).alloc (Nat.le_refl _) _)
      have c0:=HK1.out.cell 0
      have c1:=HK1.out.cell 1
      unfold recV at HC
      have HE2 : Hid (∀ m (h : m + 1=k) W,Below wr.heap.size wr W→W.cell? (ad.add (m * 2))=some (.string (bs (l[m]'(by omega)).key))):=Lib.hid (fun m h W hb2 => by
        obtain ⟨ad',e',_,e2,_⟩:=(HR.out.below HW.out).rec_at (show m < l.length by omega)
        obtain rfl:=Option.some.inj e'
        exact (hb2.cell (p:=ad.add (m * 2)) (by rw [block_of_add];exact Nat.lt_of_lt_of_le had HW.out.size)).trans e2)
      clear hb2
      generalize l[k]=r at *
      generalize bs r.key=bk at *
      generalize bs r.value=bv at *
      go_upto_region 6 with fail
      rw [← hW1,← hg1]
      clear hW1 hg1 e0 e1
      go_wp2_with fail
      refine (HC.out _).mono ?_
      rintro e w2 ⟨cc,rfl,-,b2⟩
      have HB2:=Lib.hid (HW.out.trans ((HB1.out.trans (b2.mono HB1.out.size)).mono HW.out.size))
      have HB3:=Lib.hid (HB1.out.trans (b2.mono HB1.out.size))
      have d0:=(HK1.out.below b2 HK1.out.lt).cell 0
      clear b2 c0 c1
      by_cases hcc : cc=0
      case neg =>
        have hc1 : (cc == 0)=false:=beq_eq_false_iff_ne.2 hcc
        have hc2 : (cc != 0)=true:=by simp [hcc]
        have HCN:=Lib.hid hcc
        clear hcc d0 HE2
        go_wp2_with fail
        go_ret
        exact ⟨cc,rfl,fun h => absurd h HCN.out,HB2.out⟩
      subst hcc
      rcases k with _ | m
      · go_wp2_with fail
        go_quiet (fail)
        go_wp2_with fail
        go_roundg (l.length - (0 + 1))
        case measure => omega
        case rel => exact ⟨0 + 1,by omega,by omega,by go_num,Lib.hid (below_drewN HB2.out _)⟩
      · have d2:=HE2.out m rfl w2 HB3.out
        generalize bs l[m].key=bk2 at *
        obtain ⟨q,hwk⟩ : ∃ q : Bool,(Op.bytesLess bk.toList bk2.toList || bk.toList == bk2.toList)=q:=⟨_,rfl⟩
        have g1 : decide (((m + 1 : Nat) : Int) > 0)=true:=decide_eq_true (by omega)
        have g2 : IntKind.i64.wrap (m : Int)=(m : Int):=IntWalk.i64_in _ ⟨by omega,by omega⟩
        have g3 : (m : Int) < (l.length : Int):=by omega
        have g4 : (0 : Int)≤(m : Int):=by omega
        have g5 : (0 : Int) < (m : Int) + 1:=by omega
        clear HE2
        cases q with
        | false =>
          go_wp2_with fail
          go_quiet (fail)
          go_wp2_with fail
          go_roundg (l.length - (m + 1 + 1))
          case measure => omega
          case rel => exact ⟨m + 1 + 1,by omega,by omega,by go_num,Lib.hid (below_drewN HB2.out _)⟩
        | true =>
          go_wp2_with fail
          go_quiet (fail)
          go_wp2_with fail
          go_ret
          exact ⟨6,rfl,fun h => absurd h (by decide),below_drewN HB2.out _⟩
    · obtain rfl : k=l.length:=by omega
      go_wp2_with fail
      go_ret
      exact ⟨0,rfl,fun _ => HLE.out,HW.out⟩
def RecIn (r : RecS) : Prop:=r.key.length≤60∧r.value.length≤500
def PxaSt (w0 : World) (v : Value) (rs : List RecS) (w : World) : Prop:=Below w0.heap.size w0 w∧RecsOwn w w0.heap.size v rs∧∀ r∈rs,RecIn r
set_option maxRecDepth 100000 in
set_option maxHeartbeats 4000000 in
theorem PxRead_all (l : List UInt8) (hl : l.length≤99500) (w : World) (hm : ∀ W,Below w.heap.size w W→ML W) (h10 : ∀ W,Below w.heap.size w W→P10 W) :
    Calls Tryz.prog 53 #[.string (bs l)] w fun e w' => ∃ (A : Option Addr) (n cp : Nat) (c : Int),e=.returned (.tuple #[.slice A n cp,.int .i64 c])∧(c=0→∃ rs,RecsOwn w' w.heap.size (.slice A n cp) rs∧rs.length≤12∧∀ r∈rs,RecIn r)∧Below w.heap.size w w':=by
  have HP10:=Lib.hid h10
  have HML:=Lib.hid hm
  have H0 : Hid (PxaSt w (.slice none 0 0) [] w):=Lib.hid ⟨Below.refl _ _,World.ownsRow_nil _ _ _ _,by simp⟩
  clear h10 hm
  go_enter Tryz.func53,Tryz.ntmps53
  go_wp2_with fail
  go_loopg [0,4] l.length (fun gg s0 s4 wr => ∃ (s : List UInt8) (rs : List RecS),s.length≤gg∧rs.length + s.length≤l.length∧s0=.string (bs s)∧Hid (PxaSt w s4 rs wr))
  case atStart => exact ⟨l,[],Nat.le_refl _,by simp,rfl,H0⟩
  case round =>
    obtain ⟨s,rs,hg,hrl,rfl,HS⟩:=hrel
    have hown:=HS.out.2.1
    unfold RecsOwn at hown
    obtain ⟨A5,n5,rfl,-⟩:=ownsRow_read hown
    have HOW:=Lib.hid hown
    have HBW:=Lib.hid HS.out.1
    have hsz:=HS.out.1.size
    clear hown H0
    by_cases hs : s=[]
    · have t1 : (bs s).toList=[]:=by rw [hs,bs_toList]
      have t2 : (bs s).toList.isEmpty=true:=by rw [t1];rfl
      have HC:=Lib.hid (PxCheck_all _ rs wr (RecsOwn.at_ (show RecsOwn wr _ _ rs from HOW.out)) (fun r hr => by have:=HS.out.2.2 r hr;unfold RecIn at this;omega) (by omega))
      clear hs
      generalize bs s=b0 at *
      go_wp2_with fail
      refine HC.out.mono ?_
      rintro e w2 ⟨c2,rfl,hc2,b2⟩
      have HF:=Lib.hid (HBW.out.trans (b2.mono HBW.out.size))
      have HO2:=Lib.hid (ownsRow_below HOW.out b2)
      have HC2:=Lib.hid hc2
      clear b2 hc2
      by_cases hcc : c2=0
      · subst hcc
        go_wp2_with fail
        go_ret2
        exact ⟨_,_,_,0,rfl,fun _ => ⟨rs,HO2.out,HC2.out (by first | rfl | trivial),HS.out.2.2⟩,HF.out⟩
      · have hc1 : (c2 == 0)=false:=beq_eq_false_iff_ne.2 hcc
        have hc2 : (c2 != 0)=true:=by simp [hcc]
        have HCN:=Lib.hid hcc
        clear hcc
        go_wp2_with fail
        go_ret2
        exact ⟨none,0,0,c2,rfl,fun h => absurd h HCN.out,HF.out⟩
    · have t1 : ¬ (bs s).toList=[]:=by rw [bs_toList];exact hs
      have t2 : (bs s).toList.isEmpty=false:=List.isEmpty_eq_false_iff.2 t1
      have HR:=Lib.hid (fun W (hb : Below w.heap.size w W) => RRead_all s (by omega) W (HML.out W hb) (HP10.out W hb))
      obtain ⟨i9,hi9,hy0,hy1,hy2⟩:=info_parts recinfo
      unfold RRPost recV at HR
      clear hs
      generalize bs s=b0 at *
      go_wp2_with fail
      refine (HR.out _ HBW.out).mono ?_
      rintro e w2 ⟨b2,⟨c,hc,rfl⟩ | ⟨r,rest,rfl,hk1,hv1,hrest⟩⟩
      · have hc1 : (c == 0)=false:=beq_eq_false_iff_ne.2 hc
        have hc2 : (c != 0)=true:=by simp [hc]
        have HCN:=Lib.hid hc
        have HF:=Lib.hid (HBW.out.trans (b2.mono HBW.out.size))
        clear hc b2
        go_wp2_with fail
        go_ret2
        exact ⟨none,0,0,c,rfl,fun h => absurd h HCN.out,HF.out.alloc HF.out.size _⟩
      · have HRI : Hid (∀ x∈rs ++ [r],RecIn x):=Lib.hid (fun x hx => by
          rcases List.mem_append.1 hx with h | h
          · exact HS.out.2.2 x h
          · rw [List.mem_singleton] at h;subst h;exact ⟨hk1,hv1⟩)
        have HRC : Hid (recC r=[.string (bs r.key),.string (bs r.value)]):=Lib.hid rfl
        have HRT:=Lib.hid hrest
        have HGG:=Lib.hid hg
        have HRL:=Lib.hid hrl
        have hrs : rs.length≤99500:=by omega
        clear hk1 hv1 hrest hg hrl
        generalize bs r.key=bk at *
        generalize bs r.value=bv at *
        generalize hbr : bs rest=br at *
        have HBR:=Lib.hid hbr
        clear hbr
        generalize hrn : rs.length=k at *
        have HRN:=Lib.hid hrn
        clear hrn
        obtain ⟨W3,hW3⟩ : ∃ W3,W3=w2.alloc (.cells #[.string bk,.string bv] 174):=⟨_,rfl⟩
        obtain ⟨g3,hg3⟩ : ∃ g3,g3=w2.heap.size:=⟨_,rfl⟩
        have HB3 : Hid (Below wr.heap.size wr W3):=Lib.hid (by rw [hW3];exact b2.alloc b2.size _)
        have HK1 : Hid (Blk W3 g3 174 #[.string bk,.string bv]):=Lib.hid (by rw [hW3,hg3];exact Blk.new _ _ _)
        have c0:=HK1.out.cell 0
        have c1:=HK1.out.cell 1
        clear b2
        go_upto_region 6 with fail
        rw [← hW3,← hg3]
        clear hW3 hg3
        have hs3:=HB3.out.size
        go_wp2_with (at_builtin;refine wpList_append_any _ rfl (.tmp 20) (.tmp 22) _ rfl w.heap.size 174 i9 _ 2 32 Tryz.underlying108 hi9 hy0 hy1 hy2 rfl (by omega) _ k _ rfl (ownsRow_below (ownsRow_below HOW.out HB3.out) ((Below.refl _ _).alloc (Nat.le_refl _) _)) (W3.heap.size + 1) (some ⟨W3.heap.size,0,none⟩) 1 1 [.string bk,.string bv] rfl (new_row W3 174 [.string bk,.string bv] 1 2 rfl) (by simp [Value.oneCell']) (by simp only [maxLen];omega) (by omega) (by simp;omega) ?_;intro v9 w9 hown9 hg9 hat9;obtain ⟨A9,c9,hv9,-⟩:=ownsRow_read hown9;subst hv9;have HO9:=Lib.hid hown9;have HG9:=Lib.hid hg9;clear hown9 hg9 hat9)
        go_roundg rest.length
        case measure => have:=HRT.out;have:=HGG.out;omega
        case rel =>
          refine ⟨rest,rs ++ [r],Nat.le_refl _,by have:=HRT.out;have:=HRL.out;have:=HRN.out;rw [List.length_append,List.length_singleton];omega,by rw [HBR.out],Lib.hid ⟨?_,?_,HRI.out⟩⟩
          · have hB:=(HBW.out.trans (HB3.out.mono HBW.out.size)).alloc (by omega) (.cells #[.string bk,.string bv] 174)
            exact hB.grown HG9.out (by have:=hB.size;exact this) (fun x e => (own_typed HOW.out e).1)
          · unfold RecsOwn
            rw [List.length_append,List.flatMap_append,HRN.out]
            have:=HO9.out
            simpa [HRC.out] using this
end Go.Proofs.YtphmhmdcaafmdaaGreatDoor
