import Derived.Test.YtphmhmdcaafmdaaGreatDoorPChkA
import Derived.Test.YtphmhmdcaafmdaaGreatDoorMReadA
import Derived.Test.YtphmhmdcaafmdaaGreatDoorArcRd
namespace Go.Proofs.YtphmhmdcaafmdaaGreatDoor
set_option linter.all false
section
open Go.RowKit
def SaSt (w0 : World) (d : List UInt8) (pk : Nat) (z : List EntP) (v : Value) (W : World) : Prop :=
  Below w0.heap.size w0 W∧EntsRow W w0.heap.size w0.heap.size v z∧(∀ x∈z,EntOk x)∧arcB z=d.take pk
theorem arcB_snoc {z : List EntP} {x : EntP} {d : List UInt8} {pk n : Nat} (h1 : arcB z=d.take pk) (h2 : memB x=(d.drop pk).take n) : arcB (z ++ [x])=d.take (pk + n):=by
  rw [List.take_add,← h1,← h2]
  unfold arcB
  rw [List.map_append,List.flatten_append]
  simp
theorem rest_drop {w : World} {B c L : Nat} {ad : Addr} {d : List UInt8} (h : BytesAt w B (.slice (some ad) L c) d) (hL : L=d.length) (pk : Nat) (hp : pk≤L) (hc : c≠pk) : BytesAt w B (.slice (some (ad.add pk)) (L - pk) (c - pk)) (d.drop pk):=by
  have e : (d.take pk).length=pk:=by rw [List.length_take];omega
  have h2:=rest_at (f:=d.take pk) (r:=d.drop pk) (by rw [List.take_append_drop];exact h) (by rw [e,List.length_drop];omega) (by rw [e];exact hc)
  rw [e] at h2
  exact h2
theorem memB_512 {x : EntP} (h : EntOk x) : 512≤(memB x).length:=by
  have h1:=(memB_front h []).2
  rw [List.append_nil] at h1
  exact h1
def SmPost (w : World) (d : List UInt8) (e : Ending) (w' : World) : Prop :=
  ∃ (lv : Value) (pk : Nat) (c : Int) (z : List EntP),e=.returned (.tuple #[lv,.int .i64 pk,.int .i64 c])∧EntsOwn w' w.heap.size lv z∧Below w.heap.size w w'∧(∀ x∈z,EntOk x)∧pk≤d.length∧arcB z=d.take pk∧(c=0→512≤d.length - pk)
set_option maxRecDepth 100000 in
set_option maxHeartbeats 8000000 in
theorem Some_all (v : Value) (d : List UInt8) (w : World) (hm : ∀ W,Below w.heap.size w W→ML W) (h10 : ∀ W,Below w.heap.size w W→P10 W) (hse : ∀ W,Below w.heap.size w W→Sent W) (hv : BytesAt w w.heap.size v d) (hdl : d.length≤99500) :
    Calls Tryz.prog 55 #[v] w fun e w' => SmPost w d e w':=by
  have HV : Hid (∀ W,Below w.heap.size w W→BytesAt W w.heap.size v d):=Lib.hid (fun W hb => hv.below hb)
  have HRD:=Lib.hid (fun W (hb : Below w.heap.size w W) v pk (hvv : BytesAt W W.heap.size v (d.drop pk)) => MRead_all v (d.drop pk) W (fun W' hb' => hm W' (hb.trans (hb'.mono hb.size))) (fun W' hb' => h10 W' (hb.trans (hb'.mono hb.size))) (fun W' hb' => hse W' (hb.trans (hb'.mono hb.size))) hvv (by rw [List.length_drop];omega))
  obtain ⟨A,c,ev,hlc,hcm,hA,-⟩:=id hv
  rw [List.length_map] at ev hlc
  unfold maxLen at hcm
  obtain ⟨L,hL⟩ : ∃ L,L=d.length:=⟨_,rfl⟩
  rw [← hL] at ev hlc hdl
  have HLL:=Lib.hid hL
  have HZ:=Lib.hid (fun W v (l : List UInt8) B h hn => Zero_any v l B W h hn)
  obtain ⟨i9,hi9,hy0,hy1,hy2⟩:=info_parts entinfo
  have H0 : Hid (SaSt w d 0 [] (.slice none 0 0) w):=Lib.hid ⟨Below.refl _ _,EntsRow.nil _ _ _,fun x h => absurd h (by simp),by rw [List.take_zero];rfl⟩
  have HP : Hid (∀ e w',SmPost w d e w'→SmPost w d e w'):=Lib.hid (fun e w' h => h)
  clear hm h10 hse hv hL
  subst ev
  go_enter Tryz.func55,Tryz.ntmps55
  go_wp2_with fail
  go_loopg [5,6,7,8,9,10] L (fun gg s5 s6 s7 s8 s9 s10 wr => ∃ (pk : Nat) (z : List EntP),pk≤L∧L - pk≤gg∧z.length≤pk∧s6=.int .i64 pk∧Hid (SaSt w d pk z s5 wr))
  case atStart => exact ⟨0,[],Nat.zero_le _,by omega,Nat.le_refl _,rfl,H0⟩
  case round =>
    obtain ⟨pk,z,hk,hg,hzl,rfl,HS⟩:=hrel
    have HVW:=Lib.hid (HV.out _ HS.out.1)
    have HBE:=Lib.hid HS.out.1
    have HEND : Hid (EntsOwn wr w.heap.size _ z):=Lib.hid HS.out.2.1
    have HZO:=Lib.hid HS.out.2.2.1
    have HZE:=Lib.hid HS.out.2.2.2
    have i1 : (0 : Int)≤(pk : Int):=by omega
    have i2 : (pk : Int)≤(L : Int):=by omega
    have i7 : (pk : Int)≤(c : Int):=by omega
    have i8 : (L : Int)≤(c : Int):=by omega
    have i10 : pk≤c:=by omega
    obtain ⟨A5,c5,hv5,-,-⟩:=HEND.out.slice
    subst hv5
    by_cases h512 : L - pk < 512
    · clear HV HRD HZ hi9 hy0 hy1 hy2 H0 HS
      cases A with
      | none =>
        have hc0:=hA rfl
        subst hc0
        obtain rfl : pk=0:=by omega
        obtain rfl : L=0:=by omega
        clear HVW hlc
        go_wp2_with fail
        go_ret3
        exact ⟨_,0,7,z,rfl,HEND.out,HBE.out,HZO.out,Nat.zero_le _,HZE.out,fun h => absurd h (by decide)⟩
      | some ad =>
        by_cases hcp : c=pk
        · subst hcp
          obtain rfl : L=c:=by omega
          clear HVW hlc
          go_wp2_with fail
          go_ret3
          exact ⟨_,L,7,z,rfl,HEND.out,HBE.out,HZO.out,by rw [← HLL.out];exact Nat.le_refl _,HZE.out,fun h => absurd h (by decide)⟩
        · have j2 : (((L - pk : Nat) : Int) < 512):=by omega
          have j3 : decide (((L - pk : Nat) : Int) < 512)=true:=decide_eq_true j2
          clear HVW
          go_wp2_with fail
          go_ret3
          exact ⟨_,pk,7,z,rfl,HEND.out,HBE.out,HZO.out,by rw [← HLL.out];exact hk,HZE.out,fun h => absurd h (by decide)⟩
    · have hcp : c≠pk:=by omega
      have hA0 : A≠none:=fun e => by have:=hA e;omega
      obtain ⟨ad,rfl⟩ : ∃ ad,A=some ad:=by cases A with | none => exact absurd rfl hA0 | some ad => exact ⟨ad,rfl⟩
      have hrest:=rest_drop HVW.out HLL.out pk hk hcp
      have HRE:=Lib.hid hrest
      have hrl : (d.drop pk).length=L - pk:=by rw [List.length_drop,← HLL.out]
      have HZF : Hid (Calls Tryz.prog 112 #[.slice (some (ad.add pk)) 512 (c - pk)] wr fun e w' => e=.returned (.bool (allZ ((d.drop pk).take 512)))∧wr=w'):=Lib.hid (by
        rw [← hrl] at hrest
        exact HZ.out wr _ _ _ (hrest.front 512 (by omega)) (by rw [List.length_take];omega))
      have i3 : ¬ (((L - pk : Nat) : Int) < 512):=by omega
      have i4 : decide (((L - pk : Nat) : Int) < 512)=false:=decide_eq_false i3
      have i5 : 512≤L - pk:=by omega
      have i6 : (512 : Int)≤((c - pk : Nat) : Int):=by omega
      have HRD2:=Lib.hid (HRD.out wr HBE.out _ pk (HRE.out.more HBE.out.size))
      unfold RdPost at HRD2
      rw [hrl] at HRD2
      obtain ⟨az,haz⟩ : ∃ az,az=allZ ((d.drop pk).take 512):=⟨_,rfl⟩
      rw [← haz] at HZF
      clear hrest hrl haz hA hA0 HV HRD HZ HVW HRE H0
      cases az with
      | true =>
        clear HS HRD2 hi9 hy0 hy1 hy2
        go_wp2_with fail
        refine HZF.out.mono ?_
        rintro e w1 ⟨rfl,rfl⟩
        go_wp2_with fail
        go_ret3
        exact ⟨_,pk,0,z,rfl,HEND.out,HBE.out,HZO.out,by rw [← HLL.out];exact hk,HZE.out,fun _ => by rw [← HLL.out];exact i5⟩
      | false =>
        go_wp2_with fail
        refine HZF.out.mono ?_
        rintro e w1 ⟨rfl,rfl⟩
        go_wp2_with fail
        refine HRD2.out.mono ?_
        rintro e w2 ⟨b2,hres⟩
        clear HRD2 HZF
        rcases hres with ⟨q,hq,rfl⟩ | ⟨⟨xp,xk,xt,⟨m1,m2,m3,m4,m5,m6,m7⟩,xd⟩,Ax,cx,n,hxok,hn,hmn,hd,rfl⟩
        · have hq1 : (q == 0)=false:=beq_eq_false_iff_ne.2 hq
          have hq2 : (q != 0)=true:=by simp [hq]
          have HQ:=Lib.hid hq
          have HEN2:=Lib.hid (HEND.out.below b2)
          have HBE2:=Lib.hid (HBE.out.trans (b2.mono HBE.out.size))
          clear b2 hq HS hi9 hy0 hy1 hy2
          unfold entNone
          go_wp2_with fail
          go_ret3
          exact ⟨_,pk,q,z,rfl,HEN2.out.below ((Below.refl _ _).alloc (Nat.le_refl _) _),HBE2.out.alloc HBE2.out.size _,HZO.out,by rw [← HLL.out];exact hk,HZE.out,fun h => absurd h HQ.out⟩
        · have h512n:=memB_512 hxok
          rw [hmn,List.length_take,List.length_drop,← HLL.out] at h512n
          have hn512 : 512≤n:=by omega
          have HXO:=Lib.hid hxok
          have HMN:=Lib.hid hmn
          clear hxok hmn h512n
          unfold entC
          simp only at hd ⊢
          obtain ⟨ys,hyx,hyo,hyd⟩:=HS.out.2.1
          have HYX:=Lib.hid hyx
          have HYO:=Lib.hid hyo
          have HYD:=Lib.hid hyd
          have hwr : IntKind.i64.wrap ((pk : Int) + (n : Int))=(pk : Int) + n:=IntWalk.i64_in _ ⟨by omega,by omega⟩
          obtain ⟨W2,hW2⟩ : ∃ W2,W2=w2.alloc (.cells #[(.string (bs xp)),(.int .i64 xk),(.string (bs xt)),(.int .i64 m1),(.int .i64 m2),(.int .i64 m3),(.string (bs m4)),(.string (bs m5)),(.int .i64 m6),(.int .i64 m7),(.slice Ax xd.length cx)] 58):=⟨_,rfl⟩
          obtain ⟨g8,hg8⟩ : ∃ g8,g8=w2.heap.size:=⟨_,rfl⟩
          have hk8 : Blk W2 g8 58 #[(.string (bs xp)),(.int .i64 xk),(.string (bs xt)),(.int .i64 m1),(.int .i64 m2),(.int .i64 m3),(.string (bs m4)),(.string (bs m5)),(.int .i64 m6),(.int .i64 m7),(.slice Ax xd.length cx)]:=by rw [hW2,hg8];exact Blk.new _ _ _
          have hb2 : Below w2.heap.size w2 W2:=by rw [hW2];exact (Below.refl _ _).alloc (Nat.le_refl _) _
          have hb1:=b2.trans (hb2.mono b2.size)
          have HB2:=Lib.hid (HBE.out.trans (hb1.mono HBE.out.size))
          have HYO2:=Lib.hid (ownsRow_below HYO.out hb1)
          have HYD2:=Lib.hid (fun y hy => (HYD.out y hy).below hb1)
          have HD2:=Lib.hid ((hd.mono HBE.out.size).below hb2)
          clear b2 hb2 hb1 hd HYO HYD hyx hyo hyd HEND
          go_upto_region 9 with fail
          rw [← hW2,← hg8]
          clear hW2 hg8
          have e0 : W2.cell? ⟨g8,0,none⟩=some (.string (bs xp)):=hk8.cell 0
          have e1 : W2.cell? ⟨g8,1,none⟩=some (.int .i64 xk):=hk8.cell 1
          have e2 : W2.cell? ⟨g8,2,none⟩=some (.string (bs xt)):=hk8.cell 2
          have e3 : W2.cell? ⟨g8,3,none⟩=some (.int .i64 m1):=hk8.cell 3
          have e4 : W2.cell? ⟨g8,4,none⟩=some (.int .i64 m2):=hk8.cell 4
          have e5 : W2.cell? ⟨g8,5,none⟩=some (.int .i64 m3):=hk8.cell 5
          have e6 : W2.cell? ⟨g8,6,none⟩=some (.string (bs m4)):=hk8.cell 6
          have e7 : W2.cell? ⟨g8,7,none⟩=some (.string (bs m5)):=hk8.cell 7
          have e8 : W2.cell? ⟨g8,8,none⟩=some (.int .i64 m6):=hk8.cell 8
          have e9 : W2.cell? ⟨g8,9,none⟩=some (.int .i64 m7):=hk8.cell 9
          have e10 : W2.cell? ⟨g8,10,none⟩=some (.slice Ax xd.length cx):=hk8.cell 10
          have hszb : w.heap.size≤W2.heap.size:=HB2.out.size
          go_wp2_with (at_builtin;refine wpList_append_any _ rfl (.tmp 35) (.tmp 37) _ rfl w.heap.size 58 i9 _ 11 136 Tryz.underlying30 hi9 hy0 hy1 hy2 rfl (by omega) _ z.length (ys.flatMap entV) rfl (ownsRow_below HYO2.out ((Below.refl _ _).alloc (Nat.le_refl _) _)) (W2.heap.size + 1) (some ⟨W2.heap.size,0,none⟩) 1 1 (entV (⟨xp,xk,xt,⟨m1,m2,m3,m4,m5,m6,m7⟩,xd⟩,.slice Ax xd.length cx)) rfl (new_row W2 58 (entV (⟨xp,xk,xt,⟨m1,m2,m3,m4,m5,m6,m7⟩,xd⟩,.slice Ax xd.length cx)) 1 11 rfl) (one_ent _ Ax xd.length cx) (by simp only [maxLen];omega) (by omega) (by simp;omega) ?_;intro v9 w9 hown9 hg9 hat9;obtain ⟨A9',c9',hv9,-⟩:=ownsRow_read hown9;subst hv9;have HO9:=Lib.hid hown9;have HG9:=Lib.hid hg9;clear hown9 hg9 hat9)
          go_roundg (L - (pk + n))
          case measure => omega
          case rel =>
            have bA:=(Below.refl W2.heap.size W2).alloc (Nat.le_refl _) (.cells (entV (⟨xp,xk,xt,⟨m1,m2,m3,m4,m5,m6,m7⟩,xd⟩,.slice Ax xd.length cx)).toArray 58)
            refine ⟨pk + n,z ++ [⟨xp,xk,xt,⟨m1,m2,m3,m4,m5,m6,m7⟩,xd⟩],by omega,by omega,by rw [List.length_append,List.length_singleton];omega,by rw [Int.natCast_add],Lib.hid ⟨(HB2.out.trans (bA.mono hszb)).grown HG9.out (Nat.le_trans hszb bA.size) (fun g hg => (own_typed (ownsRow_below HYO2.out bA) hg).1),?_,?_,?_⟩⟩
            · exact EntsRow.snoc HYX.out (fun y hy => (HYD2.out y hy).below bA) (HD2.out.below bA) (ownsRow_below HYO2.out bA) HG9.out HO9.out
            · intro x hx
              rcases List.mem_append.1 hx with h | h
              · exact HZO.out x h
              · rw [List.mem_singleton.1 h];exact HXO.out
            · exact arcB_snoc HZE.out HMN.out
def AvPost (w : World) (d : List UInt8) (e : Ending) (w' : World) : Prop :=
  Below w.heap.size w w'∧((∃ q : Int,q≠0∧e=.returned (.tuple #[.slice none 0 0,.int .i64 q])) ∨
    (∃ (lv : Value) (z : List EntP),e=.returned (.tuple #[lv,.int .i64 0])∧EntsOk z∧EntsOwn w' w.heap.size lv z∧arcB z ++ endB=d))
theorem end_all {t : List UInt8} (h : endT t=true) : t=endB:=by
  unfold endT allZ at h
  rw [Bool.and_eq_true,decide_eq_true_eq,List.all_eq_true] at h
  unfold endB
  exact List.eq_replicate_iff.2 ⟨h.1,fun b hb => by simpa using h.2 b hb⟩
set_option maxRecDepth 100000 in
set_option maxHeartbeats 4000000 in
theorem Archive_all (v : Value) (d : List UInt8) (w : World) (hm : ∀ W,Below w.heap.size w W→ML W) (h10 : ∀ W,Below w.heap.size w W→P10 W) (hse : ∀ W,Below w.heap.size w W→Sent W) (hv : BytesAt w w.heap.size v d) (hdl : d.length≤99500) :
    Calls Tryz.prog 19 #[v] w fun e w' => AvPost w d e w':=by
  have HSO:=Lib.hid (Some_all v d w hm h10 hse hv hdl)
  have HHV:=Lib.hid hv
  have HPC:=Lib.hid (fun W lv (l : List EntP) (hb : Below w.heap.size w W) (h : EntsOwn W w.heap.size lv l) (hent : ∀ x∈l,EntOk x) => (show Calls Tryz.prog 35 #[lv] W fun e w' => ∃ q : Int,e=.returned (.int .i64 q)∧Below W.heap.size W w'∧(q=0→EntsOk l) by
    obtain ⟨xs,hx⟩:=EntsRow.at_ h
    exact PCheck_all lv l xs W (fun W' hb' => hm W' (hb.trans (hb'.mono hb.size))) hx hent))
  obtain ⟨A,c,ev,hlc,hcm,hA,-⟩:=id hv
  rw [List.length_map] at ev hlc
  unfold maxLen at hcm
  obtain ⟨L,hL⟩ : ∃ L,L=d.length:=⟨_,rfl⟩
  rw [← hL] at ev hlc hdl
  have HLL:=Lib.hid hL
  subst ev
  unfold SmPost at HSO
  clear hm h10 hse hv hL
  go_enter Tryz.func19,Tryz.ntmps19
  go_wp2_with fail
  refine HSO.out.mono ?_
  rintro e w1 ⟨lv,pk,q,z,rfl,hlv,b1,hz,hpk,hzt,hq0⟩
  have HLV:=Lib.hid hlv
  obtain ⟨A1,c1,rfl,-⟩:=hlv.slice
  have HB:=Lib.hid b1
  have HZ:=Lib.hid hz
  have HZT:=Lib.hid hzt
  rw [← HLL.out] at hpk hq0
  clear hlv b1 HSO hz hzt
  by_cases hq : q=0
  · subst hq
    have h512:=hq0 rfl
    clear hq0
    obtain ⟨ad,rfl⟩ : ∃ ad,A=some ad:=by
      cases A with
      | none => have:=hA rfl;omega
      | some ad => exact ⟨ad,rfl⟩
    have i1 : (0 : Int)≤(pk : Int):=by omega
    have i2 : (pk : Int)≤(L : Int):=by omega
    have i3 : (L : Int)≤(c : Int):=by omega
    have i4 : (pk : Int)≤(c : Int):=by omega
    have i5 : pk≤c:=by omega
    have i6 : c≠pk:=by omega
    have HEN:=Lib.hid (Ends_any _ (d.drop pk) _ w1 (rest_drop (HHV.out.below HB.out) HLL.out pk hpk i6) (by rw [List.length_drop,← HLL.out];omega))
    have HEE:=Lib.hid (fun h : endT (d.drop pk)=true => (show arcB z ++ endB=d by rw [← end_all h,HZT.out,List.take_append_drop]))
    obtain ⟨et,het⟩ : ∃ et,et=endT (d.drop pk):=⟨_,rfl⟩
    rw [← het] at HEN HEE
    clear het hA HHV
    go_wp2_with fail
    refine HEN.out.mono ?_
    rintro e w2 ⟨rfl,b2⟩
    have HB2:=Lib.hid (HB.out.trans (b2.mono HB.out.size))
    have HLV2:=Lib.hid (HLV.out.below b2)
    clear b2 HB HLV HEN
    cases et with
    | false =>
      go_wp2_with fail
      go_ret2
      exact ⟨HB2.out,.inl ⟨3,by decide,rfl⟩⟩
    | true =>
      go_wp2_with fail
      refine (HPC.out _ _ _ HB2.out HLV2.out HZ.out).mono ?_
      rintro e w3 ⟨q,rfl,b3,hq⟩
      have HB3:=Lib.hid (HB2.out.trans (b3.mono HB2.out.size))
      have HLV3:=Lib.hid (HLV2.out.below b3)
      have HQ:=Lib.hid hq
      clear b3 HPC hq HB2 HLV2
      by_cases hq : q=0
      · subst hq
        go_wp2_with fail
        go_ret2
        exact ⟨HB3.out,.inr ⟨_,z,rfl,HQ.out trivial,HLV3.out,HEE.out trivial⟩⟩
      · have t1 : (q != 0)=true:=by simpa using hq
        have t2 : (q == 0)=false:=by simpa using hq
        have HN:=Lib.hid hq
        clear hq
        go_wp2_with fail
        go_ret2
        exact ⟨HB3.out,.inl ⟨q,HN.out,rfl⟩⟩
  · have t1 : (q != 0)=true:=by simpa using hq
    have t2 : (q == 0)=false:=by simpa using hq
    have HN:=Lib.hid hq
    clear hq hq0 hA HHV HPC
    go_wp2_with fail
    go_ret2
    exact ⟨HB.out,.inl ⟨q,HN.out,rfl⟩⟩
end
end Go.Proofs.YtphmhmdcaafmdaaGreatDoor
