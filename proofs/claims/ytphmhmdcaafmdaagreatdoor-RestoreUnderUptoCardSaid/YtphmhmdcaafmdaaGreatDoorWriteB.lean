import Derived.Test.YtphmhmdcaafmdaaGreatDoorMReads
import Derived.Test.YtphmhmdcaafmdaaGreatDoorArchW
import Derived.Test.YtphmhmdcaafmdaaGreatDoorMake
import Derived.Test.YtphmhmdcaafmdaaGreatDoorEnts
import Derived.Test.YtphmhmdcaafmdaaGreatDoorRecsQ
import Derived.Test.YtphmhmdcaafmdaaGreatDoorTFR
import Derived.BigQuiet
import Derived.Deep.QuietTactic
import Derived.Test.YtphmhmdcaafmdaaGreatDoorPChecksS
import Derived.Test.YtphmhmdcaafmdaaGreatDoorAnewLike
namespace Go.Proofs.YtphmhmdcaafmdaaGreatDoor
set_option linter.all false
section
open Go.RowKit
def allZ (l : List UInt8) : Bool:=l.all (· == 0)
set_option maxHeartbeats 1000000 in
theorem Zero_any (v : Value) (l : List UInt8) (B : Nat) (w : World) (hv : BytesAt w B v l) (hn : l.length≤100000) :
    Calls Tryz.prog 112 #[v] w fun e w' => e=.returned (.bool (allZ l))∧w=w':=by
  obtain ⟨A,c,ev,hlc,hcm,hA,hr⟩:=hv
  rw [List.length_map] at ev hlc hr
  subst ev
  have HR:=Lib.hid hr
  unfold maxLen at hcm
  clear hr hA
  go_enter Tryz.func112,Tryz.ntmps112
  go_wp2_with fail
  go_loopg [4,7] l.length (fun gg s4 s7 wr => ∃ k : Nat,k≤l.length∧l.length - k≤gg∧s7=.int .i64 k∧wr=w∧Hid (∀ j (hj : j < l.length),j < k→l[j]=0))
  case atStart => exact ⟨0,Nat.zero_le _,by omega,rfl,rfl,Lib.hid (fun j hj h => absurd h (Nat.not_lt_zero _))⟩
  case round =>
    obtain ⟨k,hk,hg,rfl,rfl,HZ⟩:=hrel
    by_cases hlt : k < l.length
    · obtain ⟨ad,u,rfl,_,hx,hcell⟩:=HR.out.at_ hlt
      rw [List.getElem?_map,List.getElem?_map,List.getElem?_eq_getElem hlt] at hx
      obtain rfl : Value.int .u8 (ofB l[k])=u:=by simpa using hx
      have i1 : (0 : Int)≤(k : Int):=by omega
      have i2 : (k : Int) < (l.length : Int):=by omega
      by_cases h0 : l[k]=0
      · have HN : Hid (∀ j (hj : j < l.length),j < k + 1→l[j]=0):=Lib.hid (fun j hj h => by
          by_cases e : j=k
          · subst e;exact h0
          · exact HZ.out j hj (by omega))
        have t1 : (ofB l[k] != 0)=false:=by rw [h0];rfl
        have t2 : (ofB l[k] == 0)=true:=by rw [h0];rfl
        clear hx h0
        generalize ofB l[k]=z at *
        go_wp2_with fail
        go_roundg (l.length - (k + 1))
        case measure => omega
        case rel => exact ⟨k + 1,by omega,by omega,by go_num,rfl,HN⟩
      · have HF : Hid (allZ l=false):=Lib.hid (by unfold allZ;rw [List.all_eq_false];exact ⟨l[k],List.getElem_mem hlt,by simpa using h0⟩)
        have hne : ofB l[k]≠0:=fun e => h0 (UInt8.toNat_inj.1 (by have : (l[k].toNat : Int)=0:=e;have h2 : (0 : UInt8).toNat=0:=rfl;omega))
        have t1 : (ofB l[k] != 0)=true:=by simpa using hne
        have t2 : (ofB l[k] == 0)=false:=by simpa using hne
        clear hx h0 hne
        generalize ofB l[k]=z at *
        go_wp2_with fail
        go_ret
        exact ⟨ret_bool HF.out.symm,rfl⟩
    · obtain rfl : k=l.length:=by omega
      have HT : Hid (allZ l=true):=Lib.hid (by
        unfold allZ
        rw [List.all_eq_true]
        intro b hb
        obtain ⟨j,hj,rfl⟩:=List.getElem_of_mem hb
        rw [HZ.out j hj hj];rfl)
      go_wp2_with fail
      go_ret
      exact ⟨ret_bool HT.out.symm,rfl⟩
theorem memB_front {x : EntP} (h : EntOk x) (m : List UInt8) : allZ ((memB x ++ m).take 512)=false∧512≤(memB x ++ m).length:=by
  obtain ⟨H0,d0,r0,hH,-,-,he,-⟩:=memB_first h m
  rw [he]
  have e : (headW H0 ++ (padB d0 ++ r0)).take 512=headW H0:=by
    rw [← headW_length hH];exact List.take_left
  rw [e]
  constructor
  · unfold allZ
    rw [List.all_eq_false]
    refine ⟨117,?_,by decide⟩
    unfold headW headB ustarS
    simp
  · rw [List.length_append,headW_length hH]
    omega
def TailOk (t : List UInt8) (e : Int) : Prop :=
  (e=7∧t.length < 512)∨(e=0∧512≤t.length∧allZ (t.take 512)=true)∨(e=7∧∃ x k,EntOk x∧k < (memB x).length∧512≤k∧t=(memB x).take k)
def SoSt (w0 : World) (l : List EntP) (k : Nat) (v : Value) (W : World) : Prop:=Below w0.heap.size w0 W∧EntsRow W w0.heap.size w0.heap.size v (l.take k)
theorem arcB_drop {l : List EntP} {k : Nat} (hk : k < l.length) : arcB (l.drop k)=memB l[k] ++ arcB (l.drop (k + 1)):=by
  rw [List.drop_eq_getElem_cons hk]
  unfold arcB
  rw [List.map_cons,List.flatten_cons]
theorem arcB_split (l : List EntP) (k : Nat) : arcB l=arcB (l.take k) ++ arcB (l.drop k):=by
  unfold arcB
  rw [← List.flatten_append,← List.map_append,List.take_append_drop]
theorem rest_at {w : World} {B c L : Nat} {ad : Addr} {f r : List UInt8} (h : BytesAt w B (.slice (some ad) L c) (f ++ r)) (hL : L=f.length + r.length) (hc : c≠f.length) : BytesAt w B (.slice (some (ad.add f.length)) (L - f.length) (c - f.length)) r:=by
  subst hL
  rw [← List.length_append] at h
  have h2:=h.part f.length (f ++ r).length (by rw [List.length_append];omega) (Nat.le_refl _)
  rw [if_neg hc,List.drop_left,List.length_append,Nat.add_sub_cancel_left,List.take_of_length_le (Nat.le_refl _)] at h2
  rw [Nat.add_sub_cancel_left]
  exact h2
set_option maxRecDepth 100000 in
set_option maxHeartbeats 8000000 in
theorem Some_any (l : List EntP) (hl : ∀ x∈l,EntOk x) (hn : l.length≤40) (t : List UInt8) (ec : Int) (ht : TailOk t ec) (htl : t.length≤3000000) (v : Value) (w : World) (hm : ∀ W,Below w.heap.size w W→ML W) (h10 : ∀ W,Below w.heap.size w W→P10 W) (hv : BytesAt w w.heap.size v (arcB l ++ t)) :
    Calls Tryz.prog 55 #[v] w fun e w' => ∃ lv,e=.returned (.tuple #[lv,.int .i64 (arcB l).length,.int .i64 ec])∧EntsOwn w' w.heap.size lv l∧Below w.heap.size w w':=by
  have harc:=arcB_len hl
  have hL40 : l.length * 8192≤40 * 8192:=Nat.mul_le_mul_right _ hn
  have HBL : Hid (∀ k,(arcB (l.take k)).length + (arcB (l.drop k)).length=(arcB l).length):=Lib.hid (fun k => by rw [← List.length_append,← arcB_split])
  have HV : Hid (∀ W,Below w.heap.size w W→BytesAt W w.heap.size v (arcB l ++ t)):=Lib.hid (fun W hb => hv.below hb)
  have HMLW:=Lib.hid hm
  have H10W:=Lib.hid h10
  have HEO:=Lib.hid hl
  have HTL:=Lib.hid ht
  obtain ⟨A,c,ev,hlc,hcm,hA,-⟩:=id hv
  rw [List.length_map,List.length_append] at ev hlc
  unfold maxLen at hcm
  obtain ⟨L,hL⟩ : ∃ L,L=(arcB l).length + t.length:=⟨_,rfl⟩
  rw [← hL] at ev hlc
  have hLb : L≤4000000:=by omega
  have HLL:=Lib.hid hL
  have HZ:=Lib.hid (fun W v (l : List UInt8) B h hn => Zero_any v l B W h hn)
  obtain ⟨i9,hi9,hy0,hy1,hy2⟩:=info_parts entinfo
  have H0 : Hid (SoSt w l 0 (.slice none 0 0) w):=Lib.hid ⟨Below.refl _ _,by rw [List.take_zero];exact EntsRow.nil _ _ _⟩
  clear hm h10 hl ht hv harc hL40 hL
  subst ev
  go_enter Tryz.func55,Tryz.ntmps55
  go_wp2_with fail
  go_loopg [5,6,7,8,9,10] l.length (fun gg s5 s6 s7 s8 s9 s10 wr => ∃ k : Nat,k≤l.length∧l.length - k≤gg∧s6=.int .i64 (arcB (l.take k)).length∧Hid (SoSt w l k s5 wr))
  case atStart => exact ⟨0,Nat.zero_le _,by omega,rfl,H0⟩
  case round =>
    obtain ⟨k,hk,hg,rfl,HS⟩:=hrel
    have hsp:=HBL.out k
    obtain ⟨pk,hpk⟩ : ∃ pk,pk=(arcB (l.take k)).length:=⟨_,rfl⟩
    have HVW:=Lib.hid (HV.out _ HS.out.1)
    have hLL:=HLL.out
    rw [← hpk] at hsp ⊢
    have HPK:=Lib.hid hpk
    have hkl : (l.take k).length=k:=by rw [List.length_take];omega
    have HKL:=Lib.hid hkl
    clear hpk hkl
    by_cases hlt : k < l.length
    · have hx:=HEO.out l[k] (List.getElem_mem hlt)
      have HTK:=Lib.hid (show l.take (k + 1)=l.take k ++ [l[k]] from List.take_succ_eq_append_getElem hlt)
      have HAT:=Lib.hid (arcB_take hlt)
      have HE : Hid (arcB l ++ t=arcB (l.take k) ++ (memB l[k] ++ (arcB (l.drop (k + 1)) ++ t))):=Lib.hid (by rw [arcB_split l k,arcB_drop hlt];simp only [List.append_assoc])
      have hfr:=memB_front hx (arcB (l.drop (k + 1)) ++ t)
      have hdl : (arcB (l.drop k)).length=(memB l[k]).length + (arcB (l.drop (k + 1))).length:=by rw [arcB_drop hlt,List.length_append]
      have hm1:=hfr.2
      rw [List.length_append,List.length_append] at hm1
      have hmb:=(memB_blocks hx).2.2.2
      have HRD:=Lib.hid (fun W (hb : Below w.heap.size w W) v (hvv : BytesAt W W.heap.size v (memB l[k] ++ (arcB (l.drop (k + 1)) ++ t))) => MRead_good l[k] hx (arcB (l.drop (k + 1)) ++ t) (by rw [List.length_append];omega) v W (fun W' hb' => HMLW.out W' (hb.trans (hb'.mono hb.size))) (fun W' hb' => H10W.out W' (hb.trans (hb'.mono hb.size))) hvv)
      have hcp : c≠pk:=by omega
      have hA0 : A≠none:=fun e => by have:=hA e;omega
      have HRA : Hid (∀ ad,A=some ad→BytesAt wr w.heap.size (.slice (some (ad.add pk)) (L - pk) (c - pk)) (memB l[k] ++ (arcB (l.drop (k + 1)) ++ t))):=Lib.hid (fun ad e => by
        have h1:=HVW.out
        rw [e,HE.out] at h1
        have h2:=rest_at h1 (by rw [← HPK.out,List.length_append,List.length_append];omega) (by rw [← HPK.out];exact hcp)
        rw [← HPK.out] at h2
        exact h2)
      have hfz:=hfr.1
      have hRL : L - pk=(memB l[k] ++ (arcB (l.drop (k + 1)) ++ t)).length:=by rw [List.length_append,List.length_append];omega
      obtain ⟨lm,hlm⟩ : ∃ lm,lm=(memB l[k]).length:=⟨_,rfl⟩
      have HAT2 : Hid ((arcB (l.take (k + 1))).length=pk + lm):=Lib.hid (by rw [HAT.out,List.length_append,← HPK.out,hlm])
      rw [← hlm] at hdl hm1 hmb HRD
      have HLM:=Lib.hid hlm
      have HRL:=Lib.hid hRL
      clear hlm hx hfr HE HAT hRL
      obtain ⟨ad,rfl⟩ : ∃ ad,A=some ad:=by cases A with | none => exact absurd rfl hA0 | some ad => exact ⟨ad,rfl⟩
      have HRB:=Lib.hid (HRA.out ad rfl)
      clear HRA hA0 HVW
      have i1 : (0 : Int)≤(pk : Int):=by omega
      have i2 : (pk : Int)≤(L : Int):=by omega
      have i3 : ¬ (((L - pk : Nat) : Int) < 512):=by omega
      have i4 : decide (((L - pk : Nat) : Int) < 512)=false:=decide_eq_false i3
      have i5 : 512≤L - pk:=by omega
      have i6 : (512 : Int)≤((c - pk : Nat) : Int):=by omega
      have i7 : (pk : Int)≤(c : Int):=by omega
      have i8 : (L : Int)≤(c : Int):=by omega
      have i10 : pk≤c:=by omega
      have hwr : IntKind.i64.wrap ((pk : Int) + (lm : Int))=(pk : Int) + lm:=IntWalk.i64_in _ ⟨by omega,by omega⟩
      have HZF : Hid (Calls Tryz.prog 112 #[.slice (some (ad.add pk)) 512 (c - pk)] wr fun e w' => e=.returned (.bool false)∧wr=w'):=Lib.hid (by
        have h1 : BytesAt wr w.heap.size (.slice (some (ad.add pk)) (memB l[k] ++ (arcB (l.drop (k + 1)) ++ t)).length (c - pk)) (memB l[k] ++ (arcB (l.drop (k + 1)) ++ t)):=by rw [← HRL.out];exact HRB.out
        have h2:=h1.front 512 (by rw [← HRL.out];exact i5)
        have h3:=HZ.out wr _ _ _ h2 (by rw [List.length_take];omega)
        rw [hfz] at h3
        exact h3)
      have HRD2:=Lib.hid (HRD.out wr HS.out.1 _ (HRB.out.more HS.out.1.size))
      clear HRD HRB hfz HZ HRL HMLW H10W hLL hsp hdl
      have HXL:=Lib.hid (rfl : l[k]=l[k])
      generalize l[k]=x at *
      obtain ⟨xp,xk,xt,⟨m1,m2,m3,m4,m5,m6,m7⟩,xd⟩:=x
      obtain ⟨ys,hyx,hyo,hyd⟩:=HS.out.2
      rw [HKL.out] at hyo
      have HYX:=Lib.hid hyx
      have HYO:=Lib.hid hyo
      have HYD:=Lib.hid hyd
      obtain ⟨A5,c5,hv5,-⟩:=ownsRow_read hyo
      subst hv5
      clear hyx hyo hyd
      unfold entC at HRD2
      simp only at HRD2
      go_wp2_with fail
      refine HZF.out.mono ?_
      rintro e w1 ⟨rfl,rfl⟩
      go_wp2_with fail
      refine HRD2.out.mono ?_
      rintro e w2 ⟨Ax,cx,rfl,hd,b2⟩
      obtain ⟨W2,hW2⟩ : ∃ W2,W2=w2.alloc (.cells #[(.string (bs xp)),(.int .i64 xk),(.string (bs xt)),(.int .i64 m1),(.int .i64 m2),(.int .i64 m3),(.string (bs m4)),(.string (bs m5)),(.int .i64 m6),(.int .i64 m7),(.slice Ax xd.length cx)] 58):=⟨_,rfl⟩
      obtain ⟨g8,hg8⟩ : ∃ g8,g8=w2.heap.size:=⟨_,rfl⟩
      have hk8 : Blk W2 g8 58 #[(.string (bs xp)),(.int .i64 xk),(.string (bs xt)),(.int .i64 m1),(.int .i64 m2),(.int .i64 m3),(.string (bs m4)),(.string (bs m5)),(.int .i64 m6),(.int .i64 m7),(.slice Ax xd.length cx)]:=by rw [hW2,hg8];exact Blk.new _ _ _
      have hb2 : Below w2.heap.size w2 W2:=by rw [hW2];exact (Below.refl _ _).alloc (Nat.le_refl _) _
      have hb1:=b2.trans (hb2.mono b2.size)
      have HB2:=Lib.hid (HS.out.1.trans (hb1.mono HS.out.1.size))
      have HYO2:=Lib.hid (ownsRow_below HYO.out hb1)
      have HYD2:=Lib.hid (fun y hy => (HYD.out y hy).below hb1)
      have HD2:=Lib.hid ((hd.mono HS.out.1.size).below hb2)
      clear b2 hb2 hb1 hd HZF HRD2 HYO HYD
      go_upto_region 9 with fail
      rw [← hW2,← hg8]
      clear hW2 hg8
      have e0 : W2.cell? ⟨g8,0,none⟩=some (.string (bs xp)):=hk8.cell 0
      have e1 : W2.cell? ⟨g8,1,none⟩=some (.int .i64 xk):=hk8.cell 1
      have e2 : W2.cell? ⟨g8,2,none⟩=some (.string (bs xt)):=hk8.cell 2
      have e3 : W2.cell? ⟨g8,3,none⟩=some (.int .i64 m1):=hk8.cell 3
      have e4 : W2.cell? ⟨g8,4,none⟩=some (.int .i64 m2):=hk8.cell 4
      have e5 : W2.cell? ⟨g8,5,none⟩=some (.int .i64 m3):=hk8.cell 5
      have e6 : W2.cell? ⟨g8,6,none⟩=some (.string (bs m4)):=hk8.cell 6
      have e7 : W2.cell? ⟨g8,7,none⟩=some (.string (bs m5)):=hk8.cell 7
      have e8 : W2.cell? ⟨g8,8,none⟩=some (.int .i64 m6):=hk8.cell 8
      have e9 : W2.cell? ⟨g8,9,none⟩=some (.int .i64 m7):=hk8.cell 9
      have e10 : W2.cell? ⟨g8,10,none⟩=some (.slice Ax xd.length cx):=hk8.cell 10
      have hszb : w.heap.size≤W2.heap.size:=HB2.out.size
      go_wp2_with (at_builtin;refine wpList_append_any _ rfl (.tmp 35) (.tmp 37) _ rfl w.heap.size 58 i9 _ 11 136 Tryz.underlying30 hi9 hy0 hy1 hy2 rfl (by omega) _ k (ys.flatMap entV) rfl (ownsRow_below HYO2.out ((Below.refl _ _).alloc (Nat.le_refl _) _)) (W2.heap.size + 1) (some ⟨W2.heap.size,0,none⟩) 1 1 (entV (⟨xp,xk,xt,⟨m1,m2,m3,m4,m5,m6,m7⟩,xd⟩,.slice Ax xd.length cx)) rfl (new_row W2 58 (entV (⟨xp,xk,xt,⟨m1,m2,m3,m4,m5,m6,m7⟩,xd⟩,.slice Ax xd.length cx)) 1 11 rfl) (one_ent _ Ax xd.length cx) (by simp only [maxLen];omega) (by omega) (by simp;omega) ?_;intro v9 w9 hown9 hg9 hat9;obtain ⟨A9',c9',hv9,-⟩:=ownsRow_read hown9;subst hv9;have HO9:=Lib.hid hown9;have HG9:=Lib.hid hg9;clear hown9 hg9 hat9)
      go_roundg (l.length - (k + 1))
      case measure => omega
      case rel =>
        have bA:=(Below.refl W2.heap.size W2).alloc (Nat.le_refl _) (.cells (entV (⟨xp,xk,xt,⟨m1,m2,m3,m4,m5,m6,m7⟩,xd⟩,.slice Ax xd.length cx)).toArray 58)
        refine ⟨k + 1,by omega,by omega,by rw [HAT2.out,Int.natCast_add],Lib.hid ⟨(HB2.out.trans (bA.mono hszb)).grown HG9.out (Nat.le_trans hszb bA.size) (fun g hg => (own_typed (ownsRow_below HYO2.out bA) hg).1),?_⟩⟩
        rw [HTK.out]
        exact EntsRow.snoc HYX.out (fun y hy => (HYD2.out y hy).below bA) (HD2.out.below bA) (by rw [HKL.out];exact ownsRow_below HYO2.out bA) HG9.out (by rw [HKL.out];exact HO9.out)
    · obtain rfl : k=l.length:=by omega
      have htk : l.take l.length=l:=List.take_of_length_le (Nat.le_refl _)
      have hpk : pk=(arcB l).length:=by have h:=HPK.out;rw [htk] at h;exact h
      have HEND:=Lib.hid (show EntsOwn wr w.heap.size _ l by have h:=HS.out.2;rw [htk] at h;exact h)
      have HBE:=Lib.hid HS.out.1
      have hLp : L=pk + t.length:=by omega
      have hAT : A≠none→c≠pk→∃ ad,A=some ad∧BytesAt wr w.heap.size (.slice (some (ad.add pk)) t.length (c - pk)) t:=fun h1 h2 => by
        cases A with
        | none => exact absurd rfl h1
        | some ad =>
          refine ⟨ad,rfl,?_⟩
          have h3:=rest_at HVW.out (by rw [← hpk];exact hLp) (by rw [← hpk];exact h2)
          rw [← hpk,show L - pk=t.length by omega] at h3
          exact h3
      have hLs : L - pk=t.length:=by omega
      obtain ⟨A5,c5,hv5,-,-⟩:=HEND.out.slice
      subst hv5
      have HPE:=Lib.hid hpk
      have HTT:=HTL.out
      have i1 : (0 : Int)≤(pk : Int):=by omega
      have i2 : (pk : Int)≤(L : Int):=by omega
      have i7 : (pk : Int)≤(c : Int):=by omega
      have i8 : (L : Int)≤(c : Int):=by omega
      have i10 : pk≤c:=by omega
      clear HS HPK HKL HVW HLL HV HTL HEO HBL htk hsp hpk H0 hLL
      by_cases h512 : t.length < 512
      · have hec : ec=7:=by
          rcases HTT with ⟨h,-⟩ | ⟨-,h,-⟩ | ⟨-,x,k2,hx,hk2,hk3,h⟩
          · exact h
          · omega
          · exfalso
            rw [h,List.length_take] at h512
            omega
        subst hec
        have j1 : ((t.length : Int) < 512):=by omega
        cases A with
        | none =>
          have hc0:=hA rfl
          subst hc0
          obtain rfl : pk=0:=by omega
          obtain rfl : L=0:=by omega
          clear hAT HTT hlc hLs hLp
          go_wp2_with fail
          go_ret3
          exact ⟨_,by rw [← HPE.out];rfl,HEND.out,HBE.out⟩
        | some ad =>
          by_cases hcp : c=pk
          · subst hcp
            obtain rfl : L=c:=by omega
            clear hAT HTT hlc hLs hLp
            go_wp2_with fail
            go_ret3
            exact ⟨_,by rw [← HPE.out];rfl,HEND.out,HBE.out⟩
          · have j2 : (((L - pk : Nat) : Int) < 512):=by omega
            have j3 : decide (((L - pk : Nat) : Int) < 512)=true:=decide_eq_true j2
            clear hAT HTT hLs hLp
            go_wp2_with fail
            go_ret3
            exact ⟨_,by rw [← HPE.out];rfl,HEND.out,HBE.out⟩
      · have hcp : c≠pk:=by omega
        have hA0 : A≠none:=fun e => by have:=hA e;omega
        obtain ⟨ad,rfl,hrest⟩:=hAT hA0 hcp
        have hrest2 : BytesAt wr w.heap.size (.slice (some (ad.add pk)) t.length (c - pk)) t:=hrest
        have hz:=HZ.out wr _ _ _ (hrest.front 512 (by omega)) (by rw [List.length_take];omega)
        have HZF:=Lib.hid hz
        have HRE:=Lib.hid hrest2
        have i3 : ¬ (((L - pk : Nat) : Int) < 512):=by omega
        have i4 : decide (((L - pk : Nat) : Int) < 512)=false:=decide_eq_false i3
        have i5 : 512≤L - pk:=by omega
        have i6 : (512 : Int)≤((c - pk : Nat) : Int):=by omega
        rcases HTT with ⟨-,h⟩ | ⟨rfl,-,hall⟩ | ⟨rfl,x,k2,hx,hk2,hk3,hte⟩
        · exact absurd h h512
        · rw [hall] at HZF
          clear hAT hA hLs hLp hz hrest hrest2 HRE hA0
          go_wp2_with fail
          refine HZF.out.mono ?_
          rintro e w1 ⟨rfl,rfl⟩
          go_wp2_with fail
          go_ret3
          exact ⟨_,by rw [← HPE.out];rfl,HEND.out,HBE.out⟩
        · have hnz : allZ (t.take 512)=false:=by
            have h1:=(memB_front hx []).1
            rw [List.append_nil] at h1
            rw [hte,List.take_take,Nat.min_eq_left hk3]
            exact h1
          rw [hnz] at HZF
          have HRD:=Lib.hid (MRead_torn x hx k2 hk2 (.slice (some (ad.add pk)) (L - pk) (c - pk)) wr (fun W' hb' => HMLW.out W' (HBE.out.trans (hb'.mono HBE.out.size))) (fun W' hb' => H10W.out W' (HBE.out.trans (hb'.mono HBE.out.size))) (by
            rw [hLs]
            have h1:=HRE.out.more HBE.out.size
            rw [← hte]
            exact h1))
          unfold entZA at HRD
          clear hAT hA hLs hLp hz hrest hrest2 HRE hA0 hnz HMLW H10W hk2 hk3 hx hte
          go_wp2_with fail
          refine HZF.out.mono ?_
          rintro e w1 ⟨rfl,rfl⟩
          go_wp2_with fail
          refine HRD.out.mono ?_
          rintro e w2 ⟨rfl,b2⟩
          have HEN2:=Lib.hid (HEND.out.below b2)
          have HBE2:=Lib.hid (HBE.out.trans (b2.mono HBE.out.size))
          clear b2
          go_wp2_with fail
          go_ret3
          exact ⟨_,by rw [← HPE.out];rfl,HEN2.out.below ((Below.refl _ _).alloc (Nat.le_refl _) _),HBE2.out.alloc HBE2.out.size _⟩
end
section
open Go.RowKit
def endT (l : List UInt8) : Bool:=decide (l.length=1024) && allZ l
set_option maxHeartbeats 1000000 in
theorem Ends_any (v : Value) (l : List UInt8) (B : Nat) (w : World) (hv : BytesAt w B v l) (hn : l.length≤5000000) :
    Calls Tryz.prog 56 #[v] w fun e w' => e=.returned (.bool (endT l))∧Below w.heap.size w w':=by
  have hcv:=conv_str hv
  obtain ⟨A,c,ev,-⟩:=hv
  rw [List.length_map] at ev
  subst ev
  have HT:=Lib.hid (fun W => Trim_nul l W (by omega))
  have HE:=Lib.hid (rfl : endT l=endT l)
  by_cases hl : l.length=1024
  · have t1 : ((l.length : Int) == 1024)=true:=beq_iff_eq.2 (by omega)
    by_cases hz : ∀ b∈l,b=0
    · have HF : Hid (endT l=true):=Lib.hid (by unfold endT allZ;rw [decide_eq_true hl,Bool.true_and,List.all_eq_true];intro b hb;rw [hz b hb];rfl)
      have t0 : (bs (Lib.trimB l 0)).toList=[]:=by rw [bs_toList,trimB_nil];exact hz
      generalize bs (Lib.trimB l 0)=tr at *
      clear hz hl HE
      go_enter Tryz.func56,Tryz.ntmps56
      go_wp2_with fail
      refine (HT.out _).mono ?_
      rintro e w1 ⟨rfl,b1⟩
      go_wp2_with fail
      go_ret
      exact ⟨ret_bool HF.out.symm,b1⟩
    · have HF : Hid (endT l=false):=Lib.hid (by
        unfold endT allZ
        rw [decide_eq_true hl,Bool.true_and,List.all_eq_false]
        have h2 : ∃ b∈l,b≠0:=Classical.byContradiction fun h => hz (fun b hb => Classical.byContradiction fun h2 => h ⟨b,hb,h2⟩)
        obtain ⟨b,hb,h2⟩:=h2
        exact ⟨b,hb,by simpa using h2⟩)
      have t0 : (bs (Lib.trimB l 0)).toList≠[]:=by rw [bs_toList,ne_eq,trimB_nil];exact hz
      have t2 : ((bs (Lib.trimB l 0)).toList == [])=false:=by simpa using t0
      generalize bs (Lib.trimB l 0)=tr at *
      clear hz hl HE
      go_enter Tryz.func56,Tryz.ntmps56
      go_wp2_with fail
      refine (HT.out _).mono ?_
      rintro e w1 ⟨rfl,b1⟩
      go_wp2_with fail
      go_ret
      exact ⟨ret_bool HF.out.symm,b1⟩
  · have t1 : ((l.length : Int) == 1024)=false:=by rw [beq_eq_false_iff_ne];omega
    have HF : Hid (endT l=false):=Lib.hid (by unfold endT;rw [decide_eq_false hl];rfl)
    clear hl HE
    go_enter Tryz.func56,Tryz.ntmps56
    go_wp2_with fail
    go_ret
    exact ⟨ret_bool HF.out.symm,Below.refl _ _⟩
theorem end_tail {t : List UInt8} {ec : Int} (ht : TailOk t ec) (h : ec=0) : 512≤t.length:=by
  rcases ht with ⟨h2,-⟩ | ⟨-,h2,-⟩ | ⟨h2,-⟩ <;> omega
set_option maxRecDepth 100000 in
set_option maxHeartbeats 2000000 in
theorem Archive_any (l : List EntP) (hent : ∀ x∈l,EntOk x) (hlen : l.length≤40) (t : List UInt8) (hl : endT t=true→EntsOk l) (ht : TailOk t 0) (htl : t.length≤3000000) (v : Value) (w : World) (hm : ∀ W,Below w.heap.size w W→ML W) (h10 : ∀ W,Below w.heap.size w W→P10 W) (hv : BytesAt w w.heap.size v (arcB l ++ t)) :
    Calls Tryz.prog 19 #[v] w fun e w' => (endT t=true∧∃ lv,e=.returned (.tuple #[lv,.int .i64 0])∧EntsOwn w' w.heap.size lv l∧Below w.heap.size w w')∨(endT t=false∧e=.returned (.tuple #[.slice none 0 0,.int .i64 3])∧Below w.heap.size w w'):=by
  have HSO:=Lib.hid (Some_any l hent hlen t 0 ht htl v w hm h10 hv)
  have h512:=end_tail ht rfl
  have HHV:=Lib.hid hv
  obtain ⟨A,c,ev,hlc,hcm,hA,-⟩:=id hv
  rw [List.length_map,List.length_append] at ev hlc
  unfold maxLen at hcm
  obtain ⟨ad,rfl⟩ : ∃ ad,A=some ad:=by
    cases A with
    | none => have:=hA rfl;omega
    | some ad => exact ⟨ad,rfl⟩
  subst ev
  have hb:=arcB_len hent
  have hL40 : l.length * 8192≤40 * 8192:=Nat.mul_le_mul_right _ hlen
  have HRE : Hid (∀ W,Below w.heap.size w W→BytesAt W w.heap.size (.slice (some (ad.add (arcB l).length)) t.length (c - (arcB l).length)) t):=Lib.hid (fun W hb => by
    have h2:=rest_at (HHV.out.below hb) rfl (by omega)
    rw [Nat.add_sub_cancel_left] at h2
    exact h2)
  have HPC:=Lib.hid (fun (ht1 : endT t=true) W lv (hb : Below w.heap.size w W) (h : EntsOwn W w.heap.size lv l) => (show Calls Tryz.prog 35 #[lv] W fun e w' => e=.returned (.int .i64 0)∧Below W.heap.size W w' by
    obtain ⟨xs,hx⟩:=EntsRow.at_ h
    exact PCheck_ok lv l xs W (fun W' hb' => hm W' (hb.trans (hb'.mono hb.size))) hx (hl ht1)))
  generalize (arcB l).length=pk at *
  obtain ⟨tl,htl2⟩ : ∃ tl,tl=t.length:=⟨_,rfl⟩
  have HEN:=Lib.hid (fun W (hb : Below w.heap.size w W) => Ends_any _ t _ W (HRE.out W hb) (by omega))
  rw [← htl2] at h512 hlc HEN HSO ⊢
  have hpl : pk≤400000:=by omega
  have htb : tl≤3000000:=by omega
  clear hl hent hlen hm h10 hv HHV HRE htl2 hA hb hL40 htl ht
  have i1 : (0 : Int)≤(pk : Int):=by omega
  have i2 : (pk : Int)≤((pk + tl : Nat) : Int):=by omega
  have i3 : ((pk + tl : Nat) : Int)≤(c : Int):=by omega
  have i4 : (pk : Int)≤(c : Int):=by omega
  have i5 : pk≤c:=by omega
  have i6 : c≠pk:=by omega
  have i7 : pk + tl - pk=tl:=by omega
  obtain ⟨et,het⟩ : ∃ et,et=endT t:=⟨_,rfl⟩
  rw [← het] at HEN HPC ⊢
  clear het
  go_enter Tryz.func19,Tryz.ntmps19
  go_wp2_with fail
  refine HSO.out.mono ?_
  rintro e w1 ⟨lv,rfl,hlv,b1⟩
  have HLV:=Lib.hid hlv
  obtain ⟨A1,c1,rfl,-⟩:=hlv.slice
  have HB:=Lib.hid b1
  clear hlv b1 HSO
  go_wp2_with fail
  refine (HEN.out _ HB.out).mono ?_
  rintro e w2 ⟨rfl,b2⟩
  have HB2:=Lib.hid (HB.out.trans (b2.mono HB.out.size))
  have HLV2:=Lib.hid (HLV.out.below b2)
  clear b2 HB HLV HEN
  cases et with
  | false =>
    go_wp2_with fail
    go_ret2
    exact ⟨rfl,HB2.out⟩
  | true =>
    go_wp2_with fail
    refine (HPC.out trivial _ _ HB2.out HLV2.out).mono ?_
    rintro e w3 ⟨rfl,b3⟩
    have HB3:=Lib.hid (HB2.out.trans (b3.mono HB2.out.size))
    have HLV3:=Lib.hid (HLV2.out.below b3)
    clear b3 HPC
    go_wp2_with fail
    go_ret2
    exact ⟨_,rfl,HLV3.out,HB3.out⟩
end
end Go.Proofs.YtphmhmdcaafmdaaGreatDoor
namespace Go.Proofs.YtphmhmdcaafmdaaGreatDoor
set_option linter.all false
open Go.RowKit
theorem endB_len : endB.length=1024:=List.length_replicate
theorem allZ_end {l : List UInt8} (h : ∀ b∈l,b=0) : allZ l=true:=by
  unfold allZ
  rw [List.all_eq_true]
  intro b hb
  rw [h b hb];rfl
theorem end_take {k : Nat} : ∀ b∈endB.take k,b=0:=fun b hb => List.eq_of_mem_replicate (List.mem_of_mem_take hb)
end Go.Proofs.YtphmhmdcaafmdaaGreatDoor
namespace Go.Proofs.YtphmhmdcaafmdaaGreatDoor
set_option linter.all false
open Go.RowKit
end Go.Proofs.YtphmhmdcaafmdaaGreatDoor
namespace Go.Proofs.YtphmhmdcaafmdaaGreatDoor
set_option linter.all false
open Go.RowKit
end Go.Proofs.YtphmhmdcaafmdaaGreatDoor
namespace Go.Proofs.YtphmhmdcaafmdaaGreatDoor
set_option linter.all false
open Go.RowKit
theorem endT_end : endT endB=true:=by
  unfold endT
  rw [endB_len,allZ_end (l:=endB) (fun _ hb => List.eq_of_mem_replicate hb)]
  rfl
theorem tail_end : TailOk endB 0:=.inr (.inl ⟨rfl,by rw [endB_len];omega,allZ_end end_take⟩)
theorem Archive_back (x : List EntP) (hok : EntsOk x) (v : Value) (w : World) (hm : ∀ W,Below w.heap.size w W→ML W) (h10 : ∀ W,Below w.heap.size w W→P10 W) (hv : BytesAt w w.heap.size v (arcB x ++ endB)) :
    Calls Tryz.prog 19 #[v] w fun e w' => ∃ lv,e=.returned (.tuple #[lv,.int .i64 0])∧EntsOwn w' w.heap.size lv x∧Below w.heap.size w w':=by
  refine (Archive_any x hok.ent hok.len endB (fun _ => hok) tail_end (by rw [endB_len];omega) v w hm h10 hv).mono fun e w' hh => ?_
  rcases hh with ⟨-,h⟩ | ⟨h,-⟩
  · exact h
  · rw [endT_end] at h;cases h
end Go.Proofs.YtphmhmdcaafmdaaGreatDoor
