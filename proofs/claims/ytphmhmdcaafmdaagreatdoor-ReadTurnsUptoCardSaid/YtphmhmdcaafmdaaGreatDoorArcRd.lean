import Derived.Test.YtphmhmdcaafmdaaGreatDoorMembers
import Derived.Test.YtphmhmdcaafmdaaGreatDoorPChecksS
import Derived.IntWalk
import Derived.Test.YtphmhmdcaafmdaaGreatDoorMake
import Derived.Test.YtphmhmdcaafmdaaGreatDoorTree
import Derived.Deep.QuietTactic
import Derived.BigQuiet
import Derived.Test.YtphmhmdcaafmdaaGreatDoorMReads
namespace Go.Proofs.YtphmhmdcaafmdaaGreatDoor
set_option linter.all false
section
open Go.RowKit
def arcB (l : List EntP) : List UInt8:=(l.map memB).flatten
def endB : List UInt8:=List.replicate 1024 0
theorem arcB_take {l : List EntP} {k : Nat} (hk : k < l.length) : arcB (l.take (k + 1))=arcB (l.take k) ++ memB l[k]:=by
  unfold arcB
  rw [List.take_succ_eq_append_getElem hk,List.map_append,List.flatten_append]
  simp
theorem memR_len {l : List RecS} (h : ∀ r∈l,RecOk r) (hl : l.length≤7) : (memR l).length≤5632:=by
  by_cases hR0 : l=[]
  · rw [hR0];simp [memR]
  · have h1:=paxT_len h
    have h2 : l.length * 703≤7 * 703:=Nat.mul_le_mul_right _ hl
    have h3:=padB_length (paxT l)
    have h4 : kN (paxT l).length≤10:=by unfold kN;omega
    unfold memR
    rw [if_neg hR0,List.length_append,headW_length (paxH_ok _ (by omega))]
    omega
theorem memB_len {x : EntP} (h : EntOk x) : (memB x).length≤8192:=by
  have h1:=memR_len (packR_ok h) (packR_len x)
  have h2:=headW_length (packH_ok h)
  have h3:=padB_length x.data
  have h4:=h.data.1
  have h5 : kN x.data.length≤4:=by unfold kN;omega
  unfold memB
  rw [List.length_append,List.length_append,h2]
  omega
theorem arcB_len {l : List EntP} (h : ∀ x∈l,EntOk x) : (arcB l).length≤l.length * 8192:=by
  unfold arcB
  induction l with
  | nil => simp
  | cons r l ih =>
    have h1:=memB_len (h r (by simp))
    have h2:=ih (fun x hx => h x (by simp [hx]))
    simp only [List.map_cons,List.flatten_cons,List.length_append,List.length_cons]
    omega
theorem arcB_take_len {l : List EntP} (h : ∀ x∈l,EntOk x) (hl : l.length≤40) (k : Nat) : (arcB (l.take k)).length≤327680:=by
  have h1:=arcB_len (l:=l.take k) (fun x hx => h x (List.mem_of_mem_take hx))
  rw [List.length_take] at h1
  have h2 : min k l.length * 8192≤40 * 8192:=Nat.mul_le_mul_right _ (by omega)
  omega
def ArSt (w0 : World) (v : Value) (t : List UInt8) (w : World) : Prop:=Below w0.heap.size w0 w∧BytesOwn w w0.heap.size v t
theorem ArSt.below {w0 w w' : World} {v : Value} {t : List UInt8} (h : ArSt w0 v t w) (hb : Below w.heap.size w w') : ArSt w0 v t w':=⟨h.1.trans (hb.mono h.1.size),h.2.below hb⟩
theorem ArSt.app {w0 w w' : World} {v v' : Value} {t m : List UInt8} (h : ArSt w0 v t w) (hg : w.grownBy w' v.ownBlock) (ho : w'.ownsRow w0.heap.size 5 1 v' (t.length + m.length) ((t.map ofB).map (.int .u8) ++ (m.map ofB).map (.int .u8))) : ArSt w0 v' (t ++ m) w' :=
  ⟨h.1.grown hg h.1.size (fun k e => (own_typed h.2 e).1),BytesOwn.app ho⟩
set_option maxRecDepth 100000 in
set_option maxHeartbeats 8000000 in
theorem WArchive_ok (v : Value) (l : List EntP) (xs : List EntV) (w : World) (hm : ∀ W,Below w.heap.size w W→ML W) (h10 : ∀ W,Below w.heap.size w W→P10 W) (hl : EntsAt w v l xs) (hok : EntsOk l) :
    Calls Tryz.prog 9 #[v] w fun e w' => ∃ bv,e=.returned (.tuple #[bv,.int .i64 0])∧BytesOwn w' w.heap.size bv (arcB l ++ endB)∧Below w.heap.size w w':=by
  have HC:=Lib.hid (PCheck_ok v l xs w hm hl hok)
  have HLA:=Lib.hid hl
  obtain ⟨A,c,-,rfl,hlc,hc,-,-⟩:=hl
  unfold maxLen at hc
  have HML:=Lib.hid hm
  have HP10:=Lib.hid h10
  have HOK:=Lib.hid hok
  have hlen:=hok.len
  obtain ⟨i0,hi0,hz0,hz1,hz2⟩:=info_parts u8_info
  have HAL:=Lib.hid (arcB_take_len hok.ent hlen)
  obtain ⟨T,hT⟩ : ∃ T,T=arcB l ++ endB:=⟨_,rfl⟩
  rw [← hT]
  have HTT:=Lib.hid hT
  clear hm h10 hok hT
  go_enter Tryz.func9,Tryz.ntmps9
  go_wp2_with fail
  refine HC.out.mono ?_
  rintro e w1 ⟨rfl,b1⟩
  have H0 : Hid (ArSt w (.slice none 0 0) (arcB (l.take 0)) w1):=Lib.hid ⟨b1,BytesOwn.nil _ _⟩
  clear b1 HC
  go_wp2_with fail
  go_loopg [5,17] l.length (fun gg s5 s17 wr => ∃ k : Nat,k≤l.length∧l.length - k≤gg∧s17=.int .i64 k∧Hid (ArSt w s5 (arcB (l.take k)) wr))
  case atStart => exact ⟨0,Nat.zero_le _,by omega,rfl,H0⟩
  case round =>
    obtain ⟨k,hk,hg,rfl,HS⟩:=hrel
    by_cases hlt : k < l.length
    · obtain ⟨A5,c5,rfl,-⟩:=ownsRow_read HS.out.2
      have hltz : (k : Int) < (l.length : Int):=by omega
      obtain ⟨ad,hkx,Ad,cd,rfl,hb,-,hdx,e0,e1,e2,e3,e4,e5,e6,e7,e8,e9,e10⟩:=(HLA.out.below HS.out.1).read hlt
      have HT:=Lib.hid (arcB_take hlt)
      have hml:=memB_len (HOK.out.ent _ (List.getElem_mem hlt))
      have HW:=Lib.hid (fun W (hb : Below wr.heap.size wr W) => MWrite_ok l[k] (HOK.out.ent _ (List.getElem_mem hlt)) Ad cd W (HML.out W (HS.out.1.trans (hb.mono HS.out.1.size))) (HP10.out W (HS.out.1.trans (hb.mono HS.out.1.size))) (hdx.below hb).bytes)
      have hal:=HAL.out k
      clear hkx hdx
      generalize memB l[k]=MB at *
      generalize hAB : arcB (l.take k)=AB at *
      generalize l[k]=x at *
      unfold entC at HW
      obtain ⟨W1,hW1⟩ : ∃ W1,W1=wr.alloc (.cells (entC x (.slice Ad x.data.length cd)).toArray 58):=⟨_,rfl⟩
      obtain ⟨g,hgg⟩ : ∃ g,g=wr.heap.size:=⟨_,rfl⟩
      have HK1 : Hid (Blk W1 g 58 (entC x (.slice Ad x.data.length cd)).toArray):=Lib.hid (by rw [hW1,hgg];exact Blk.new _ _ _)
      have HB1 : Hid (Below wr.heap.size wr W1):=Lib.hid (by rw [hW1];exact (Below.refl _ _).alloc (Nat.le_refl _) _)
      have HS1:=Lib.hid (HS.out.below HB1.out)
      have hsz1:=HS1.out.1.size
      obtain ⟨path,kind,target,⟨mode,uid,gid,user,group,second,nano⟩,data⟩:=x
      unfold entC at hW1 HK1
      simp only at HW hW1 HK1 e0 e1 e2 e3 e4 e5 e6 e7 e8 e9 e10
      have c0:=HK1.out.cell 0
      have c1:=HK1.out.cell 1
      have c2:=HK1.out.cell 2
      have c3:=HK1.out.cell 3
      have c4:=HK1.out.cell 4
      have c5':=HK1.out.cell 5
      have c6:=HK1.out.cell 6
      have c7:=HK1.out.cell 7
      have c8:=HK1.out.cell 8
      have c9:=HK1.out.cell 9
      have c10:=HK1.out.cell 10
      go_upto_region 8 with fail
      rw [← hW1,← hgg]
      clear hW1 hgg e0 e1 e2 e3 e4 e5 e6 e7 e8 e9 e10
      go_wp2_with fail
      refine (HW.out _ HB1.out).mono ?_
      rintro e w2 ⟨mv,rfl,hmo,b2⟩
      obtain ⟨Am,cm,rfl,hm1,hm2,-,hrm⟩:=ownsRow_read hmo
      have HRM:=Lib.hid hrm
      have HS2:=Lib.hid (HS1.out.below b2)
      have hsz2:=HS2.out.1.size
      have HO2:=Lib.hid HS2.out.2
      clear c0 c1 c2 c3 c4 c5' c6 c7 c8 c9 c10 hmo hrm b2
      go_wp2_with (at_builtin;refine wpList_append_any _ rfl (.tmp 26) (.tmp 27) _ rfl w.heap.size 5 i0 _ 1 1 Tryz.underlying27 hi0 hz0 hz1 hz2 rfl (by omega) _ AB.length _ rfl HO2.out w2.heap.size Am MB.length cm _ rfl HRM.out (one_u8 _) (by simp only [maxLen];omega) (by omega) hsz2 ?_;intro v9 w9 hown9 hg9 hat9;obtain ⟨A9,c9,hv9,-⟩:=ownsRow_read hown9;subst hv9;have HO9:=Lib.hid hown9;have HG9:=Lib.hid hg9;clear hown9 hg9 hat9)
      go_roundg (l.length - (k + 1))
      case measure => omega
      case rel => exact ⟨k + 1,by omega,by omega,by go_num,Lib.hid (by rw [HT.out];exact HS2.out.app HG9.out HO9.out)⟩
    · obtain rfl : k=l.length:=by omega
      have hS:=HS.out
      have hal:=HAL.out l.length
      rw [List.take_length] at hS hal
      have HEN:=Lib.hid (fun W => End_any W)
      generalize hAB : arcB l=AB at *
      have HAB:=Lib.hid hAB
      clear hAB HS HAL
      obtain ⟨A5,c5,rfl,-,-,-,hr5⟩:=ownsRow_read hS.2
      have HR5:=Lib.hid hr5
      have HS5:=Lib.hid hS
      have hsz5:=hS.1.size
      clear hr5 hS
      go_wp2_with (at_builtin;refine wpList_append_any _ rfl (.const (.slice none 0 0)) (.tmp 30) _ rfl w.heap.size 5 i0 _ 1 1 Tryz.underlying27 hi0 hz0 hz1 hz2 rfl (by omega) (.slice none 0 0) 0 [] (by simp [Act.eval]) (World.ownsRow_nil _ _ _ _) wr.heap.size A5 AB.length c5 _ rfl HR5.out (one_u8 _) (by simp only [maxLen];omega) (by omega) hsz5 ?_;intro v6 w6 hown6 hg6 hat6;obtain ⟨A6,c6,hv6,-⟩:=ownsRow_read hown6;subst hv6;have HO6:=Lib.hid hown6;have HB6:=Lib.hid (HS5.out.1.grown hg6 hsz5 (fun k e => by cases e));clear hown6 hg6 hat6)
      refine (HEN.out _).mono ?_
      rintro e w7 ⟨ev,rfl,hev,b7⟩
      obtain ⟨Ae,ce,rfl,-,-,-,hre⟩:=ownsRow_read hev
      have HRE:=Lib.hid hre
      have HO7:=Lib.hid (ownsRow_below HO6.out b7)
      have HB7:=Lib.hid (HB6.out.trans (b7.mono HB6.out.size))
      have hsz7:=HB7.out.size
      have hone : ∀ u∈List.replicate 1024 (Value.int .u8 0),u.oneCell'=true:=fun u hu => by rw [List.eq_of_mem_replicate hu];rfl
      clear hev hre b7
      simp only [Nat.zero_add,List.nil_append] at HO7
      go_wp2_with (at_builtin;refine wpList_append_any _ rfl (.tmp 31) (.tmp 32) _ rfl w.heap.size 5 i0 _ 1 1 Tryz.underlying27 hi0 hz0 hz1 hz2 rfl (by omega) _ AB.length _ rfl HO7.out w7.heap.size Ae 1024 ce _ rfl HRE.out hone (by simp only [maxLen];omega) (by omega) hsz7 ?_;intro v9 w9 hown9 hg9 hat9;obtain ⟨A9,c9,hv9,-⟩:=ownsRow_read hown9;subst hv9;have HO9:=Lib.hid hown9;have HB9:=Lib.hid (HB7.out.grown hg9 hsz7 (fun k e => (own_typed HO7.out e).1));clear hown9 hg9 hat9)
      go_ret2
      refine ⟨_,rfl,?_,HB9.out⟩
      rw [HTT.out]
      refine BytesOwn.app ?_
      have e : (endB.map ofB).map (Value.int .u8)=List.replicate 1024 (.int .u8 0):=by unfold endB;rw [List.map_replicate,List.map_replicate];rfl
      rw [e,show endB.length=1024 from List.length_replicate]
      exact HO9.out
def IntRow (w : World) (base : Nat) (v : Value) (l : List Int) : Prop:=w.ownsRow base 3 1 v l.length (l.map (.int .i64))
theorem IntRow.below {w w' : World} {base : Nat} {v : Value} {l : List Int} (h : IntRow w base v l) (hb : Below w.heap.size w w') : IntRow w' base v l:=ownsRow_below h hb
def PlSt (w0 : World) (v : Value) (l : List Int) (w : World) : Prop:=Below w0.heap.size w0 w∧IntRow w w0.heap.size v l
theorem PlSt.below {w0 w w' : World} {v : Value} {t : List Int} (h : PlSt w0 v t w) (hb : Below w.heap.size w w') : PlSt w0 v t w':=⟨h.1.trans (hb.mono h.1.size),h.2.below hb⟩
theorem PlSt.snoc {w0 w w' : World} {v v' : Value} {t : List Int} {x : Int} (h : PlSt w0 v t w) (hg : w.grownBy w' v.ownBlock) (ho : w'.ownsRow w0.heap.size 3 1 v' (t.length + 1) (t.map (.int .i64) ++ [.int .i64 x])) : PlSt w0 v' (t ++ [x]) w':=by
  refine ⟨h.1.grown hg h.1.size (fun k e => (own_typed h.2 e).1),?_⟩
  unfold IntRow
  rw [List.length_append,List.map_append]
  exact ho
end
section
open Go.RowKit
theorem small_plan_ : (planP (filterP smallP [])).length=3:=by rw [planP_length,filter_none_ small_ok];rfl
set_option maxRecDepth 100000 in
set_option maxHeartbeats 4000000 in
theorem entriesOf_any (l : List RawS) (v : Value) (most : Nat) (w : World) (hm : ML w) (hl : RawsAt w w.heap.size v l) (hok : ∀ x∈l,RawOk x) (hn : l.length≤1048576) (hmost : most≤40) :
    Calls Tryz.prog 8 #[v,.int .i64 most] w fun e w' => ∃ ev,e=.returned (.tuple #[ev,.bool true])∧EntsOwn w' w.heap.size ev (planP (treeP l most))∧Below w.heap.size w w':=by
  have HML : Hid (∀ W,Below w.heap.size w W→ML W):=Lib.hid (fun W hb => hm.below hb)
  have HT:=Lib.hid (fun (_ : Unit) => Tree_any l v most w hm hl hok hn hmost)
  have hto:=treeP_ok l most hmost
  have HMK:=Lib.hid (fun W v1 t (hb : Below w.heap.size w W) (h : NodesAt W v1 t) (ht : TreeOk t) => Make_any v1 (.slice none 0 0) t [] W (fun W' hb' => HML.out W' (hb.trans (hb'.mono hb.size))) h ht (RulesAt.nil W) (by simp))
  have HFN:=Lib.hid (filter_none_ hto)
  obtain ⟨Al,cl,rfl,-⟩:=hl
  clear hm hok hn
  generalize treeP l most=t at *
  have HTO:=Lib.hid hto
  clear hto
  go_enter Tryz.func8,Tryz.ntmps8
  go_wp2_with fail
  refine (HT.out ()).mono ?_
  rintro e' w1 ⟨tv,rfl,htv,b1⟩
  have B1:=Lib.hid b1
  have H1:=Lib.hid (HMK.out w1 tv t b1 htv.at_ HTO.out)
  obtain ⟨_,At,ct,-,hte,-⟩:=htv.at_
  subst hte
  clear b1 htv HT
  go_wp2_with fail
  refine H1.out.mono ?_
  rintro e' w2 ⟨xv,rfl,hxv,b2⟩
  rw [HFN.out] at hxv
  have B2:=Lib.hid (B1.out.trans (b2.mono B1.out.size))
  have HX2:=Lib.hid (hxv.mono B1.out.size)
  obtain ⟨Ax,cx,hxe,-⟩:=hxv.slice
  subst hxe
  clear b2 hxv H1
  go_wp2_with fail
  refine (Small_any _).mono ?_
  rintro e' w3 ⟨sv,rfl,hsv,b3⟩
  have B3:=Lib.hid (B2.out.trans (b3.mono B2.out.size))
  have HX3:=Lib.hid (HX2.out.below b3)
  have H3:=Lib.hid (HMK.out w3 sv smallP B3.out hsv.at_ small_ok)
  obtain ⟨_,As,cs,-,hse,-⟩:=hsv.at_
  subst hse
  clear b3 hsv HX2
  go_wp2_with fail
  refine H3.out.mono ?_
  rintro e' w4 ⟨ov,rfl,hov,b4⟩
  have B4:=Lib.hid (B3.out.trans (b4.mono B3.out.size))
  have HX4:=Lib.hid (HX3.out.below b4)
  obtain ⟨Ao,co,hoe,-⟩:=hov.slice
  rw [small_plan_] at hoe
  subst hoe
  clear b4 hov H3 HX3
  go_wp2_with fail
  go_ret2
  exact ⟨_,rfl,HX4.out,B4.out⟩
end
end Go.Proofs.YtphmhmdcaafmdaaGreatDoor
namespace Go.Proofs.YtphmhmdcaafmdaaGreatDoor
set_option linter.all false
section
open Go.RowKit
def allZ (l : List UInt8) : Bool:=l.all (· == 0)
set_option maxHeartbeats 1000000 in
theorem Zero_any (v : Value) (l : List UInt8) (B : Nat) (w : World) (hv : BytesAt w B v l) (hn : l.length≤100000) :
    Calls Tryz.prog 112 #[v] w fun e w' => e=.returned (.bool (allZ l))∧w=w':=by
  obtain ⟨A,c,ev,hlc,hcm,hA,hr⟩:=hv
  rw [List.length_map] at ev hlc hr
  subst ev
  have HR:=Lib.hid hr
  unfold maxLen at hcm
  clear hr hA
  go_enter Tryz.func112,Tryz.ntmps112
  go_wp2_with fail
  go_loopg [4,7] l.length (fun gg s4 s7 wr => ∃ k : Nat,k≤l.length∧l.length - k≤gg∧s7=.int .i64 k∧wr=w∧Hid (∀ j (hj : j < l.length),j < k→l[j]=0))
  case atStart => exact ⟨0,Nat.zero_le _,by omega,rfl,rfl,Lib.hid (fun j hj h => absurd h (Nat.not_lt_zero _))⟩
  case round =>
    obtain ⟨k,hk,hg,rfl,rfl,HZ⟩:=hrel
    by_cases hlt : k < l.length
    · obtain ⟨ad,u,rfl,_,hx,hcell⟩:=HR.out.at_ hlt
      rw [List.getElem?_map,List.getElem?_map,List.getElem?_eq_getElem hlt] at hx
      obtain rfl : Value.int .u8 (ofB l[k])=u:=by simpa using hx
      have i1 : (0 : Int)≤(k : Int):=by omega
      have i2 : (k : Int) < (l.length : Int):=by omega
      by_cases h0 : l[k]=0
      · have HN : Hid (∀ j (hj : j < l.length),j < k + 1→l[j]=0):=Lib.hid (fun j hj h => by
          by_cases e : j=k
          · subst e;exact h0
          · exact HZ.out j hj (by omega))
        have t1 : (ofB l[k] != 0)=false:=by rw [h0];rfl
        have t2 : (ofB l[k] == 0)=true:=by rw [h0];rfl
        clear hx h0
        generalize ofB l[k]=z at *
        go_wp2_with fail
        go_roundg (l.length - (k + 1))
        case measure => omega
        case rel => exact ⟨k + 1,by omega,by omega,by go_num,rfl,HN⟩
      · have HF : Hid (allZ l=false):=Lib.hid (by unfold allZ;rw [List.all_eq_false];exact ⟨l[k],List.getElem_mem hlt,by simpa using h0⟩)
        have hne : ofB l[k]≠0:=fun e => h0 (UInt8.toNat_inj.1 (by have : (l[k].toNat : Int)=0:=e;have h2 : (0 : UInt8).toNat=0:=rfl;omega))
        have t1 : (ofB l[k] != 0)=true:=by simpa using hne
        have t2 : (ofB l[k] == 0)=false:=by simpa using hne
        clear hx h0 hne
        generalize ofB l[k]=z at *
        go_wp2_with fail
        go_ret
        exact ⟨ret_bool HF.out.symm,rfl⟩
    · obtain rfl : k=l.length:=by omega
      have HT : Hid (allZ l=true):=Lib.hid (by
        unfold allZ
        rw [List.all_eq_true]
        intro b hb
        obtain ⟨j,hj,rfl⟩:=List.getElem_of_mem hb
        rw [HZ.out j hj hj];rfl)
      go_wp2_with fail
      go_ret
      exact ⟨ret_bool HT.out.symm,rfl⟩
theorem memB_front {x : EntP} (h : EntOk x) (m : List UInt8) : allZ ((memB x ++ m).take 512)=false∧512≤(memB x ++ m).length:=by
  obtain ⟨H0,d0,r0,hH,-,-,he,-⟩:=memB_first h m
  rw [he]
  have e : (headW H0 ++ (padB d0 ++ r0)).take 512=headW H0:=by
    rw [← headW_length hH];exact List.take_left
  rw [e]
  constructor
  · unfold allZ
    rw [List.all_eq_false]
    refine ⟨117,?_,by decide⟩
    unfold headW headB ustarS
    simp
  · rw [List.length_append,headW_length hH]
    omega
theorem rest_at {w : World} {B c L : Nat} {ad : Addr} {f r : List UInt8} (h : BytesAt w B (.slice (some ad) L c) (f ++ r)) (hL : L=f.length + r.length) (hc : c≠f.length) : BytesAt w B (.slice (some (ad.add f.length)) (L - f.length) (c - f.length)) r:=by
  subst hL
  rw [← List.length_append] at h
  have h2:=h.part f.length (f ++ r).length (by rw [List.length_append];omega) (Nat.le_refl _)
  rw [if_neg hc,List.drop_left,List.length_append,Nat.add_sub_cancel_left,List.take_of_length_le (Nat.le_refl _)] at h2
  rw [Nat.add_sub_cancel_left]
  exact h2
end
section
open Go.RowKit
def endT (l : List UInt8) : Bool:=decide (l.length=1024) && allZ l
set_option maxHeartbeats 1000000 in
theorem Ends_any (v : Value) (l : List UInt8) (B : Nat) (w : World) (hv : BytesAt w B v l) (hn : l.length≤5000000) :
    Calls Tryz.prog 56 #[v] w fun e w' => e=.returned (.bool (endT l))∧Below w.heap.size w w':=by
  have hcv:=conv_str hv
  obtain ⟨A,c,ev,-⟩:=hv
  rw [List.length_map] at ev
  subst ev
  have HT:=Lib.hid (fun W => Trim_nul l W (by omega))
  have HE:=Lib.hid (rfl : endT l=endT l)
  by_cases hl : l.length=1024
  · have t1 : ((l.length : Int) == 1024)=true:=beq_iff_eq.2 (by omega)
    by_cases hz : ∀ b∈l,b=0
    · have HF : Hid (endT l=true):=Lib.hid (by unfold endT allZ;rw [decide_eq_true hl,Bool.true_and,List.all_eq_true];intro b hb;rw [hz b hb];rfl)
      have t0 : (bs (Lib.trimB l 0)).toList=[]:=by rw [bs_toList,trimB_nil];exact hz
      generalize bs (Lib.trimB l 0)=tr at *
      clear hz hl HE
      go_enter Tryz.func56,Tryz.ntmps56
      go_wp2_with fail
      refine (HT.out _).mono ?_
      rintro e w1 ⟨rfl,b1⟩
      go_wp2_with fail
      go_ret
      exact ⟨ret_bool HF.out.symm,b1⟩
    · have HF : Hid (endT l=false):=Lib.hid (by
        unfold endT allZ
        rw [decide_eq_true hl,Bool.true_and,List.all_eq_false]
        have h2 : ∃ b∈l,b≠0:=Classical.byContradiction fun h => hz (fun b hb => Classical.byContradiction fun h2 => h ⟨b,hb,h2⟩)
        obtain ⟨b,hb,h2⟩:=h2
        exact ⟨b,hb,by simpa using h2⟩)
      have t0 : (bs (Lib.trimB l 0)).toList≠[]:=by rw [bs_toList,ne_eq,trimB_nil];exact hz
      have t2 : ((bs (Lib.trimB l 0)).toList == [])=false:=by simpa using t0
      generalize bs (Lib.trimB l 0)=tr at *
      clear hz hl HE
      go_enter Tryz.func56,Tryz.ntmps56
      go_wp2_with fail
      refine (HT.out _).mono ?_
      rintro e w1 ⟨rfl,b1⟩
      go_wp2_with fail
      go_ret
      exact ⟨ret_bool HF.out.symm,b1⟩
  · have t1 : ((l.length : Int) == 1024)=false:=by rw [beq_eq_false_iff_ne];omega
    have HF : Hid (endT l=false):=Lib.hid (by unfold endT;rw [decide_eq_false hl];rfl)
    clear hl HE
    go_enter Tryz.func56,Tryz.ntmps56
    go_wp2_with fail
    go_ret
    exact ⟨ret_bool HF.out.symm,Below.refl _ _⟩
end
end Go.Proofs.YtphmhmdcaafmdaaGreatDoor
