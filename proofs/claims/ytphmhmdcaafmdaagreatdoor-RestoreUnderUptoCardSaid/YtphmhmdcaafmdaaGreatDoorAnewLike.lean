import Derived.Test.YtphmhmdcaafmdaaGreatDoorLinks
import Derived.Test.YtphmhmdcaafmdaaGreatDoorTFR
import Derived.Test.YtphmhmdcaafmdaaGreatDoorTCheck
import Derived.BigQuiet
import Derived.Deep.CutRange
import Derived.Deep.DeepCutAuto
import Derived.Deep.RegionHeld3
namespace Go.Proofs.YtphmhmdcaafmdaaGreatDoor
set_option linter.all false
open Go.RowKit
def setSame (x : NodeP) (s : Int) : NodeP:=⟨x.path,x.kind,s,x.target,x.mt,x.data⟩
def anewS (t : List NodeP) (i : Nat) : Int:=if 1 < (firstsP t).count (firstAt t i : Int) then (firstAt t i : Int) + 1 else 0
def anewAt (t : List NodeP) (i : Nat) : NodeP:=setSame (t.getD i default) (anewS t i)
def anewP (t : List NodeP) : List NodeP:=(List.range t.length).map (anewAt t)
theorem anewP_length (t : List NodeP) : (anewP t).length=t.length:=by simp [anewP]
theorem anewP_at {t : List NodeP} {i : Nat} (hi : i < t.length) : (anewP t)[i]'(by rw [anewP_length];exact hi)=anewAt t i:=by simp [anewP]
def anewTo (t : List NodeP) (i : Nat) : List NodeP:=(anewP t).take i ++ t.drop i
theorem anewTo_length (t : List NodeP) (i : Nat) (hi : i≤t.length) : (anewTo t i).length=t.length:=by
  unfold anewTo;rw [List.length_append,List.length_take,List.length_drop,anewP_length];omega
theorem anewTo_zero (t : List NodeP) : anewTo t 0=t:=by simp [anewTo]
theorem anewTo_all (t : List NodeP) : anewTo t t.length=anewP t:=by
  unfold anewTo;rw [List.take_of_length_le (by rw [anewP_length];omega),List.drop_length,List.append_nil]
theorem anewTo_at {t : List NodeP} {i : Nat} (hi : i < t.length) : (anewTo t i)[i]'(by rw [anewTo_length _ _ (by omega)];exact hi)=t[i]:=by
  unfold anewTo
  rw [List.getElem_append_right (by rw [List.length_take,anewP_length];omega)]
  simp only [List.length_take,anewP_length,List.getElem_drop]
  congr 1;omega
theorem anewTo_set {t : List NodeP} {i : Nat} (hi : i < t.length) : (anewTo t i).set i (anewAt t i)=anewTo t (i + 1):=by
  unfold anewTo
  rw [List.set_append_right _ _ (by rw [List.length_take,anewP_length];omega),List.take_succ_eq_append_getElem (by rw [anewP_length];exact hi),List.append_assoc]
  have e : i - ((anewP t).take i).length=0:=by rw [List.length_take,anewP_length];omega
  rw [e,List.drop_eq_getElem_cons hi,List.set_cons_zero,anewP_at hi]
  rfl
theorem setSame_data (x : NodeP) (s : Int) : (setSame x s).data=x.data:=rfl
set_option maxRecDepth 100000 in
set_option maxHeartbeats 4000000 in
theorem Anew_any (v : Value) (l : List NodeP) (w : World) (hm : ML w) (hl : NodesAt w v l) (hok : ∀ x∈l,NodeOk x) (hch : chkT l=0) :
    Calls Tryz.prog 40 #[v] w fun e w' => ∃ nv,e=.returned (.tuple #[nv,.int .i64 0])∧NodesOwn w' w.heap.size nv (anewP l)∧Below w.heap.size w w':=by
  have hlen:=(chkT_all hch).1
  have HF:=Lib.hid (Firsts_any v l w hm hl hok hch)
  have HN : Hid (∀ W,Below w.heap.size w W→Calls Tryz.prog 76 #[v] W fun e w' => ∃ nv,e=.returned (.tuple #[nv,.int .i64 0])∧IntsOwn w' W.heap.size nv (cntL (firstsP l))∧Below W.heap.size W w'):=Lib.hid (fun W hb => Names_any v l W (hm.below hb) (hl.below hb) hok hch)
  have HC : Hid (∀ W,Below w.heap.size w W→Calls Tryz.prog 77 #[v] W fun e w' => ∃ tv,e=.returned tv∧NodesOwn w' W.heap.size tv l∧Below W.heap.size W w'):=Lib.hid (fun W hb => Copy_any v l W (hl.below hb) (by omega) (fun x hx => by have:=(hok x hx).data.1;omega))
  have hfl:=firstsP_length l
  clear hm hl hok hch
  go_enter Tryz.func40,Tryz.ntmps40
  go_wp2_with fail
  refine HF.out.mono ?_
  rintro e w1 ⟨fv,rfl,hfv,b1⟩
  have B1:=Lib.hid b1
  have HFV1:=Lib.hid hfv
  clear b1 hfv
  go_wp2_with fail
  refine (HN.out _ B1.out).mono ?_
  rintro e w2 ⟨nv,rfl,hnv,b2⟩
  have B2:=Lib.hid (B1.out.trans (b2.mono B1.out.size))
  have HFV2:=Lib.hid (HFV1.out.below b2)
  have HNV2:=Lib.hid hnv
  clear b2 hnv HFV1
  go_wp2_with fail
  refine (HC.out _ B2.out).mono ?_
  rintro e w3 ⟨tv,rfl,htv,b3⟩
  have B3:=Lib.hid (B2.out.trans (b3.mono B2.out.size))
  have HFV3:=Lib.hid (HFV2.out.below b3)
  have HNV3:=Lib.hid (HNV2.out.below b3)
  obtain ⟨A2,c2,hfe,hc21,hc22⟩:=HFV3.out.slice_
  obtain ⟨A3,c3,hne,hc31,hc32⟩:=HNV3.out.slice_
  have h0:=htv
  obtain ⟨xs,-,hox,-⟩:=htv
  obtain ⟨A1,c1,hte,hc11,hc12,-⟩:=ownsRow_read hox
  rw [cntL_length,hfl] at hne hc31
  rw [hfl] at hfe hc21
  subst hfe hne hte
  unfold maxLen at hc12 hc22 hc32
  have H0 : Hid (Below w2.heap.size w2 w3∧NodesOwn w3 w2.heap.size (.slice A1 l.length c1) (anewTo l 0)):=Lib.hid ⟨b3,by rw [anewTo_zero];exact h0⟩
  have HFL:=Lib.hid hfl
  clear b3 h0 hox HFV3 HNV3 hfl
  go_wp2_with fail
  go_loopg [27] l.length (fun gg s27 wr => ∃ k : Nat,k≤l.length∧l.length - k≤gg∧s27=.int .i64 k∧Hid (Below w2.heap.size w2 wr∧NodesOwn wr w2.heap.size (.slice A1 l.length c1) (anewTo l k)))
  case atStart => exact ⟨0,Nat.zero_le _,by omega,rfl,H0⟩
  case round =>
    obtain ⟨i,hi,hg,rfl,HS⟩:=hrel
    by_cases hlt : i < l.length
    · have hltz : (i : Int) < (l.length : Int):=by omega
      have hL : i < (firstsP l).length:=by rw [HFL.out];exact hlt
      obtain ⟨ad2,rfl,f1⟩:=(HFV2.out.below HS.out.1).load hL
      obtain ⟨ad3,rfl,n1⟩:=(HNV2.out.below HS.out.1).load (k:=i) (by rw [cntL_length];exact hL)
      have e1 : (firstsP l)[i]=(firstAt l i : Int):=by simp [firstsP]
      have e2 : (cntL (firstsP l))[i]'(by rw [cntL_length];exact hL)=((firstsP l).count (firstAt l i : Int) : Int):=by simp [cntL,firstsP]
      rw [e1] at f1
      rw [e2] at n1
      have hfle:=(firstAt_spec hlt).1
      have hlt2:=anewTo_length l i hi
      obtain ⟨g,cg,hv,hgb,hglt,-,-,hfz,hrow⟩:=HS.out.2.row (by omega)
      rw [hlt2] at hv
      injection hv with hv1 _ hv2
      subst hv1 hv2
      obtain ⟨dv,-,-,hcells⟩:=hrow i (by omega)
      have c2':=hcells 2 (by omega)
      rw [anewTo_at hlt] at c2'
      simp only [nodeC,List.getElem?_cons_zero,List.getElem?_cons_succ] at c2'
      have hfz2:=hfz (i * 12 + 2)
      have hib : (0 : Int)≤(i : Int):=by omega
      have hs1 : Hid (∀ s,Below w2.heap.size w2 (wr.setCell ⟨g,i * 12 + 2,none⟩ (.int .i64 s))∧NodesOwn (wr.setCell ⟨g,i * 12 + 2,none⟩ (.int .i64 s)) w2.heap.size (.slice (some ⟨g,0,none⟩) l.length c1) ((anewTo l i).set i (setSame l[i] s))):=Lib.hid (fun s => ⟨HS.out.1.setCell (p:=⟨g,i * 12 + 2,none⟩) hgb _,HS.out.2.set_ rfl (by omega) (by omega) _ (by rw [setSame_data,anewTo_at hlt]) (fun dv => by rw [anewTo_at hlt];rfl)⟩)
      have hgt : Hid (l.getD i default=l[i]):=Lib.hid (getD_at hlt)
      have HST:=Lib.hid (anewTo_set hlt)
      have HAN : Hid (anewAt l i=setSame l[i] (anewS l i)):=Lib.hid (by unfold anewAt;rw [hgt.out])
      have hcne : ad2.block≠g:=by
        intro e
        have h1 : ad2.block < w2.heap.size:=by
          obtain ⟨_,_,hve,_,_,_,hr⟩:=ownsRow_read HFV2.out
          obtain ⟨ad,_,he,hb,_,_⟩:=hr.at_ (k:=i) (by omega)
          injection hve with hve
          subst hve
          injection he with he
          rw [he];exact hb
        omega
      have hcne3 : ad3.block≠g:=by
        intro e
        have h1 : ad3.block < w2.heap.size:=by
          obtain ⟨_,_,hve,_,_,_,hr⟩:=ownsRow_read HNV2.out
          obtain ⟨ad,_,he,hb,_,_⟩:=hr.at_ (k:=i) (by rw [cntL_length];omega)
          injection hve with hve
          subst hve
          injection he with he
          rw [he];exact hb
        omega
      have hc40 : (firstsP l).count (firstAt l i : Int)≤40:=by
        have:=List.count_le_length (a:=(firstAt l i : Int)) (l:=firstsP l)
        have h2:=HFL.out
        omega
      obtain ⟨W2,hW2⟩ : ∃ W2,W2=wr.setCell ⟨g,i * 12 + 2,none⟩ (.int .i64 0):=⟨_,rfl⟩
      have HB2:=Lib.hid (hs1.out 0)
      rw [← hW2] at HB2
      have f2 : W2.cell? (ad2.add i)=some (.int .i64 (firstAt l i : Int)):=by
        rw [hW2,World.cell?_setCell_other _ _ _ _ (fun e => hcne (by rw [← block_of_add ad2 i,← e]))];exact f1
      have n2 : W2.cell? (ad3.add i)=some (.int .i64 ((firstsP l).count (firstAt l i : Int) : Int)):=by
        rw [hW2,World.cell?_setCell_other _ _ _ _ (fun e => hcne3 (by rw [← block_of_add ad3 i,← e]))];exact n1
      have HSS : Hid (∀ s,W2.setCell ⟨g,i * 12 + 2,none⟩ (.int .i64 s)=W2.setCell ⟨g,i * 12 + 2,none⟩ (.int .i64 s)):=Lib.hid (fun _ => rfl)
      have hc2 : W2.cell? ⟨g,i * 12 + 2,none⟩=some (.int .i64 0):=by
        have hbk : g < wr.heap.size:=hglt
        rw [hW2];exact World.cell?_setCell_same _ _ _ c2'
      have hz2 : W2.frozen? ⟨g,i * 12 + 2,none⟩=false:=by
        have hl2 : ((anewTo l i).set i (setSame l[i] 0)).length=l.length:=by rw [List.length_set,hlt2]
        obtain ⟨g',cg',hv',-,-,-,-,hfz',-⟩:=HB2.out.2.row (by omega)
        injection hv' with hv1 _ _
        injection hv1 with hv1
        injection hv1 with hv1
        rw [hv1];exact hfz' _
      clear e1 e2 hlt2 hrow hcells hfz hcne hcne3 hL f1 n1
      by_cases hc : 1 < (firstsP l).count (firstAt l i : Int)
      · have HAS : Hid (anewS l i=(firstAt l i : Int) + 1):=Lib.hid (by unfold anewS;rw [if_pos hc])
        have HFIN : Hid (Below w2.heap.size w2 (W2.setCell ⟨g,i * 12 + 2,none⟩ (.int .i64 ((firstAt l i : Int) + 1)))∧NodesOwn (W2.setCell ⟨g,i * 12 + 2,none⟩ (.int .i64 ((firstAt l i : Int) + 1))) w2.heap.size (.slice (some ⟨g,0,none⟩) l.length c1) (anewTo l (i + 1))):=Lib.hid ⟨HB2.out.1.setCell (p:=⟨g,i * 12 + 2,none⟩) hgb _,by
          rw [← HST.out,HAN.out,HAS.out]
          have h:=HB2.out.2.set_ (j:=i) (i:=2) (u:=.int .i64 ((firstAt l i : Int) + 1)) rfl (by rw [List.length_set,anewTo_length _ _ hi];exact hlt) (by omega) (setSame l[i] ((firstAt l i : Int) + 1)) (by rw [List.getElem_set_self];rfl) (fun dv => by rw [List.getElem_set_self];rfl)
          rw [List.set_set] at h
          exact h⟩
        clear HAS
        generalize (firstsP l).count (firstAt l i : Int)=cn at *
        generalize firstAt l i=fk at *
        go_upto_region 10 with fail
        rw [← hW2]
        clear hW2
        go_wp2_with fail
        go_roundg (l.length - (i + 1))
        case measure => omega
        case rel => exact ⟨i + 1,by omega,by omega,by go_num,HFIN⟩
      · have HAS : Hid (anewS l i=0):=Lib.hid (by unfold anewS;rw [if_neg hc])
        have HFIN : Hid (Below w2.heap.size w2 W2∧NodesOwn W2 w2.heap.size (.slice (some ⟨g,0,none⟩) l.length c1) (anewTo l (i + 1))):=Lib.hid ⟨HB2.out.1,by
          rw [← HST.out,HAN.out,HAS.out]
          exact HB2.out.2⟩
        clear HAS
        generalize (firstsP l).count (firstAt l i : Int)=cn at *
        generalize firstAt l i=fk at *
        go_upto_region 10 with fail
        rw [← hW2]
        clear hW2
        go_wp2_with fail
        go_roundg (l.length - (i + 1))
        case measure => omega
        case rel => exact ⟨i + 1,by omega,by omega,by go_num,HFIN⟩
    · obtain rfl : i=l.length:=by omega
      go_wp2_with fail
      go_ret2
      refine ⟨_,rfl,?_,B2.out.trans (HS.out.1.mono B2.out.size)⟩
      have h:=HS.out.2
      rw [anewTo_all] at h
      exact h.mono B2.out.size
end Go.Proofs.YtphmhmdcaafmdaaGreatDoor
namespace Go.Proofs.YtphmhmdcaafmdaaGreatDoor
set_option linter.all false
open Go.RowKit
theorem Blk.node {W : World} {g : Nat} {np nt nd : List UInt8} {nk ns o1 o2 o3 o6 o7 : Int} {o4 o5 : List UInt8} {dv : Value} (h : Blk W g 29 (nodeC (⟨np,nk,ns,nt,⟨o1,o2,o3,o4,o5,o6,o7⟩,nd⟩,dv)).toArray) :
    W.cell? ⟨g,0,none⟩=some (.string (bs np))∧W.cell? ⟨g,1,none⟩=some (.int .i64 nk)∧W.cell? ⟨g,2,none⟩=some (.int .i64 ns)∧W.cell? ⟨g,3,none⟩=some (.string (bs nt))∧W.cell? ⟨g,4,none⟩=some (.int .i64 o1)∧W.cell? ⟨g,5,none⟩=some (.int .i64 o2)∧W.cell? ⟨g,6,none⟩=some (.int .i64 o3)∧W.cell? ⟨g,7,none⟩=some (.string (bs o4))∧W.cell? ⟨g,8,none⟩=some (.string (bs o5))∧W.cell? ⟨g,9,none⟩=some (.int .i64 o6)∧W.cell? ⟨g,10,none⟩=some (.int .i64 o7)∧W.cell? ⟨g,11,none⟩=some dv :=
  ⟨h.cell 0,h.cell 1,h.cell 2,h.cell 3,h.cell 4,h.cell 5,h.cell 6,h.cell 7,h.cell 8,h.cell 9,h.cell 10,h.cell 11⟩
end Go.Proofs.YtphmhmdcaafmdaaGreatDoor
namespace Go.Proofs.YtphmhmdcaafmdaaGreatDoor
set_option linter.all false
open Go.RowKit
def AkSt (B : World) (g6 g7 : Nat) (x y : NodeV) (W : World) : Prop:=Below B.heap.size B W∧B.heap.size≤g6∧B.heap.size≤g7∧g6≠g7∧Blk W g6 29 (nodeC x).toArray∧Blk W g7 29 (nodeC y).toArray
theorem AkSt.zero {B W : World} {g6 g7 : Nat} {x y : NodeV} (h : AkSt B g6 g7 x y W) : AkSt B g6 g7 (setSame x.1 0,x.2) (setSame y.1 0,y.2) ((W.setCell ⟨g6,2,none⟩ (.int .i64 0)).setCell ⟨g7,2,none⟩ (.int .i64 0)):=by
  obtain ⟨h1,h2,h3,h4,h5,h6⟩:=h
  exact ⟨(h1.setCell (p:=⟨g6,2,none⟩) h2 _).setCell (p:=⟨g7,2,none⟩) h3 _,h2,h3,h4,(h5.set_ 2 (.int .i64 0)).far (p:=⟨g7,2,none⟩) h4 _,(h6.far (p:=⟨g6,2,none⟩) (fun e => h4 e.symm) _).set_ 2 (.int .i64 0)⟩
end Go.Proofs.YtphmhmdcaafmdaaGreatDoor
namespace Go.Proofs.YtphmhmdcaafmdaaGreatDoor
set_option linter.all false
open Go.RowKit
theorem firstAt_one {t : List NodeP} {i j : Nat} (hi : i < t.length) (hj : j < t.length) : firstAt t i=firstAt t j ↔ i=j∨(t[i].same≠0∧t[i].same=t[j].same):=by
  have key : ∀ {i j : Nat} (hi : i < t.length) (hj : j < t.length),t[i].same≠0→t[i].same=t[j].same→firstAt t i=firstAt t j:=fun {i j} hi hj h1 h2 => by
    have hex : ∃ k,t.findIdx? (sameAt t[i].same)=some k:=by
      cases hq : t.findIdx? (sameAt t[i].same) with
      | some k => exact ⟨k,rfl⟩
      | none =>
        rw [List.findIdx?_eq_none_iff] at hq
        have:=hq t[i] (List.getElem_mem _)
        simp [sameAt] at this
    obtain ⟨k,hk⟩:=hex
    unfold firstAt
    rw [getD_at hi,getD_at hj,if_neg h1,if_neg (by rw [← h2];exact h1),← h2,hk];rfl
  constructor
  · intro h
    by_cases e : i=j
    · exact .inl e
    · refine .inr ?_
      obtain ⟨a1,a2,a3⟩:=firstAt_spec hi
      obtain ⟨b1,b2,b3⟩:=firstAt_spec hj
      by_cases e1 : firstAt t i=i
      · obtain ⟨h1,h2,h3⟩:=b3 (by rw [← h,e1];exact e)
        have h4 : t[firstAt t j]'h1=t[i]:=by congr 1;rw [← h,e1]
        rw [h4] at h2
        exact ⟨by rw [h2];exact h3,h2⟩
      · obtain ⟨h1,h2,h3⟩:=a3 e1
        by_cases e2 : firstAt t j=j
        · have h4 : t[firstAt t i]'h1=t[j]:=by congr 1;rw [h,e2]
          rw [h4] at h2
          exact ⟨h3,h2.symm⟩
        · obtain ⟨g1,g2,g3⟩:=b3 e2
          have h4 : t[firstAt t i]'h1=t[firstAt t j]'g1:=by congr 1
          exact ⟨h3,by rw [← h2,h4,g2]⟩
  · rintro (rfl | ⟨h1,h2⟩)
    · rfl
    · exact key hi hj h1 h2
theorem count_firsts (t : List NodeP) (f : Nat) : 1 < (firstsP t).count (f : Int) ↔ ∃ i j,i < j∧j < t.length∧firstAt t i=f∧firstAt t j=f:=by
  have gen : ∀ (n : Nat) (g : Nat→Nat),((1 < ((List.range n).map fun i => (g i : Int)).count (f : Int)) ↔ ∃ i j,i < j∧j < n∧g i=f∧g j=f)∧((0 < ((List.range n).map fun i => (g i : Int)).count (f : Int)) ↔ ∃ i,i < n∧g i=f):=by
    intro n g
    induction n with
    | zero => simp
    | succ n ih =>
      obtain ⟨ih1,ih2⟩:=ih
      rw [List.range_succ,List.map_append,List.count_append,List.map_singleton,List.count_singleton]
      by_cases h : g n=f
      · have e : ((g n : Int) == (f : Int))=true:=by simp [h]
        rw [e]
        simp only [if_true]
        constructor
        · constructor
          · intro h1
            obtain ⟨i,hi,hg⟩:=ih2.1 (by omega)
            exact ⟨i,n,hi,by omega,hg,h⟩
          · rintro ⟨i,j,hij,hj,hi,hgj⟩
            have:=ih2.2 ⟨i,by omega,hi⟩
            omega
        · exact ⟨fun _ => ⟨n,by omega,h⟩,fun _ => by omega⟩
      · have e : ((g n : Int) == (f : Int))=false:=by simp;exact fun a => h (by omega)
        rw [e]
        simp only [Bool.false_eq_true,if_false,Nat.add_zero]
        constructor
        · rw [ih1]
          constructor
          · rintro ⟨i,j,a,b,c,d⟩;exact ⟨i,j,a,by omega,c,d⟩
          · rintro ⟨i,j,a,b,c,d⟩
            refine ⟨i,j,a,?_,c,d⟩
            rcases Nat.lt_or_ge j n with hl | hl
            · exact hl
            · exact absurd (by rw [← d];congr 1;omega) h
        · rw [ih2]
          constructor
          · rintro ⟨i,a,c⟩;exact ⟨i,by omega,c⟩
          · rintro ⟨i,a,c⟩
            refine ⟨i,?_,c⟩
            rcases Nat.lt_or_ge i n with hl | hl
            · exact hl
            · exact absurd (by rw [← c];congr 1;omega) h
  exact (gen t.length (firstAt t)).1
theorem anew_same (t : List NodeP) {i j : Nat} (hi : i < t.length) (hj : j < t.length) (hne : i≠j) : (0 < anewS t i∧anewS t i=anewS t j) ↔ firstAt t i=firstAt t j:=by
  unfold anewS
  constructor
  · rintro ⟨h1,h2⟩
    by_cases a : 1 < (firstsP t).count (firstAt t i : Int)
    · by_cases b : 1 < (firstsP t).count (firstAt t j : Int)
      · rw [if_pos a,if_pos b] at h2;omega
      · rw [if_pos a,if_neg b] at h2;omega
    · rw [if_neg a] at h1;omega
  · intro h
    have a : 1 < (firstsP t).count (firstAt t i : Int):=by
      rw [count_firsts]
      rcases Nat.lt_or_ge i j with hl | hl
      · exact ⟨i,j,hl,hj,rfl,h.symm⟩
      · exact ⟨j,i,by omega,hi,h.symm,rfl⟩
    rw [← h,if_pos a]
    exact ⟨by omega,rfl⟩
theorem anew_node {t : List NodeP} (ht : TreeOk t) : ∀ x∈anewP t,NodeOk x:=by
  intro x hx
  obtain ⟨i,hi,rfl⟩:=List.getElem_of_mem hx
  have hi2 : i < t.length:=by rw [anewP_length] at hi;exact hi
  rw [anewP_at hi2]
  unfold anewAt
  rw [getD_at hi2]
  have hn:=ht.node t[i] (List.getElem_mem _)
  obtain ⟨a1,a2,a3⟩:=firstAt_spec hi2
  have hlen:=ht.len
  refine ⟨hn.path,hn.mt,⟨?_,?_,fun hk => ?_⟩,hn.kind,hn.data,hn.none,hn.target⟩
  · show 0≤anewS t i;unfold anewS;split <;> omega
  · show anewS t i≤1048576;unfold anewS;split <;> omega
  · have h0:=hn.same.2.2 hk
    show anewS t i=0
    unfold anewS
    rw [if_neg]
    intro hc
    rw [count_firsts] at hc
    obtain ⟨x,y,hxy,hy,e1,e2⟩:=hc
    have hx : x < t.length:=by omega
    have f1:=(firstAt_one hx hi2).1 e1
    have f2:=(firstAt_one hy hi2).1 e2
    rcases f1 with rfl | ⟨g1,g2⟩
    · rcases f2 with f2 | ⟨g3,g4⟩
      · omega
      · rw [g4] at g3;exact g3 h0
    · rw [g2] at g1;exact g1 h0
theorem anew_ok {t : List NodeP} (ht : TreeOk t) : TreeOk (anewP t) where
  len:=by rw [anewP_length];exact ht.len
  node:=anew_node ht
  sorted:=by
    have h:=ht.sorted
    rw [List.pairwise_iff_getElem] at h ⊢
    intro i j hi hj hij
    rw [anewP_length] at hi hj
    rw [anewP_at hi,anewP_at hj]
    unfold anewAt
    rw [getD_at hi,getD_at hj]
    exact h i j hi hj hij
  up:=by
    intro x hx
    obtain ⟨i,hi,rfl⟩:=List.getElem_of_mem hx
    have hi2 : i < t.length:=by rw [anewP_length] at hi;exact hi
    rw [anewP_at hi2]
    unfold anewAt
    rw [getD_at hi2]
    rcases ht.up t[i] (List.getElem_mem _) with h | ⟨y,hy,h1,h2⟩
    · exact .inl h
    · obtain ⟨j,hj,rfl⟩:=List.getElem_of_mem hy
      refine .inr ⟨(anewP t)[j]'(by rw [anewP_length];exact hj),List.getElem_mem _,?_,?_⟩
      · rw [anewP_at hj];unfold anewAt;rw [getD_at hj];exact h1
      · rw [anewP_at hj];unfold anewAt;rw [getD_at hj];exact h2
  alike:=by
    intro x hx y hy h0 he
    obtain ⟨i,hi,rfl⟩:=List.getElem_of_mem hx
    obtain ⟨j,hj,rfl⟩:=List.getElem_of_mem hy
    have hi2 : i < t.length:=by rw [anewP_length] at hi;exact hi
    have hj2 : j < t.length:=by rw [anewP_length] at hj;exact hj
    rw [anewP_at hi2,anewP_at hj2] at *
    unfold anewAt at *
    rw [getD_at hi2,getD_at hj2] at *
    by_cases e : i=j
    · subst e;unfold alikeB setSame;simp
    · have hpos : 0≤anewS t i:=by unfold anewS;split <;> omega
      have h3:=(anew_same t hi2 hj2 e).1 ⟨by have : anewS t i≠0:=h0;omega,he⟩
      rcases (firstAt_one hi2 hj2).1 h3 with h4 | ⟨h4,h5⟩
      · exact absurd h4 e
      · have:=ht.alike t[i] (List.getElem_mem _) t[j] (List.getElem_mem _) h4 h5
        unfold alikeB setSame at *
        exact this
end Go.Proofs.YtphmhmdcaafmdaaGreatDoor
