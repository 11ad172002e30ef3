import Derived.Test.YtphmhmdcaafmdaaGreatDoorWriteB
import Derived.Test.YtphmhmdcaafmdaaGreatDoorPlanTree
import Derived.Test.YtphmhmdcaafmdaaGreatDoorUnderP
import Derived.Test.YtphmhmdcaafmdaaGreatDoorPutL
namespace Go.Proofs.YtphmhmdcaafmdaaGreatDoor
set_option linter.all false
open Go.RowKit
set_option maxRecDepth 100000 in
set_option maxHeartbeats 4000000 in
theorem RTree_back (t : List NodeP) (ht : TreeOk t) (v : Value) (w : World) (hm : ∀ W,Below w.heap.size w W→ML W) (h10 : ∀ W,Below w.heap.size w W→P10 W) (hv : BytesAt w w.heap.size v (arcB (planP t) ++ endB)) :
    Calls Tryz.prog 39 #[v] w fun e w' => ∃ tv,e=.returned (.tuple #[tv,.int .i64 0])∧NodesOwn w' w.heap.size tv (anewP t)∧Below w.heap.size w w':=by
  have HA:=Lib.hid (Archive_back (planP t) (plan_ok ht) v w hm h10 hv)
  have HPT:=Lib.hid (fun W lv (hb : Below w.heap.size w W) (h : EntsOwn W w.heap.size lv (planP t)) => (show Calls Tryz.prog 75 #[lv] W fun e w' => ∃ tv,e=.returned (.tuple #[tv,.int .i64 0])∧NodesOwn w' W.heap.size tv (anewP t)∧Below W.heap.size W w' by
    obtain ⟨xs,hx⟩:=EntsRow.at_ h
    exact PTree_ok lv t xs W (fun W' hb' => hm W' (hb.trans (hb'.mono hb.size))) hx ht))
  obtain ⟨A,c,ev,-⟩:=hv
  rw [List.length_map] at ev
  subst ev
  generalize (arcB (planP t) ++ endB).length=L at *
  clear hm h10 ht
  generalize planP t=x at *
  generalize anewP t=y at *
  go_enter Tryz.func39,Tryz.ntmps39
  go_wp2_with fail
  refine HA.out.mono ?_
  rintro e w1 ⟨lv,rfl,hlv,b1⟩
  have HL1:=Lib.hid hlv
  obtain ⟨A1,c1,rfl,-⟩:=hlv.slice
  have HB:=Lib.hid b1
  clear hlv b1 HA
  go_wp2_with fail
  refine (HPT.out _ _ HB.out HL1.out).mono ?_
  rintro e w2 ⟨tv,rfl,htv,b2⟩
  have HT2:=Lib.hid (htv.mono HB.out.size)
  have HB2:=Lib.hid (HB.out.trans (b2.mono HB.out.size))
  clear htv b2 HPT HL1 HB
  go_wp2_with fail
  go_ret2
  exact ⟨_,rfl,HT2.out,HB2.out⟩
end Go.Proofs.YtphmhmdcaafmdaaGreatDoor
namespace Go.Proofs.YtphmhmdcaafmdaaGreatDoor
set_option linter.all false
open Go.RowKit
def UndPost (a u : List NodeP) (w : World) (e : Ending) (w' : World) : Prop:=Below w.heap.size w w' ∧
  ((∃ j,∃ h : j < u.length,398 < u[j].path.length∧e=.returned (.tuple #[.slice none 0 0,.int .i64 1])) ∨
   ((∀ j (h : j < u.length),u[j].path.length≤398)∧∃ tv,e=.returned (.tuple #[tv,.int .i64 0])∧NodesOwn w' w.heap.size tv (anewP (undT a u u.length))))
def UwSt (w : World) (a u : List NodeP) (k : Nat) (v : Value) (W : World) : Prop:=Below w.heap.size w W∧NodesAt W v (undT a u k)
theorem UwSt.below {w W W' : World} {a u : List NodeP} {k : Nat} {v : Value} (h : UwSt w a u k v W) (hb : Below W.heap.size W W') : UwSt w a u k v W':=⟨h.1.trans (hb.mono h.1.size),h.2.below hb⟩
theorem chkAt_app {l : List NodeP} {x : NodeP} {j : Nat} (hj : j < l.length) : chkAt (l ++ [x]) j=chkAt l j:=by
  have hg : ∀ k,k < l.length→(l ++ [x]).getD k default=l.getD k default:=fun k hk => by
    rw [List.getD_eq_getElem?_getD,List.getD_eq_getElem?_getD,List.getElem?_append_left hk]
  have ht : (l ++ [x]).take j=l.take j:=List.take_append_of_le_length (by omega)
  have hu : ∀ p,upBad (l ++ [x]) j p=upBad l j p:=fun p => by
    unfold upBad
    rw [ht]
    cases hq : findP (l.take j) p with
    | none => rfl
    | some k =>
      obtain ⟨h1,h2,-⟩:=findP_take hq
      show (((l ++ [x]).getD k default).kind != 2)=((l.getD k default).kind != 2)
      rw [hg k h1]
  unfold chkAt
  rw [hg j hj,hg (j - 1) (by omega),ht,hu]
theorem UPut_ok {a u : List NodeP} (h : UndOk a u) (hsm : ∀ x∈u,x.same≤40) {k : Nat} (hk : k < u.length) (hs : ∀ j (hj : j < u.length),j < k→u[j].path.length≤398) (hl : u[k].path.length≤398) (v dv : Value) (w : World) (hm : ML w) (hv : NodesAt w v (undT a u k)) (hd : DataAt w 0 dv (shiftN u[k]).data) :
    Calls Tryz.prog 42 #[v,.agg (nodeC (shiftN u[k],dv)).toArray] w fun e w' => ∃ tv,e=.returned (.tuple #[tv,.int .i64 0])∧NodesAt w' tv (undT a u (k + 1))∧Below w.heap.size w w':=by
  have h0:=und_up h k (by omega) hs hsm
  have h1:=und_up h (k + 1) (by omega) (fun j hj hjk => by
    by_cases e : j=k
    · subst e;exact hl
    · exact hs j hj (by omega)) hsm
  have hp : putP (undT a u k) (shiftN u[k])=undT a u (k + 1):=by rw [put_end (und_before h hk),undT_succ a u hk]
  refine (Put_any v (undT a u k) (shiftN u[k],dv) w hm hv h0.node (shift_node (h.sub.node _ (List.getElem_mem _)) (hsm _ (List.getElem_mem _)) hl) hd h0.chk 0 (by show chkT (putP (undT a u k) (shiftN u[k]))=0;rw [hp];exact h1.chk)).mono fun e w' hh => ?_
  rcases hh with ⟨-,tv,e1,e2,e3⟩ | ⟨h,-⟩
  · exact ⟨tv,e1,by rw [← hp];exact e2.at_,e3⟩
  · exact absurd rfl h
theorem UPut_long {a u : List NodeP} (h : UndOk a u) (hsm : ∀ x∈u,x.same≤40) {k : Nat} (hk : k < u.length) (hs : ∀ j (hj : j < u.length),j < k→u[j].path.length≤398) (hl : 398 < u[k].path.length) (v dv : Value) (w : World) (hm : ML w) (hv : NodesAt w v (undT a u k)) (hd : DataAt w 0 dv (shiftN u[k]).data) :
    Calls Tryz.prog 42 #[v,.agg (nodeC (shiftN u[k],dv)).toArray] w fun e w' => e=.returned (.tuple #[.slice none 0 0,.int .i64 1])∧Below w.heap.size w w':=by
  have h0:=und_up h k (by omega) hs hsm
  have hno:=h.sub.node u[k] (List.getElem_mem _)
  have hlen:=undT_len a u k
  have hal:=h.len
  have hul:=h.subLen
  have hp : putP (undT a u k) (shiftN u[k])=undT a u k ++ [shiftN u[k]]:=put_end (und_before h hk)
  have hsl : (shiftN u[k]).path.length=u[k].path.length + 2:=by show (255 :: 47 :: u[k].path).length=_;simp
  have hpl:=hno.path.2
  refine (Put_long v (undT a u k) (shiftN u[k],dv) w hm hv h0.node (by show (shiftN u[k]).path.length≤1000;omega) (by show (shiftN u[k]).data.length≤100000;have:=hno.data.1;show u[k].data.length≤100000;omega) hd h0.chk 1 (fun W tv hb hv2 => ?_)).mono fun e w' hh => ?_
  · have hv3 : NodesAt W tv (undT a u k ++ [shiftN u[k]]):=by rw [← hp];exact hv2
    have hc:=chkT_all h0.chk
    have hn : (undT a u k).length < (undT a u k ++ [shiftN u[k]]).length:=by simp
    have h:=TCheck_long tv (undT a u k ++ [shiftN u[k]]) (undT a u k).length W (hm.below hb) hv3 hn (by rw [List.length_append,List.length_singleton];omega) (fun j hj hjk => by
      rw [List.getElem_append_left hjk]
      exact h0.node _ (List.getElem_mem _)) (by
      rw [List.getElem_append_right (Nat.le_refl _)]
      simp only [Nat.sub_self,List.getElem_cons_zero]
      omega)
    rw [chkL_long (fun j hj => by rw [chkAt_app hj];exact hc.2 j hj)] at h
    exact h
  · rcases hh with ⟨h,-⟩ | ⟨-,e1,e2⟩
    · cases h
    · exact ⟨e1,e2⟩
set_option maxRecDepth 100000 in
set_option maxHeartbeats 8000000 in
theorem Under_any (t u0 : List NodeP) (ht : TreeOk t) (htl : t.length≤12) (htp : ∀ x∈t,PartsOk x.path) (hu0 : TreeOk u0) (hul : u0.length≤12) (hup : ∀ x∈u0,PartsOk x.path) (v1 v3 : Value) (w : World) (hm : ∀ W,Below w.heap.size w W→ML W) (h10 : ∀ W,Below w.heap.size w W→P10 W) (h1 : NodesAt w v1 (t ++ [lastN])) (h3 : BytesAt w w.heap.size v3 (arcB (planP u0) ++ endB)) :
    Calls Tryz.prog 10 #[v1,.string ⟨#[255]⟩,v3] w (UndPost (anewP (t ++ [lastN])) (anewP u0) w):=by
  have hund:=und_start ht htl htp hu0 hul hup
  have hlo:=last_ok ht htl htp
  have HML:=Lib.hid hm
  have HTC : Hid (Calls Tryz.prog 37 #[v1] w fun e w' => e=.returned (.int .i64 0)∧Below w.heap.size w w'):=Lib.hid (by
    have h:=TCheck_any v1 _ w (hm w (Below.refl _ _)) h1 hlo.node
    rw [hlo.chk] at h
    exact h)
  have hfi : findP (t ++ [lastN]) [255]=some t.length:=by
    have h:=findP_at (sorted_nodup hlo.sorted) (i:=t.length) (by simp)
    have e : (t ++ [lastN])[t.length]'(by simp)=lastN:=by simp
    rw [e] at h
    exact h
  have HFD:=Lib.hid (fun W (h : NodesAt W v1 (t ++ [lastN])) => (show Calls Tryz.prog 38 #[v1,.string ⟨#[255]⟩] W fun e w' => e=.returned (.tuple #[.int .i64 (t.length : Int),.int .i64 0])∧Below W.heap.size W w' by
    have h:=Find_any v1 _ [255] W h
    rw [hfi] at h
    exact h))
  have HRT:=Lib.hid (fun W (hb : Below w.heap.size w W) => RTree_back u0 hu0 v3 W (fun W' hb' => hm W' (hb.trans (hb'.mono hb.size))) (fun W' hb' => h10 W' (hb.trans (hb'.mono hb.size))) ((h3.below hb).more hb.size))
  have HAN:=Lib.hid (fun W (hb : Below w.heap.size w W) (h : NodesAt W v1 (t ++ [lastN])) => Anew_any v1 _ W (hm W hb) h hlo.node hlo.chk)
  have H1:=Lib.hid h1
  obtain ⟨_,A1,c1,-,rfl,hc11,hc12,-⟩:=h1
  obtain ⟨A3,c3,ev3,-⟩:=h3
  generalize (List.map ofB (arcB (planP u0) ++ endB)).length=n3 at ev3
  subst ev3
  unfold maxLen at hc12
  have hkl : (t ++ [lastN]).length=t.length + 1:=by simp
  have hsm : ∀ x∈anewP u0,x.same≤40:=fun x hx => by have:=anew_low x hx;omega
  have HUO:=Lib.hid hund
  have HSM:=Lib.hid hsm
  have hal:=hund.len
  have hul2:=hund.subLen
  have HK2 : Hid (∀ W,NodesAt W (.slice A1 (t ++ [lastN]).length c1) (t ++ [lastN])→∃ ad,A1=some ad∧W.cell? ⟨(ad.add (t.length * 12)).block,(ad.add (t.length * 12)).off + 1,none⟩=some (.int .i64 2)):=Lib.hid (fun W h => by
    obtain ⟨ad,Ax,cx,e,-,-,-,e1,-⟩:=node_read h (k:=t.length) (by simp)
    refine ⟨ad,e,?_⟩
    rw [e1]
    simp [lastN])
  rw [hkl] at H1 HTC HFD HAN HK2 hc11 ⊢
  clear hm h10 hund hlo hfi hsm ht htp hu0 hup hkl
  generalize anewP u0=u at *
  generalize anewP (t ++ [lastN])=a at *
  generalize t ++ [lastN]=T at *
  generalize t.length=m at *
  have i1 : (0 : Int)≤(m : Int):=by omega
  have i2 : (m : Int) < ((m : Int) + 1):=by omega
  have i3 : (m : Int) < ((m + 1 : Nat) : Int):=by omega
  go_enter Tryz.func10,Tryz.ntmps10
  go_wp2_with fail
  refine HTC.out.mono ?_
  rintro e w1 ⟨rfl,b1⟩
  have HB1:=Lib.hid b1
  have HT1:=Lib.hid (H1.out.below b1)
  clear b1 HTC H1
  go_wp2_with fail
  refine (HFD.out _ HT1.out).mono ?_
  rintro e w2 ⟨rfl,b2⟩
  have HB2:=Lib.hid (HB1.out.trans (b2.mono HB1.out.size))
  have HT2:=Lib.hid (HT1.out.below b2)
  obtain ⟨ad1,rfl,k1⟩:=HK2.out _ HT2.out
  clear b2 HB1 HT1 HFD
  go_wp2_with fail
  refine (HRT.out _ HB2.out).mono ?_
  rintro e w3 ⟨uv,rfl,huv,b3⟩
  have HB3:=Lib.hid (HB2.out.trans (b3.mono HB2.out.size))
  have HT3:=Lib.hid (HT2.out.below b3)
  have HU3:=Lib.hid huv.at_
  obtain ⟨_,Au,cu,-,hue,hcu1,hcu2,-⟩:=huv.at_
  subst hue
  unfold maxLen at hcu2
  clear b3 huv HB2 HT2 HRT k1
  go_wp2_with fail
  refine (HAN.out _ HB3.out HT3.out).mono ?_
  rintro e w4 ⟨av,rfl,hav,b4⟩
  have HBB:=Lib.hid (HB3.out.trans (b4.mono HB3.out.size))
  have HU4:=Lib.hid (HU3.out.below b4)
  have H0 : Hid (UwSt w4 a u 0 av w4):=Lib.hid ⟨Below.refl _ _,by rw [undT_zero];exact hav.at_⟩
  clear b4 hav HB3 HT3 HU3 HAN
  go_wp2_with fail
  go_loopg [12,13,16,17,18,54] u.length (fun gg s12 s13 s16 s17 s18 s54 wr => ∃ k : Nat,k≤u.length∧u.length - k≤gg∧s54=.int .i64 k∧Hid (UwSt w4 a u k s13 wr)∧Hid (∀ j (hj : j < u.length),j < k→u[j].path.length≤398))
  case atStart => exact ⟨0,Nat.zero_le _,by omega,rfl,H0,Lib.hid (fun j _ h => absurd h (Nat.not_lt_zero _))⟩
  case round =>
    obtain ⟨k,hk,hg,rfl,HS,HQ⟩:=hrel
    clear H0
    obtain ⟨_,Aa,ca,-,hae,hca1,hca2,-⟩:=HS.out.2
    subst hae
    unfold maxLen at hca2
    by_cases hlt : k < u.length
    · have hltz : (k : Int) < (u.length : Int):=by omega
      obtain ⟨ad,Ax,cx,rfl,hb,hdx,e0,e1,e2,e3,e4,e5,e6,e7,e8,e9,e10,e11⟩:=node_read (HU4.out.below HS.out.1) hlt
      have hno:=HUO.out.sub.node u[k] (List.getElem_mem _)
      have hs0:=hno.same.1
      have hs1:=HSM.out u[k] (List.getElem_mem _)
      have hpl:=hno.path.2
      have HFN : Hid (∀ W,NodesAt W (.slice Aa (undT a u k).length ca) (undT a u k)→Calls Tryz.prog 38 #[.slice Aa (undT a u k).length ca,.string (bs (shiftN u[k]).path)] W fun e w' => e=.returned (.tuple #[.int .i64 0,.int .i64 5])∧Below W.heap.size W w'):=Lib.hid (fun W h => by
        have h:=Find_any _ _ (shiftN u[k]).path W h
        rw [find_before (und_before HUO.out hlt)] at h
        exact h)
      have HPT:=Lib.hid (fun (hl : u[k].path.length≤398) W (hb : Below w.heap.size w W) (hv : NodesAt W (.slice Aa (undT a u k).length ca) (undT a u k)) (hd : DataAt W 0 (.slice Ax u[k].data.length cx) u[k].data) => UPut_ok HUO.out HSM.out hlt HQ.out hl _ (.slice Ax u[k].data.length cx) W (HML.out W hb) hv hd)
      have HPL:=Lib.hid (fun (hl : 398 < u[k].path.length) W (hb : Below w.heap.size w W) (hv : NodesAt W (.slice Aa (undT a u k).length ca) (undT a u k)) (hd : DataAt W 0 (.slice Ax u[k].data.length cx) u[k].data) => UPut_long HUO.out HSM.out hlt HQ.out hl _ (.slice Ax u[k].data.length cx) W (HML.out W hb) hv hd)
      have HNX : Hid (u[k].path.length≤398→∀ j (hj : j < u.length),j < k + 1→u[j].path.length≤398):=Lib.hid (fun h j hj hjk => by
        by_cases e : j=k
        · subst e;exact h
        · exact HQ.out j hj (by omega))
      have HLX : Hid (398 < u[k].path.length→∃ j,∃ h : j < u.length,398 < u[j].path.length):=Lib.hid (fun h => ⟨k,hlt,h⟩)
      clear hno
      obtain ⟨x,hx⟩ : ∃ x,x=u[k]:=⟨_,rfl⟩
      rw [← hx] at hdx hs0 hs1 hpl HFN HPT HPL HNX HLX e0 e1 e2 e3 e4 e5 e6 e7 e8 e9 e10 e11
      clear hx
      obtain ⟨np,nk,ns,nt,⟨o1,o2,o3,o4,o5,o6,o7⟩,nd⟩:=x
      simp only at hdx hs0 hs1 hpl HNX HLX e0 e1 e2 e3 e4 e5 e6 e7 e8 e9 e10 e11
      generalize (undT a u k).length=na at *
      obtain ⟨W2,hW2⟩ : ∃ W2,W2=wr.alloc (.cells #[.string (bs np),.int .i64 nk,.int .i64 ns,.string (bs nt),.int .i64 o1,.int .i64 o2,.int .i64 o3,.string (bs o4),.string (bs o5),.int .i64 o6,.int .i64 o7,.slice Ax nd.length cx] 29):=⟨_,rfl⟩
      obtain ⟨gn,hgn⟩ : ∃ gn,gn=wr.heap.size:=⟨_,rfl⟩
      have hgl : wr.heap.size≤gn:=by omega
      have b2 : Below wr.heap.size wr W2:=by rw [hW2];exact (Below.refl _ _).alloc (Nat.le_refl _) _
      have K2 : Blk W2 gn 29 (nodeC (⟨np,nk,ns,nt,⟨o1,o2,o3,o4,o5,o6,o7⟩,nd⟩,.slice Ax nd.length cx)).toArray:=by rw [hW2,hgn];exact Blk.new _ _ _
      go_upto_region 16 with fail
      rw [← hW2,← hgn]
      clear hW2 hgn e0 e1 e2 e3 e4 e5 e6 e7 e8 e9 e10 e11
      have k0 : W2.cell? ⟨gn,0,none⟩=some (.string (bs np)):=K2.cell 0
      have f0 : W2.frozen? ⟨gn,0,none⟩=false:=K2.frozen 0
      have HCT : Hid ((⟨#[255]⟩ : ByteArray) ++ ⟨#[47]⟩ ++ bs np=bs (255 :: 47 :: np)):=Lib.hid (by
        rw [show ((⟨#[255]⟩ : ByteArray) ++ ⟨#[47]⟩)=bs [255,47] by rfl,bs_append]
        rfl)
      have hb3 : Below wr.heap.size wr (W2.setCell ⟨gn,0,none⟩ (.string (bs (255 :: 47 :: np)))):=b2.setCell (p:=⟨gn,0,none⟩) hgl _
      have K3:=K2.set_ 0 (.string (bs (255 :: 47 :: np)))
      rw [show (nodeC (⟨np,nk,ns,nt,⟨o1,o2,o3,o4,o5,o6,o7⟩,nd⟩,.slice Ax nd.length cx)).toArray.setIfInBounds 0 (.string (bs (255 :: 47 :: np)))=(nodeC (⟨255 :: 47 :: np,nk,ns,nt,⟨o1,o2,o3,o4,o5,o6,o7⟩,nd⟩,.slice Ax nd.length cx)).toArray from rfl] at K3
      have HB3:=Lib.hid hb3
      have HK3:=Lib.hid K3
      have HS2:=Lib.hid HS.out
      have HDX:=Lib.hid hdx
      clear hdx
      clear b2 hb3 K3 HS
      clear K2
      have z9 : (bs np).size≤400:=by rw [bs_size];exact hpl
      go_upto_region 17 with fail
      rw [HCT.out]
      generalize W2.setCell ⟨gn,0,none⟩ (.string (bs (255 :: 47 :: np)))=W3 at *
      clear k0 f0 z9 HCT
      have k2 : W3.cell? ⟨gn,2,none⟩=some (.int .i64 ns):=HK3.out.cell 2
      have f2 : W3.frozen? ⟨gn,2,none⟩=false:=HK3.out.frozen 2
      by_cases hp : 0 < ns
      · have hwr : IntKind.i64.wrap (ns + 40)=ns + 40:=IntWalk.i64_in _ ⟨by omega,by omega⟩
        have HB4 : Hid (Below wr.heap.size wr (W3.setCell ⟨gn,2,none⟩ (.int .i64 (ns + 40)))):=Lib.hid (HB3.out.setCell (p:=⟨gn,2,none⟩) hgl _)
        have K4:=HK3.out.set_ 2 (.int .i64 (ns + 40))
        rw [show (nodeC (⟨255 :: 47 :: np,nk,ns,nt,⟨o1,o2,o3,o4,o5,o6,o7⟩,nd⟩,.slice Ax nd.length cx)).toArray.setIfInBounds 2 (.int .i64 (ns + 40))=(nodeC (⟨255 :: 47 :: np,nk,ns + 40,nt,⟨o1,o2,o3,o4,o5,o6,o7⟩,nd⟩,.slice Ax nd.length cx)).toArray from rfl] at K4
        have HK4:=Lib.hid K4
        clear K4 HK3 HB3
        go_upto_region 19 with fail
        generalize W3.setCell ⟨gn,2,none⟩ (.int .i64 (ns + 40))=W4 at *
        clear k2 f2 hwr
        have hsh : shiftN ⟨np,nk,ns,nt,⟨o1,o2,o3,o4,o5,o6,o7⟩,nd⟩=⟨255 :: 47 :: np,nk,ns + 40,nt,⟨o1,o2,o3,o4,o5,o6,o7⟩,nd⟩:=by unfold shiftN;simp only;rw [if_pos hp]
        rw [hsh] at HFN HPT HPL
        unfold nodeC at HPT HPL
        simp only at HFN HPT HPL
        clear hsh hp
        have HS4:=Lib.hid (HS2.out.below HB4.out)
        have HBW:=Lib.hid (HBB.out.trans (HS4.out.1.mono HBB.out.size))
        have c0 : W4.cell? ⟨gn,0,none⟩=some (.string (bs (255 :: 47 :: np))):=HK4.out.cell 0
        go_wp2_with fail
        refine (HFN.out _ HS4.out.2).mono ?_
        rintro e w5 ⟨rfl,b5⟩
        have HS5:=Lib.hid (HS4.out.below b5)
        have HBW5:=Lib.hid (HBW.out.trans (b5.mono HBW.out.size))
        have HD5:=Lib.hid (HDX.out.below ((HB4.out.trans (b5.mono HB4.out.size))))
        obtain ⟨d0,d1,d2,d3,d4,d5,d6,d7,d8,d9,d10,d11⟩:=(HK4.out.below b5 HK4.out.lt).node
        clear c0 b5 HS4 HBW HK4 HB4
        by_cases hl : np.length≤398
        · have HP5:=Lib.hid (HPT.out hl w5 HBW5.out HS5.out.2 HD5.out)
          have HN5:=Lib.hid (HNX.out hl)
          clear HPT HPL hl
          go_wp2_with fail
          refine HP5.out.mono ?_
          rintro e w6 ⟨pv,rfl,hpv,b6⟩
          have HS6 : Hid (UwSt w4 a u (k + 1) pv w6):=Lib.hid ⟨HS5.out.1.trans (b6.mono HS5.out.1.size),hpv⟩
          clear b6 hpv HP5 d0 d1 d2 d3 d4 d5 d6 d7 d8 d9 d10 d11
          go_wp2_with fail
          go_roundg (u.length - (k + 1))
          case measure => omega
          case rel => exact ⟨k + 1,by omega,by omega,by go_num,HS6,HN5⟩
        · have HP5:=Lib.hid (HPL.out (by omega) w5 HBW5.out HS5.out.2 HD5.out)
          have HL5:=Lib.hid (HLX.out (by omega))
          clear HPT HPL hl
          go_wp2_with fail
          refine HP5.out.mono ?_
          rintro e w6 ⟨rfl,b6⟩
          have HB6:=Lib.hid (HBW5.out.trans (b6.mono HBW5.out.size))
          clear b6 HP5 d0 d1 d2 d3 d4 d5 d6 d7 d8 d9 d10 d11
          go_wp2_with fail
          go_ret2
          obtain ⟨j,h1,h2⟩:=HL5.out
          exact ⟨HB6.out,.inl ⟨j,h1,h2,rfl⟩⟩
      · have HK4:=HK3
        have HB4:=HB3
        clear HK3 HB3 f2
        go_upto_region 19 with fail
        clear k2
        have hsh : shiftN ⟨np,nk,ns,nt,⟨o1,o2,o3,o4,o5,o6,o7⟩,nd⟩=⟨255 :: 47 :: np,nk,ns,nt,⟨o1,o2,o3,o4,o5,o6,o7⟩,nd⟩:=by unfold shiftN;simp only;rw [if_neg hp]
        rw [hsh] at HFN HPT HPL
        unfold nodeC at HPT HPL
        simp only at HFN HPT HPL
        clear hsh hp
        have HS4:=Lib.hid (HS2.out.below HB4.out)
        have HBW:=Lib.hid (HBB.out.trans (HS4.out.1.mono HBB.out.size))
        have c0 : W3.cell? ⟨gn,0,none⟩=some (.string (bs (255 :: 47 :: np))):=HK4.out.cell 0
        go_wp2_with fail
        refine (HFN.out _ HS4.out.2).mono ?_
        rintro e w5 ⟨rfl,b5⟩
        have HS5:=Lib.hid (HS4.out.below b5)
        have HBW5:=Lib.hid (HBW.out.trans (b5.mono HBW.out.size))
        have HD5:=Lib.hid (HDX.out.below ((HB4.out.trans (b5.mono HB4.out.size))))
        obtain ⟨d0,d1,d2,d3,d4,d5,d6,d7,d8,d9,d10,d11⟩:=(HK4.out.below b5 HK4.out.lt).node
        clear c0 b5 HS4 HBW HK4 HB4
        by_cases hl : np.length≤398
        · have HP5:=Lib.hid (HPT.out hl w5 HBW5.out HS5.out.2 HD5.out)
          have HN5:=Lib.hid (HNX.out hl)
          clear HPT HPL hl
          go_wp2_with fail
          refine HP5.out.mono ?_
          rintro e w6 ⟨pv,rfl,hpv,b6⟩
          have HS6 : Hid (UwSt w4 a u (k + 1) pv w6):=Lib.hid ⟨HS5.out.1.trans (b6.mono HS5.out.1.size),hpv⟩
          clear b6 hpv HP5 d0 d1 d2 d3 d4 d5 d6 d7 d8 d9 d10 d11
          go_wp2_with fail
          go_roundg (u.length - (k + 1))
          case measure => omega
          case rel => exact ⟨k + 1,by omega,by omega,by go_num,HS6,HN5⟩
        · have HP5:=Lib.hid (HPL.out (by omega) w5 HBW5.out HS5.out.2 HD5.out)
          have HL5:=Lib.hid (HLX.out (by omega))
          clear HPT HPL hl
          go_wp2_with fail
          refine HP5.out.mono ?_
          rintro e w6 ⟨rfl,b6⟩
          have HB6:=Lib.hid (HBW5.out.trans (b6.mono HBW5.out.size))
          clear b6 HP5 d0 d1 d2 d3 d4 d5 d6 d7 d8 d9 d10 d11
          go_wp2_with fail
          go_ret2
          obtain ⟨j,h1,h2⟩:=HL5.out
          exact ⟨HB6.out,.inl ⟨j,h1,h2,rfl⟩⟩
    · obtain rfl : k=u.length:=by omega
      have HT:=Lib.hid (und_up HUO.out u.length (Nat.le_refl _) HQ.out HSM.out)
      have HAN:=Lib.hid (Anew_any _ _ wr (HML.out _ (HBB.out.trans (HS.out.1.mono HBB.out.size))) HS.out.2 HT.out.node HT.out.chk)
      go_wp2_with fail
      refine HAN.out.mono ?_
      rintro e w5 ⟨tv,rfl,htv,b5⟩
      have HBW:=Lib.hid (HBB.out.trans (HS.out.1.mono HBB.out.size))
      have HR5:=Lib.hid (htv.mono HBW.out.size)
      have HB5:=Lib.hid (HBW.out.trans (b5.mono HBW.out.size))
      clear htv b5 HAN
      go_wp2_with fail
      go_ret2
      exact ⟨HB5.out,.inr ⟨fun j h => HQ.out j h h,tv,rfl,HR5.out⟩⟩
end Go.Proofs.YtphmhmdcaafmdaaGreatDoor
