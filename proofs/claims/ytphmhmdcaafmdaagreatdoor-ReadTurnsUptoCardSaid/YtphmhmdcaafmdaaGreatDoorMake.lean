import Derived.Test.YtphmhmdcaafmdaaGreatDoorFilterQ
import Derived.Test.YtphmhmdcaafmdaaGreatDoorLinks
import Derived.Test.YtphmhmdcaafmdaaGreatDoorEnts
import Derived.Deep.RegionHeld3
namespace Go.Proofs.YtphmhmdcaafmdaaGreatDoor
set_option linter.all false
open Go.RowKit
def entOf (x : NodeP) : EntP:=⟨x.path,x.kind,x.target,x.mt,x.data⟩
def entLink (x y : NodeP) : EntP:=⟨x.path,4,y.path,x.mt,[]⟩
def entAt (t : List NodeP) (i : Nat) : EntP:=if firstAt t i < i then entLink (t.getD i default) (t.getD (firstAt t i) default) else entOf (t.getD i default)
def planP (t : List NodeP) : List EntP:=(List.range t.length).map (entAt t)
theorem planP_length (t : List NodeP) : (planP t).length=t.length:=by simp [planP]
theorem planP_at {t : List NodeP} {k : Nat} (hk : k < t.length) : (planP t)[k]'(by rw [planP_length];exact hk)=entAt t k:=by simp [planP]
theorem planP_take {t : List NodeP} {k : Nat} (hk : k < t.length) : (planP t).take (k + 1)=(planP t).take k ++ [entAt t k]:=by
  rw [List.take_succ_eq_append_getElem (by rw [planP_length];exact hk),planP_at hk]
abbrev EntV:=EntP × Value
def entV (x : EntV) : List Value:=entC x.1 x.2
theorem entV_length (x : EntV) : (entV x).length=11:=rfl
def entZ : Array Value:=#[.string ⟨#[]⟩,.int .i64 0,.string ⟨#[]⟩,.int .i64 0,.int .i64 0,.int .i64 0,.string ⟨#[]⟩,.string ⟨#[]⟩,.int .i64 0,.int .i64 0,.slice none 0 0]
theorem entinfo : (Tryz.prog.info? 58).map (fun i => (i.zero,i.size,i.bytes))=some (some (.agg entZ),11,136):=by kernel_rfl
def EntsRow (w : World) (b1 b0 : Nat) (v : Value) (l : List EntP) : Prop :=
  ∃ xs : List EntV,xs.map (·.1)=l∧w.ownsRow b1 58 11 v l.length (xs.flatMap entV)∧∀ x∈xs,DataAt w b0 x.2 x.1.data
def EntsOwn (w : World) (base : Nat) (v : Value) (l : List EntP) : Prop:=EntsRow w base base v l
theorem EntsRow.below {w w' : World} {b1 b0 : Nat} {v : Value} {l : List EntP} (h : EntsRow w b1 b0 v l) (hb : Below w.heap.size w w') : EntsRow w' b1 b0 v l:=by
  obtain ⟨xs,h0,h1,h2⟩:=h
  exact ⟨xs,h0,ownsRow_below h1 hb,fun x hx => (h2 x hx).below hb⟩
theorem EntsOwn.below {w w' : World} {base : Nat} {v : Value} {l : List EntP} (h : EntsOwn w base v l) (hb : Below w.heap.size w w') : EntsOwn w' base v l:=EntsRow.below h hb
theorem EntsRow.mono {w : World} {b1 b0 c1 c0 : Nat} {v : Value} {l : List EntP} (h : EntsRow w b1 b0 v l) (h1 : c1≤b1) (h0 : c0≤b0) : EntsRow w c1 c0 v l:=by
  obtain ⟨xs,e0,e1,e2⟩:=h
  exact ⟨xs,e0,ownsRow_mono e1 h1,fun x hx => (e2 x hx).mono h0⟩
theorem EntsOwn.mono {w : World} {base base' : Nat} {v : Value} {l : List EntP} (h : EntsOwn w base v l) (hb : base'≤base) : EntsOwn w base' v l:=EntsRow.mono h hb hb
theorem EntsRow.nil (w : World) (b1 b0 : Nat) : EntsRow w b1 b0 (.slice none 0 0) []:=⟨[],rfl,World.ownsRow_nil _ _ _ _,by simp⟩
theorem EntsRow.slice {w : World} {b1 b0 : Nat} {v : Value} {l : List EntP} (h : EntsRow w b1 b0 v l) : ∃ A c,v=.slice A l.length c∧l.length≤c∧c≤maxLen:=by
  obtain ⟨xs,h0,h1,h2⟩:=h
  obtain ⟨A,c,e,a1,a2,_⟩:=ownsRow_read h1
  exact ⟨A,c,e,a1,a2⟩
theorem EntsOwn.slice {w : World} {base : Nat} {v : Value} {l : List EntP} (h : EntsOwn w base v l) : ∃ A c,v=.slice A l.length c∧l.length≤c∧c≤maxLen:=EntsRow.slice h
theorem EntsRow.snoc {w w' : World} {b1 b0 : Nat} {tv v' : Value} {l : List EntP} {xs : List EntV} {n : EntP} {dv : Value} (hx : xs.map (·.1)=l) (hd : ∀ x∈xs,DataAt w b0 x.2 x.1.data) (hn : DataAt w b0 dv n.data) (h : w.ownsRow b1 58 11 tv l.length (xs.flatMap entV)) (hg : w.grownBy w' tv.ownBlock)
    (ho : w'.ownsRow b1 58 11 v' (l.length + 1) (xs.flatMap entV ++ entV (n,dv))) : EntsRow w' b1 b0 v' (l ++ [n]):=by
  have hk : U8Kept w w':=U8Kept.grown hg (fun g e => by
    obtain ⟨_,C,fr,hC⟩:=own_typed h e
    exact ⟨C,_,fr,hC,by decide⟩)
  refine ⟨xs ++ [(n,dv)],by rw [List.map_append,hx];rfl,?_,fun x hx2 => ?_⟩
  · rw [List.length_append,List.flatMap_append]
    simpa using ho
  · rcases List.mem_append.1 hx2 with h1 | h1
    · exact (hd x h1).kept hk
    · rw [List.mem_singleton] at h1
      subst h1
      exact hn.kept hk
theorem EntsOwn.row {w : World} {base : Nat} {v : Value} {l : List EntP} (h : EntsOwn w base v l) (hl : 0 < l.length) : ∃ g c,v=.slice (some ⟨g,0,none⟩) l.length c∧base≤g∧g < w.heap.size∧l.length≤c∧c≤maxLen∧(∀ i,w.frozen? ⟨g,i,none⟩=false) ∧
    ∀ j,(hj : j < l.length)→∃ Ax cx,DataAt w base (.slice Ax l[j].data.length cx) l[j].data∧w.cell? ⟨g,j * 11,none⟩=(entC l[j] (.slice Ax l[j].data.length cx))[0]?∧∀ i,i < 11→w.cell? ⟨g,j * 11 + i,none⟩=(entC l[j] (.slice Ax l[j].data.length cx))[i]?:=by
  obtain ⟨xs,h0,h1,h2⟩:=h
  have hxl : xs.length=l.length:=by rw [← h0,List.length_map]
  rcases id h1.2 with ⟨_,h4⟩ | ⟨g,cap,cur,rfl,hb,hg,hn,hm,_⟩
  · omega
  · refine ⟨g,cap,rfl,hb,heap_lt hg,hn,hm,fun i => by simp [World.frozen?,hg],fun j hj => ?_⟩
    have hjx : j < xs.length:=by omega
    have e : l[j]=xs[j].1:=by subst h0;simp
    have hd:=h2 xs[j] (List.getElem_mem _)
    obtain ⟨Ax,cx,hdv,-⟩:=id hd
    rw [hdv] at hd
    have key : ∀ i,i < 11→w.cell? ⟨g,j * 11 + i,none⟩=(entC l[j] (.slice Ax l[j].data.length cx))[i]?:=fun i hi => by
      have h3 : (xs.flatMap entV)[j * 11 + i]?=(entV xs[j])[i]?:=by
        rw [flat_get entV_length xs j i hi,List.getElem?_eq_getElem hjx];rfl
      have hl2 : i < (entV xs[j]).length:=hi
      have e2 : entV xs[j]=entC l[j] (.slice Ax l[j].data.length cx):=by unfold entV;rw [e,hdv]
      rw [List.getElem?_eq_getElem hl2] at h3
      have h4:=World.ownsRow.cells h1 (g:=g) rfl (j * 11 + i) _ h3
      rw [add_flat,Nat.zero_add] at h4
      rw [h4,← e2,List.getElem?_eq_getElem hl2]
    refine ⟨Ax,cx,by rw [e];exact hd,key 0 (by omega),key⟩
theorem Blk.ent {W : World} {g : Nat} {x : EntP} {dv : Value} (h : Blk W g 58 (entC x dv).toArray) :
    W.cell? ⟨g,0,none⟩=some (.string (bs x.path))∧W.cell? ⟨g,1,none⟩=some (.int .i64 x.kind)∧W.cell? ⟨g,2,none⟩=some (.string (bs x.target))∧W.cell? ⟨g,3,none⟩=some (.int .i64 x.mt.mode)∧W.cell? ⟨g,4,none⟩=some (.int .i64 x.mt.uid)∧W.cell? ⟨g,5,none⟩=some (.int .i64 x.mt.gid)∧W.cell? ⟨g,6,none⟩=some (.string (bs x.mt.user))∧W.cell? ⟨g,7,none⟩=some (.string (bs x.mt.group))∧W.cell? ⟨g,8,none⟩=some (.int .i64 x.mt.second)∧W.cell? ⟨g,9,none⟩=some (.int .i64 x.mt.nano)∧W.cell? ⟨g,10,none⟩=some dv :=
  ⟨h.cell 0,h.cell 1,h.cell 2,h.cell 3,h.cell 4,h.cell 5,h.cell 6,h.cell 7,h.cell 8,h.cell 9,h.cell 10⟩
def PmSt (w : World) (base : Nat) (t : List NodeP) (k : Nat) (v : Value) (W : World) : Prop:=Below w.heap.size w W∧EntsRow W w.heap.size base v ((planP t).take k)
theorem PmSt.below {w W W' : World} {base : Nat} {t : List NodeP} {k : Nat} {v : Value} (h : PmSt w base t k v W) (hb : Below W.heap.size W W') : PmSt w base t k v W':=⟨h.1.trans (hb.mono h.1.size),h.2.below hb⟩
theorem one_ent (x : EntP) (A : Option Addr) (n c : Nat) : ∀ u∈entV (x,.slice A n c),u.oneCell'=true:=by
  intro u hu
  unfold entV entC at hu
  simp only [List.mem_cons,List.mem_nil_iff,or_false] at hu
  rcases hu with rfl | rfl | rfl | rfl | rfl | rfl | rfl | rfl | rfl | rfl | rfl <;> rfl
set_option maxRecDepth 100000 in
set_option maxHeartbeats 8000000 in
theorem Make_any (v1 v2 : Value) (t0 : List NodeP) (rs : List RuleG) (w : World) (hm : ∀ W,Below w.heap.size w W→ML W) (hl : NodesAt w v1 t0) (ht0 : TreeOk t0) (hr : RulesAt w v2 rs) (hrl : rs.length≤12) :
    Calls Tryz.prog 33 #[v1,v2] w fun e w' => ∃ ev,e=.returned (.tuple #[ev,.int .i64 0])∧EntsOwn w' w.heap.size ev (planP (filterP t0 rs))∧Below w.heap.size w w':=by
  have HRUN:=Lib.hid (FRun_any v1 v2 t0 rs w hm hl ht0 hr hrl)
  have hto:=filter_ok ht0 rs
  have HML:=Lib.hid hm
  obtain ⟨_,A0,c0,-,rfl,-⟩:=hl
  obtain ⟨A2,c2,rfl,-,-⟩:=hr.slice
  clear hm ht0 hr
  generalize filterP t0 rs=t at *
  have HTO:=Lib.hid hto
  have hlen:=hto.len
  have hfl:=firstsP_length t
  have HFL:=Lib.hid hfl
  obtain ⟨i9,hi9,hy0,hy1,hy2⟩:=info_parts entinfo
  clear hto
  go_enter Tryz.func33,Tryz.ntmps33
  go_wp2_with fail
  refine HRUN.out.mono ?_
  rintro e w1 ⟨tv,rfl,htv,b1⟩
  have B1:=Lib.hid b1
  have HT1:=Lib.hid htv
  have HFI:=Lib.hid (Firsts_any tv t w1 (HML.out _ b1) htv.at_ HTO.out.node HTO.out.chk)
  obtain ⟨_,At,ct,-,hte,hct1,hct2,-⟩:=htv.at_
  subst hte
  unfold maxLen at hct2
  clear b1 htv HRUN
  go_wp2_with fail
  refine HFI.out.mono ?_
  rintro e w2 ⟨fv,rfl,hfv,b2⟩
  have B2:=Lib.hid (B1.out.trans (b2.mono B1.out.size))
  have HT2:=Lib.hid (HT1.out.below b2)
  have HFV:=Lib.hid hfv
  have hs12:=b2.size
  have hs1:=B1.out.size
  obtain ⟨Af,cf,hfe,hcf1,hcf2⟩:=hfv.slice_
  rw [hfl] at hfe hcf1
  subst hfe
  unfold maxLen at hcf2
  have H0 : Hid (PmSt w2 w.heap.size t 0 (.slice none 0 0) w2):=Lib.hid ⟨Below.refl _ _,by rw [List.take_zero];exact EntsRow.nil _ _ _⟩
  clear b2 hfv HFI hfl
  go_wp2_with fail
  go_loopg [9,29] t.length (fun gg s9 s29 wr => ∃ k : Nat,k≤t.length∧t.length - k≤gg∧s29=.int .i64 k∧Hid (PmSt w2 w.heap.size t k s9 wr))
  case atStart => exact ⟨0,Nat.zero_le _,by omega,rfl,H0⟩
  case round =>
    obtain ⟨k,hk,hg,rfl,HS⟩:=hrel
    by_cases hlt : k < t.length
    · have hltz : (k : Int) < (t.length : Int):=by omega
      have hk0 : (0 : Int)≤(k : Int):=by omega
      have hkf : k < (firstsP t).length:=by rw [HFL.out];exact hlt
      obtain ⟨ad2,rfl,f1⟩:=(HFV.out.below HS.out.1).load hkf
      have e1 : (firstsP t)[k]=(firstAt t k : Int):=by simp [firstsP]
      rw [e1] at f1
      obtain ⟨hfle,-,hfsp⟩:=firstAt_spec hlt
      obtain ⟨ad,Ax,cx,rfl,hb,-,e0,e1',e2,e3,e4,e5,e6,e7,e8,e9,e10,e11⟩:=node_read (HT2.out.below HS.out.1).at_ hlt
      have hdx : DataAt wr w.heap.size (.slice Ax t[k].data.length cx) t[k].data:=by
        obtain ⟨g,cg,hv,-,-,-,-,-,hrow⟩:=(HT2.out.below HS.out.1).row (by omega)
        obtain ⟨dv,hdv,-,hcells⟩:=hrow k hlt
        have h11:=hcells 11 (by omega)
        injection hv with hv1 _ _
        injection hv1 with hv1
        subst hv1
        rw [add_flat] at e11
        simp only [Nat.zero_add] at e11
        rw [e11] at h11
        simp only [nodeC,List.getElem?_cons_zero,List.getElem?_cons_succ,Option.some.injEq] at h11
        rw [h11]
        exact hdv
      have HTK:=Lib.hid (planP_take hlt)
      obtain ⟨ys,hys,hyo,hyd⟩:=HS.out.2
      obtain ⟨A9,c9,h9e,hc91,hc92,-⟩:=ownsRow_read hyo
      have hlk : ((planP t).take k).length=k:=by rw [List.length_take,planP_length];omega
      rw [hlk] at h9e hc91 hyo
      subst h9e
      unfold maxLen at hc92
      have HYS:=Lib.hid hys
      have HYO:=Lib.hid hyo
      have HYD:=Lib.hid hyd
      have HLK:=Lib.hid hlk
      have hsz:=HS.out.1.size
      have HGK : Hid (t.getD k default=t[k]):=Lib.hid (getD_at hlt)
      clear hys hyo hyd hlk e1
      obtain ⟨y,hy⟩ : ∃ y,y=t.getD (firstAt t k) default:=⟨_,rfl⟩
      have hpy : ∀ h : firstAt t k < t.length,wr.cell? ⟨(ad.add (firstAt t k * 12)).block,(ad.add (firstAt t k * 12)).off,none⟩=some (.string (bs y.path))∨wr.cell? (ad.add (firstAt t k * 12))=some (.string (bs y.path)):=fun h => by
        obtain ⟨ad',Ay,cy,had,-,-,g0,-⟩:=node_read (HT2.out.below HS.out.1).at_ h
        injection had with had
        subst had
        rw [hy,getD_at h]
        first | exact .inl g0 | exact .inr g0
      have HPY:=Lib.hid hpy
      have HEA : Hid (entAt t k=if firstAt t k < k then entLink t[k] y else entOf t[k]):=Lib.hid (by unfold entAt;rw [HGK.out,← hy])
      clear hy hpy
      obtain ⟨x,hx⟩ : ∃ x,x=t[k]:=⟨_,rfl⟩
      rw [← hx] at hdx HEA e0 e1' e2 e3 e4 e5 e6 e7 e8 e9 e10 e11
      clear hx hfsp
      obtain ⟨np,nk,ns,nt,⟨o1,o2,o3,o4,o5,o6,o7⟩,nd⟩:=x
      simp only at hdx e0 e1' e2 e3 e4 e5 e6 e7 e8 e9 e10 e11
      obtain ⟨W2,hW2⟩ : ∃ W2,W2=(wr.alloc (.cells #[.string (bs np),.int .i64 nk,.int .i64 ns,.string (bs nt),.int .i64 o1,.int .i64 o2,.int .i64 o3,.string (bs o4),.string (bs o5),.int .i64 o6,.int .i64 o7,.slice Ax nd.length cx] 29)).alloc (.cells #[.string (bs np),.int .i64 nk,.string (bs nt),.int .i64 o1,.int .i64 o2,.int .i64 o3,.string (bs o4),.string (bs o5),.int .i64 o6,.int .i64 o7,.slice Ax nd.length cx] 58):=⟨_,rfl⟩
      have b2 : Below wr.heap.size wr W2:=by rw [hW2];exact ((Below.refl _ _).alloc (Nat.le_refl _) _).alloc (by simp) _
      have K2 : Blk W2 (wr.heap.size + 1) 58 (entC (entOf ⟨np,nk,ns,nt,⟨o1,o2,o3,o4,o5,o6,o7⟩,nd⟩) (.slice Ax nd.length cx)).toArray:=by
        have h:=Blk.new (wr.alloc (.cells #[.string (bs np),.int .i64 nk,.int .i64 ns,.string (bs nt),.int .i64 o1,.int .i64 o2,.int .i64 o3,.string (bs o4),.string (bs o5),.int .i64 o6,.int .i64 o7,.slice Ax nd.length cx] 29)) 58 #[.string (bs np),.int .i64 nk,.string (bs nt),.int .i64 o1,.int .i64 o2,.int .i64 o3,.string (bs o4),.string (bs o5),.int .i64 o6,.int .i64 o7,.slice Ax nd.length cx]
        rw [← hW2,show (wr.alloc (.cells #[.string (bs np),.int .i64 nk,.int .i64 ns,.string (bs nt),.int .i64 o1,.int .i64 o2,.int .i64 o3,.string (bs o4),.string (bs o5),.int .i64 o6,.int .i64 o7,.slice Ax nd.length cx] 29)).heap.size=wr.heap.size + 1 by simp] at h
        exact h
      have HB2:=Lib.hid b2
      have HK2:=Lib.hid K2
      have HD2:=Lib.hid (hdx.below b2)
      have f2 : W2.cell? (ad2.add k)=some (.int .i64 (firstAt t k : Int)):=by
        have hbl : ad2.block < wr.heap.size:=by
          obtain ⟨_,_,hve,_,_,_,hr⟩:=ownsRow_read HFV.out
          obtain ⟨ad',_,he,hb',_,_⟩:=hr.at_ (k:=k) hkf
          injection hve with hve
          subst hve
          injection he with he
          rw [he];omega
        refine (b2.cell (p:=ad2.add k) ?_).trans f1
        rw [block_of_add];exact hbl
      obtain ⟨g12,hg12⟩ : ∃ g12,g12=wr.heap.size + 1:=⟨_,rfl⟩
      rw [← hg12] at HK2
      have hg12lt : wr.heap.size < g12:=by omega
      clear b2 K2 hdx
      go_upto_region 10 with fail
      rw [← hg12,← hW2]
      have HG12:=Lib.hid hg12
      have HW2:=Lib.hid hW2
      clear hW2 hg12 e0 e1' e2 e3 e4 e5 e6 e7 e8 e9 e10 e11 f1
      have HBR:=Lib.hid (HS.out.1.trans (HB2.out.mono hsz))
      have HOW:=Lib.hid (ownsRow_below HYO.out HB2.out)
      have HDD:=Lib.hid (fun y hy => (HYD.out y hy).below HB2.out)
      have hszw : w.heap.size≤W2.heap.size:=by have:=HB2.out.size;omega
      have hg12s : g12 < W2.heap.size:=HK2.out.lt
      by_cases hfk : firstAt t k < k
      · have HE : Hid (entAt t k=entLink ⟨np,nk,ns,nt,⟨o1,o2,o3,o4,o5,o6,o7⟩,nd⟩ y):=Lib.hid (by rw [HEA.out,if_pos hfk])
        have p2 : W2.cell? (ad.add (firstAt t k * 12))=some (.string (bs y.path)):=by
          have hbl : ad.block < wr.heap.size:=hb
          have h0:=HPY.out (by omega)
          have h1 : wr.cell? (ad.add (firstAt t k * 12))=some (.string (bs y.path)):=by
            rcases h0 with h0 | h0
            · have hsp : (ad.add (firstAt t k * 12))=⟨(ad.add (firstAt t k * 12)).block,(ad.add (firstAt t k * 12)).off,none⟩:=by
                have:=HT2.out.row (by omega)
                obtain ⟨g,cg,hv,-⟩:=this
                injection hv with hv1 _ _
                injection hv1 with hv1
                subst hv1
                rw [add_flat]
              rw [hsp];exact h0
            · exact h0
          refine (HB2.out.cell (p:=ad.add (firstAt t k * 12)) ?_).trans h1
          rw [block_of_add];exact hbl
        have hb1 : (ad.add (firstAt t k * 12)).block≠g12:=by rw [block_of_add];omega
        have hb2 : (ad2.add k).block≠g12:=by
          intro e
          have h:=World.cell?_setCell_other W2 ⟨g12,1,none⟩
          have hbl : (ad2.add k).block < wr.heap.size:=by
            obtain ⟨_,_,hve,_,_,_,hr⟩:=ownsRow_read HFV.out
            obtain ⟨ad',_,he,hb',_,_⟩:=hr.at_ (k:=k) hkf
            injection hve with hve
            subst hve
            injection he with he
            rw [block_of_add,he];omega
          omega
        have HB1:=Lib.hid hb1
        have HBB:=Lib.hid hb2
        have hfl0 : (0 : Int)≤(firstAt t k : Int):=by omega
        have hfl1 : (firstAt t k : Int) < (k : Int):=by omega
        have hfl2 : (firstAt t k : Int) < (t.length : Int):=by omega
        clear HEA HPY
        generalize firstAt t k=fk at *
        obtain ⟨m0,m1,m2⟩ : W2.cell? ⟨g12,1,none⟩=some (.int .i64 nk)∧W2.cell? ⟨g12,2,none⟩=some (.string (bs nt))∧W2.cell? ⟨g12,10,none⟩=some (.slice Ax nd.length cx):=⟨HK2.out.cell 1,HK2.out.cell 2,HK2.out.cell 10⟩
        have z:=fun i => HK2.out.frozen i
        have HK1 : Hid (∀ (W : World) (o : Nat) (u : Value),(W.setCell ⟨g12,o,none⟩ u).cell? (ad2.add k)=W.cell? (ad2.add k)):=Lib.hid (fun W o u => World.cell?_setCell_other _ _ _ _ (fun e => HBB.out (by rw [← e])))
        have HK2' : Hid (∀ (W : World) (o : Nat) (u : Value),(W.setCell ⟨g12,o,none⟩ u).cell? (ad.add (fk * 12))=W.cell? (ad.add (fk * 12))):=Lib.hid (fun W o u => World.cell?_setCell_other _ _ _ _ (fun e => HB1.out (by rw [← e])))
        go_upto_region 11 with fail
        go_region_held3 (fun w' => w'.cell? (ad2.add k)=some (.int .i64 (fk : Int))∧w'.cell? (ad.add (fk * 12))=some (.string (bs y.path))) (first | exact ⟨f2,p2⟩ | exact ⟨(HK1.out _ _ _).trans f2,(HK2'.out _ _ _).trans p2⟩ | exact ⟨(HK1.out _ _ _).trans ((HK1.out _ _ _).trans f2),(HK2'.out _ _ _).trans ((HK2'.out _ _ _).trans p2)⟩ | exact ⟨(HK1.out _ _ _).trans ((HK1.out _ _ _).trans ((HK1.out _ _ _).trans f2)),(HK2'.out _ _ _).trans ((HK2'.out _ _ _).trans ((HK2'.out _ _ _).trans p2))⟩) (fail)
        all_goals
          obtain ⟨W3,hW3⟩ : ∃ W3,W3=(((W2.setCell ⟨g12,1,none⟩ (.int .i64 4)).setCell ⟨g12,2,none⟩ (.string (bs y.path))).setCell ⟨g12,10,none⟩ (.slice none 0 0)).drew:=⟨_,rfl⟩
          rw [← hW3]
          have B3 : Hid (Below wr.heap.size wr W3):=Lib.hid (by rw [hW3];exact (((HB2.out.setCell (p:=⟨g12,1,none⟩) (by simp only;omega) _).setCell (p:=⟨g12,2,none⟩) (by simp only;omega) _).setCell (p:=⟨g12,10,none⟩) (by simp only;omega) _).drew)
          have HK3 : Hid (Blk W3 g12 58 (entC (entLink ⟨np,nk,ns,nt,⟨o1,o2,o3,o4,o5,o6,o7⟩,nd⟩ y) (.slice none 0 0)).toArray):=Lib.hid (by rw [hW3];exact (((HK2.out.set_ 1 _).set_ 2 _).set_ 10 _).drew)
          have hsz3 : w2.heap.size≤W3.heap.size:=by have:=B3.out.size;omega
          have HYO3:=Lib.hid (ownsRow_below HYO.out B3.out)
          have HYD3:=Lib.hid (fun y hy => (HYD.out y hy).below B3.out)
          have HD3 : Hid (DataAt W3 w.heap.size (.slice none 0 0) (entLink ⟨np,nk,ns,nt,⟨o1,o2,o3,o4,o5,o6,o7⟩,nd⟩ y).data):=Lib.hid (DataAt.nil _ _)
          clear hW3 m0 m1 m2 z f2 p2
          obtain ⟨r0,r1,r2,r3,r4,r5,r6,r7,r8,r9,r10⟩:=HK3.out.ent
          simp only [entLink] at r0 r1 r2 r3 r4 r5 r6 r7 r8 r9 r10
          go_wp2_with (at_builtin;refine wpList_append_any _ rfl (.tmp 62) (.tmp 64) _ rfl w2.heap.size 58 i9 _ 11 136 Tryz.underlying30 hi9 hy0 hy1 hy2 rfl (by omega) _ k (ys.flatMap entV) rfl (ownsRow_below HYO3.out ((Below.refl _ _).alloc (Nat.le_refl _) _)) (W3.heap.size + 1) (some ⟨W3.heap.size,0,none⟩) 1 1 (entV (entLink ⟨np,nk,ns,nt,⟨o1,o2,o3,o4,o5,o6,o7⟩,nd⟩ y,.slice none 0 0)) rfl (new_row W3 58 (entV (entLink ⟨np,nk,ns,nt,⟨o1,o2,o3,o4,o5,o6,o7⟩,nd⟩ y,.slice none 0 0)) 1 11 rfl) (one_ent _ none 0 0) (by simp only [maxLen];omega) (by omega) (by simp;omega) ?_;intro v9 w9 hown9 hg9 hat9;obtain ⟨A9',c9',hv9,-⟩:=ownsRow_read hown9;subst hv9;have HO9:=Lib.hid hown9;have HG9:=Lib.hid hg9;clear hown9 hg9 hat9)
          go_roundg (t.length - (k + 1))
          case measure => omega
          case rel =>
            have bA:=(Below.refl W3.heap.size W3).alloc (Nat.le_refl _) (.cells (entV (entLink ⟨np,nk,ns,nt,⟨o1,o2,o3,o4,o5,o6,o7⟩,nd⟩ y,.slice none 0 0)).toArray 58)
            refine ⟨k + 1,by omega,by omega,by go_num,Lib.hid ⟨HS.out.1.trans ((((B3.out.trans (bA.mono B3.out.size)).mono hsz)).grown HG9.out (Nat.le_trans hsz (Nat.le_trans B3.out.size bA.size)) (fun g hg => (own_typed (ownsRow_below HYO3.out bA) hg).1)),?_⟩⟩
            rw [HTK.out,HE.out]
            exact EntsRow.snoc HYS.out (fun y hy => (HYD3.out y hy).below bA) (HD3.out.below bA) (by rw [HLK.out];exact ownsRow_below HYO3.out bA) HG9.out (by rw [HLK.out];exact HO9.out)
      · have HE : Hid (entAt t k=entOf ⟨np,nk,ns,nt,⟨o1,o2,o3,o4,o5,o6,o7⟩,nd⟩):=Lib.hid (by rw [HEA.out,if_neg hfk])
        have hfk2 : ¬ (firstAt t k : Int) < (k : Int):=by omega
        obtain ⟨W3,hW3⟩ : ∃ W3,W3=W2:=⟨_,rfl⟩
        have B3 : Hid (Below wr.heap.size wr W3):=Lib.hid (by rw [hW3];exact HB2.out)
        have HK3 : Hid (Blk W3 g12 58 (entC (entOf ⟨np,nk,ns,nt,⟨o1,o2,o3,o4,o5,o6,o7⟩,nd⟩) (.slice Ax nd.length cx)).toArray):=Lib.hid (by rw [hW3];exact HK2.out)
        have hsz3 : w2.heap.size≤W3.heap.size:=by have:=B3.out.size;omega
        have HYO3:=Lib.hid (ownsRow_below HYO.out B3.out)
        have HYD3:=Lib.hid (fun y hy => (HYD.out y hy).below B3.out)
        have HD3 : Hid (DataAt W3 w.heap.size (.slice Ax nd.length cx) (entOf ⟨np,nk,ns,nt,⟨o1,o2,o3,o4,o5,o6,o7⟩,nd⟩).data):=Lib.hid (by rw [hW3];exact HD2.out)
        rw [← hW3] at f2 ⊢
        clear HEA HPY hW3
        generalize firstAt t k=fk at *
        obtain ⟨r0,r1,r2,r3,r4,r5,r6,r7,r8,r9,r10⟩:=HK3.out.ent
        simp only [entOf] at r0 r1 r2 r3 r4 r5 r6 r7 r8 r9 r10
        go_wp2_with (at_builtin;refine wpList_append_any _ rfl (.tmp 62) (.tmp 64) _ rfl w2.heap.size 58 i9 _ 11 136 Tryz.underlying30 hi9 hy0 hy1 hy2 rfl (by omega) _ k (ys.flatMap entV) rfl (ownsRow_below HYO3.out ((Below.refl _ _).alloc (Nat.le_refl _) _)) (W3.heap.size + 1) (some ⟨W3.heap.size,0,none⟩) 1 1 (entV (entOf ⟨np,nk,ns,nt,⟨o1,o2,o3,o4,o5,o6,o7⟩,nd⟩,.slice Ax nd.length cx)) rfl (new_row W3 58 (entV (entOf ⟨np,nk,ns,nt,⟨o1,o2,o3,o4,o5,o6,o7⟩,nd⟩,.slice Ax nd.length cx)) 1 11 rfl) (one_ent _ Ax nd.length cx) (by simp only [maxLen];omega) (by omega) (by simp;omega) ?_;intro v9 w9 hown9 hg9 hat9;obtain ⟨A9',c9',hv9,-⟩:=ownsRow_read hown9;subst hv9;have HO9:=Lib.hid hown9;have HG9:=Lib.hid hg9;clear hown9 hg9 hat9)
        go_roundg (t.length - (k + 1))
        case measure => omega
        case rel =>
          have bA:=(Below.refl W3.heap.size W3).alloc (Nat.le_refl _) (.cells (entV (entOf ⟨np,nk,ns,nt,⟨o1,o2,o3,o4,o5,o6,o7⟩,nd⟩,.slice Ax nd.length cx)).toArray 58)
          refine ⟨k + 1,by omega,by omega,by go_num,Lib.hid ⟨HS.out.1.trans ((((B3.out.trans (bA.mono B3.out.size)).mono hsz)).grown HG9.out (Nat.le_trans hsz (Nat.le_trans B3.out.size bA.size)) (fun g hg => (own_typed (ownsRow_below HYO3.out bA) hg).1)),?_⟩⟩
          rw [HTK.out,HE.out]
          exact EntsRow.snoc HYS.out (fun y hy => (HYD3.out y hy).below bA) (HD3.out.below bA) (by rw [HLK.out];exact ownsRow_below HYO3.out bA) HG9.out (by rw [HLK.out];exact HO9.out)
    · obtain rfl : k=t.length:=by omega
      have HEND:=Lib.hid (show EntsOwn wr w.heap.size _ (planP t) by have h:=HS.out.2;rw [List.take_of_length_le (by rw [planP_length];omega)] at h;exact h.mono B2.out.size (Nat.le_refl _))
      obtain ⟨A9,c9,h9e,-,-⟩:=HEND.out.slice
      subst h9e
      go_wp2_with fail
      go_ret2
      exact ⟨_,rfl,HEND.out,B2.out.trans (HS.out.1.mono B2.out.size)⟩
end Go.Proofs.YtphmhmdcaafmdaaGreatDoor
