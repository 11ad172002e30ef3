import Derived.Test.YtphmhmdcaafmdaaGreatDoorUnderW
namespace Go.Proofs.YtphmhmdcaafmdaaGreatDoor
set_option linter.all false
open Go.RowKit
def undU (t u0 : List NodeP) : List NodeP:=anewP (undT (anewP (t ++ [lastN])) (anewP u0) (anewP u0).length)
theorem undT_full (a u : List NodeP) : (undT a u u.length).length=a.length + u.length:=by unfold undT;simp
theorem undU_len (t u0 : List NodeP) : (undU t u0).length=(t ++ [lastN]).length + u0.length:=by
  unfold undU
  rw [anewP_length,undT_full,anewP_length,anewP_length]
theorem undU_low (t u0 : List NodeP) {i : Nat} (hi : i < (t ++ [lastN]).length) (h2 : i < (undU t u0).length) : (undU t u0)[i].path=(t ++ [lastN])[i].path∧(undU t u0)[i].kind=(t ++ [lastN])[i].kind∧(undU t u0)[i].data=(t ++ [lastN])[i].data:=by
  have h3 : i < (undT (anewP (t ++ [lastN])) (anewP u0) (anewP u0).length).length:=by rw [undT_full,anewP_length];omega
  have ha : i < (anewP (t ++ [lastN])).length:=by rw [anewP_length];exact hi
  obtain ⟨e1,e2,-,e4⟩:=anew_path (t:=undT (anewP (t ++ [lastN])) (anewP u0) (anewP u0).length) h3 h2
  obtain ⟨f1,f2,-,f4⟩:=anew_path hi ha
  have hg : (undT (anewP (t ++ [lastN])) (anewP u0) (anewP u0).length)[i]'h3=(anewP (t ++ [lastN]))[i]:=by
    exact List.getElem_append_left (bs:=((anewP u0).take (anewP u0).length).map shiftN) ha
  rw [hg] at e1 e2 e4
  exact ⟨e1.trans f1,e2.trans f2,e4.trans f4⟩
theorem undU_high (t u0 : List NodeP) {i : Nat} (hi : i < u0.length) (h2 : (t ++ [lastN]).length + i < (undU t u0).length) : (undU t u0)[(t ++ [lastN]).length + i].path=255 :: 47 :: u0[i].path∧(undU t u0)[(t ++ [lastN]).length + i].kind=u0[i].kind∧(undU t u0)[(t ++ [lastN]).length + i].mt=u0[i].mt∧(undU t u0)[(t ++ [lastN]).length + i].data=u0[i].data:=by
  have h3 : (t ++ [lastN]).length + i < (undT (anewP (t ++ [lastN])) (anewP u0) (anewP u0).length).length:=by rw [undT_full,anewP_length,anewP_length];omega
  have hu : i < (anewP u0).length:=by rw [anewP_length];exact hi
  obtain ⟨e1,e2,e3,e4⟩:=anew_path (t:=undT (anewP (t ++ [lastN])) (anewP u0) (anewP u0).length) h3 h2
  obtain ⟨f1,f2,f3,f4⟩:=anew_path hi hu
  have hg : (undT (anewP (t ++ [lastN])) (anewP u0) (anewP u0).length)[(t ++ [lastN]).length + i]'h3=shiftN (anewP u0)[i]:=by
    refine (List.getElem_append_right («as»:=anewP (t ++ [lastN])) (bs:=((anewP u0).take (anewP u0).length).map shiftN) (by rw [anewP_length];omega)).trans ?_
    simp [anewP_length]
  rw [hg] at e1 e2 e3 e4
  refine ⟨e1.trans ?_,e2.trans f2,e3.trans f3,e4.trans f4⟩
  show 255 :: 47 :: (anewP u0)[i].path=_
  rw [f1]
def lastC : Array Value:=#[.string ⟨#[255]⟩,.int .i64 2,.int .i64 0,.string ⟨#[]⟩,.int .i64 0,.int .i64 0,.int .i64 0,.string ⟨#[]⟩,.string ⟨#[]⟩,.int .i64 0,.int .i64 0,.slice none 0 0]
theorem last_own (w : World) (base : Nat) (hb : base≤w.heap.size) : NodesOwn (w.alloc (.cells lastC 29)) base (.slice (some ⟨w.heap.size,0,none⟩) 1 1) [lastN]:=by
  refine ⟨[(lastN,.slice none 0 0)],rfl,⟨rfl,.inr ⟨w.heap.size,1,_,rfl,hb,heap_alloc_new w _,Nat.le_refl _,by simp [maxLen],rfl,rfl⟩⟩,fun x hx => ?_⟩
  rw [List.mem_singleton] at hx
  subst hx
  exact DataAt.nil _ _
set_option maxRecDepth 100000 in
set_option maxHeartbeats 8000000 in
theorem RestoreUnder_walk (w : World) (hsh : w.ShapedOpen Tryz.prog) (h10 : P10 w) (v : Value) (l : List RawS) (hl : RawsAt w w.heap.size v l) (hok : ∀ x∈l,RawOk x) (hn : l.length≤1048576) (v2 : Value) (m : List RawS) (hl2 : RawsAt w w.heap.size v2 m) (hok2 : ∀ x∈m,RawOk x) (hn2 : m.length≤1048576) :
    Calls Tryz.prog 3 #[v,v2] w fun e w' => e=.returned (.bool true)∧Below w.heap.size w w':=by
  have hm:=ML.of_shaped hsh
  clear hsh
  have HML : Hid (∀ W,Below w.heap.size w W→ML W):=Lib.hid (fun W hb => hm.below hb)
  have HP10 : Hid (∀ W,Below w.heap.size w W→P10 W):=Lib.hid (fun W hb => h10.below hb)
  have HT:=Lib.hid (fun (_ : Unit) => Tree_any l v 12 w hm hl hok hn (by omega))
  have HTM : Hid (∀ W,Below w.heap.size w W→Calls Tryz.prog 7 #[v2,.int .i64 12] W fun e w' => ∃ tv,e=.returned tv∧NodesOwn w' W.heap.size tv (treeP m 12)∧Below W.heap.size W w'):=Lib.hid (fun W hb => Tree_any m v2 12 W (HML.out W hb) ((hl2.below hb).more hb.size) hok2 hn2 (by omega))
  have HE : Hid (∀ W,Below w.heap.size w W→Calls Tryz.prog 8 #[v2,.int .i64 12] W fun e w' => ∃ ev,e=.returned (.tuple #[ev,.bool true])∧EntsOwn w' W.heap.size ev (planP (treeP m 12))∧Below W.heap.size W w'):=Lib.hid (fun W hb => entriesOf_any m v2 12 W (HML.out W hb) ((hl2.below hb).more hb.size) hok2 hn2 (by omega))
  have hto:=treeP_ok l 12 (by omega)
  have htl:=treeP_length l 12
  have htp:=fun x hx => (treeP_parts l 12 x hx).1
  have huo:=treeP_ok m 12 (by omega)
  have hul:=treeP_length m 12
  have hup:=fun x hx => (treeP_parts m 12 x hx).1
  have hulen:=fun x hx => (treeP_parts m 12 x hx).2
  obtain ⟨Al,cl,rfl,-⟩:=hl
  obtain ⟨Am,cm,rfl,-⟩:=hl2
  clear hm h10 hok hn hok2 hn2
  generalize treeP l 12=t at *
  generalize treeP m 12=u0 at *
  have HWA:=Lib.hid (fun W (hb : Below w.heap.size w W) v b (h : EntsOwn W b v (planP u0)) => (show Calls Tryz.prog 9 #[v] W fun e w' => ∃ bv,e=.returned (.tuple #[bv,.int .i64 0])∧BytesOwn w' W.heap.size bv (arcB (planP u0) ++ endB)∧Below W.heap.size W w' by
    obtain ⟨xs,hx⟩:=EntsRow.at_ h
    exact WArchive_ok v (planP u0) xs W (fun W' hb' => HML.out W' (hb.trans (hb'.mono hb.size))) (fun W' hb' => HP10.out W' (hb.trans (hb'.mono hb.size))) hx (plan_ok huo)))
  have HUN:=Lib.hid (fun W v1 v3 (hb : Below w.heap.size w W) h1 h3 => Under_any t u0 hto htl htp huo hul hup v1 v3 W (fun W' hb' => HML.out W' (hb.trans (hb'.mono hb.size))) (fun W' hb' => HP10.out W' (hb.trans (hb'.mono hb.size))) h1 h3)
  have HPL:=Lib.hid (planP_length u0)
  have HUL:=Lib.hid (fun i (hi : i < u0.length) => hulen u0[i] (List.getElem_mem hi))
  have HLO:=Lib.hid (fun i hi h2 => undU_low t u0 (i:=i) hi h2)
  have HHI:=Lib.hid (fun i hi h2 => undU_high t u0 (i:=i) hi h2)
  have HUL2:=Lib.hid (undU_len t u0)
  have HTL : Hid ((t ++ [lastN]).length=t.length + 1):=Lib.hid (by simp)
  have HUP : Hid (∀ W e w',UndPost (anewP (t ++ [lastN])) (anewP u0) W e w'→Below W.heap.size W w'∧((∃ j,∃ h : j < u0.length,398 < u0[j].path.length∧e=.returned (.tuple #[.slice none 0 0,.int .i64 1]))∨((∀ j (h : j < u0.length),u0[j].path.length≤398)∧∃ tv,e=.returned (.tuple #[tv,.int .i64 0])∧NodesOwn w' W.heap.size tv (undU t u0)))):=Lib.hid (fun W e w' hp => by
    obtain ⟨h0,h⟩:=hp
    refine ⟨h0,?_⟩
    rcases h with ⟨j,h1,h2,h3⟩ | ⟨h1,h2⟩
    · have hj : j < u0.length:=by rw [anewP_length] at h1;exact h1
      rw [(anew_path hj h1).1] at h2
      exact .inl ⟨j,hj,h2,h3⟩
    · refine .inr ⟨fun j hj => ?_,h2⟩
      have h3 : j < (anewP u0).length:=by rw [anewP_length];exact hj
      have:=h1 j h3
      rw [(anew_path hj h3).1] at this
      exact this)
  clear hto htp huo hup hulen
  generalize arcB (planP u0) ++ endB=M at *
  generalize planP u0=x at *
  generalize undU t u0=U at *
  go_enter Tryz.func3,Tryz.ntmps3
  go_wp2_with fail
  refine (HT.out ()).mono ?_
  rintro e w1 ⟨tv,rfl,htv,b1⟩
  have HB1:=Lib.hid b1
  have hb1s:=b1.size
  have HT1:=Lib.hid htv
  obtain ⟨_,At,ct,-,hte,hct1,hct2,-⟩:=htv.at_
  subst hte
  unfold maxLen at hct2
  have HTA:=Lib.hid (htv.below ((Below.refl w1.heap.size w1).alloc (Nat.le_refl _) (.cells lastC 29)))
  have HLA:=Lib.hid (last_own w1 w.heap.size hb1s)
  have HLE : Hid (t.length + [lastN].length≤100000):=Lib.hid (by simp;omega)
  clear htv b1 HT
  go_wp2_with (at_builtin;refine wpList_app _ rfl (.tmp 20) (.tmp 22) rfl w.heap.size _ _ _ _ rfl rfl HTA.out HLA.out HLE.out (by simp;omega) ?_;intro v9 w9 hv9 b9;generalize t ++ [lastN]=T at *;have HV9:=Lib.hid hv9;have HB9:=Lib.hid b9;obtain ⟨_,A9,c9,-,hv9e,hc91,hc92,-⟩:=hv9.at_;subst hv9e;clear hv9 b9)
  have hB9 : Below w.heap.size w w9:=(HB1.out.alloc hb1s (.cells lastC 29)).trans HB9.out
  have HBA:=Lib.hid hB9
  have HTT:=Lib.hid HV9.out.at_
  clear hB9 HB9 HV9 HTA HLA HB1 HT1
  refine (HE.out _ HBA.out).mono ?_
  rintro e w3 ⟨ev,rfl,hev,b3⟩
  have HB3:=Lib.hid (HBA.out.trans (b3.mono HBA.out.size))
  have HT3:=Lib.hid (HTT.out.below b3)
  have HE3:=Lib.hid hev
  obtain ⟨Ae,ce,rfl,-⟩:=hev.slice
  clear hev b3 HE HBA HTT
  go_wp2_with fail
  refine (HWA.out _ HB3.out _ _ HE3.out).mono ?_
  rintro e w4 ⟨bv,rfl,hbv,b4⟩
  have HB4:=Lib.hid (HB3.out.trans (b4.mono HB3.out.size))
  have HT4:=Lib.hid (HT3.out.below b4)
  have HAT:=Lib.hid hbv.at_
  obtain ⟨Ab,cb,evb,-⟩:=hbv.at_
  generalize (List.map ofB M).length=n2 at evb
  subst evb
  clear hbv b4 HWA HE3 HB3 HT3
  go_wp2_with fail
  refine (HUN.out _ _ _ HB4.out HT4.out HAT.out).mono ?_
  rintro e w5 hpost
  obtain ⟨b5,hpost⟩:=HUP.out _ _ _ hpost
  have HB5:=Lib.hid (HB4.out.trans (b5.mono HB4.out.size))
  have HT5:=Lib.hid (HT4.out.below b5)
  clear b5 HUN HUP HB4 HT4 HAT
  rcases hpost with ⟨jl,hjl,hjlong,rfl⟩ | ⟨hshort,uv,rfl,huv⟩
  · have HJ:=Lib.hid hjlong
    clear hjlong
    go_wp2_with fail
    refine (HTM.out _ HB5.out).mono ?_
    rintro e w6 ⟨mv,rfl,hmv,b6⟩
    have HB6:=Lib.hid (HB5.out.trans (b6.mono HB5.out.size))
    have HT6:=Lib.hid (HT5.out.below b6)
    have HN6:=Lib.hid hmv.at_
    obtain ⟨_,Ak,ck,-,hke,hck1,hck2,-⟩:=hmv.at_
    subst hke
    unfold maxLen at hck2
    clear hmv b6 HB5 HT5
    go_wp2_with fail
    go_loopg [13,49] u0.length (fun gg s13 s49 wr => ∃ k : Nat,k≤u0.length∧u0.length - k≤gg∧s49=.int .i64 k∧Hid (Below w6.heap.size w6 wr)∧Hid (∀ j (hj : j < u0.length),j < k→u0[j].path.length≤398))
    case atStart => exact ⟨0,Nat.zero_le _,by omega,rfl,Lib.hid (Below.refl _ _),Lib.hid (fun j _ h => absurd h (Nat.not_lt_zero _))⟩
    case round =>
      obtain ⟨k,hk,hg,rfl,HW,HQ⟩:=hrel
      by_cases hlt : k < u0.length
      · have hltz : (k : Int) < (u0.length : Int):=by omega
        obtain ⟨adk,Ax,cx,rfl,hb,hdx,e0,e1,e2,e3,e4,e5,e6,e7,e8,e9,e10,e11⟩:=node_read (HN6.out.below HW.out) hlt
        have hpl:=HUL.out k hlt
        obtain ⟨xk,hxk⟩ : ∃ xk,xk=u0[k]:=⟨_,rfl⟩
        have HXK:=Lib.hid hxk
        rw [← hxk] at hdx hpl e0 e1 e2 e3 e4 e5 e6 e7 e8 e9 e10 e11
        clear hxk
        obtain ⟨np,nk,ns,nt,⟨o1,o2,o3,o4,o5,o6,o7⟩,nd⟩:=xk
        simp only at hdx hpl e0 e1 e2 e3 e4 e5 e6 e7 e8 e9 e10 e11
        obtain ⟨W2,hW2⟩ : ∃ W2,W2=wr.alloc (.cells #[.string (bs np),.int .i64 nk,.int .i64 ns,.string (bs nt),.int .i64 o1,.int .i64 o2,.int .i64 o3,.string (bs o4),.string (bs o5),.int .i64 o6,.int .i64 o7,.slice Ax nd.length cx] 29):=⟨_,rfl⟩
        obtain ⟨gn,hgn⟩ : ∃ gn,gn=wr.heap.size:=⟨_,rfl⟩
        have b2 : Below wr.heap.size wr W2:=by rw [hW2];exact (Below.refl _ _).alloc (Nat.le_refl _) _
        have K2 : Blk W2 gn 29 (nodeC (⟨np,nk,ns,nt,⟨o1,o2,o3,o4,o5,o6,o7⟩,nd⟩,.slice Ax nd.length cx)).toArray:=by rw [hW2,hgn];exact Blk.new _ _ _
        have HB2:=Lib.hid (HW.out.trans (b2.mono HW.out.size))
        have HK2:=Lib.hid K2
        have HD2:=Lib.hid (hdx.below b2)
        clear b2 K2 hdx HW
        have c0 : W2.cell? ⟨gn,0,none⟩=some (.string (bs np)):=HK2.out.cell 0
        go_upto_region 10 with fail
        rw [← hW2,← hgn]
        clear hW2 hgn e0 e1 e2 e3 e4 e5 e6 e7 e8 e9 e10 e11
        by_cases hq : 398 < np.length
        · have j1 : (398 : Int) < ((bs np).size : Int):=by rw [bs_size];omega
          have HBW:=Lib.hid (HB6.out.trans (HB2.out.mono HB6.out.size))
          go_wp2_with fail
          go_ret
          exact ⟨rfl,HBW.out⟩
        · have j1 : ¬ (398 : Int) < ((bs np).size : Int):=by rw [bs_size];omega
          have HQ2 : Hid (∀ j (hj : j < u0.length),j < k + 1→u0[j].path.length≤398):=Lib.hid (fun j hj hjk => by
            by_cases e : j=k
            · subst e;rw [← HXK.out];show np.length≤398;omega
            · exact HQ.out j hj (by omega))
          go_wp2_with fail
          go_roundg (u0.length - (k + 1))
          case measure => omega
          case rel => exact ⟨k + 1,by omega,by omega,by go_num,HB2,HQ2⟩
      · obtain rfl : k=u0.length:=by omega
        exact absurd (HQ.out jl hjl hjl) (by have:=HJ.out;omega)
  · have HSH:=Lib.hid hshort
    clear hshort
    obtain ⟨_,Au,cu,-,hue,hcu1,hcu2,-⟩:=huv.at_
    subst hue
    unfold maxLen at hcu2
    go_wp2_with fail
    refine (HTM.out _ HB5.out).mono ?_
    rintro e w6 ⟨mv,rfl,hmv,b6⟩
    have HB6:=Lib.hid (HB5.out.trans (b6.mono HB5.out.size))
    have HT6:=Lib.hid (HT5.out.below b6)
    have HN6:=Lib.hid hmv.at_
    obtain ⟨_,Ak,ck,-,hke,hck1,hck2,-⟩:=hmv.at_
    subst hke
    unfold maxLen at hck2
    have HU6:=Lib.hid (huv.at_.below b6)
    clear hmv b6 HB5 HT5
    go_wp2_with fail
    go_loopg [13,49] u0.length (fun gg s13 s49 wr => ∃ k : Nat,k≤u0.length∧u0.length - k≤gg∧s49=.int .i64 k∧Hid (Below w6.heap.size w6 wr))
    case atStart => exact ⟨0,Nat.zero_le _,by omega,rfl,Lib.hid (Below.refl _ _)⟩
    case round =>
      obtain ⟨k,hk,hg,rfl,HW⟩:=hrel
      by_cases hlt : k < u0.length
      · have hltz : (k : Int) < (u0.length : Int):=by omega
        obtain ⟨adk,Ax,cx,rfl,hb,hdx,e0,e1,e2,e3,e4,e5,e6,e7,e8,e9,e10,e11⟩:=node_read (HN6.out.below HW.out) hlt
        have hpl:=HUL.out k hlt
        obtain ⟨xk,hxk⟩ : ∃ xk,xk=u0[k]:=⟨_,rfl⟩
        have HXK:=Lib.hid hxk
        rw [← hxk] at hdx hpl e0 e1 e2 e3 e4 e5 e6 e7 e8 e9 e10 e11
        clear hxk
        obtain ⟨np,nk,ns,nt,⟨o1,o2,o3,o4,o5,o6,o7⟩,nd⟩:=xk
        simp only at hdx hpl e0 e1 e2 e3 e4 e5 e6 e7 e8 e9 e10 e11
        obtain ⟨W2,hW2⟩ : ∃ W2,W2=wr.alloc (.cells #[.string (bs np),.int .i64 nk,.int .i64 ns,.string (bs nt),.int .i64 o1,.int .i64 o2,.int .i64 o3,.string (bs o4),.string (bs o5),.int .i64 o6,.int .i64 o7,.slice Ax nd.length cx] 29):=⟨_,rfl⟩
        obtain ⟨gn,hgn⟩ : ∃ gn,gn=wr.heap.size:=⟨_,rfl⟩
        have b2 : Below wr.heap.size wr W2:=by rw [hW2];exact (Below.refl _ _).alloc (Nat.le_refl _) _
        have K2 : Blk W2 gn 29 (nodeC (⟨np,nk,ns,nt,⟨o1,o2,o3,o4,o5,o6,o7⟩,nd⟩,.slice Ax nd.length cx)).toArray:=by rw [hW2,hgn];exact Blk.new _ _ _
        have HB2:=Lib.hid (HW.out.trans (b2.mono HW.out.size))
        have HK2:=Lib.hid K2
        have HD2:=Lib.hid (hdx.below b2)
        clear b2 K2 hdx HW
        have c0 : W2.cell? ⟨gn,0,none⟩=some (.string (bs np)):=HK2.out.cell 0
        go_upto_region 10 with fail
        rw [← hW2,← hgn]
        clear hW2 hgn e0 e1 e2 e3 e4 e5 e6 e7 e8 e9 e10 e11
        have hq:=HSH.out k hlt
        rw [← HXK.out] at hq
        simp only at hq
        have j1 : ¬ (398 : Int) < ((bs np).size : Int):=by rw [bs_size];omega
        clear hq
        go_wp2_with fail
        go_roundg (u0.length - (k + 1))
        case measure => omega
        case rel => exact ⟨k + 1,by omega,by omega,by go_num,HB2⟩
      · obtain rfl : k=u0.length:=by omega
        obtain ⟨wr7,hwr7⟩ : ∃ wr7,wr7=wr:=⟨_,rfl⟩
        subst hwr7
        have HB7:=Lib.hid (HB6.out.trans (HW.out.mono HB6.out.size))
        have HT7:=Lib.hid (HT6.out.below HW.out)
        have HU7:=Lib.hid (HU6.out.below HW.out)
        have hsum : IntKind.i64.wrap ((T.length : Int) + (x.length : Int))=(U.length : Int):=by
          have h1:=HPL.out
          have h2:=HUL2.out
          have h3:=HTL.out
          rw [IntWalk.i64_in _ ⟨by omega,by omega⟩]
          omega
        clear HW HB6 HT6 HU6 HN6
        go_wp2_with fail
        clear hsum
        go_loopg [14,15,74] T.length (fun gg s14 s15 s74 wr => ∃ k : Nat,k≤T.length∧T.length - k≤gg∧s74=.int .i64 k∧Hid (Below wr7.heap.size wr7 wr))
        case atStart => exact ⟨0,Nat.zero_le _,by omega,rfl,Lib.hid (Below.refl _ _)⟩
        case round =>
          obtain ⟨k,hk,hg,rfl,HW⟩:=hrel
          by_cases hlt : k < T.length
          · have hltz : (k : Int) < (T.length : Int):=by omega
            have hk0 : (0 : Int)≤(k : Int):=by omega
            have hul3:=HUL2.out
            have hltu : k < U.length:=by omega
            have hltuz : (k : Int) < (U.length : Int):=by omega
            clear hul3
            obtain ⟨adk,Ax,cx,rfl,hb,hdx,e0,e1,e2,e3,e4,e5,e6,e7,e8,e9,e10,e11⟩:=node_read (HT7.out.below HW.out) hlt
            obtain ⟨adu,Ay,cy,rfl,hbu,hdy,f0,f1,-,-,-,-,-,-,-,-,-,f11⟩:=node_read (HU7.out.below HW.out) hltu
            obtain ⟨l1,l2,l3⟩:=HLO.out k hlt hltu
            rw [l1] at f0
            rw [l2] at f1
            rw [l3] at hdy f11
            clear l1 l2 l3
            generalize T[k]=xk at *
            obtain ⟨np,nk,ns,nt,⟨o1,o2,o3,o4,o5,o6,o7⟩,nd⟩:=xk
            simp only at hdx hdy f0 f1 f11 e0 e1 e2 e3 e4 e5 e6 e7 e8 e9 e10 e11
            obtain ⟨W2,hW2⟩ : ∃ W2,W2=wr.alloc (.cells #[.string (bs np),.int .i64 nk,.int .i64 ns,.string (bs nt),.int .i64 o1,.int .i64 o2,.int .i64 o3,.string (bs o4),.string (bs o5),.int .i64 o6,.int .i64 o7,.slice Ax nd.length cx] 29):=⟨_,rfl⟩
            obtain ⟨gn,hgn⟩ : ∃ gn,gn=wr.heap.size:=⟨_,rfl⟩
            have b2 : Below wr.heap.size wr W2:=by rw [hW2];exact (Below.refl _ _).alloc (Nat.le_refl _) _
            have K2 : Blk W2 gn 29 (nodeC (⟨np,nk,ns,nt,⟨o1,o2,o3,o4,o5,o6,o7⟩,nd⟩,.slice Ax nd.length cx)).toArray:=by rw [hW2,hgn];exact Blk.new _ _ _
            have HB2:=Lib.hid (HW.out.trans (b2.mono HW.out.size))
            have HK2:=Lib.hid K2
            have HD2:=Lib.hid (hdx.below b2)
            have HE2:=Lib.hid (hdy.below b2)
            have hbw : W2.heap.size=wr.heap.size + 1:=by rw [hW2];simp
            have hbu2 : (adu.add (k * 12)).block < wr.heap.size:=by rw [block_of_add];exact hbu
            have HF0 : Hid (∀ W,Below W2.heap.size W2 W→W.cell? (adu.add (k * 12))=some (.string (bs np))):=Lib.hid (fun W h => ((b2.trans (h.mono b2.size)).cell (p:=adu.add (k * 12)) hbu2).trans f0)
            have HF1 : Hid (∀ W,Below W2.heap.size W2 W→W.cell? ⟨(adu.add (k * 12)).block,(adu.add (k * 12)).off + 1,none⟩=some (.int .i64 nk)):=Lib.hid (fun W h => ((b2.trans (h.mono b2.size)).cell (p:=⟨(adu.add (k * 12)).block,(adu.add (k * 12)).off + 1,none⟩) hbu2).trans f1)
            have HF11 : Hid (∀ W,Below W2.heap.size W2 W→W.cell? ⟨(adu.add (k * 12)).block,(adu.add (k * 12)).off + 11,none⟩=some (.slice Ay nd.length cy)):=Lib.hid (fun W h => ((b2.trans (h.mono b2.size)).cell (p:=⟨(adu.add (k * 12)).block,(adu.add (k * 12)).off + 11,none⟩) hbu2).trans f11)
            clear b2 K2 hdx hdy HW hbu hbu2 hbw f0 f1 f11
            go_upto_region 18 with fail
            rw [← hW2,← hgn]
            clear hW2 hgn e0 e1 e2 e3 e4 e5 e6 e7 e8 e9 e10 e11
            refine wp_region_G (S:=fun W => Below W2.heap.size W2 W) (by kernel_rfl) (Below.refl _ _).drew ?_
            refine wpG_take (i:=0) (v:=?vy1) rfl (by kernel_rfl) (by kernel_rfl) (by kernel_rfl) (fun _ _ _ h => h) (Or.inl ⟨by rfl,?hyy1⟩) ?resty1
            case hyy1 => (intro W hSw;left;(try dsimp only at hSw);go_simp;try with_reducible rfl)
            simp only [Act.put,List.setIfInBounds_toArray,List.set_cons_zero,List.set_cons_succ,List.getElem_toArray,List.getElem_cons_zero,List.getElem_cons_succ]
            refine wpG_take (i:=1) (v:=?vy2) rfl (by kernel_rfl) (by kernel_rfl) (by kernel_rfl) (fun _ _ _ h => h) (Or.inl ⟨by rfl,?hyy2⟩) ?resty2
            case hyy2 => (intro W hSw;left;(try dsimp only at hSw);go_simp;try with_reducible rfl)
            simp only [Act.put,List.setIfInBounds_toArray,List.set_cons_zero,List.set_cons_succ,List.getElem_toArray,List.getElem_cons_zero,List.getElem_cons_succ]
            refine wpG_take (i:=2) (v:=?vy3) rfl (by kernel_rfl) (by kernel_rfl) (by kernel_rfl) (fun _ _ _ h => h) (Or.inl ⟨by rfl,?hyy3⟩) ?resty3
            case hyy3 => (intro W hSw;left;(try dsimp only at hSw);go_simp;try with_reducible rfl)
            simp only [Act.put,List.setIfInBounds_toArray,List.set_cons_zero,List.set_cons_succ,List.getElem_toArray,List.getElem_cons_zero,List.getElem_cons_succ]
            refine wpG_take (i:=3) (v:=?vy4) rfl (by kernel_rfl) (by kernel_rfl) (by kernel_rfl) (fun _ _ _ h => h) (Or.inl ⟨by rfl,?hyy4⟩) ?resty4
            case hyy4 => (intro W hSw;left;(try dsimp only at hSw);go_simp;try with_reducible rfl)
            simp only [Act.put,List.setIfInBounds_toArray,List.set_cons_zero,List.set_cons_succ,List.getElem_toArray,List.getElem_cons_zero,List.getElem_cons_succ]
            refine wpG_take (i:=4) (v:=?vy5) rfl (by kernel_rfl) (by kernel_rfl) (by kernel_rfl) (fun _ _ _ h => h) (Or.inl ⟨by rfl,?hyy5⟩) ?resty5
            case hyy5 => (intro W hSw;left;(try dsimp only at hSw);have c0:=HF0.out W hSw;go_simp;try with_reducible rfl)
            simp only [Act.put,List.setIfInBounds_toArray,List.set_cons_zero,List.set_cons_succ,List.getElem_toArray,List.getElem_cons_zero,List.getElem_cons_succ]
            refine wpG_take (i:=5) (v:=?vy6) rfl (by kernel_rfl) (by kernel_rfl) (by kernel_rfl) (fun _ _ _ h => h) (Or.inl ⟨by rfl,?hyy6⟩) ?resty6
            case hyy6 => (intro W hSw;left;(try dsimp only at hSw);go_simp;try with_reducible rfl)
            simp only [Act.put,List.setIfInBounds_toArray,List.set_cons_zero,List.set_cons_succ,List.getElem_toArray,List.getElem_cons_zero,List.getElem_cons_succ]
            refine wpG_take (i:=6) (v:=?vy7) rfl (by kernel_rfl) (by kernel_rfl) (by kernel_rfl) (fun _ _ _ h => h) (Or.inl ⟨by rfl,?hyy7⟩) ?resty7
            case hyy7 => (intro W hSw;left;(try dsimp only at hSw);have ck:=(HK2.out.below hSw HK2.out.lt).cell 0;simp only [nodeC,List.getElem?_toArray,List.getElem?_cons_zero,List.getElem?_cons_succ] at ck;go_simp;try with_reducible rfl)
            simp only [Act.put,List.setIfInBounds_toArray,List.set_cons_zero,List.set_cons_succ,List.getElem_toArray,List.getElem_cons_zero,List.getElem_cons_succ]
            refine wpG_take (i:=7) (v:=.bool false) rfl (by kernel_rfl) (by kernel_rfl) (by kernel_rfl) (fun _ _ _ h => h) (Or.inl ⟨by rfl,?hyy8⟩) ?resty8
            case hyy8 => (intro W hSw;left;(try dsimp only at hSw);go_simp;try with_reducible rfl)
            simp only [Act.put,List.setIfInBounds_toArray,List.set_cons_zero,List.set_cons_succ,List.getElem_toArray,List.getElem_cons_zero,List.getElem_cons_succ]
            refine wpG_take (i:=8) (v:=?vy9) rfl (by kernel_rfl) (by kernel_rfl) (by kernel_rfl) (fun _ _ _ h => h) (Or.inl ⟨by rfl,?hyy9⟩) ?resty9
            case hyy9 => (intro W hSw;left;(try dsimp only at hSw);go_simp;try with_reducible rfl)
            simp only [Act.put,List.setIfInBounds_toArray,List.set_cons_zero,List.set_cons_succ,List.getElem_toArray,List.getElem_cons_zero,List.getElem_cons_succ]
            refine wpG_take (i:=9) (v:=?vy10) rfl (by kernel_rfl) (by kernel_rfl) (by kernel_rfl) (fun _ _ _ h => h) (Or.inl ⟨by rfl,?hyy10⟩) ?resty10
            case hyy10 => (intro W hSw;left;(try dsimp only at hSw);go_simp;try with_reducible rfl)
            simp only [Act.put,List.setIfInBounds_toArray,List.set_cons_zero,List.set_cons_succ,List.getElem_toArray,List.getElem_cons_zero,List.getElem_cons_succ]
            refine wpG_take (i:=10) (v:=?vy11) rfl (by kernel_rfl) (by kernel_rfl) (by kernel_rfl) (fun _ _ _ h => h) (Or.inl ⟨by rfl,?hyy11⟩) ?resty11
            case hyy11 => (intro W hSw;left;(try dsimp only at hSw);go_simp;try with_reducible rfl)
            simp only [Act.put,List.setIfInBounds_toArray,List.set_cons_zero,List.set_cons_succ,List.getElem_toArray,List.getElem_cons_zero,List.getElem_cons_succ]
            refine wpG_take (i:=11) (v:=?vy12) rfl (by kernel_rfl) (by kernel_rfl) (by kernel_rfl) (fun _ _ _ h => h) (Or.inl ⟨by rfl,?hyy12⟩) ?resty12
            case hyy12 => (intro W hSw;left;(try dsimp only at hSw);go_simp;try with_reducible rfl)
            simp only [Act.put,List.setIfInBounds_toArray,List.set_cons_zero,List.set_cons_succ,List.getElem_toArray,List.getElem_cons_zero,List.getElem_cons_succ]
            refine wpG_take (i:=12) (v:=?vy13) rfl (by kernel_rfl) (by kernel_rfl) (by kernel_rfl) (fun _ _ _ h => h) (Or.inl ⟨by rfl,?hyy13⟩) ?resty13
            case hyy13 => (intro W hSw;left;(try dsimp only at hSw);go_simp;try with_reducible rfl)
            simp only [Act.put,List.setIfInBounds_toArray,List.set_cons_zero,List.set_cons_succ,List.getElem_toArray,List.getElem_cons_zero,List.getElem_cons_succ]
            refine wpG_take (i:=13) (v:=?vy14) rfl (by kernel_rfl) (by kernel_rfl) (by kernel_rfl) (fun _ _ _ h => h) (Or.inl ⟨by rfl,?hyy14⟩) ?resty14
            case hyy14 => (intro W hSw;left;(try dsimp only at hSw);have c1:=HF1.out W hSw;go_simp;try with_reducible rfl)
            simp only [Act.put,List.setIfInBounds_toArray,List.set_cons_zero,List.set_cons_succ,List.getElem_toArray,List.getElem_cons_zero,List.getElem_cons_succ]
            refine wpG_take (i:=14) (v:=?vy15) rfl (by kernel_rfl) (by kernel_rfl) (by kernel_rfl) (fun _ _ _ h => h) (Or.inl ⟨by rfl,?hyy15⟩) ?resty15
            case hyy15 => (intro W hSw;left;(try dsimp only at hSw);go_simp;try with_reducible rfl)
            simp only [Act.put,List.setIfInBounds_toArray,List.set_cons_zero,List.set_cons_succ,List.getElem_toArray,List.getElem_cons_zero,List.getElem_cons_succ]
            refine wpG_take (i:=15) (v:=?vy16) rfl (by kernel_rfl) (by kernel_rfl) (by kernel_rfl) (fun _ _ _ h => h) (Or.inl ⟨by rfl,?hyy16⟩) ?resty16
            case hyy16 => (intro W hSw;left;(try dsimp only at hSw);have ck:=(HK2.out.below hSw HK2.out.lt).cell 1;simp only [nodeC,List.getElem?_toArray,List.getElem?_cons_zero,List.getElem?_cons_succ] at ck;go_simp;try with_reducible rfl)
            simp only [Act.put,List.setIfInBounds_toArray,List.set_cons_zero,List.set_cons_succ,List.getElem_toArray,List.getElem_cons_zero,List.getElem_cons_succ]
            refine wpG_take (i:=16) (v:=.bool false) rfl (by kernel_rfl) (by kernel_rfl) (by kernel_rfl) (fun _ _ _ h => h) (Or.inl ⟨by rfl,?hyy17⟩) ?resty17
            case hyy17 => (intro W hSw;left;(try dsimp only at hSw);go_simp;try with_reducible rfl)
            simp only [Act.put,List.setIfInBounds_toArray,List.set_cons_zero,List.set_cons_succ,List.getElem_toArray,List.getElem_cons_zero,List.getElem_cons_succ]
            refine wpG_take (i:=17) (v:=?vy18) rfl (by kernel_rfl) (by kernel_rfl) (by kernel_rfl) (fun _ _ _ h => h) (Or.inl ⟨by rfl,?hyy18⟩) ?resty18
            case hyy18 => (intro W hSw;left;(try dsimp only at hSw);go_simp;try with_reducible rfl)
            simp only [Act.put,List.setIfInBounds_toArray,List.set_cons_zero,List.set_cons_succ,List.getElem_toArray,List.getElem_cons_zero,List.getElem_cons_succ]
            refine wpG_take (i:=18) (v:=?vy19) rfl (by kernel_rfl) (by kernel_rfl) (by kernel_rfl) (fun _ _ _ h => h) (Or.inl ⟨by rfl,?hyy19⟩) ?resty19
            case hyy19 => (intro W hSw;left;(try dsimp only at hSw);go_simp;try with_reducible rfl)
            simp only [Act.put,List.setIfInBounds_toArray,List.set_cons_zero,List.set_cons_succ,List.getElem_toArray,List.getElem_cons_zero,List.getElem_cons_succ]
            refine wpG_take (i:=19) (v:=?vy20) rfl (by kernel_rfl) (by kernel_rfl) (by kernel_rfl) (fun _ _ _ h => h) (Or.inl ⟨by rfl,?hyy20⟩) ?resty20
            case hyy20 => (intro W hSw;left;(try dsimp only at hSw);go_simp;try with_reducible rfl)
            simp only [Act.put,List.setIfInBounds_toArray,List.set_cons_zero,List.set_cons_succ,List.getElem_toArray,List.getElem_cons_zero,List.getElem_cons_succ]
            refine wpG_take (i:=20) (v:=?vy21) rfl (by kernel_rfl) (by kernel_rfl) (by kernel_rfl) (fun _ _ _ h => h) (Or.inl ⟨by rfl,?hyy21⟩) ?resty21
            case hyy21 => (intro W hSw;left;(try dsimp only at hSw);go_simp;try with_reducible rfl)
            simp only [Act.put,List.setIfInBounds_toArray,List.set_cons_zero,List.set_cons_succ,List.getElem_toArray,List.getElem_cons_zero,List.getElem_cons_succ]
            refine wpG_take (i:=21) (v:=?vy22) rfl (by kernel_rfl) (by kernel_rfl) (by kernel_rfl) (fun _ _ _ h => h) (Or.inl ⟨by rfl,?hyy22⟩) ?resty22
            case hyy22 => (intro W hSw;left;(try dsimp only at hSw);go_simp;try with_reducible rfl)
            simp only [Act.put,List.setIfInBounds_toArray,List.set_cons_zero,List.set_cons_succ,List.getElem_toArray,List.getElem_cons_zero,List.getElem_cons_succ]
            refine wpG_take (i:=22) (v:=?vy23) rfl (by kernel_rfl) (by kernel_rfl) (by kernel_rfl) (fun _ _ _ h => h) (Or.inl ⟨by rfl,?hyy23⟩) ?resty23
            case hyy23 => (intro W hSw;left;(try dsimp only at hSw);go_simp;try with_reducible rfl)
            simp only [Act.put,List.setIfInBounds_toArray,List.set_cons_zero,List.set_cons_succ,List.getElem_toArray,List.getElem_cons_zero,List.getElem_cons_succ]
            refine wpG_take (i:=23) (v:=?vy24) rfl (by kernel_rfl) (by kernel_rfl) (by kernel_rfl) (fun _ _ _ h => h) (Or.inl ⟨by rfl,?hyy24⟩) ?resty24
            case hyy24 => (intro W hSw;left;(try dsimp only at hSw);have c11:=HF11.out W hSw;go_simp;try with_reducible rfl)
            simp only [Act.put,List.setIfInBounds_toArray,List.set_cons_zero,List.set_cons_succ,List.getElem_toArray,List.getElem_cons_zero,List.getElem_cons_succ]
            refine wpG_take (i:=24) (v:=?vy25) rfl (by kernel_rfl) (by kernel_rfl) (by kernel_rfl) (fun _ _ _ h => h) (Or.inl ⟨by rfl,?hyy25⟩) ?resty25
            case hyy25 => (intro W hSw;left;(try dsimp only at hSw);have cv:=conv_str (HE2.out.below hSw).bytes;go_simp;try with_reducible rfl)
            simp only [Act.put,List.setIfInBounds_toArray,List.set_cons_zero,List.set_cons_succ,List.getElem_toArray,List.getElem_cons_zero,List.getElem_cons_succ]
            refine wpG_take (i:=25) (v:=?vy26) rfl (by kernel_rfl) (by kernel_rfl) (by kernel_rfl) (fun _ _ _ h => h) (Or.inl ⟨by rfl,?hyy26⟩) ?resty26
            case hyy26 => (intro W hSw;left;(try dsimp only at hSw);go_simp;try with_reducible rfl)
            simp only [Act.put,List.setIfInBounds_toArray,List.set_cons_zero,List.set_cons_succ,List.getElem_toArray,List.getElem_cons_zero,List.getElem_cons_succ]
            refine wpG_take (i:=26) (v:=?vy27) rfl (by kernel_rfl) (by kernel_rfl) (by kernel_rfl) (fun _ _ _ h => h) (Or.inl ⟨by rfl,?hyy27⟩) ?resty27
            case hyy27 => (intro W hSw;left;(try dsimp only at hSw);have ck:=(HK2.out.below hSw HK2.out.lt).cell 11;simp only [nodeC,List.getElem?_toArray,List.getElem?_cons_zero,List.getElem?_cons_succ] at ck;go_simp;try with_reducible rfl)
            simp only [Act.put,List.setIfInBounds_toArray,List.set_cons_zero,List.set_cons_succ,List.getElem_toArray,List.getElem_cons_zero,List.getElem_cons_succ]
            refine wpG_take (i:=27) (v:=?vy28) rfl (by kernel_rfl) (by kernel_rfl) (by kernel_rfl) (fun _ _ _ h => h) (Or.inl ⟨by rfl,?hyy28⟩) ?resty28
            case hyy28 => (intro W hSw;left;(try dsimp only at hSw);have cv:=conv_str (HD2.out.below hSw).bytes;go_simp;try with_reducible rfl)
            simp only [Act.put,List.setIfInBounds_toArray,List.set_cons_zero,List.set_cons_succ,List.getElem_toArray,List.getElem_cons_zero,List.getElem_cons_succ]
            refine wpG_take (i:=28) (v:=.bool false) rfl (by kernel_rfl) (by kernel_rfl) (by kernel_rfl) (fun _ _ _ h => h) (Or.inl ⟨by rfl,?hyy29⟩) ?resty29
            case hyy29 => (intro W hSw;left;(try dsimp only at hSw);go_simp;try with_reducible rfl)
            simp only [Act.put,List.setIfInBounds_toArray,List.set_cons_zero,List.set_cons_succ,List.getElem_toArray,List.getElem_cons_zero,List.getElem_cons_succ]
            refine wpG_take (i:=29) (v:=?vy30) rfl (by kernel_rfl) (by kernel_rfl) (by kernel_rfl) (fun _ _ _ h => h) (Or.inl ⟨by rfl,?hyy30⟩) ?resty30
            case hyy30 => (intro W hSw;left;(try dsimp only at hSw);go_simp;try with_reducible rfl)
            simp only [Act.put,List.setIfInBounds_toArray,List.set_cons_zero,List.set_cons_succ,List.getElem_toArray,List.getElem_cons_zero,List.getElem_cons_succ]
            refine wpG_done (by kernel_rfl) (fun w8 hb8 hS8 => ?_) _
            have HB8:=Lib.hid (HB2.out.trans (hS8.mono HB2.out.size))
            clear hb8 hS8 HF0 HF1 HF11 HD2 HE2 HK2
            go_wp2_with fail
            go_roundg (T.length - (k + 1))
            case measure => omega
            case rel => exact ⟨k + 1,by omega,by omega,by go_num,HB8⟩
          · obtain rfl : k=T.length:=by omega
            have HB8:=Lib.hid (HB7.out.trans (HW.out.mono HB7.out.size))
            have HT8:=Lib.hid (HT7.out.below HW.out)
            have HU8:=Lib.hid (HU7.out.below HW.out)
            clear HW HB7 HT7 HU7
            go_wp2_with fail
            refine (HTM.out _ HB8.out).mono ?_
            rintro e w9 ⟨mv2,rfl,hmv2,b9⟩
            have HB9:=Lib.hid (HB8.out.trans (b9.mono HB8.out.size))
            have HU9:=Lib.hid (HU8.out.below b9)
            have HN9:=Lib.hid hmv2.at_
            obtain ⟨_,Al2,cl2,-,hle2,hcl21,hcl22,-⟩:=hmv2.at_
            subst hle2
            unfold maxLen at hcl22
            clear hmv2 b9 HB8 HT8 HU8
            go_wp2_with fail
            go_loopg [16,17,18,113] u0.length (fun gg s16 s17 s18 s113 wr => ∃ k : Nat,k≤u0.length∧u0.length - k≤gg∧s113=.int .i64 k∧Hid (Below w9.heap.size w9 wr))
            case atStart => exact ⟨0,Nat.zero_le _,by omega,rfl,Lib.hid (Below.refl _ _)⟩
            case round =>
              obtain ⟨k,hk,hg,rfl,HW⟩:=hrel
              by_cases hlt : k < u0.length
              · have hltz : (k : Int) < (u0.length : Int):=by omega
                have hk0 : (0 : Int)≤(k : Int):=by omega
                obtain ⟨q,hq⟩ : ∃ q,q=T.length + k:=⟨_,rfl⟩
                have hqu : T.length + k < U.length:=by have:=HUL2.out;omega
                have hqz : (q : Int) < (U.length : Int):=by omega
                have hq0 : (0 : Int)≤(q : Int):=by omega
                have hwq : IntKind.i64.wrap ((T.length : Int) + (k : Int))=(q : Int):=by
                  have h3:=HTL.out
                  rw [IntWalk.i64_in _ ⟨by omega,by omega⟩]
                  omega
                obtain ⟨adk,Ax,cx,rfl,hb,hdx,e0,e1,e2,e3,e4,e5,e6,e7,e8,e9,e10,e11⟩:=node_read (HN9.out.below HW.out) hlt
                obtain ⟨adu,Ay,cy,rfl,hbu,hdy,f0,f1,f2,f3,f4,f5,f6,f7,f8,f9,f10,f11⟩:=node_read (HU9.out.below HW.out) hqu
                obtain ⟨l1,l2,l3,l4⟩:=HHI.out k hlt hqu
                have hpl:=HUL.out k hlt
                rw [l1] at f0
                rw [l2] at f1
                rw [l3] at f4 f5 f6 f7 f8 f9 f10
                rw [l4] at hdy f11
                clear l1 l2 l3 l4
                generalize U[T.length + k].same=sq at *
                generalize U[T.length + k].target=tq at *
                rw [← hq] at f0 f1 f2 f3 f4 f5 f6 f7 f8 f9 f10 f11
                generalize u0[k]=xk at *
                obtain ⟨np,nk,ns,nt,⟨o1,o2,o3,o4,o5,o6,o7⟩,nd⟩:=xk
                simp only at hpl hdx hdy f0 f1 f2 f3 f4 f5 f6 f7 f8 f9 f10 f11 e0 e1 e2 e3 e4 e5 e6 e7 e8 e9 e10 e11
                have HQQ:=Lib.hid hq
                clear hq hqu
                obtain ⟨W2,hW2⟩ : ∃ W2,W2=wr.alloc (.cells #[.string (bs np),.int .i64 nk,.int .i64 ns,.string (bs nt),.int .i64 o1,.int .i64 o2,.int .i64 o3,.string (bs o4),.string (bs o5),.int .i64 o6,.int .i64 o7,.slice Ax nd.length cx] 29):=⟨_,rfl⟩
                obtain ⟨g17,hg17⟩ : ∃ g17,g17=wr.heap.size:=⟨_,rfl⟩
                have b2 : Below wr.heap.size wr W2:=by rw [hW2];exact (Below.refl _ _).alloc (Nat.le_refl _) _
                have K17 : Blk W2 g17 29 (nodeC (⟨np,nk,ns,nt,⟨o1,o2,o3,o4,o5,o6,o7⟩,nd⟩,.slice Ax nd.length cx)).toArray:=by rw [hW2,hg17];exact Blk.new _ _ _
                obtain ⟨W3,hW3⟩ : ∃ W3,W3=W2.alloc (.cells #[.string (bs (255 :: 47 :: np)),.int .i64 nk,.int .i64 sq,.string (bs tq),.int .i64 o1,.int .i64 o2,.int .i64 o3,.string (bs o4),.string (bs o5),.int .i64 o6,.int .i64 o7,.slice Ay nd.length cy] 29):=⟨_,rfl⟩
                obtain ⟨g18,hg18⟩ : ∃ g18,g18=W2.heap.size:=⟨_,rfl⟩
                have b3 : Below W2.heap.size W2 W3:=by rw [hW3];exact (Below.refl _ _).alloc (Nat.le_refl _) _
                have K18 : Blk W3 g18 29 (nodeC (⟨255 :: 47 :: np,nk,sq,tq,⟨o1,o2,o3,o4,o5,o6,o7⟩,nd⟩,.slice Ay nd.length cy)).toArray:=by rw [hW3,hg18];exact Blk.new _ _ _
                have b23 : Below wr.heap.size wr W3:=b2.trans (b3.mono b2.size)
                have HB3:=Lib.hid (HW.out.trans (b23.mono HW.out.size))
                have K17':=K17.below b3 K17.lt
                have cv1:=conv_str (hdx.below b23).bytes
                have cv2:=conv_str (hdy.below b23).bytes
                have hbu2 : (adu.add (q * 12)).block < wr.heap.size:=by rw [block_of_add];exact hbu
                have HFB:=Lib.hid (fun (o : Nat) (u : Value) (e : wr.cell? ⟨(adu.add (q * 12)).block,o,none⟩=some u) => ((b2.cell (p:=⟨(adu.add (q * 12)).block,o,none⟩) hbu2).trans e : W2.cell? ⟨(adu.add (q * 12)).block,o,none⟩=some u))
                have j0 : W2.cell? (adu.add (q * 12))=some (.string (bs (255 :: 47 :: np))):=(b2.cell (p:=adu.add (q * 12)) hbu2).trans f0
                have j1:=HFB.out _ _ f1
                have j2:=HFB.out _ _ f2
                have j3:=HFB.out _ _ f3
                have j4:=HFB.out _ _ f4
                have j5:=HFB.out _ _ f5
                have j6:=HFB.out _ _ f6
                have j7:=HFB.out _ _ f7
                have j8:=HFB.out _ _ f8
                have j9:=HFB.out _ _ f9
                have j10:=HFB.out _ _ f10
                have j11:=HFB.out _ _ f11
                clear f0 f1 f2 f3 f4 f5 f6 f7 f8 f9 f10 f11 HFB b2 b3 b23 hdx hdy HW hbu hbu2 K17
                have HK17:=Lib.hid K17'
                have HK18:=Lib.hid K18
                have HCV1:=Lib.hid cv1
                have HCV2:=Lib.hid cv2
                clear K17' K18 cv1 cv2
                go_upto_region 24 with fail
                rw [← hW2,← hg17]
                clear hW2 hg17 e0 e1 e2 e3 e4 e5 e6 e7 e8 e9 e10 e11
                go_upto_region 25 with fail
                rw [← hW3,← hg18]
                clear hW3 hg18 j0 j1 j2 j3 j4 j5 j6 j7 j8 j9 j10 j11
                have z9 : (bs np).size≤400:=by rw [bs_size];exact hpl
                have r1 : ((bs (255 :: 47 :: np)).toList != ((⟨#[255,47]⟩ : ByteArray) ++ bs np).toList)=false:=by
                  rw [show (⟨#[255,47]⟩ : ByteArray)=bs [255,47] from rfl,bs_append]
                  simp
                have r2 : ((bs (255 :: 47 :: np)).toList == ((⟨#[255,47]⟩ : ByteArray) ++ bs np).toList)=true:=by
                  rw [show (⟨#[255,47]⟩ : ByteArray)=bs [255,47] from rfl,bs_append]
                  simp
                obtain ⟨c0,c1,c2,c3,c4,c5,c6,c7,c8,c9,c10,c11⟩:=HK17.out.node
                obtain ⟨d0,d1,d2,d3,d4,d5,d6,d7,d8,d9,d10,d11⟩:=HK18.out.node
                have cv1:=HCV1.out
                have cv2:=HCV2.out
                generalize bs (255 :: 47 :: np)=bq at *
                generalize bs np=bp at *
                generalize bs nd=bd at *
                generalize bs o4=b4 at *
                generalize bs o5=b5 at *
                go_wp2_with fail
                go_roundg (u0.length - (k + 1))
                case measure => omega
                case rel => exact ⟨k + 1,by omega,by omega,by go_num,HB3⟩
              · obtain rfl : k=u0.length:=by omega
                go_wp2_with fail
                go_ret
                exact ⟨rfl,HB9.out.trans (HW.out.mono HB9.out.size)⟩
      end Go.Proofs.YtphmhmdcaafmdaaGreatDoor
