import Derived.Test.YtphmhmdcaafmdaaGreatDoorRecsQ
import Derived.Test.YtphmhmdcaafmdaaGreatDoorMemberP
import Derived.Test.YtphmhmdcaafmdaaGreatDoorTreeE
import Derived.Test.YtphmhmdcaafmdaaGreatDoorOctalB
import Derived.Deep.QuietTactic
import Derived.BigQuiet
import Derived.BigRegion
import Derived.Deep.DeepCutAuto
import Derived.Test.YtphmhmdcaafmdaaGreatDoorHeadWrite
import Derived.Test.YtphmhmdcaafmdaaGreatDoorPadsQ
import Derived.Deep.RegionHeld3
import Derived.Deep.AppendLies
namespace Go.Proofs.YtphmhmdcaafmdaaGreatDoor
set_option linter.all false
section
open Go.RowKit
theorem own_kept_set {w : World} {base g n size : Nat} {e t : TypeId} {v : Value} {xs : List Value} {cs : Array Value} (hown : w.ownsRow base e size v n xs) (hg : Blk w g t cs) (hne : e≠t) (i : Nat) (u : Value) : (w.setCell ⟨g,i,none⟩ u).ownsRow base e size v n xs :=
  hown.kept (row:=some g) ⟨rfl,rfl,rfl,by simp [World.setCell],fun k _ hk => Below.heap_setCell _ _ _ _ (fun e => hk (by simp [e]))⟩ (.inr (own_blk_ne hown hg hne))
def PackAt (w : World) (B g : Nat) (hc : List Value) (l : List RecS) : Prop :=
  B≤g∧hc.length=11∧∃ v,Blk w g 110 (hc ++ [v]).toArray∧RecsOwn w B v l
theorem rec_ne_packed : 174≠110:=by decide
section
variable {w w' : World} {B g : Nat} {hc : List Value} {l : List RecS}
theorem PackAt.below (h : PackAt w B g hc l) (hb : Below w.heap.size w w') : PackAt w' B g hc l:=by
  obtain ⟨h1,h2,v,h3,h4⟩:=h
  exact ⟨h1,h2,v,h3.below hb h3.lt,h4.below hb⟩
theorem PackAt.mono {B' : Nat} (h : PackAt w B g hc l) (hB : B'≤B) : PackAt w B' g hc l:=by
  obtain ⟨h1,h2,v,h3,h4⟩:=h
  exact ⟨by omega,h2,v,h3,ownsRow_mono h4 hB⟩
theorem PackAt.lt (h : PackAt w B g hc l) : g < w.heap.size:=by
  obtain ⟨h1,h2,v,h3,h4⟩:=h
  exact h3.lt
theorem PackAt.cell (h : PackAt w B g hc l) {i : Nat} (hi : i < 11) : w.cell? ⟨g,i,none⟩=hc[i]?:=by
  obtain ⟨h1,h2,v,h3,h4⟩:=h
  rw [h3.cell i,List.getElem?_toArray,List.getElem?_append_left (by omega)]
theorem PackAt.frozen (h : PackAt w B g hc l) (i : Nat) : w.frozen? ⟨g,i,none⟩=false:=by
  obtain ⟨h1,h2,v,h3,h4⟩:=h
  exact h3.frozen i
theorem PackAt.set_ (h : PackAt w B g hc l) {i : Nat} (hi : i < 11) (u : Value) : PackAt (w.setCell ⟨g,i,none⟩ u) B g (hc.set i u) l:=by
  obtain ⟨h1,h2,v,h3,h4⟩:=h
  refine ⟨h1,by rw [List.length_set];exact h2,v,?_,own_kept_set h4 h3 rec_ne_packed i u⟩
  have:=h3.set_ i u
  rw [List.setIfInBounds_toArray,List.set_append_left _ _ (by omega)] at this
  exact this
theorem PackAt.recs (h : PackAt w B g hc l) : ∃ A c,w.cell? ⟨g,11,none⟩=some (.slice A l.length c)∧RecsOwn w B (.slice A l.length c) l:=by
  obtain ⟨h1,h2,v,h3,h4⟩:=h
  obtain ⟨A,c,rfl,-⟩:=ownsRow_read h4
  refine ⟨A,c,?_,h4⟩
  rw [h3.cell 11,List.getElem?_toArray,List.getElem?_append_right (by omega),h2]
  rfl
end
set_option maxRecDepth 100000 in
set_option maxHeartbeats 1000000 in
theorem say_any (B g : Nat) (hc : List Value) (l : List RecS) (k v : List UInt8) (w : World) (h : PackAt w B g hc l) (hl : l.length≤20) :
    Calls Tryz.prog 94 #[.pointer (some ⟨g,0,none⟩),.string (bs k),.string (bs v)] w fun e w' => e=.returned (.tuple #[])∧PackAt w' B g hc (l ++ [⟨k,v⟩])∧Below B w w':=by
  obtain ⟨i9,hi9,hy0,hy1,hy2⟩:=info_parts recinfo
  have hlt:=h.lt
  obtain ⟨h1,h2,v0,hbk,hown⟩:=h
  obtain ⟨A0,n0,rfl,-⟩:=ownsRow_read hown
  have c11 : w.cell? ⟨g,11,none⟩=some (.slice A0 l.length n0):=by
    rw [hbk.cell 11,List.getElem?_toArray,List.getElem?_append_right (by omega),h2]
    rfl
  have HB:=Lib.hid hbk
  have HO:=Lib.hid hown
  have hone : ∀ u∈[Value.string (bs k),.string (bs v)],u.oneCell'=true:=by simp [Value.oneCell']
  have hrc : Hid (recC ⟨k,v⟩=[.string (bs k),.string (bs v)]):=Lib.hid rfl
  clear hbk hown
  generalize bs k=bk at *
  generalize bs v=bv at *
  go_enter Tryz.func94,Tryz.ntmps94
  go_wp2_with (at_builtin;refine wpList_append_any _ rfl (.tmp 10) (.tmp 14) _ rfl B 174 i9 _ 2 32 Tryz.underlying108 hi9 hy0 hy1 hy2 rfl (by omega) _ l.length (l.flatMap recC) rfl (ownsRow_below HO.out ((Below.refl _ _).alloc (Nat.le_refl _) _)) (w.heap.size + 1) (some ⟨w.heap.size,0,none⟩) 1 1 [.string bk,.string bv] rfl (new_row w 174 [.string bk,.string bv] 1 2 rfl) hone (by simp only [maxLen];omega) (by omega) (by simp;omega) ?_;intro v9 w9 hown9 hg9 hat9;obtain ⟨A9,c9,hv9,-⟩:=ownsRow_read hown9;subst hv9;have hb9:=(HB.out.alloc (.cells #[.string bk,.string bv] 174)).grown hg9 (fun e => own_blk_ne HO.out HB.out rec_ne_packed e.symm);have z11:=hb9.frozen 11;have HO9:=Lib.hid hown9;have HG9:=Lib.hid hg9;have HB9:=Lib.hid hb9;have d11 : w9.cell? ⟨g,11,none⟩=some (.slice A0 l.length n0):=by {rw [hb9.cell 11,List.getElem?_toArray,List.getElem?_append_right (by omega),h2];rfl};clear hown9 hg9 hb9 hat9)
  refine bodyPost_end (results_none rfl _ _ _) rfl ?_
  refine ⟨rfl,⟨h1,h2,.slice A9 (l.length + 1) c9,?_,?_⟩,?_⟩
  · have:=HB9.out.set_ 11 (.slice A9 (l.length + 1) c9)
    rw [List.setIfInBounds_toArray,List.set_append_right _ _ (by omega),h2] at this
    exact this
  · have:=own_kept_set HO9.out HB9.out rec_ne_packed 11 (.slice A9 (l.length + 1) c9)
    unfold RecsOwn
    rw [List.length_append,List.flatMap_append]
    simpa [hrc.out] using this
  · exact (((Below.refl B w).alloc (by omega) _).grown HG9.out (by simp;omega) (fun k e => (own_typed HO.out e).1)).setCell (p:=⟨g,11,none⟩) h1 _
def numH (n : Int) : Int:=if bigN n=true then 0 else n
def tmH (b : Bool) (n : Int) : Int:=if b=true then 0 else n
def nmH (b : Bool) (s : List UInt8) : List UInt8:=if b=true then longS else s
def txtH (most : Nat) (s t : List UInt8) : List UInt8:=if most < s.length then t else s
theorem sayIf_true (k v : List UInt8) : sayIf true k v=[⟨k,v⟩]:=rfl
theorem sayIf_false (k v : List UInt8) : sayIf false k v=[]:=rfl
set_option maxRecDepth 100000 in
set_option maxHeartbeats 1000000 in
theorem number_any (B g : Nat) (hc : List Value) (l : List RecS) (k : List UInt8) (n : Int) (hn : 0≤n) (hn2 : n≤1125899906842624) (w : World) (h : PackAt w B g hc l) (hl : l.length≤20) (h10 : P10 w) :
    Calls Tryz.prog 90 #[.pointer (some ⟨g,0,none⟩),.string (bs k),.int .i64 n,.int .i64 8] w fun e w' => e=.returned (.int .i64 (numH n))∧PackAt w' B g hc (l ++ sayIf (bigN n) k (Lib.decDigits n.toNat))∧Below B w w':=by
  have HM:=Lib.hid (fun W => Most_ok 8 (by omega) (by omega) W)
  rw [show mostI 8=2097151 by decide] at HM
  have HI:=Lib.hid (Itoa_any n ⟨by omega,by omega⟩ w h10)
  rw [show Lib.itoa n=Lib.decDigits n.toNat by have:=itoa_nat n.toNat;rwa [Int.toNat_of_nonneg hn] at this] at HI
  have d1 : decide (n < 0)=false:=decide_eq_false (by omega)
  have hlt:=h.lt
  have h1:=h.1
  have HP:=Lib.hid h
  clear h10 h
  by_cases hb : bigN n=true
  · have hb2 : 2097151 < n:=by unfold bigN at hb;simpa using hb
    have d2 : decide (2097151 < n)=true:=decide_eq_true hb2
    have d3 : decide (n > 2097151)=true:=decide_eq_true hb2
    have HS:=Lib.hid (fun W (hp : PackAt W B g hc l) => say_any B g hc l k (Lib.decDigits n.toNat) W hp hl)
    rw [hb,sayIf_true,show numH n=0 from if_pos hb]
    clear hb
    generalize bs (Lib.decDigits n.toNat)=bd at *
    generalize bs k=bk at *
    go_enter Tryz.func90,Tryz.ntmps90
    go_wp2_with fail
    refine (HM.out _).mono ?_
    rintro e w1 ⟨rfl,rfl⟩
    go_wp2_with fail
    refine HI.out.mono ?_
    rintro e w2 ⟨rfl,b2⟩
    have HP2:=Lib.hid (HP.out.below b2)
    go_wp2_with fail
    refine (HS.out _ HP2.out).mono ?_
    rintro e w3 ⟨rfl,hp,b3⟩
    have HF:=Lib.hid (show Below B w w3 from (b2.mono (by omega)).trans b3)
    go_wp2_with fail
    go_ret
    exact ⟨rfl,hp,HF.out⟩
  · have hb2 : ¬ 2097151 < n:=by unfold bigN at hb;simpa using hb
    have d2 : decide (2097151 < n)=false:=decide_eq_false hb2
    have d3 : decide (n > 2097151)=false:=decide_eq_false hb2
    have hb3 : bigN n=false:=by simpa using hb
    rw [hb3,sayIf_false,List.append_nil,show numH n=n from if_neg hb]
    clear hb hb3
    generalize bs k=bk at *
    go_enter Tryz.func90,Tryz.ntmps90
    go_wp2_with fail
    refine (HM.out _).mono ?_
    rintro e w1 ⟨rfl,rfl⟩
    go_wp2_with fail
    go_ret
    exact ⟨rfl,HP.out,Below.refl _ _⟩
set_option maxRecDepth 100000 in
set_option maxHeartbeats 1000000 in
theorem text_any (B g : Nat) (hc : List Value) (l : List RecS) (k s t : List UInt8) (most : Nat) (hm : most≤1000) (hs : s.length≤1000) (w : World) (h : PackAt w B g hc l) (hl : l.length≤20) :
    Calls Tryz.prog 91 #[.pointer (some ⟨g,0,none⟩),.string (bs k),.string (bs s),.int .i64 most,.string (bs t)] w fun e w' => e=.returned (.string (bs (txtH most s t)))∧PackAt w' B g hc (l ++ sayIf (decide (most < s.length)) k s)∧Below B w w':=by
  have hz:=bs_size s
  have HP:=Lib.hid h
  have HS:=Lib.hid (say_any B g hc l k s w h hl)
  clear h
  by_cases hb : most < s.length
  · have d1 : (most : Int) < (s.length : Int):=by omega
    have d2 : decide (most < s.length)=true:=decide_eq_true hb
    rw [show txtH most s t=t from if_pos hb,d2,sayIf_true]
    generalize bs s=bS at *
    generalize bs k=bk at *
    generalize bs t=bt at *
    go_enter Tryz.func91,Tryz.ntmps91
    go_wp2_with fail
    refine HS.out.mono ?_
    rintro e w3 ⟨rfl,hp,b3⟩
    go_wp2_with fail
    go_ret
    exact ⟨rfl,hp,b3⟩
  · have d1 : ¬ (most : Int) < (s.length : Int):=by omega
    have d2 : decide (most < s.length)=false:=decide_eq_false hb
    rw [show txtH most s t=s from if_neg hb,d2,sayIf_false,List.append_nil]
    generalize bs s=bS at *
    generalize bs k=bk at *
    generalize bs t=bt at *
    go_enter Tryz.func91,Tryz.ntmps91
    go_wp2_with fail
    go_ret
    exact ⟨rfl,HP.out,Below.refl _ _⟩
end
section
open Go.RowKit
def hcL (h : PHead) : List Value:=[.string (bs h.name),.string (bs h.pre),.string (bs h.link),.int .i64 h.mode,.int .i64 h.uid,.int .i64 h.gid,.int .i64 h.size,.int .i64 h.time,.int .u8 h.type.toNat,.string (bs h.user),.string (bs h.group)]
def PkSt (w0 : World) (cs : Array Value) (g : Nat) (hc : List Value) (l : List RecS) (W : World) : Prop :=
  Blk W w0.heap.size 58 cs∧PackAt W (w0.heap.size + 1) g hc l∧Below w0.heap.size w0 W∧w0.heap.size < W.heap.size
section
variable {w0 W W' : World} {cs : Array Value} {g : Nat} {hc hc' : List Value} {l l' : List RecS}
theorem PkSt.below (h : PkSt w0 cs g hc l W) (hb : Below W.heap.size W W') : PkSt w0 cs g hc l W' :=
  ⟨h.1.below hb h.1.lt,h.2.1.below hb,h.2.2.1.trans (hb.mono h.2.2.1.size),Nat.lt_of_lt_of_le h.2.2.2 hb.size⟩
theorem PkSt.next (h : PkSt w0 cs g hc l W) (hp : PackAt W' (w0.heap.size + 1) g hc' l') (hb : Below (w0.heap.size + 1) W W') : PkSt w0 cs g hc' l' W' :=
  ⟨h.1.below hb (Nat.lt_succ_self _),hp,h.2.2.1.trans (hb.mono (Nat.le_succ _)),Nat.lt_of_lt_of_le h.2.2.2 hb.size⟩
theorem PkSt.set_ (h : PkSt w0 cs g hc l W) {i : Nat} (hi : i < 11) (u : Value) : PkSt w0 cs g (hc.set i u) l (W.setCell ⟨g,i,none⟩ u) :=
  h.next (h.2.1.set_ hi u) ((Below.refl _ _).setCell (p:=⟨g,i,none⟩) h.2.1.1 u)
theorem PkSt.ent (h : PkSt w0 cs g hc l W) (i : Nat) : W.cell? ⟨w0.heap.size,i,none⟩=cs[i]?:=h.1.cell i
end
theorem PkSt.start {w W0 : World} {cs : Array Value} (hc : List Value) (h11 : hc.length=11) (h1 : Blk W0 w.heap.size 58 cs) (h2 : Below w.heap.size w W0) (h3 : W0.heap.size=w.heap.size + 1) :
    PkSt w cs W0.heap.size hc [] (W0.alloc (.cells (hc ++ [Value.slice none 0 0]).toArray 110)).drew:=by
  refine ⟨(h1.alloc _).drew,⟨by omega,h11,.slice none 0 0,(Blk.new W0 _ _).drew,World.ownsRow_nil _ _ _ _⟩,(h2.alloc h2.size _).drew,?_⟩
  show w.heap.size < (W0.alloc _).heap.size
  simp;omega
set_option maxRecDepth 100000 in
set_option maxHeartbeats 8000000 in
theorem pack_any (x : EntP) (h : EntOk x) (A : Option Addr) (c : Nat) (w : World) (h10 : P10 w) :
    Calls Tryz.prog 47 #[.agg (entC x (.slice A x.data.length c)).toArray] w fun e w' => ∃ g,e=.returned (.pointer (some ⟨g,0,none⟩))∧PackAt w' w.heap.size g (hcL (packH x)) (packR x)∧Below w.heap.size w w':=by
  have hok:=h
  have hR : packR x=packR x:=rfl
  have HP10 : Hid (∀ W,Below w.heap.size w W→P10 W):=Lib.hid (fun W hb => h10.below hb)
  obtain ⟨hne,hnul⟩:=h.path_ne
  have hHE : ∃ H,H=hcL (packH x):=⟨_,rfl⟩
  obtain ⟨H,hH⟩:=hHE
  obtain ⟨R,hRR⟩ : ∃ R,R=packR x:=⟨_,rfl⟩
  rw [← hH,← hRR]
  unfold hcL packH at hH
  unfold packR at hRR
  obtain ⟨path,kind,target,⟨mode,uid,gid,user,group,second,nano⟩,data⟩:=x
  obtain ⟨⟨p1,p2⟩,⟨⟨m1,m2⟩,⟨m3,m4⟩,⟨m5,m6⟩,⟨u1,u2⟩,⟨g1,g2⟩,htime⟩,hk,⟨d1,d2⟩,hn,⟨t1,t2,t6⟩⟩:=h
  simp only at hH hRR p1 p2 m1 m2 m3 m4 m5 m6 u1 u2 g1 g2 htime hk d1 d2 hn t1 t2 t6 hne hnul
  have hk1 : 1≤kind∧kind≤4:=by rcases hk with rfl | rfl | rfl | rfl <;> decide
  clear hok hn t2 t6 d2 u2 g2 hR h10
  unfold entC
  simp only
  obtain ⟨cs,hcs⟩ : ∃ cs : Array Value,cs=#[.string (bs path),.int .i64 kind,.string (bs target),.int .i64 mode,.int .i64 uid,.int .i64 gid,.string (bs user),.string (bs group),.int .i64 second,.int .i64 nano,.slice A data.length c]:=⟨_,rfl⟩
  obtain ⟨W0,hW0⟩ : ∃ W0,W0=w.alloc (.cells #[.string (bs path),.int .i64 kind,.string (bs target),.int .i64 mode,.int .i64 uid,.int .i64 gid,.string (bs user),.string (bs group),.int .i64 second,.int .i64 nano,.slice A data.length c] 58):=⟨_,rfl⟩
  have hB0 : Blk W0 w.heap.size 58 cs:=by rw [hW0,hcs];exact Blk.new _ _ _
  have hb0 : Below w.heap.size w W0:=by rw [hW0];exact (Below.refl _ _).alloc (Nat.le_refl _) _
  have hs0 : W0.heap.size=w.heap.size + 1:=by rw [hW0];simp
  have e1 : W0.cell? ⟨w.heap.size,1,none⟩=some (.int .i64 kind):=by rw [hB0.cell 1,hcs];rfl
  have e3 : W0.cell? ⟨w.heap.size,3,none⟩=some (.int .i64 mode):=by rw [hB0.cell 3,hcs];rfl
  have e10 : W0.cell? ⟨w.heap.size,10,none⟩=some (.slice A data.length c):=by rw [hB0.cell 10,hcs];rfl
  have HB0:=Lib.hid hB0
  have HBW:=Lib.hid hb0
  have HS0:=Lib.hid hs0
  have HH:=Lib.hid hH
  have HRR:=Lib.hid hRR
  have HTM:=Lib.hid htime
  clear hB0 hb0 hs0 hH hRR htime
  obtain ⟨G,hG⟩ : ∃ G,G=w.heap.size:=⟨_,rfl⟩
  go_enter Tryz.func47,Tryz.ntmps47
  go_upto_region 1 with fail
  rw [← hW0]
  have HW0:=Lib.hid hW0
  clear hW0
  go_cut [3] from 12 to 23 (fun s3 wx => ∃ g,s3=.pointer (some ⟨g,0,none⟩)∧Hid (PkSt w cs g [.string ⟨#[]⟩,.string ⟨#[]⟩,.string ⟨#[]⟩,.int .i64 mode,.int .i64 0,.int .i64 0,.int .i64 data.length,.int .i64 0,.int .u8 (typeK kind).toNat,.string ⟨#[]⟩,.string ⟨#[]⟩] [] wx))
  case first =>
    rcases hk with rfl | rfl | rfl | rfl
    all_goals
      go_region
      go_wp2_with fail
      go_meet
      case rel => exact ⟨_,rfl,Lib.hid (PkSt.start _ rfl HB0.out HBW.out HS0.out)⟩
  case rest =>
    obtain ⟨g,rfl,HS⟩:=hcut
    clear e1 e3 e10 HB0 HBW HS0 HW0
    have hk10 : (kind == 0)=false:=by rw [beq_eq_false_iff_ne];omega
    clear hk10
    have HNum:=Lib.hid (fun (k : List UInt8) (n : Int) (h0 : 0≤n) (h1 : n≤1125899906842624) (hc : List Value) (l : List RecS) (W : World) (hp : PkSt w cs g hc l W) (hl : l.length≤20) => number_any (w.heap.size + 1) g hc l k n h0 h1 W hp.2.1 hl (HP10.out W hp.2.2.1))
    have HTxt:=Lib.hid (fun (k s t : List UInt8) (most : Nat) (hm : most≤1000) (hs : s.length≤1000) (hc : List Value) (l : List RecS) (W : World) (hp : PkSt w cs g hc l W) (hl : l.length≤20) => text_any (w.heap.size + 1) g hc l k s t most hm hs W hp.2.1 hl)
    have HSay:=Lib.hid (fun (k v : List UInt8) (hc : List Value) (l : List RecS) (W : World) (hp : PkSt w cs g hc l W) (hl : l.length≤20) => say_any (w.heap.size + 1) g hc l k v W hp.2.1 hl)
    have HE : Hid (∀ hc l W,PkSt w cs g hc l W→W.cell? ⟨w.heap.size,0,none⟩=some (.string (bs path))∧W.cell? ⟨w.heap.size,2,none⟩=some (.string (bs target))∧W.cell? ⟨w.heap.size,4,none⟩=some (.int .i64 uid)∧W.cell? ⟨w.heap.size,5,none⟩=some (.int .i64 gid)∧W.cell? ⟨w.heap.size,6,none⟩=some (.string (bs user))∧W.cell? ⟨w.heap.size,7,none⟩=some (.string (bs group))∧W.cell? ⟨w.heap.size,8,none⟩=some (.int .i64 second)∧W.cell? ⟨w.heap.size,9,none⟩=some (.int .i64 nano)):=Lib.hid (fun hc l W hp => by
      have hb:=hp.1
      rw [hcs] at hb
      exact ⟨hb.cell 0,hb.cell 2,hb.cell 4,hb.cell 5,hb.cell 6,hb.cell 7,hb.cell 8,hb.cell 9⟩)
    clear hcs
    obtain ⟨-,-,-,x3,-,-,-,-⟩:=HE.out _ _ _ HS.out
    have HC:=Lib.hid (HNum.out gidK gid m5 m6 _ _ _ HS.out (by simp))
    rw [show bs gidK=(⟨#[103,105,100]⟩ : ByteArray) from rfl] at HC
    go_wp2_with fail
    refine HC.out.mono ?_
    rintro e w1 ⟨rfl,hp1,b1⟩
    have HS1:=Lib.hid (HS.out.next hp1 b1)
    have q:=HS1.out.2.1.cell (i:=5) (by decide)
    have z:=HS1.out.2.1.frozen 5
    simp only [List.getElem?_cons_succ,List.getElem?_cons_zero] at q
    clear hp1 b1 HC HS x3
    go_upto_region 4 with fail
    have HT1:=Lib.hid (HS1.out.set_ (i:=5) (by decide) (.int .i64 (numH gid)))
    simp only [List.set_cons_zero,List.set_cons_succ] at HT1
    clear HS1 q z
    generalize w1.setCell ⟨g,5,none⟩ (.int .i64 (numH gid))=W1 at *
    obtain ⟨-,-,-,-,-,x5,-,-⟩:=HE.out _ _ _ HT1.out
    have HC:=Lib.hid (HTxt.out gnameK group [] 31 (by omega) (by omega) _ _ _ HT1.out (by simp only [List.length_append,List.length_nil];have a0:=sayIf_len (bigN gid) gidK (Lib.decDigits gid.toNat);omega))
    rw [show bs gnameK=(⟨#[103,110,97,109,101]⟩ : ByteArray) from rfl] at HC
    go_wp2_with fail
    refine HC.out.mono ?_
    rintro e w1 ⟨rfl,hp1,b1⟩
    have HS2:=Lib.hid (HT1.out.next hp1 b1)
    have q:=HS2.out.2.1.cell (i:=10) (by decide)
    have z:=HS2.out.2.1.frozen 10
    simp only [List.getElem?_cons_succ,List.getElem?_cons_zero] at q
    clear hp1 b1 HC HT1 x5
    go_upto_region 5 with fail
    have HT2:=Lib.hid (HS2.out.set_ (i:=10) (by decide) (.string (bs (txtH 31 group []))))
    simp only [List.set_cons_zero,List.set_cons_succ] at HT2
    clear HS2 q z
    generalize w1.setCell ⟨g,10,none⟩ (.string (bs (txtH 31 group [])))=W2 at *
    obtain ⟨-,x1,-,-,-,-,-,-⟩:=HE.out _ _ _ HT2.out
    have HC:=Lib.hid (HTxt.out linkK target longS 100 (by omega) (by omega) _ _ _ HT2.out (by simp only [List.length_append,List.length_nil];have a0:=sayIf_len (bigN gid) gidK (Lib.decDigits gid.toNat);have a1:=sayIf_len (decide (31 < group.length)) gnameK group;omega))
    rw [show bs linkK=(⟨#[108,105,110,107,112,97,116,104]⟩ : ByteArray) from rfl] at HC
    go_wp2_with fail
    refine HC.out.mono ?_
    rintro e w1 ⟨rfl,hp1,b1⟩
    have HS3:=Lib.hid (HT2.out.next hp1 b1)
    have q:=HS3.out.2.1.cell (i:=2) (by decide)
    have z:=HS3.out.2.1.frozen 2
    simp only [List.getElem?_cons_succ,List.getElem?_cons_zero] at q
    clear hp1 b1 HC HT2 x1
    go_upto_region 6 with fail
    have HT3:=Lib.hid (HS3.out.set_ (i:=2) (by decide) (.string (bs (txtH 100 target longS))))
    simp only [List.set_cons_zero,List.set_cons_succ] at HT3
    clear HS3 q z
    generalize w1.setCell ⟨g,2,none⟩ (.string (bs (txtH 100 target longS)))=W3 at *
    have HM12:=Lib.hid (fun W => Most_ok 12 (by omega) (by omega) W)
    rw [show mostI 12=8589934591 by decide] at HM12
    go_wp2_with fail
    refine (HM12.out _).mono ?_
    rintro e w' ⟨rfl,rfl⟩
    obtain ⟨-,-,-,-,-,-,x6,x7⟩:=HE.out _ _ _ HT3.out
    obtain ⟨tb,htb⟩ : ∃ tb,tb=timeBig ⟨mode,uid,gid,user,group,second,nano⟩:=⟨_,rfl⟩
    unfold timeBig at htb
    simp only at htb
    have HTB:=Lib.hid htb
    clear htb
    go_upto_region 7 with fail
    go_cut [70] from 54 to 70 (fun s70 wx => s70=.bool tb∧wx=W3)
    case first =>
      by_cases c1 : 0 < nano
      · have hb : tb=true:=by rw [HTB.out];exact decide_eq_true (.inl c1)
        subst hb
        have g1 : decide (nano > 0)=true:=decide_eq_true c1
        have g2 : decide (0 < nano)=true:=decide_eq_true c1
        go_wp2_with fail
        go_meet
        case rel => exact ⟨rfl,rfl⟩
      · have g1 : decide (nano > 0)=false:=decide_eq_false c1
        have g2 : decide (0 < nano)=false:=decide_eq_false c1
        by_cases c2 : second < 0
        · have hb : tb=true:=by rw [HTB.out];exact decide_eq_true (.inr (.inl c2))
          subst hb
          have g3 : decide (second < 0)=true:=decide_eq_true c2
          go_wp2_with fail
          go_meet
          case rel => exact ⟨rfl,rfl⟩
        · have g3 : decide (second < 0)=false:=decide_eq_false c2
          by_cases c3 : 8589934591 < second
          · have hb : tb=true:=by rw [HTB.out];exact decide_eq_true (.inr (.inr c3))
            subst hb
            have g4 : decide (second > 8589934591)=true:=decide_eq_true c3
            have g5 : decide (8589934591 < second)=true:=decide_eq_true c3
            go_wp2_with fail
            go_meet
            case rel => exact ⟨rfl,rfl⟩
          · have hb : tb=false:=by rw [HTB.out];exact decide_eq_false (by omega)
            subst hb
            have g4 : decide (second > 8589934591)=false:=decide_eq_false c3
            have g5 : decide (8589934591 < second)=false:=decide_eq_false c3
            go_wp2_with fail
            go_meet
            case rel => exact ⟨rfl,rfl⟩
    case rest =>
    obtain ⟨rfl,rfl⟩:=hcut
    have HTX:=Lib.hid (Text_ok second nano HTM.out wc (HP10.out _ HT3.out.2.2.1))
    have HTL:=Lib.hid (text_len second nano HTM.out)
    go_upto_if 70 with fail
    go_cut [7,8] from 71 to 89 (fun _ _ wx => Hid (PkSt w cs g [.string ⟨#[]⟩,.string ⟨#[]⟩,.string (bs (txtH 100 target longS)),.int .i64 mode,.int .i64 0,.int .i64 (numH gid),.int .i64 data.length,.int .i64 (tmH tb second),.int .u8 (typeK kind).toNat,.string ⟨#[]⟩,.string (bs (txtH 31 group []))] ([] ++ sayIf (bigN gid) gidK (Lib.decDigits gid.toNat) ++ sayIf (decide (31 < group.length)) gnameK group ++ sayIf (decide (100 < target.length)) linkK target ++ sayIf tb mtimeK (textT second nano)) wx))
    case first =>
      cases tb with
      | true =>
        clear HTB
        go_wp2_with fail
        refine HTX.out.mono ?_
        rintro e w1 ⟨rfl,b1⟩
        have HT4:=Lib.hid (HT3.out.below b1)
        have HC:=Lib.hid (HSay.out mtimeK (textT second nano) _ _ _ HT4.out (by simp only [List.length_append,List.length_nil];have a0:=sayIf_len (bigN gid) gidK (Lib.decDigits gid.toNat);have a1:=sayIf_len (decide (31 < group.length)) gnameK group;have a2:=sayIf_len (decide (100 < target.length)) linkK target;omega))
        rw [show bs mtimeK=(⟨#[109,116,105,109,101]⟩ : ByteArray) from rfl] at HC
        clear b1 HT3 x6 x7
        go_wp2_with fail
        refine HC.out.mono ?_
        rintro e w2 ⟨rfl,hp2,b2⟩
        have HT5:=Lib.hid (HT4.out.next hp2 b2)
        clear hp2 b2
        go_wp2_with fail
        go_meet
        case rel => exact HT5
      | false =>
        clear HTB HTX
        have q:=HT3.out.2.1.cell (i:=7) (by decide)
        have z:=HT3.out.2.1.frozen 7
        simp only [List.getElem?_cons_succ,List.getElem?_cons_zero] at q
        have HT5:=Lib.hid (HT3.out.set_ (i:=7) (by decide) (.int .i64 second))
        simp only [List.set_cons_zero,List.set_cons_succ] at HT5
        go_wp2_with fail
        go_meet
        case rel => exact Lib.hid (by rw [sayIf_false,List.append_nil];exact HT5.out)
    case rest =>
    have HT6:=hcut
    clear hcut HT3 x6 x7 HTX HTL
    obtain ⟨x0,-,-,-,-,-,-,-⟩:=HE.out _ _ _ HT6.out
    have HTW:=Lib.hid (fun W => Two_any path (by omega) W)
    have hec : ((twoS path).2.2 != 0)=pathBig path:=by unfold pathBig;rw [Bool.eq_iff_iff];simp
    have HNM : Hid (bs (nmH (pathBig path) (twoS path).2.1)=bs (if pathBig path=true then longS else (twoS path).2.1)):=Lib.hid (by unfold nmH;cases pathBig path <;> rfl)
    generalize hpb : pathBig path=pb at *
    have HPB:=Lib.hid hpb
    clear hpb
    generalize hP1 : (twoS path).1=P1 at *
    generalize hP2 : (twoS path).2.1=P2 at *
    generalize (twoS path).2.2=ec at *
    have HP1:=Lib.hid hP1
    have HP2:=Lib.hid hP2
    clear hP1 hP2
    go_wp2_with fail
    refine (HTW.out _).mono ?_
    rintro e w1 ⟨rfl,b1⟩
    have HT6b:=Lib.hid (HT6.out.below b1)
    clear HT6 x0 b1
    have HT6:=HT6b
    clear HT6b
    have q1:=HT6.out.2.1.cell (i:=1) (by decide)
    have z1:=HT6.out.2.1.frozen 1
    have q0:=HT6.out.2.1.cell (i:=0) (by decide)
    have z0:=HT6.out.2.1.frozen 0
    simp only [List.getElem?_cons_succ,List.getElem?_cons_zero] at q1 q0
    have HT7:=Lib.hid ((HT6.out.set_ (i:=1) (by decide) (.string (bs P1))).set_ (i:=0) (by decide) (.string (bs P2)))
    simp only [List.set_cons_zero,List.set_cons_succ] at HT7
    clear HT6
    go_upto_region 13 with fail
    clear q1 z1 q0 z0
    generalize (w1.setCell ⟨g,1,none⟩ (.string (bs P1))).setCell ⟨g,0,none⟩ (.string (bs P2))=W7 at *
    obtain ⟨x0,-,-,-,-,-,-,-⟩:=HE.out _ _ _ HT7.out
    go_upto_if 106 with fail
    go_cut [106] from 107 to 113 (fun _ wx => Hid (PkSt w cs g [.string (bs (nmH pb P2)),.string (bs P1),.string (bs (txtH 100 target longS)),.int .i64 mode,.int .i64 0,.int .i64 (numH gid),.int .i64 data.length,.int .i64 (tmH tb second),.int .u8 (typeK kind).toNat,.string ⟨#[]⟩,.string (bs (txtH 31 group []))] ([] ++ sayIf (bigN gid) gidK (Lib.decDigits gid.toNat) ++ sayIf (decide (31 < group.length)) gnameK group ++ sayIf (decide (100 < target.length)) linkK target ++ sayIf tb mtimeK (textT second nano) ++ sayIf pb pathK path) wx))
    case first =>
      cases pb with
      | true =>
        have q0:=HT7.out.2.1.cell (i:=0) (by decide)
        have z0:=HT7.out.2.1.frozen 0
        simp only [List.getElem?_cons_zero] at q0
        have HT8:=Lib.hid (HT7.out.set_ (i:=0) (by decide) (.string (bs longS)))
        simp only [List.set_cons_zero] at HT8
        rw [show bs longS=(⟨#[64,108,111,110,103]⟩ : ByteArray) from rfl] at HT8
        clear HT7 x0
        go_upto_region 15 with fail
        clear q0 z0
        generalize W7.setCell ⟨g,0,none⟩ (.string ⟨#[64,108,111,110,103]⟩)=W8 at *
        obtain ⟨x0,-,-,-,-,-,-,-⟩:=HE.out _ _ _ HT8.out
        have HC:=Lib.hid (HSay.out pathK path _ _ _ HT8.out (by simp only [List.length_append,List.length_nil];have a0:=sayIf_len (bigN gid) gidK (Lib.decDigits gid.toNat);have a1:=sayIf_len (decide (31 < group.length)) gnameK group;have a2:=sayIf_len (decide (100 < target.length)) linkK target;have a3:=sayIf_len tb mtimeK (textT second nano);omega))
        rw [show bs pathK=(⟨#[112,97,116,104]⟩ : ByteArray) from rfl] at HC
        go_wp2_with fail
        refine HC.out.mono ?_
        rintro e w2 ⟨rfl,hp2,b2⟩
        have HT9:=Lib.hid (HT8.out.next hp2 b2)
        clear hp2 b2
        go_wp2_with fail
        go_meet
        case rel => exact HT9
      | false =>
        go_wp2_with fail
        go_meet
        case rel => exact Lib.hid (by rw [sayIf_false,List.append_nil];exact HT7.out)
    case rest =>
    have HT10:=hcut
    clear hcut HT7 x0 hec HTW
    obtain ⟨-,-,x2,-,-,-,-,-⟩:=HE.out _ _ _ HT10.out
    have HC:=Lib.hid (HNum.out uidK uid m3 m4 _ _ _ HT10.out (by simp only [List.length_append,List.length_nil];have a0:=sayIf_len (bigN gid) gidK (Lib.decDigits gid.toNat);have a1:=sayIf_len (decide (31 < group.length)) gnameK group;have a2:=sayIf_len (decide (100 < target.length)) linkK target;have a3:=sayIf_len tb mtimeK (textT second nano);have a4:=sayIf_len pb pathK path;omega))
    rw [show bs uidK=(⟨#[117,105,100]⟩ : ByteArray) from rfl] at HC
    go_wp2_with fail
    refine HC.out.mono ?_
    rintro e w1 ⟨rfl,hp1,b1⟩
    have HS11:=Lib.hid (HT10.out.next hp1 b1)
    have q:=HS11.out.2.1.cell (i:=4) (by decide)
    have z:=HS11.out.2.1.frozen 4
    simp only [List.getElem?_cons_succ,List.getElem?_cons_zero] at q
    clear hp1 b1 HC HT10 x2
    go_upto_region 17 with fail
    have HT11:=Lib.hid (HS11.out.set_ (i:=4) (by decide) (.int .i64 (numH uid)))
    simp only [List.set_cons_zero,List.set_cons_succ] at HT11
    clear HS11 q z
    generalize w1.setCell ⟨g,4,none⟩ (.int .i64 (numH uid))=W11 at *
    obtain ⟨-,-,-,-,x4,-,-,-⟩:=HE.out _ _ _ HT11.out
    have HC:=Lib.hid (HTxt.out unameK user [] 31 (by omega) (by omega) _ _ _ HT11.out (by simp only [List.length_append,List.length_nil];have a0:=sayIf_len (bigN gid) gidK (Lib.decDigits gid.toNat);have a1:=sayIf_len (decide (31 < group.length)) gnameK group;have a2:=sayIf_len (decide (100 < target.length)) linkK target;have a3:=sayIf_len tb mtimeK (textT second nano);have a4:=sayIf_len pb pathK path;have a5:=sayIf_len (bigN uid) uidK (Lib.decDigits uid.toNat);omega))
    rw [show bs unameK=(⟨#[117,110,97,109,101]⟩ : ByteArray) from rfl] at HC
    go_wp2_with fail
    refine HC.out.mono ?_
    rintro e w1 ⟨rfl,hp1,b1⟩
    have HS12:=Lib.hid (HT11.out.next hp1 b1)
    have q:=HS12.out.2.1.cell (i:=9) (by decide)
    have z:=HS12.out.2.1.frozen 9
    simp only [List.getElem?_cons_succ,List.getElem?_cons_zero] at q
    clear hp1 b1 HC HT11 x4
    go_upto_region 18 with fail
    have HT12:=Lib.hid (HS12.out.set_ (i:=9) (by decide) (.string (bs (txtH 31 user []))))
    simp only [List.set_cons_zero,List.set_cons_succ] at HT12
    clear HS12 q z
    generalize w1.setCell ⟨g,9,none⟩ (.string (bs (txtH 31 user [])))=W12 at *
    go_wp2_with fail
    go_ret
    refine ⟨g,rfl,?_,HT12.out.2.2.1⟩
    have hfin:=HT12.out.2.1.mono (Nat.le_succ w.heap.size)
    rw [HRR.out,HH.out]
    have a1 : (mode.toNat : Int)=mode:=Int.toNat_of_nonneg m1
    have a2 : ((if bigN uid=true then 0 else uid.toNat : Nat) : Int)=numH uid:=by unfold numH;split <;> omega
    have a3 : ((if bigN gid=true then 0 else gid.toNat : Nat) : Int)=numH gid:=by unfold numH;split <;> omega
    have htb : timeBig ⟨mode,uid,gid,user,group,second,nano⟩=tb:=HTB.out.symm
    rw [htb]
    have a4 : ((if tb=true then 0 else second.toNat : Nat) : Int)=tmH tb second:=by
      unfold tmH
      have h:=HTB.out
      cases tb with
      | true => rfl
      | false =>
        have h:=of_decide_eq_false h.symm
        simp only [Bool.false_eq_true,if_false]
        omega
    rw [a1,a2,a3,a4]
    simp only [List.append_assoc,List.nil_append] at hfin
    exact hfin
end
section
open Go.RowKit
def BytesOwn (w : World) (base : Nat) (v : Value) (l : List UInt8) : Prop:=w.ownsRow base 5 1 v l.length ((l.map ofB).map (.int .u8))
theorem byteCells_ofB (l : List UInt8) : Lib.byteCells l=(l.map ofB).map (.int .u8):=by
  unfold Lib.byteCells
  rw [List.map_map]
  rfl
theorem strCells_ofB (l : List UInt8) : Lib.strCells (bs l)=(l.map ofB).map (.int .u8):=by rw [Lib.strCells_eq,bs_data,byteCells_ofB]
theorem BytesOwn.at_ {w : World} {base : Nat} {v : Value} {l : List UInt8} (h : BytesOwn w base v l) : BytesAt w w.heap.size v l:=ownL h
theorem BytesOwn.below {w w' : World} {base : Nat} {v : Value} {l : List UInt8} (h : BytesOwn w base v l) (hb : Below w.heap.size w w') : BytesOwn w' base v l:=ownsRow_below h hb
theorem BytesOwn.nil (w : World) (base : Nat) : BytesOwn w base (.slice none 0 0) []:=World.ownsRow_nil _ _ _ _
theorem BytesOwn.app {w : World} {base : Nat} {v : Value} {l m : List UInt8} (h : w.ownsRow base 5 1 v (l.length + m.length) ((l.map ofB).map (.int .u8) ++ (m.map ofB).map (.int .u8))) : BytesOwn w base v (l ++ m):=by
  unfold BytesOwn
  rw [List.length_append,List.map_append,List.map_append]
  exact h
theorem step_append_str {P : Program} {w : World} {ops : Array Oper} {o : Oper} {a : Act} {K : Act→World→Prop} {Q : Exit→Act→World→Prop} {E : Prop} (hgd : o.guard=none) (sl x : Operand) (t u : TypeId)
    (ho : o.op=.call { callee:=.builtin .append,args:=#[sl,x],argTypes:=#[t,u] })
    (base : Nat) (e : TypeId) (i : TypeInfo) (ht : P.underlying t=some (.slice e)) (hu : P.underlying u=some .string) (hi : P.info? e=some i) (hz : i.zero=some (.int .u8 0))
    (hsize : i.size=1) (hby : i.bytes=1)
    (v : Value) (n : Nat) (xs : List Value) (hs : a.eval sl=v) (hown : w.ownsRow base e 1 v n xs) (s : ByteArray) (hx : a.eval x=.string s)
    (h63 : n + s.size≤maxLen) (hbytes : n + s.size≤140737488355328) (hbase : base≤w.heap.size)
    (h : ∀ v' w',w'.ownsRow base e 1 v' (n + s.size) (xs ++ Lib.strCells s)→w.grownBy w' v.ownBlock→K (a.put o.dst v') w') :
    if Region.wanted o (yielded ops a.tmps)=true then Oper.wp P o a w K Q else E:=by
  have hw : Region.wanted o (yielded ops a.tmps)=true:=by simp [Region.wanted,hgd]
  rw [if_pos hw]
  obtain ⟨v',w',hrun,h2,h3,_⟩:=Lib.run_append_own_string (P:=P) (w:=w) base t u o.type e i ht hu hi hz hsize hby v n xs hown s h63 hbytes hbase
  unfold Oper.wp execOp
  simp only [ho,resolve,invoke,builtin,Sem.run_bind,Sem.run_pure,Result.andThen_ok,List.map_toArray,List.map_cons,List.map_nil,hs,hx,hrun]
  exact h v' w' h2 h3
theorem paxH_ok (n : Nat) (h : n < 8589934592) : HeadOk (paxH n):=by
  unfold paxH
  constructor <;> simp only [paxN,List.length_cons,List.length_nil] <;> first | omega | exact h | decide
def MwSt (w0 : World) (cs : Array Value) (W : World) : Prop:=Blk W w0.heap.size 58 cs∧Below w0.heap.size w0 W
theorem MwSt.below {w0 W W' : World} {cs : Array Value} (h : MwSt w0 cs W) (hb : Below W.heap.size W W') : MwSt w0 cs W':=⟨h.1.below hb h.1.lt,h.2.trans (hb.mono h.2.size)⟩
theorem MwSt.grown {w0 W W' : World} {cs : Array Value} {v : Value} {n : Nat} {xs : List Value} (h : MwSt w0 cs W) (ho : W.ownsRow w0.heap.size 5 1 v n xs) (hg : W.grownBy W' v.ownBlock) : MwSt w0 cs W' :=
  ⟨h.1.grown hg (fun e => own_blk_ne ho h.1 (by decide) e.symm),h.2.grown hg h.2.size (fun k e => (own_typed ho e).1)⟩
theorem PackAt.grown {W W' : World} {B g b : Nat} {hc : List Value} {l : List RecS} {v : Value} {n : Nat} {xs : List Value} (h : PackAt W B g hc l) (ho : W.ownsRow b 5 1 v n xs) (hg : W.grownBy W' v.ownBlock) : PackAt W' B g hc l:=by
  obtain ⟨h1,h2,u,h3,h4⟩:=h
  refine ⟨h1,h2,u,h3.grown hg (fun e => own_blk_ne ho h3 (by decide) e.symm),?_⟩
  refine h4.kept hg ?_
  rcases hv : u.ownBlock with _ | b2
  · exact .inl rfl
  · refine .inr ?_
    intro e
    obtain ⟨_,C1,f1,hc1⟩:=own_typed h4 hv
    obtain ⟨_,C2,f2,hc2⟩:=own_typed ho e.symm
    rw [hc1] at hc2
    injection hc2 with hc2
    injection hc2 with _ ht
    exact absurd ht (by decide)
set_option maxRecDepth 100000 in
set_option maxHeartbeats 8000000 in
theorem MWrite_ok (x : EntP) (h : EntOk x) (A : Option Addr) (c : Nat) (w : World) (hm : ML w) (h10 : P10 w) (hdat : BytesAt w w.heap.size (.slice A x.data.length c) x.data) :
    Calls Tryz.prog 13 #[.agg (entC x (.slice A x.data.length c)).toArray] w fun e w' => ∃ v,e=.returned (.tuple #[v,.int .i64 0])∧BytesOwn w' w.heap.size v (memB x)∧Below w.heap.size w w':=by
  have HR:=Lib.hid (fun w hm => PRight_ok x h A c w hm)
  have HP:=Lib.hid (fun w h10 => pack_any x h A c w h10)
  obtain ⟨i0,hi0,hz0,hz1,hz2⟩:=info_parts u8_info
  obtain ⟨W0,hW0⟩ : ∃ W0,W0=w.alloc (.cells (entC x (.slice A x.data.length c)).toArray 58):=⟨_,rfl⟩
  have hB0 : Blk W0 w.heap.size 58 (entC x (.slice A x.data.length c)).toArray:=by rw [hW0];exact Blk.new _ _ _
  have hb0 : Below w.heap.size w W0:=by rw [hW0];exact (Below.refl _ _).alloc (Nat.le_refl _) _
  have HB0:=Lib.hid hB0
  have HBW:=Lib.hid hb0
  have HML : Hid (∀ W,Below w.heap.size w W→ML W):=Lib.hid (fun W hb => hm.below hb)
  have HP10 : Hid (∀ W,Below w.heap.size w W→P10 W):=Lib.hid (fun W hb => h10.below hb)
  have HDT : Hid (∀ W,Below w.heap.size w W→BytesAt W w.heap.size (.slice A x.data.length c) x.data):=Lib.hid (fun W hb => hdat.below hb)
  clear hB0 hb0 hm h10 hdat
  have hdl:=h.data.1
  have HHO:=Lib.hid (packH_ok h)
  have HRO:=Lib.hid (packR_ok h)
  have HRA:=Lib.hid (packR_asc x)
  have hrl:=packR_len x
  obtain ⟨M,hM⟩ : ∃ M,M=memB x:=⟨_,rfl⟩
  rw [← hM]
  unfold memB at hM
  generalize packR x=R at *
  generalize packH x=H at *
  have HMM:=Lib.hid hM
  clear hM h
  obtain ⟨cs,hcs⟩ : ∃ cs,cs=(entC x (.slice A x.data.length c)).toArray:=⟨_,rfl⟩
  have HCS:=Lib.hid hcs
  clear hcs
  unfold entC at *
  obtain ⟨path,kind,target,⟨mode,uid,gid,user,group,second,nano⟩,data⟩:=x
  simp only at HR HP hW0 HB0 HCS HDT HMM hdl ⊢
  obtain ⟨hc,hhc⟩ : ∃ hc,hc=hcL H:=⟨_,rfl⟩
  rw [← hhc] at HP
  have c0:=HB0.out.cell 0
  have c1:=HB0.out.cell 1
  have c2:=HB0.out.cell 2
  have c3:=HB0.out.cell 3
  have c4:=HB0.out.cell 4
  have c5:=HB0.out.cell 5
  have c6:=HB0.out.cell 6
  have c7:=HB0.out.cell 7
  have c8:=HB0.out.cell 8
  have c9:=HB0.out.cell 9
  have c10:=HB0.out.cell 10
  go_enter Tryz.func13,Tryz.ntmps13
  go_upto_region 1 with fail
  rw [← hW0]
  clear hW0
  go_wp2_with fail
  refine (HR.out _ (HML.out _ HBW.out)).mono ?_
  rintro e w1 ⟨rfl,b1⟩
  have HB1:=Lib.hid (HBW.out.trans (b1.mono HBW.out.size))
  have hB1:=HB0.out.below b1 HB0.out.lt
  have HBE:=Lib.hid hB1
  clear c0 c1 c2 c3 c4 c5 c6 c7 c8 c9 c10 b1
  have c0:=hB1.cell 0
  have c1:=hB1.cell 1
  have c2:=hB1.cell 2
  have c3:=hB1.cell 3
  have c4:=hB1.cell 4
  have c5:=hB1.cell 5
  have c6:=hB1.cell 6
  have c7:=hB1.cell 7
  have c8:=hB1.cell 8
  have c9:=hB1.cell 9
  have c10:=hB1.cell 10
  clear hB1
  go_wp2_with fail
  refine (HP.out _ (HP10.out _ HB1.out)).mono ?_
  rintro e w2 ⟨g,rfl,hp,b2⟩
  have hS2 : MwSt w cs w2:=by rw [HCS.out];exact ⟨HBE.out.below b2 HBE.out.lt,HB1.out.trans (b2.mono HB1.out.size)⟩
  have HS2:=Lib.hid hS2
  have HP2:=Lib.hid hp
  obtain ⟨Ar,cr,c11,hrec⟩:=hp.recs
  have HRE:=Lib.hid hrec
  clear c0 c1 c2 c3 c4 c5 c6 c7 c8 c9 c10 b2 hp hrec hS2 HBE HB1
  obtain ⟨rb,hrb⟩ : ∃ rb,rb=decide (0 < R.length):=⟨_,rfl⟩
  have r1 : decide ((R.length : Int) > 0)=rb:=by rw [hrb];simp
  have r2 : decide (0 < R.length)=rb:=hrb.symm
  have r3 : decide (0 < (R.length : Int))=rb:=by rw [hrb];simp
  have HRB:=Lib.hid hrb
  clear hrb
  generalize w1.heap.size=B at *
  go_upto_if 25 with fail
  go_cut [6,7,8,9,10] from 26 to 47 (fun s6 _ _ _ _ wx => Hid (MwSt w cs wx∧PackAt wx B g hc R∧BytesOwn wx w.heap.size s6 (memR R)))
  case first =>
    cases rb with
    | false =>
      have hR0 : R=[]:=by
        have:=of_decide_eq_false HRB.out.symm
        exact List.eq_nil_of_length_eq_zero (by omega)
      have HM0 : Hid (memR R=[]):=Lib.hid (by rw [hR0];rfl)
      clear hR0
      go_wp2_with fail
      go_meet
      case rel => exact Lib.hid ⟨HS2.out,HP2.out,by rw [HM0.out];exact BytesOwn.nil _ _⟩
    | true =>
      have hRp : 0 < R.length:=of_decide_eq_true HRB.out.symm
      have HPW:=Lib.hid (PxWrite_any _ R w2 (HP10.out _ HS2.out.2) HRE.out.at_ HRO.out (by omega) HRA.out (by intro h;rw [h] at hRp;simp at hRp))
      have hpl:=paxT_len HRO.out
      have hpl2 : R.length * 703≤7 * 703:=Nat.mul_le_mul_right _ hrl
      have hpl3 : (paxT R).length≤7 * 703:=by omega
      have HHW:=Lib.hid (fun W => (show Calls Tryz.prog 49 #[.agg #[.string ⟨#[64,112,97,120]⟩,.string ⟨#[]⟩,.string ⟨#[]⟩,.int .i64 0,.int .i64 0,.int .i64 0,.int .i64 (paxT R).length,.int .i64 0,.int .u8 120,.string ⟨#[]⟩,.string ⟨#[]⟩]] W _ from HWrite_ok (paxH (paxT R).length) (paxH_ok _ (by omega)) W))
      have hz:=bs_size (paxT R)
      have HZH:=Lib.hid (headW_length (paxH_ok (paxT R).length (by omega)))
      have zh:=bs_size (headW (paxH (paxT R).length))
      rw [HZH.out] at zh
      have HCV:=Lib.hid (fun W => conv_sb_at (paxT R) W (by omega))
      have HFL:=Lib.hid (fun v W (hb : BytesAt W W.heap.size v (paxT R)) => Fill_bytes v (paxT R) W.heap.size W hb (Nat.le_refl _) (by omega))
      have HSC:=Lib.hid (strCells_ofB (headW (paxH (paxT R).length)))
      have hpd:=padB_length (paxT R)
      have hkn : kN (paxT R).length≤10:=by unfold kN;omega
      have hpbl : (padB (paxT R)).length≤5120:=by omega
      clear hpd hkn
      have HMR : Hid (memR R=headW (paxH (paxT R).length) ++ padB (paxT R)):=Lib.hid (by unfold memR;rw [if_neg (by intro h;rw [h] at hRp;simp at hRp)])
      clear hpl hpl2 hRp
      generalize headW (paxH (paxT R).length)=HW at *
      generalize hPB : padB (paxT R)=PB at *
      have HPB:=Lib.hid hPB
      clear hPB
      generalize (paxT R).length=pn at *
      generalize paxT R=PT at *
      generalize bs HW=bH at *
      generalize bs PT=bP at *
      go_wp2_with fail
      refine HPW.out.mono ?_
      rintro e w3 ⟨rfl,b3⟩
      have HS3:=Lib.hid (HS2.out.below b3)
      have HP3:=Lib.hid (HP2.out.below b3)
      clear b3 c11
      go_wp2_with fail
      refine (HHW.out _).mono ?_
      rintro e w4 ⟨rfl,b4⟩
      have HS4:=Lib.hid (HS3.out.below b4)
      have HP4:=Lib.hid (HP3.out.below b4)
      clear b4
      have hsz4:=HS4.out.2.size
      go_wp2_with (at_builtin;refine Lib.wpList_append_own_string _ rfl _ _ 27 9 rfl w.heap.size 5 i0 Tryz.underlying27 Tryz.underlying9 hi0 hz0 hz1 hz2 (.slice none 0 0) 0 [] rfl (World.ownsRow_nil _ _ _ _) bH rfl ?c3 ?c4 ?c5 ?_)
      case c3 => simp only [maxLen];omega
      case c4 => omega
      case c5 => exact hsz4
      intro v5 w5 hown5 hg5 _
      have hS5:=HS4.out.grown (World.ownsRow_nil _ w.heap.size 5 1) hg5
      have hP5:=HP4.out.grown (World.ownsRow_nil _ w.heap.size 5 1) hg5
      rw [HSC.out] at hown5
      obtain ⟨A5,c5,rfl,-⟩:=ownsRow_read hown5
      obtain ⟨vc,w6,hcv,hvc,b6⟩:=HCV.out w5
      have HO6:=Lib.hid (ownsRow_below hown5 b6)
      have HS6:=Lib.hid (hS5.below b6)
      have HP6:=Lib.hid (hP5.below b6)
      have HVC:=Lib.hid hvc
      clear hown5 hg5 hS5 hP5 b6 hvc
      go_wp2_with fail
      refine (HFL.out vc w6 HVC.out).mono ?_
      rintro e w7 ⟨vf,rfl,hf,b7⟩
      obtain ⟨Af,cf,rfl,hf1,hf2,-,hr7⟩:=ownsRow_read hf
      have HO7:=Lib.hid (ownsRow_below HO6.out b7)
      have HS7:=Lib.hid (HS6.out.below b7)
      have HP7:=Lib.hid (HP6.out.below b7)
      have HR7:=Lib.hid hr7
      have hsz7:=HS7.out.2.size
      clear hf hr7 b7 hcv
      go_wp2_with (at_builtin;refine wpList_append_any _ rfl (.tmp 43) (.tmp 46) _ rfl w.heap.size 5 i0 _ 1 1 Tryz.underlying27 hi0 hz0 hz1 hz2 rfl (by omega) _ 512 _ rfl HO7.out w7.heap.size Af PB.length cf _ rfl HR7.out (one_u8 _) (by simp only [maxLen];omega) (by omega) hsz7 ?_;intro v9 w9 hown9 hg9 hat9;obtain ⟨A9,c9,hv9,-⟩:=ownsRow_read hown9;subst hv9;have HO9:=Lib.hid hown9;have HG9:=Lib.hid hg9;clear hown9 hg9 hat9)
      go_meet
      case rel =>
        refine Lib.hid ⟨HS7.out.grown HO7.out HG9.out,HP7.out.grown HO7.out HG9.out,?_⟩
        rw [HMR.out]
        refine BytesOwn.app ?_
        rw [HZH.out]
        exact HO9.out
  case rest =>
    obtain ⟨hS,hP,hO⟩:=hcut.out
    have HSC:=Lib.hid hS
    have HPC:=Lib.hid hP
    have HOC:=Lib.hid hO
    obtain ⟨A6,c6,rfl,-⟩:=ownsRow_read hO
    clear hcut hS hP hO c11 r1 r2 r3 HRB HRE HS2 HP2 HP HR HB0 HBW
    have HHW:=Lib.hid (fun W => HWrite_ok H HHO.out W)
    have HZH:=Lib.hid (headW_length HHO.out)
    have zh:=bs_size (headW H)
    rw [HZH.out] at zh
    have HSR:=Lib.hid (strCells_ofB (headW H))
    generalize headW H=HW at *
    obtain ⟨nm,pr,lk,md,ui,gi,sz,tm,ty,us,gr⟩:=H
    unfold headV headCells at HHW
    simp only at HHW
    unfold hcL at hhc
    simp only at hhc
    subst hhc
    have q0:=HPC.out.cell (i:=0) (by decide)
    have q1:=HPC.out.cell (i:=1) (by decide)
    have q2:=HPC.out.cell (i:=2) (by decide)
    have q3:=HPC.out.cell (i:=3) (by decide)
    have q4:=HPC.out.cell (i:=4) (by decide)
    have q5:=HPC.out.cell (i:=5) (by decide)
    have q6:=HPC.out.cell (i:=6) (by decide)
    have q7:=HPC.out.cell (i:=7) (by decide)
    have q8:=HPC.out.cell (i:=8) (by decide)
    have q9:=HPC.out.cell (i:=9) (by decide)
    have q10:=HPC.out.cell (i:=10) (by decide)
    simp only [List.getElem?_cons_zero,List.getElem?_cons_succ] at q0 q1 q2 q3 q4 q5 q6 q7 q8 q9 q10
    go_wp2_with fail
    refine (HHW.out _).mono ?_
    rintro e w3 ⟨rfl,b3⟩
    have HS3:=Lib.hid (HSC.out.below b3)
    have HO3:=Lib.hid (HOC.out.below b3)
    clear q0 q1 q2 q3 q4 q5 q6 q7 q8 q9 q10 b3 HSC HPC HOC HHW
    have HFL:=Lib.hid (fun W (hs : MwSt w cs W) => Fill_bytes (.slice A data.length c) data w.heap.size W (HDT.out W hs.2) hs.2.size (by omega))
    have hpd:=padB_length data
    have hkn : kN data.length≤4:=by unfold kN;omega
    have hpbl : (padB data).length≤2048:=by omega
    clear hpd hkn
    have hmr : (memR R).length≤100000:=by
      by_cases hR0 : R=[]
      · rw [hR0];simp [memR]
      · have h1:=paxT_len HRO.out
        have h2 : R.length * 703≤7 * 703:=Nat.mul_le_mul_right _ hrl
        have h3:=padB_length (paxT R)
        have h4 : kN (paxT R).length≤10:=by unfold kN;omega
        unfold memR
        rw [if_neg hR0,List.length_append,headW_length (paxH_ok _ (by omega))]
        omega
    generalize memR R=MR at *
    generalize padB data=PB at *
    generalize bs HW=bH at *
    have HSd : Hid (MwSt w cs w3.drew):=Lib.hid ⟨HS3.out.1.drew,HS3.out.2.drew⟩
    have HSB : Hid (∀ W W',MwSt w cs W→Below W.heap.size W W'→MwSt w cs W'):=Lib.hid (fun W W' h hb => h.below hb)
    have HKC : Hid (∀ W,MwSt w cs W→W.cell? ⟨w.heap.size,10,none⟩=some (.slice A data.length c)):=Lib.hid (fun W h => by rw [h.1.cell 10,HCS.out];rfl)
    have HSZ : Hid (∀ W,MwSt w cs W→w.heap.size≤W.heap.size):=Lib.hid (fun W h => h.2.size)
    have HOd : Hid (w3.drew.ownsRow w.heap.size 5 1 (.slice A6 MR.length c6) MR.length ((MR.map ofB).map (.int .u8))):=Lib.hid HO3.out
    have HOB : Hid (∀ W,Below w3.drew.heap.size w3.drew W→W.ownsRow w.heap.size 5 1 (.slice A6 MR.length c6) MR.length ((MR.map ofB).map (.int .u8))):=Lib.hid (fun W hb => ownsRow_below HOd.out hb)
    have HGS : Hid (∀ W W',MwSt w cs W→W.ownsRow w.heap.size 5 1 (.slice A6 MR.length c6) MR.length ((MR.map ofB).map (.int .u8))→W.grownBy W' (Value.slice A6 MR.length c6).ownBlock→MwSt w cs W'):=Lib.hid (fun W W' h ho hg => h.grown ho hg)
    clear HS3 HO3 HML HP10 HDT HHO HRO HRA
    go_upto_region 11 with fail
    go_region_held3 (fun w' => w'.cell? ⟨w.heap.size,10,none⟩=some (.slice A data.length c))
      (first | (exact HKC.out _ (by assumption)) | (exact HKC.out _ HSd.out) | go_keep)
      (first
        | (refine step_append_str rfl (.tmp 56) (.tmp 57) 27 9 rfl w.heap.size 5 i0 Tryz.underlying27 Tryz.underlying9 hi0 hz0 hz1 hz2 (.slice A6 MR.length c6) MR.length _ rfl (by first | exact HOd.out | exact HOB.out _ (by assumption)) bH rfl (by simp only [maxLen];omega) (by omega) (HSZ.out _ (by first | assumption | exact HSd.out)) ?_
           intro v5 w5 hown5 hg5
           rw [zh] at hown5
           have hst5:=HGS.out _ _ (by first | assumption | exact HSd.out) (by first | exact HOd.out | exact HOB.out _ (by assumption)) hg5
           obtain ⟨A5,c5,rfl,-⟩:=ownsRow_read hown5
           skip)
        | (go_at_call 50
           refine (HFL.out _ (by first | assumption | exact HSd.out)).mono ?_
           rintro e w7 ⟨vf,rfl,hf,b7⟩
           obtain ⟨Af,cf,rfl,hf1,hf2,-,hr7⟩:=ownsRow_read hf
           have hst7:=HSB.out _ _ (by first | assumption | exact HSd.out) b7)
        | (refine step_append_any _ rfl (.tmp 58) (.tmp 61) _ rfl w.heap.size 5 i0 _ 1 1 Tryz.underlying27 hi0 hz0 hz1 hz2 rfl (by omega) _ _ _ rfl (ownsRow_below hown5 b7) _ _ PB.length _ _ rfl hr7 (one_u8 _) (by simp only [maxLen];omega) (by omega) (HSZ.out _ hst7) ?_
           intro v9 w9 hown9 hg9 hat9
           have hst9:=hst7.grown (ownsRow_below hown5 b7) hg9
           obtain ⟨A9,c9,rfl,-⟩:=ownsRow_read hown9))
    go_wp2_with fail
    go_ret2
    refine ⟨_,rfl,?_,hst9.2⟩
    rw [HMM.out,← List.append_assoc]
    refine BytesOwn.app ?_
    rw [List.length_append,HZH.out,List.map_append,List.map_append,← HSR.out]
    exact hown9
end
end Go.Proofs.YtphmhmdcaafmdaaGreatDoor
