import Derived.Test.YtphmhmdcaafmdaaGreatDoorRulesJ
import Derived.Test.YtphmhmdcaafmdaaGreatDoorCopyS
import Derived.Test.YtphmhmdcaafmdaaGreatDoorTCheck
import Derived.Test.YtphmhmdcaafmdaaGreatDoorPut
namespace Go.Proofs.YtphmhmdcaafmdaaGreatDoor
set_option linter.all false
section
open Go.RowKit
structure RuleG where
  take : Bool
  pat : List UInt8
  ps : List (List Piece)
  ok : Pattern pat ps
def ruleP_ (r : RuleG) : RuleP:=(r.take,r.pat)
def fitsG (s : List UInt8) (r : RuleG) : Bool:=globs.glob starQ fitsQ r.ps (splitC 47 s)
def takesG (rs : List RuleG) (s : List UInt8) : Bool:=match rs.reverse.find? (fitsG s) with | some r => r.take | none => true
theorem takesG_nil (s : List UInt8) : takesG [] s=true:=rfl
theorem takesG_snoc (rs : List RuleG) (r : RuleG) (s : List UInt8) : takesG (rs ++ [r]) s=if fitsG s r=true then r.take else takesG rs s:=by
  unfold takesG
  rw [List.reverse_append,List.reverse_cons,List.reverse_nil,List.nil_append,List.singleton_append,List.find?_cons]
  by_cases h : fitsG s r=true
  · simp [h]
  · have h : fitsG s r=false:=by simpa using h
    simp [h]
theorem takesG_take {rs : List RuleG} {k : Nat} (hk : k < rs.length) (s : List UInt8) : takesG (rs.take (k + 1)) s=if fitsG s rs[k]=true then rs[k].take else takesG (rs.take k) s:=by
  rw [List.take_succ_eq_append_getElem hk,takesG_snoc]
theorem upP_short {p : List UInt8} (h : p≠[]) : (upP p).length < p.length:=by
  rcases cutLast p with h1 | ⟨a,b,rfl,h1⟩
  · rw [upP_none h1];cases p with | nil => exact absurd rfl h | cons => simp
  · rw [upP_some h1];simp
def wantP (rs : List RuleG) (p : List UInt8) : Bool:=if _h : p=[] then true else takesG rs p && wantP rs (upP p)
  termination_by p.length
  decreasing_by exact upP_short _h
theorem wantP_nil (rs : List RuleG) : wantP rs []=true:=by rw [wantP];simp
theorem wantP_cons (rs : List RuleG) {p : List UInt8} (h : p≠[]) : wantP rs p=(takesG rs p && wantP rs (upP p)):=by rw [wantP,dif_neg h]
def filterStep (rs : List RuleG) (out : List NodeP) (n : NodeP) : List NodeP:=if takesG rs n.path=true∧(upP n.path=[]∨findP out (upP n.path)≠none) then out ++ [n] else out
def filterP (t : List NodeP) (rs : List RuleG) : List NodeP:=t.foldl (filterStep rs) []
theorem filterP_take {t : List NodeP} {rs : List RuleG} {k : Nat} (hk : k < t.length) : filterP (t.take (k + 1)) rs=filterStep rs (filterP (t.take k) rs) t[k]:=by
  unfold filterP
  rw [List.take_succ_eq_append_getElem hk,List.foldl_append];rfl
theorem filterP_length (t : List NodeP) (rs : List RuleG) : (filterP t rs).length≤t.length:=by
  unfold filterP
  have key : ∀ (l : List NodeP) (out : List NodeP),(l.foldl (filterStep rs) out).length≤out.length + l.length:=by
    intro l
    induction l with
    | nil => intro out;simp
    | cons x l ih =>
      intro out
      rw [List.foldl_cons]
      have h1:=ih (filterStep rs out x)
      have h2 : (filterStep rs out x).length≤out.length + 1:=by unfold filterStep;split <;> simp
      simp only [List.length_cons]
      omega
  simpa using key t []
theorem node_path_ne {x : NodeP} (h : NodeOk x) : x.path≠[]:=by
  intro e
  have:=h.path.1
  rw [e] at this
  exact absurd this (by decide)
theorem TreeOk.ahead {t : List NodeP} (h : TreeOk t) {k : Nat} (hk : k < t.length) (hu : upP t[k].path≠[]) : ∃ j,∃ hj : j < t.length,j < k∧t[j].path=upP t[k].path∧t[j].kind=2:=by
  rcases h.up t[k] (List.getElem_mem _) with h0 | ⟨y,hy,e1,e2⟩
  · exact absurd h0 hu
  · obtain ⟨j,hj,rfl⟩:=List.getElem_of_mem hy
    have hl:=up_less hu
    rw [← e1] at hl
    refine ⟨j,hj,?_,e1,e2⟩
    rcases Nat.lt_trichotomy j k with a | a | a
    · exact a
    · subst a
      have : cmpP t[j].path t[j].path=0:=cmpL_self (partsS _)
      omega
    · have a1:=(List.pairwise_iff_getElem.1 h.sorted) k j hk hj a
      have a2 : cmpP t[j].path t[k].path=-cmpP t[k].path t[j].path:=cmpL_neg _ _
      omega
theorem filterP_eq {t : List NodeP} (h : TreeOk t) (rs : List RuleG) : filterP t rs=t.filter fun x => wantP rs x.path:=by
  have key : ∀ k,k≤t.length→filterP (t.take k) rs=(t.take k).filter fun x => wantP rs x.path:=by
    intro k
    induction k with
    | zero => intro _;simp [filterP]
    | succ k ih =>
      intro hk
      have hk : k < t.length:=by omega
      have ih:=ih (by omega)
      rw [filterP_take hk,ih,List.take_succ_eq_append_getElem hk,List.filter_append]
      have hne:=node_path_ne (h.node _ (List.getElem_mem hk))
      have hw:=wantP_cons rs hne
      have hfin : (takesG rs t[k].path=true∧(upP t[k].path=[]∨findP ((t.take k).filter fun x => wantP rs x.path) (upP t[k].path)≠none)) ↔ wantP rs t[k].path=true:=by
        rw [hw,Bool.and_eq_true]
        refine and_congr_right fun _ => ?_
        by_cases hu : upP t[k].path=[]
        · simp [hu,wantP_nil]
        · obtain ⟨j,hj,hjk,e1,_⟩:=h.ahead hk hu
          simp only [hu,false_or]
          constructor
          · intro hf
            by_cases hwu : wantP rs (upP t[k].path)=true
            · exact hwu
            · refine absurd (findP_none.2 fun x hx e => ?_) hf
              have:=(List.mem_filter.1 hx).2
              rw [e] at this
              exact hwu this
          · intro hwu hn
            refine findP_none.1 hn t[j] (List.mem_filter.2 ⟨?_,?_⟩) e1
            · rw [List.mem_take_iff_getElem];exact ⟨j,by omega,rfl⟩
            · rw [e1];exact hwu
      unfold filterStep
      by_cases hc : wantP rs t[k].path=true
      · rw [if_pos (hfin.2 hc)];simp [hc]
      · rw [if_neg (fun a => hc (hfin.1 a))];simp [hc]
  have:=key t.length (Nat.le_refl _)
  rwa [List.take_length] at this
theorem want_up {rs : List RuleG} {p : List UInt8} (h : wantP rs p=true) : wantP rs (upP p)=true:=by
  by_cases hp : p=[]
  · subst hp;rw [show upP []=[] from rfl];exact wantP_nil rs
  · rw [wantP_cons rs hp,Bool.and_eq_true] at h;exact h.2
theorem filter_ok {t : List NodeP} (h : TreeOk t) (rs : List RuleG) : TreeOk (filterP t rs):=by
  rw [filterP_eq h]
  have hs : (t.filter fun x => wantP rs x.path).Sublist t:=List.filter_sublist
  refine ⟨Nat.le_trans hs.length_le h.len,fun x hx => h.node x (hs.subset hx),h.sorted.sublist hs,fun x hx => ?_,fun x hx y hy => h.alike x (hs.subset hx) y (hs.subset hy)⟩
  obtain ⟨h1,h2⟩:=List.mem_filter.1 hx
  refine (h.up x h1).imp id ?_
  rintro ⟨y,hy,e1,e2⟩
  exact ⟨y,List.mem_filter.2 ⟨hy,by rw [e1];exact want_up h2⟩,e1,e2⟩
theorem want_none (p : List UInt8) : wantP [] p=true:=by
  induction h : p.length using Nat.strongRecOn generalizing p with
  | ind n ih =>
    by_cases hp : p=[]
    · rw [hp];exact wantP_nil _
    · rw [wantP_cons _ hp,takesG_nil,Bool.true_and]
      exact ih _ (by rw [← h];exact upP_short hp) _ rfl
theorem filter_none_ {t : List NodeP} (h : TreeOk t) : filterP t []=t:=by
  rw [filterP_eq h]
  exact List.filter_eq_self.2 fun x _ => want_none x.path
end
section
section
open Go.RowKit
def RulesAt (w : World) (v : Value) (rs : List RuleG) : Prop:=∃ base,RulesOwn w base v (rs.map ruleP_)
theorem RulesAt.below {w w' : World} {v : Value} {rs : List RuleG} (h : RulesAt w v rs) (hb : Below w.heap.size w w') : RulesAt w' v rs:=by
  obtain ⟨b,h⟩:=h
  exact ⟨b,h.below hb⟩
theorem RulesAt.slice {w : World} {v : Value} {rs : List RuleG} (h : RulesAt w v rs) : ∃ A c,v=.slice A rs.length c∧rs.length≤c∧c≤maxLen:=by
  obtain ⟨b,h⟩:=h
  obtain ⟨A,c,e,h1,h2,_⟩:=ownsRow_read h
  rw [List.length_map] at e h1
  exact ⟨A,c,e,h1,h2⟩
theorem RulesAt.row {w : World} {v : Value} {rs : List RuleG} (h : RulesAt w v rs) (hl : 0 < rs.length) : ∃ g c,v=.slice (some ⟨g,0,none⟩) rs.length c∧g < w.heap.size ∧
    ∀ j,(hj : j < rs.length)→w.cell? ⟨g,j * 2,none⟩=some (.bool rs[j].take)∧w.cell? ⟨g,j * 2 + 1,none⟩=some (.string (bs rs[j].pat)):=by
  obtain ⟨b,h⟩:=h
  obtain ⟨g,c,e,h1,_,_,h4⟩:=RulesOwn.row h (by rw [List.length_map];exact hl)
  rw [List.length_map] at e
  refine ⟨g,c,e,h1,fun j hj => ?_⟩
  obtain ⟨a1,a2⟩:=h4 j (by rw [List.length_map];exact hj)
  rw [List.getElem_map] at a1 a2
  exact ⟨a1,a2⟩
theorem RulesAt.nil (w : World) : RulesAt w (.slice none 0 0) []:=⟨0,⟨rfl,.inl ⟨rfl,rfl⟩⟩⟩
theorem RuleG.check (r : RuleG) (w : World) (hm : ML w) : Calls Tryz.prog 180 #[.string (bs r.pat)] w fun e w' => e=.returned (.int .i64 0)∧Below w.heap.size w w':=by
  have hp:=r.ok
  exact GCheck_ok r.pat hp.len1 hp.len2 (fun t ht => by
    rw [hp.split] at ht
    obtain ⟨l,hl,rfl⟩:=List.mem_map.1 ht
    exact ⟨textPs_ne (hp.ok l hl).1,l,rfl,(hp.ok l hl).2⟩) (fun t ht => Nat.le_trans (splitC_len t ht) hp.len2) w hm
set_option maxRecDepth 100000 in
set_option maxHeartbeats 4000000 in
theorem FCheck_ok (v : Value) (rs : List RuleG) (w : World) (hm : ∀ W,Below w.heap.size w W→ML W) (hr : RulesAt w v rs) (hl : rs.length≤12) :
    Calls Tryz.prog 132 #[v] w fun e w' => e=.returned (.int .i64 0)∧Below w.heap.size w w':=by
  obtain ⟨A,c,rfl,hc1,hc2⟩:=hr.slice
  unfold maxLen at hc2
  have HR:=Lib.hid hr
  have HM:=Lib.hid hm
  clear hr hm
  go_enter Tryz.func132,Tryz.ntmps132
  go_wp2_with fail
  go_loopg [11] rs.length (fun gg s11 wr => ∃ k : Nat,k≤rs.length∧rs.length - k≤gg∧s11=.int .i64 k∧Hid (Below w.heap.size w wr))
  case atStart => exact ⟨0,Nat.zero_le _,by omega,rfl,Lib.hid (Below.refl _ _)⟩
  case round =>
    obtain ⟨k,hk,hg,rfl,HW⟩:=hrel
    by_cases hlt : k < rs.length
    · have hltz : (k : Int) < (rs.length : Int):=by omega
      obtain ⟨g,c',hve,hgl,hrow⟩:=(HR.out.below HW.out).row (by omega)
      obtain ⟨rfl,rfl⟩ : A=some ⟨g,0,none⟩∧c=c':=by injection hve with h1 _ h2;exact ⟨h1,h2⟩
      obtain ⟨e0,e1⟩:=hrow k hlt
      clear hve hrow
      have HC:=Lib.hid (fun W (hb : Below w.heap.size w W) => RuleG.check rs[k] W (HM.out W hb))
      generalize rs[k]=r at *
      have hb2 : Below w.heap.size w (wr.alloc (.cells #[.bool r.take,.string (bs r.pat)] 279)):=HW.out.alloc HW.out.size _
      have HB2:=Lib.hid hb2
      clear hb2
      go_wp2_with fail
      refine (HC.out _ HB2.out).mono ?_
      rintro e w1 ⟨rfl,b1⟩
      have B1:=Lib.hid (HB2.out.trans (b1.mono HB2.out.size))
      clear b1 e0 e1
      go_wp2_with fail
      go_roundg (rs.length - (k + 1))
      case measure => omega
      case rel => exact ⟨k + 1,by omega,by omega,by go_num,B1⟩
    · obtain rfl : k=rs.length:=by omega
      go_wp2_with fail
      go_ret
      exact ⟨rfl,HW.out⟩
set_option maxRecDepth 100000 in
set_option maxHeartbeats 4000000 in
theorem takes_any (v : Value) (rs : List RuleG) (s : List UInt8) (w : World) (hm : ∀ W,Below w.heap.size w W→ML W) (hr : RulesAt w v rs) (hl : rs.length≤12) (hs : checkS s=0) :
    Calls Tryz.prog 133 #[v,.string (bs s)] w fun e w' => e=.returned (.bool (takesG rs s))∧Below w.heap.size w w':=by
  obtain ⟨A,c,rfl,hc1,hc2⟩:=hr.slice
  unfold maxLen at hc2
  have HR:=Lib.hid hr
  have HF : Hid (∀ (r : RuleG) W,Below w.heap.size w W→Calls Tryz.prog 181 #[.string (bs r.pat),.string (bs s)] W fun e w' => e=.returned (.tuple #[.bool (fitsG s r),.int .i64 0])∧Below W.heap.size W w'):=Lib.hid (fun r W hb => Fits_ok r.pat r.ps r.ok s hs W (hm W hb))
  have H0 : Hid (takesG (rs.take rs.length) s=takesG rs s):=Lib.hid (by rw [List.take_length])
  have HT:=Lib.hid (fun k (hk : k < rs.length) => takesG_take hk s)
  clear hr hm hs
  obtain ⟨b,hb⟩ : ∃ b,b=takesG rs s:=⟨_,rfl⟩
  rw [← hb] at H0 ⊢
  clear hb
  go_enter Tryz.func133,Tryz.ntmps133
  go_wp2_with fail
  go_loopg [5] rs.length (fun gg s5 wr => ∃ k : Nat,k≤rs.length∧k≤gg∧s5=.int .i64 ((k : Int) - 1)∧Hid (Below w.heap.size w wr)∧Hid (takesG (rs.take k) s=b))
  case atStart => exact ⟨rs.length,Nat.le_refl _,by omega,rfl,Lib.hid (Below.refl _ _),H0⟩
  case round =>
    obtain ⟨k,hk,hg,rfl,HW,HB⟩:=hrel
    rcases Nat.eq_zero_or_pos k with h0 | h0
    · subst h0
      have HE : Hid (true=b):=Lib.hid (by rw [← HB.out,List.take_zero];rfl)
      go_wp2_with fail
      go_ret
      exact ⟨ret_bool HE.out,HW.out⟩
    · obtain ⟨j,rfl⟩ : ∃ j,k=j + 1:=⟨k - 1,by omega⟩
      have hj : j < rs.length:=by omega
      rw [show ((j + 1 : Nat) : Int) - 1=(j : Int) by omega]
      have hjz : (j : Int) < (rs.length : Int):=by omega
      have hj0 : (0 : Int)≤(j : Int):=by omega
      obtain ⟨g,c',hve,hgl,hrow⟩:=(HR.out.below HW.out).row (by omega)
      obtain ⟨rfl,rfl⟩ : A=some ⟨g,0,none⟩∧c=c':=by injection hve with h1 _ h2;exact ⟨h1,h2⟩
      obtain ⟨e0,e1⟩:=hrow j hj
      have HT2:=Lib.hid ((HT.out j hj).symm.trans HB.out)
      have HC:=Lib.hid (HF.out rs[j] wr HW.out)
      have HRW : Hid (∀ w',Below wr.heap.size wr w'→w'.cell? ⟨g,j * 2,none⟩=some (.bool rs[j].take)):=Lib.hid (fun w' hb => (hb.cell (p:=⟨g,j * 2,none⟩) hgl).trans e0)
      clear hve hrow h0 HB
      generalize rs[j]=r at *
      cases hf : fitsG s r with
      | true =>
        rw [hf] at HC HT2
        have HE : Hid (r.take=b):=Lib.hid (by have:=HT2.out;rwa [if_pos rfl] at this)
        clear hf HT2
        go_wp2_with fail
        refine HC.out.mono ?_
        rintro e w1 ⟨rfl,b1⟩
        have e2:=HRW.out w1 b1
        have B1:=Lib.hid (HW.out.trans (b1.mono HW.out.size))
        clear b1 e0 e1
        go_wp2_with fail
        go_ret
        exact ⟨ret_bool HE.out,B1.out⟩
      | false =>
        rw [hf] at HC HT2
        have HE : Hid (takesG (rs.take j) s=b):=Lib.hid (by have:=HT2.out;rwa [if_neg (by simp)] at this)
        clear hf HT2
        go_wp2_with fail
        refine HC.out.mono ?_
        rintro e w1 ⟨rfl,b1⟩
        have B1:=Lib.hid (HW.out.trans (b1.mono HW.out.size))
        clear b1 e0 e1
        go_wp2_with fail
        go_roundg j
        case measure => omega
        case rel => exact ⟨j,by omega,Nat.le_refl _,rfl,B1,HE⟩
end
section
open Go.RowKit
def NodesRow (w : World) (base : Nat) (v : Value) (l : List NodeP) : Prop :=
  ∃ xs : List NodeV,xs.map (·.1)=l∧w.ownsRow base 29 12 v l.length (xs.flatMap nodeC)∧∀ x∈xs,DataAt w 0 x.2 x.1.data
theorem NodesRow.below {w w' : World} {base : Nat} {v : Value} {l : List NodeP} (h : NodesRow w base v l) (hb : Below w.heap.size w w') : NodesRow w' base v l:=by
  obtain ⟨xs,h0,h1,h2⟩:=h
  exact ⟨xs,h0,ownsRow_below h1 hb,fun x hx => (h2 x hx).below hb⟩
theorem NodesRow.at_ {w : World} {base : Nat} {v : Value} {l : List NodeP} (h : NodesRow w base v l) : NodesAt w v l:=by
  obtain ⟨xs,h0,h1,h2⟩:=h
  obtain ⟨A,c,e1,e2,e3,e4,e5⟩:=ownsRow_read h1
  exact ⟨xs,A,c,h0,e1,e2,e3,e4,e5,h2⟩
theorem NodesRow.nil (w : World) (base : Nat) : NodesRow w base (.slice none 0 0) []:=⟨[],rfl,World.ownsRow_nil _ _ _ _,by simp⟩
theorem NodesRow.snoc {w w' : World} {base : Nat} {tv v' : Value} {l : List NodeP} {xs : List NodeV} {n : NodeP} {dv : Value} (hx : xs.map (·.1)=l) (hd : ∀ x∈xs,DataAt w 0 x.2 x.1.data) (hn : DataAt w 0 dv n.data) (h : w.ownsRow base 29 12 tv l.length (xs.flatMap nodeC)) (hg : w.grownBy w' tv.ownBlock)
    (ho : w'.ownsRow base 29 12 v' (l.length + 1) (xs.flatMap nodeC ++ nodeC (n,dv))) : NodesRow w' base v' (l ++ [n]):=by
  have hk : U8Kept w w':=U8Kept.grown hg (fun g e => by
    obtain ⟨_,C,fr,hC⟩:=own_typed h e
    exact ⟨C,_,fr,hC,by decide⟩)
  refine ⟨xs ++ [(n,dv)],by rw [List.map_append,hx];rfl,?_,fun x hx2 => ?_⟩
  · rw [List.length_append,List.flatMap_append]
    simpa using ho
  · rcases List.mem_append.1 hx2 with h1 | h1
    · exact (hd x h1).kept hk
    · rw [List.mem_singleton] at h1
      subst h1
      exact hn.kept hk
def FrSt (w : World) (l : List NodeP) (rs : List RuleG) (k : Nat) (v : Value) (W : World) : Prop:=Below w.heap.size w W∧NodesRow W w.heap.size v (filterP (l.take k) rs)
theorem FrSt.below {w W W' : World} {l : List NodeP} {rs : List RuleG} {k : Nat} {v : Value} (h : FrSt w l rs k v W) (hb : Below W.heap.size W W') : FrSt w l rs k v W':=⟨h.1.trans (hb.mono h.1.size),h.2.below hb⟩
theorem step_in {rs : List RuleG} {out : List NodeP} {n : NodeP} (h1 : takesG rs n.path=true) (h2 : upP n.path=[]∨findP out (upP n.path)≠none) : filterStep rs out n=out ++ [n]:=by unfold filterStep;rw [if_pos ⟨h1,h2⟩]
theorem step_off {rs : List RuleG} {out : List NodeP} {n : NodeP} (h1 : takesG rs n.path=false) : filterStep rs out n=out:=by unfold filterStep;rw [if_neg (by simp [h1])]
theorem step_lost {rs : List RuleG} {out : List NodeP} {n : NodeP} (h1 : upP n.path≠[]) (h2 : findP out (upP n.path)=none) : filterStep rs out n=out:=by unfold filterStep;rw [if_neg (by simp [h1,h2])]
set_option maxRecDepth 100000 in
set_option maxHeartbeats 8000000 in
theorem FRun_any (v1 v2 : Value) (t : List NodeP) (rs : List RuleG) (w : World) (hm : ∀ W,Below w.heap.size w W→ML W) (hl : NodesAt w v1 t) (ht : TreeOk t) (hr : RulesAt w v2 rs) (hrl : rs.length≤12) :
    Calls Tryz.prog 68 #[v1,v2] w fun e w' => ∃ tv,e=.returned (.tuple #[tv,.int .i64 0])∧NodesOwn w' w.heap.size tv (filterP t rs)∧Below w.heap.size w w':=by
  have HCK:=Lib.hid (TCheck_any v1 t w (hm w (Below.refl _ _)) hl ht.node)
  rw [ht.chk] at HCK
  have HFC : Hid (∀ W,Below w.heap.size w W→Calls Tryz.prog 132 #[v2] W fun e w' => e=.returned (.int .i64 0)∧Below W.heap.size W w'):=Lib.hid (fun W hb => FCheck_ok v2 rs W (fun W2 h2 => hm W2 (hb.trans (h2.mono hb.size))) (hr.below hb) hrl)
  have HTK : Hid (∀ s W,checkS s=0→Below w.heap.size w W→Calls Tryz.prog 133 #[v2,.string (bs s)] W fun e w' => e=.returned (.bool (takesG rs s))∧Below W.heap.size W w'):=Lib.hid (fun s W hs hb => takes_any v2 rs s W (fun W2 h2 => hm W2 (hb.trans (h2.mono hb.size))) (hr.below hb) hrl hs)
  have HOK:=Lib.hid ht.node
  have HN:=Lib.hid hl
  have hlen:=ht.len
  have hfl:=filterP_length t rs
  obtain ⟨i9,hi9,hy0,hy1,hy2⟩:=info_parts nodeinfo
  obtain ⟨_,A,c,-,rfl,hlc,hc,-⟩:=hl
  unfold maxLen at hc
  obtain ⟨A2,c2,rfl,-,-⟩:=hr.slice
  have HFOK : Hid (∀ x∈filterP t rs,x.data.length≤100000):=Lib.hid (fun x hx => by
    have:=((filter_ok ht rs).node x hx).data.1
    omega)
  clear hm ht hr
  go_enter Tryz.func68,Tryz.ntmps68
  go_wp2_with fail
  refine HCK.out.mono ?_
  rintro e w1 ⟨rfl,b1⟩
  have B1:=Lib.hid b1
  clear b1 HCK
  go_wp2_with fail
  refine (HFC.out _ B1.out).mono ?_
  rintro e w2 ⟨rfl,b2⟩
  have H0 : Hid (FrSt w t rs 0 (.slice none 0 0) w2):=Lib.hid ⟨B1.out.trans (b2.mono B1.out.size),by rw [List.take_zero];exact NodesRow.nil _ _⟩
  clear b2 HFC B1
  go_wp2_with fail
  go_loopg [8,25] t.length (fun gg s8 s25 wr => ∃ k : Nat,k≤t.length∧t.length - k≤gg∧s25=.int .i64 k∧Hid (FrSt w t rs k s8 wr))
  case atStart => exact ⟨0,Nat.zero_le _,by omega,rfl,H0⟩
  case round =>
    obtain ⟨k,hk,hg,rfl,HS⟩:=hrel
    by_cases hlt : k < t.length
    · have hltz : (k : Int) < (t.length : Int):=by omega
      obtain ⟨ad,Ax,cx,rfl,hb,hdx,e0,e1,e2,e3,e4,e5,e6,e7,e8,e9,e10,e11⟩:=node_read (HN.out.below HS.out.1) hlt
      have hpl:=(HOK.out _ (List.getElem_mem hlt)).path
      have HST:=Lib.hid (filterP_take (rs:=rs) hlt)
      have hfk:=filterP_length (t.take k) rs
      rw [List.length_take] at hfk
      obtain ⟨x,hx⟩ : ∃ x,x=t[k]:=⟨_,rfl⟩
      rw [← hx] at hdx hpl HST e0 e1 e2 e3 e4 e5 e6 e7 e8 e9 e10 e11
      clear hx
      obtain ⟨_,A8,c8,-,h8e,hc81,hc82,-⟩:=HS.out.2.at_
      unfold maxLen at hc82
      obtain ⟨F,hF⟩ : ∃ F,F=filterP (t.take k) rs:=⟨_,rfl⟩
      rw [← hF] at HST hfk hc81 h8e
      subst h8e
      have HFE:=Lib.hid hF
      clear hF
      obtain ⟨hpc,hpl⟩:=hpl
      have HIN:=Lib.hid (fun h1 h2 => step_in (rs:=rs) (out:=F) (n:=x) h1 h2)
      have HOFF:=Lib.hid (fun h1 => step_off (rs:=rs) (out:=F) (n:=x) h1)
      have HLOST:=Lib.hid (fun h1 h2 => step_lost (rs:=rs) (out:=F) (n:=x) h1 h2)
      obtain ⟨np,nk,ns,nt,⟨o1,o2,o3,o4,o5,o6,o7⟩,nd⟩:=x
      simp only at hdx hpl hpc HIN HOFF HLOST e0 e1 e2 e3 e4 e5 e6 e7 e8 e9 e10 e11
      obtain ⟨W2,hW2⟩ : ∃ W2,W2=wr.alloc (.cells #[.string (bs np),.int .i64 nk,.int .i64 ns,.string (bs nt),.int .i64 o1,.int .i64 o2,.int .i64 o3,.string (bs o4),.string (bs o5),.int .i64 o6,.int .i64 o7,.slice Ax nd.length cx] 29):=⟨_,rfl⟩
      have b2 : Below wr.heap.size wr W2:=by rw [hW2];exact (Below.refl _ _).alloc (Nat.le_refl _) _
      have K2 : Blk W2 wr.heap.size 29 (nodeC (⟨np,nk,ns,nt,⟨o1,o2,o3,o4,o5,o6,o7⟩,nd⟩,.slice Ax nd.length cx)).toArray:=by rw [hW2];exact Blk.new _ _ _
      have HS2:=Lib.hid (HS.out.below b2)
      have HK2:=Lib.hid K2
      have HD2:=Lib.hid (hdx.below b2)
      have HUP:=Lib.hid (fun W => Up_any np (by omega) W)
      have hul:=upP_length np
      have HTN:=Lib.hid (fun W h => HTK.out np W hpc h)
      clear b2 K2 hdx hpc
      go_upto_region 11 with fail
      rw [← hW2]
      clear hW2 e0 e1 e2 e3 e4 e5 e6 e7 e8 e9 e10 e11
      have c0 : W2.cell? ⟨wr.heap.size,0,none⟩=some (.string (bs np)):=HK2.out.cell 0
      have HFN : Hid (Calls Tryz.prog 38 #[.slice A8 F.length c8,.string (bs (upP np))] W2 fun e w' => e=.returned (findR (findP F (upP np)))∧Below W2.heap.size W2 w'):=Lib.hid (Find_any _ F (upP np) W2 (by have:=HS2.out.2.at_;rw [← HFE.out] at this;exact this))
      cases htk : takesG rs np with
      | false =>
        have htk':=HTN.out
        rw [htk] at htk'
        clear HTN
        have HTN:=Lib.hid htk'
        clear htk'
        have HE0:=Lib.hid (HOFF.out htk)
        cases hq : findP F (upP np) with
        | none =>
          rw [hq] at HFN
          unfold findR at HFN
          clear hq
          go_wp2_with fail
          refine (HUP.out _).mono ?_
          rintro e w' ⟨rfl,rfl⟩
          go_wp2_with fail
          refine HFN.out.mono ?_
          rintro e w4 ⟨rfl,b4⟩
          have HS4:=Lib.hid (HS2.out.below b4)
          have HK4:=Lib.hid (HK2.out.below b4 HK2.out.lt)
          have HD4:=Lib.hid (HD2.out.below b4)
          have k0 : w4.cell? ⟨wr.heap.size,0,none⟩=some (.string (bs np)):=HK4.out.cell 0
          clear b4 c0
          go_wp2_with fail
          refine (HTN.out _ HS4.out.1).mono ?_
          rintro e w5 ⟨rfl,b5⟩
          have HS5:=Lib.hid (HS4.out.below b5)
          have HK5:=Lib.hid (HK4.out.below b5 HK4.out.lt)
          have HD5:=Lib.hid (HD4.out.below b5)
          have m0 : w5.cell? ⟨wr.heap.size,0,none⟩=some (.string (bs np)):=HK5.out.cell 0
          clear b5 k0
          have HE : Hid (filterP (t.take (k + 1)) rs=F):=Lib.hid (HST.out.trans HE0.out)
          clear HOFF HLOST HIN htk
          go_wp2_with fail
          go_roundg (t.length - (k + 1))
          case measure => omega
          case rel => exact ⟨k + 1,by omega,by omega,by go_num,Lib.hid ⟨HS5.out.1,by rw [HE.out];have h:=HS5.out.2;rw [← HFE.out] at h;exact h⟩⟩
        | some i =>
          rw [hq] at HFN
          unfold findR at HFN
          clear hq
          go_wp2_with fail
          refine (HUP.out _).mono ?_
          rintro e w' ⟨rfl,rfl⟩
          go_wp2_with fail
          refine HFN.out.mono ?_
          rintro e w4 ⟨rfl,b4⟩
          have HS4:=Lib.hid (HS2.out.below b4)
          have HK4:=Lib.hid (HK2.out.below b4 HK2.out.lt)
          have HD4:=Lib.hid (HD2.out.below b4)
          have k0 : w4.cell? ⟨wr.heap.size,0,none⟩=some (.string (bs np)):=HK4.out.cell 0
          clear b4 c0
          go_wp2_with fail
          refine (HTN.out _ HS4.out.1).mono ?_
          rintro e w5 ⟨rfl,b5⟩
          have HS5:=Lib.hid (HS4.out.below b5)
          have HK5:=Lib.hid (HK4.out.below b5 HK4.out.lt)
          have HD5:=Lib.hid (HD4.out.below b5)
          have m0 : w5.cell? ⟨wr.heap.size,0,none⟩=some (.string (bs np)):=HK5.out.cell 0
          clear b5 k0
          have HE : Hid (filterP (t.take (k + 1)) rs=F):=Lib.hid (HST.out.trans HE0.out)
          clear HOFF HLOST HIN htk
          go_wp2_with fail
          go_roundg (t.length - (k + 1))
          case measure => omega
          case rel => exact ⟨k + 1,by omega,by omega,by go_num,Lib.hid ⟨HS5.out.1,by rw [HE.out];have h:=HS5.out.2;rw [← HFE.out] at h;exact h⟩⟩
      | true =>
        have htk':=HTN.out
        rw [htk] at htk'
        clear HTN
        have HTN:=Lib.hid htk'
        have HTT:=Lib.hid htk
        clear htk'
        by_cases hu : upP np=[]
        · have t1 : (bs (upP np)).toList=[]:=by rw [bs_toList];exact hu
          have t2 : (bs (upP np)).toList.isEmpty=true:=by rw [t1];rfl
          have HE0:=Lib.hid (HIN.out HTT.out (.inl hu))
          clear hu HTT
          cases hq : findP F (upP np) with
          | none =>
            rw [hq] at HFN
            unfold findR at HFN
            clear hq
            go_wp2_with fail
            refine (HUP.out _).mono ?_
            rintro e w' ⟨rfl,rfl⟩
            go_wp2_with fail
            refine HFN.out.mono ?_
            rintro e w4 ⟨rfl,b4⟩
            have HS4:=Lib.hid (HS2.out.below b4)
            have HK4:=Lib.hid (HK2.out.below b4 HK2.out.lt)
            have HD4:=Lib.hid (HD2.out.below b4)
            have k0 : w4.cell? ⟨wr.heap.size,0,none⟩=some (.string (bs np)):=HK4.out.cell 0
            clear b4 c0
            go_wp2_with fail
            refine (HTN.out _ HS4.out.1).mono ?_
            rintro e w5 ⟨rfl,b5⟩
            have HS5:=Lib.hid (HS4.out.below b5)
            have HK5:=Lib.hid (HK4.out.below b5 HK4.out.lt)
            have HD5:=Lib.hid (HD4.out.below b5)
            have m0 : w5.cell? ⟨wr.heap.size,0,none⟩=some (.string (bs np)):=HK5.out.cell 0
            clear b5 k0
            have HE : Hid (filterP (t.take (k + 1)) rs=F ++ [⟨np,nk,ns,nt,⟨o1,o2,o3,o4,o5,o6,o7⟩,nd⟩]):=Lib.hid (HST.out.trans HE0.out)
            clear HOFF HLOST HIN htk
            obtain ⟨ys,hys,hyo,hyd⟩:=HS5.out.2
            rw [← HFE.out] at hys hyo
            have HYS:=Lib.hid hys
            have HYO:=Lib.hid hyo
            have HYD:=Lib.hid hyd
            have hsz:=HS5.out.1.size
            clear hys hyo hyd
            go_wp2_with fail
            refine (HUP.out _).mono ?_
            rintro e w' ⟨rfl,rfl⟩
            obtain ⟨m0',m1,m2,m3,m4,m5,m6,m7,m8,m9,m10,m11⟩:=HK5.out.node
            clear m0'
            go_wp2_with (at_builtin;refine wpList_append_any _ rfl (.tmp 51) (.tmp 53) _ rfl w.heap.size 29 i9 _ 12 144 Tryz.underlying23 hi9 hy0 hy1 hy2 rfl (by omega) _ F.length (ys.flatMap nodeC) rfl (ownsRow_below HYO.out ((Below.refl _ _).alloc (Nat.le_refl _) _)) (w5.heap.size + 1) (some ⟨w5.heap.size,0,none⟩) 1 1 (nodeC (⟨np,nk,ns,nt,⟨o1,o2,o3,o4,o5,o6,o7⟩,nd⟩,.slice Ax nd.length cx)) rfl (new_row w5 29 (nodeC (⟨np,nk,ns,nt,⟨o1,o2,o3,o4,o5,o6,o7⟩,nd⟩,.slice Ax nd.length cx)) 1 12 rfl) (one_node _ rfl) (by simp only [maxLen];omega) (by omega) (by simp;omega) ?_;intro v9 w9 hown9 hg9 hat9;obtain ⟨A9,c9,hv9,-⟩:=ownsRow_read hown9;subst hv9;have HO9:=Lib.hid hown9;have HG9:=Lib.hid hg9;clear hown9 hg9 hat9)
            go_roundg (t.length - (k + 1))
            case measure => omega
            case rel =>
              have bA:=(Below.refl w5.heap.size w5).alloc (Nat.le_refl _) (.cells (nodeC (⟨np,nk,ns,nt,⟨o1,o2,o3,o4,o5,o6,o7⟩,nd⟩,.slice Ax nd.length cx)).toArray 29)
              refine ⟨k + 1,by omega,by omega,by go_num,Lib.hid ⟨(HS5.out.1.trans (bA.mono hsz)).grown HG9.out (Nat.le_trans hsz bA.size) (fun g hg => (own_typed (ownsRow_below HYO.out bA) hg).1),?_⟩⟩
              rw [HE.out]
              exact NodesRow.snoc HYS.out (fun y hy => (HYD.out y hy).below bA) (HD5.out.below bA) (ownsRow_below HYO.out bA) HG9.out HO9.out
          | some i =>
            rw [hq] at HFN
            unfold findR at HFN
            clear hq
            go_wp2_with fail
            refine (HUP.out _).mono ?_
            rintro e w' ⟨rfl,rfl⟩
            go_wp2_with fail
            refine HFN.out.mono ?_
            rintro e w4 ⟨rfl,b4⟩
            have HS4:=Lib.hid (HS2.out.below b4)
            have HK4:=Lib.hid (HK2.out.below b4 HK2.out.lt)
            have HD4:=Lib.hid (HD2.out.below b4)
            have k0 : w4.cell? ⟨wr.heap.size,0,none⟩=some (.string (bs np)):=HK4.out.cell 0
            clear b4 c0
            go_wp2_with fail
            refine (HTN.out _ HS4.out.1).mono ?_
            rintro e w5 ⟨rfl,b5⟩
            have HS5:=Lib.hid (HS4.out.below b5)
            have HK5:=Lib.hid (HK4.out.below b5 HK4.out.lt)
            have HD5:=Lib.hid (HD4.out.below b5)
            have m0 : w5.cell? ⟨wr.heap.size,0,none⟩=some (.string (bs np)):=HK5.out.cell 0
            clear b5 k0
            have HE : Hid (filterP (t.take (k + 1)) rs=F ++ [⟨np,nk,ns,nt,⟨o1,o2,o3,o4,o5,o6,o7⟩,nd⟩]):=Lib.hid (HST.out.trans HE0.out)
            clear HOFF HLOST HIN htk
            obtain ⟨ys,hys,hyo,hyd⟩:=HS5.out.2
            rw [← HFE.out] at hys hyo
            have HYS:=Lib.hid hys
            have HYO:=Lib.hid hyo
            have HYD:=Lib.hid hyd
            have hsz:=HS5.out.1.size
            clear hys hyo hyd
            go_wp2_with fail
            refine (HUP.out _).mono ?_
            rintro e w' ⟨rfl,rfl⟩
            obtain ⟨m0',m1,m2,m3,m4,m5,m6,m7,m8,m9,m10,m11⟩:=HK5.out.node
            clear m0'
            go_wp2_with (at_builtin;refine wpList_append_any _ rfl (.tmp 51) (.tmp 53) _ rfl w.heap.size 29 i9 _ 12 144 Tryz.underlying23 hi9 hy0 hy1 hy2 rfl (by omega) _ F.length (ys.flatMap nodeC) rfl (ownsRow_below HYO.out ((Below.refl _ _).alloc (Nat.le_refl _) _)) (w5.heap.size + 1) (some ⟨w5.heap.size,0,none⟩) 1 1 (nodeC (⟨np,nk,ns,nt,⟨o1,o2,o3,o4,o5,o6,o7⟩,nd⟩,.slice Ax nd.length cx)) rfl (new_row w5 29 (nodeC (⟨np,nk,ns,nt,⟨o1,o2,o3,o4,o5,o6,o7⟩,nd⟩,.slice Ax nd.length cx)) 1 12 rfl) (one_node _ rfl) (by simp only [maxLen];omega) (by omega) (by simp;omega) ?_;intro v9 w9 hown9 hg9 hat9;obtain ⟨A9,c9,hv9,-⟩:=ownsRow_read hown9;subst hv9;have HO9:=Lib.hid hown9;have HG9:=Lib.hid hg9;clear hown9 hg9 hat9)
            go_roundg (t.length - (k + 1))
            case measure => omega
            case rel =>
              have bA:=(Below.refl w5.heap.size w5).alloc (Nat.le_refl _) (.cells (nodeC (⟨np,nk,ns,nt,⟨o1,o2,o3,o4,o5,o6,o7⟩,nd⟩,.slice Ax nd.length cx)).toArray 29)
              refine ⟨k + 1,by omega,by omega,by go_num,Lib.hid ⟨(HS5.out.1.trans (bA.mono hsz)).grown HG9.out (Nat.le_trans hsz bA.size) (fun g hg => (own_typed (ownsRow_below HYO.out bA) hg).1),?_⟩⟩
              rw [HE.out]
              exact NodesRow.snoc HYS.out (fun y hy => (HYD.out y hy).below bA) (HD5.out.below bA) (ownsRow_below HYO.out bA) HG9.out HO9.out
        · have t1 : ¬ (bs (upP np)).toList=[]:=by rw [bs_toList];exact hu
          have t2 : (bs (upP np)).toList.isEmpty=false:=by rw [bs_toList];exact List.isEmpty_eq_false_iff.2 hu
          cases hq : findP F (upP np) with
          | none =>
            have HE0:=Lib.hid (HLOST.out hu hq)
            rw [hq] at HFN
            unfold findR at HFN
            clear hq hu HTT
            go_wp2_with fail
            refine (HUP.out _).mono ?_
            rintro e w' ⟨rfl,rfl⟩
            go_wp2_with fail
            refine HFN.out.mono ?_
            rintro e w4 ⟨rfl,b4⟩
            have HS4:=Lib.hid (HS2.out.below b4)
            have HK4:=Lib.hid (HK2.out.below b4 HK2.out.lt)
            have HD4:=Lib.hid (HD2.out.below b4)
            have k0 : w4.cell? ⟨wr.heap.size,0,none⟩=some (.string (bs np)):=HK4.out.cell 0
            clear b4 c0
            go_wp2_with fail
            refine (HTN.out _ HS4.out.1).mono ?_
            rintro e w5 ⟨rfl,b5⟩
            have HS5:=Lib.hid (HS4.out.below b5)
            have HK5:=Lib.hid (HK4.out.below b5 HK4.out.lt)
            have HD5:=Lib.hid (HD4.out.below b5)
            have m0 : w5.cell? ⟨wr.heap.size,0,none⟩=some (.string (bs np)):=HK5.out.cell 0
            clear b5 k0
            go_wp2_with fail
            refine (HUP.out _).mono ?_
            rintro e w' ⟨rfl,rfl⟩
            have HE : Hid (filterP (t.take (k + 1)) rs=F):=Lib.hid (HST.out.trans HE0.out)
            clear HOFF HLOST HIN htk
            go_wp2_with fail
            go_roundg (t.length - (k + 1))
            case measure => omega
            case rel => exact ⟨k + 1,by omega,by omega,by go_num,Lib.hid ⟨HS5.out.1,by rw [HE.out];have h:=HS5.out.2;rw [← HFE.out] at h;exact h⟩⟩
          | some i =>
            have HE0:=Lib.hid (HIN.out HTT.out (.inr (by rw [hq];simp)))
            rw [hq] at HFN
            unfold findR at HFN
            clear hq hu HTT
            go_wp2_with fail
            refine (HUP.out _).mono ?_
            rintro e w' ⟨rfl,rfl⟩
            go_wp2_with fail
            refine HFN.out.mono ?_
            rintro e w4 ⟨rfl,b4⟩
            have HS4:=Lib.hid (HS2.out.below b4)
            have HK4:=Lib.hid (HK2.out.below b4 HK2.out.lt)
            have HD4:=Lib.hid (HD2.out.below b4)
            have k0 : w4.cell? ⟨wr.heap.size,0,none⟩=some (.string (bs np)):=HK4.out.cell 0
            clear b4 c0
            go_wp2_with fail
            refine (HTN.out _ HS4.out.1).mono ?_
            rintro e w5 ⟨rfl,b5⟩
            have HS5:=Lib.hid (HS4.out.below b5)
            have HK5:=Lib.hid (HK4.out.below b5 HK4.out.lt)
            have HD5:=Lib.hid (HD4.out.below b5)
            have m0 : w5.cell? ⟨wr.heap.size,0,none⟩=some (.string (bs np)):=HK5.out.cell 0
            clear b5 k0
            have HE : Hid (filterP (t.take (k + 1)) rs=F ++ [⟨np,nk,ns,nt,⟨o1,o2,o3,o4,o5,o6,o7⟩,nd⟩]):=Lib.hid (HST.out.trans HE0.out)
            clear HOFF HLOST HIN htk
            obtain ⟨ys,hys,hyo,hyd⟩:=HS5.out.2
            rw [← HFE.out] at hys hyo
            have HYS:=Lib.hid hys
            have HYO:=Lib.hid hyo
            have HYD:=Lib.hid hyd
            have hsz:=HS5.out.1.size
            clear hys hyo hyd
            go_wp2_with fail
            refine (HUP.out _).mono ?_
            rintro e w' ⟨rfl,rfl⟩
            obtain ⟨m0',m1,m2,m3,m4,m5,m6,m7,m8,m9,m10,m11⟩:=HK5.out.node
            clear m0'
            go_wp2_with (at_builtin;refine wpList_append_any _ rfl (.tmp 51) (.tmp 53) _ rfl w.heap.size 29 i9 _ 12 144 Tryz.underlying23 hi9 hy0 hy1 hy2 rfl (by omega) _ F.length (ys.flatMap nodeC) rfl (ownsRow_below HYO.out ((Below.refl _ _).alloc (Nat.le_refl _) _)) (w5.heap.size + 1) (some ⟨w5.heap.size,0,none⟩) 1 1 (nodeC (⟨np,nk,ns,nt,⟨o1,o2,o3,o4,o5,o6,o7⟩,nd⟩,.slice Ax nd.length cx)) rfl (new_row w5 29 (nodeC (⟨np,nk,ns,nt,⟨o1,o2,o3,o4,o5,o6,o7⟩,nd⟩,.slice Ax nd.length cx)) 1 12 rfl) (one_node _ rfl) (by simp only [maxLen];omega) (by omega) (by simp;omega) ?_;intro v9 w9 hown9 hg9 hat9;obtain ⟨A9,c9,hv9,-⟩:=ownsRow_read hown9;subst hv9;have HO9:=Lib.hid hown9;have HG9:=Lib.hid hg9;clear hown9 hg9 hat9)
            go_roundg (t.length - (k + 1))
            case measure => omega
            case rel =>
              have bA:=(Below.refl w5.heap.size w5).alloc (Nat.le_refl _) (.cells (nodeC (⟨np,nk,ns,nt,⟨o1,o2,o3,o4,o5,o6,o7⟩,nd⟩,.slice Ax nd.length cx)).toArray 29)
              refine ⟨k + 1,by omega,by omega,by go_num,Lib.hid ⟨(HS5.out.1.trans (bA.mono hsz)).grown HG9.out (Nat.le_trans hsz bA.size) (fun g hg => (own_typed (ownsRow_below HYO.out bA) hg).1),?_⟩⟩
              rw [HE.out]
              exact NodesRow.snoc HYS.out (fun y hy => (HYD.out y hy).below bA) (HD5.out.below bA) (ownsRow_below HYO.out bA) HG9.out HO9.out
    · obtain rfl : k=t.length:=by omega
      have HF : Hid (t.take t.length=t):=Lib.hid List.take_length
      obtain ⟨_,A8,c8,-,h8e,-⟩:=HS.out.2.at_
      rw [HF.out] at h8e
      subst h8e
      have hrow:=HS.out.2
      rw [HF.out] at hrow
      have HCP:=Lib.hid (Copy_any _ (filterP t rs) wr hrow.at_ (by omega) HFOK.out)
      clear hrow
      go_wp2_with fail
      refine HCP.out.mono ?_
      rintro e w7 ⟨cv,rfl,hcv,b7⟩
      have HCV:=Lib.hid (hcv.mono HS.out.1.size)
      have B7:=Lib.hid (HS.out.1.trans (b7.mono HS.out.1.size))
      obtain ⟨_,A7,c7,-,h7e,-⟩:=hcv.at_
      subst h7e
      clear hcv b7
      go_wp2_with fail
      go_ret2
      exact ⟨_,rfl,HCV.out,B7.out⟩
end
end
end Go.Proofs.YtphmhmdcaafmdaaGreatDoor
