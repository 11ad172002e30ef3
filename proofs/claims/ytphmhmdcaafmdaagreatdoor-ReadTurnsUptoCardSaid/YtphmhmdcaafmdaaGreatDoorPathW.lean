import Derived.Test.YtphmhmdcaafmdaaGreatDoorWords
import Derived.Test.YtphmhmdcaafmdaaGreatDoorShelf
import Derived.Lib.SplitLaws
import Derived.Lib.IndexBytes
import Derived.Lib.TrimByte
import Derived.Lib.Join
import Derived.Lib.Repeat
import Derived.Lib.LastIndexByte
namespace Go.Proofs.YtphmhmdcaafmdaaGreatDoor
set_option linter.all false
section
open Go.RowKit
def ML (w : World) : Prop:=∃ m,w.cell? ⟨0,0,none⟩=some (.int .i64 m)
theorem ML.of_shaped {w : World} (h : w.ShapedOpen Tryz.prog) : ML w :=
  Go.Proofs.cell_of_shapedOpen_int (zero:=#[.int .i64 0]) (t:=3) h (of_decide_eq_true (by kernel_rfl)) (by kernel_rfl) rfl (by kernel_rfl) (by kernel_rfl) Tryz.underlying3
theorem ML.lt {w : World} (h : ML w) : 0 < w.heap.size:=by
  obtain ⟨m,hm⟩:=h
  rcases Nat.lt_or_ge 0 w.heap.size with h | h
  · exact h
  · simp [World.cell?,Array.getElem?_eq_none h] at hm
theorem ML.below {w w' : World} (h : ML w) (hb : Below w.heap.size w w') : ML w':=by
  have hl:=h.lt
  obtain ⟨m,hm⟩:=h
  exact ⟨m,(hb.cell (p:=⟨0,0,none⟩) hl).trans hm⟩
def splitC (c : UInt8) : List UInt8→List (List UInt8)
  | [] => [[]]
  | b :: l => if b=c then [] :: splitC c l else (b :: (splitC c l).headD []) :: (splitC c l).tail
theorem splitC_ne (c : UInt8) (l : List UInt8) : splitC c l≠[]:=by
  cases l with
  | nil => simp [splitC]
  | cons b l => unfold splitC;split <;> simp
theorem splitC_miss {c : UInt8} : ∀ {l : List UInt8},c ∉ l→splitC c l=[l]
  | [],_ => rfl
  | b :: l,h => by
    have h1 : b≠c:=fun e => h (by simp [e])
    have h2 : c ∉ l:=fun e => h (by simp [e])
    rw [splitC,if_neg h1,splitC_miss h2]
    rfl
theorem splitC_hit {c : UInt8} : ∀ {a : List UInt8} (r : List UInt8),c ∉ a→splitC c (a ++ c :: r)=a :: splitC c r
  | [],r,_ => by simp [splitC]
  | b :: a,r,h => by
    have h1 : b≠c:=fun e => h (by simp [e])
    have h2 : c ∉ a:=fun e => h (by simp [e])
    rw [List.cons_append,splitC,if_neg h1,splitC_hit r h2]
    rfl
theorem index_split {c : UInt8} : ∀ {l : List UInt8} {i : Nat},Lib.indexByte l c=i→∃ a r,l=a ++ c :: r∧a.length=i∧c ∉ a
  | [],i,h => by unfold Lib.indexByte at h;omega
  | b :: l,i,h => by
    unfold Lib.indexByte at h
    by_cases e : b=c
    · rw [e,beq_self_eq_true,if_pos rfl] at h
      exact ⟨[],l,by rw [e];rfl,by simp;omega,by simp⟩
    · have e1 : (b == c)=false:=by simpa using e
      rw [e1,if_neg (by decide)] at h
      by_cases e2 : Lib.indexByte l c=-1
      · rw [e2] at h
        have h : (-1 : Int)=i:=h
        omega
      · have e3 : (Lib.indexByte l c == -1)=false:=by simpa using e2
        rw [e3,if_neg (by decide)] at h
        obtain ⟨a,r,rfl,h1,h2⟩:=index_split (c:=c) (i:=i - 1) (l:=l) (by have:=(indexByte_ge l c).1;omega)
        refine ⟨b :: a,r,rfl,?_,?_⟩
        · have:=(indexByte_ge (a ++ c :: r) c).1
          simp;omega
        · simp only [List.mem_cons,not_or]
          exact ⟨fun e' => e e'.symm,h2⟩
theorem split_eq (c : UInt8) : ∀ (n : Nat) (l : List UInt8),l.length≤n→Lib.split l [c]=splitC c l:=by
  intro n
  induction n with
  | zero =>
    intro l h
    obtain rfl : l=[]:=List.eq_nil_of_length_eq_zero (by omega)
    unfold Lib.split
    rw [Lib.count_miss (by rw [Lib.index_one];rfl)]
    rfl
  | succ n ih =>
    intro l h
    by_cases hm : c∈l
    · obtain ⟨i,hi⟩:=Int.eq_ofNat_of_zero_le (indexByte_mem hm)
      obtain ⟨a,r,rfl,ha,hn⟩:=index_split hi
      have hx : Lib.index (a ++ c :: r) [c]=i:=by rw [Lib.index_one];exact hi
      have hd : (a ++ c :: r).drop (i + 1)=r:=by rw [← ha];simp
      have ht : (a ++ c :: r).take i=a:=by rw [← ha];simp
      unfold Lib.split
      rw [Lib.count_hit (by simp) hx,Nat.add_comm 1,Lib.splitK,if_neg (by rw [hx];simp <;> omega),hx]
      simp only [Int.toNat_natCast,Nat.add_zero,List.length_singleton]
      rw [hd,ht,splitC_hit r hn]
      have:=ih r (by simp at h;omega)
      unfold Lib.split at this
      rw [this]
    · have hx : Lib.index l [c]=-1:=by rw [Lib.index_one];exact indexByte_not hm
      unfold Lib.split
      rw [Lib.count_miss hx,splitC_miss hm]
      rfl
def StrsAt (w : World) (B : Nat) (v : Value) (l : List (List UInt8)) : Prop :=
  ∃ A c,v=.slice A l.length c∧l.length≤c∧c≤maxLen∧(A=none→c=0)∧Reads w B 1 A l.length (l.map fun s => .string (bs s))
theorem StrsAt.below {w w' : World} {B : Nat} {v : Value} {l : List (List UInt8)} (h : StrsAt w B v l) (hb : Below B w w') : StrsAt w' B v l:=by
  obtain ⟨A,c,h1,h2,h3,h4,h5⟩:=h
  exact ⟨A,c,h1,h2,h3,h4,h5.below hb⟩
theorem StrsAt.more {w : World} {B B' : Nat} {v : Value} {l : List (List UInt8)} (h : StrsAt w B v l) (hb : B≤B') : StrsAt w B' v l:=by
  obtain ⟨A,c,h1,h2,h3,h4,h5⟩:=h
  exact ⟨A,c,h1,h2,h3,h4,h5.more hb⟩
theorem StrsAt.nil (w : World) (B : Nat) : StrsAt w B (.slice none 0 0) []:=⟨none,0,rfl,by simp,by simp,fun _ => rfl,Reads.none_⟩
theorem splitC_length (c : UInt8) (l : List UInt8) : (splitC c l).length≤l.length + 1:=by
  induction l with
  | nil => simp [splitC]
  | cons b l ih =>
    unfold splitC
    split
    · simp;omega
    · have:=splitC_ne c l
      cases h : splitC c l with
      | nil => exact absurd h this
      | cons x y => rw [h] at ih;simp at ih ⊢;omega
def StrsOwn (w : World) (base : Nat) (v : Value) (l : List (List UInt8)) : Prop :=
  ∃ g c,v=.slice (some ⟨g,0,none⟩) l.length c∧base≤g∧g < w.heap.size∧l.length≤c∧c≤maxLen∧∀ j u,(l.map fun s => Value.string (bs s))[j]?=some u→w.cell? ⟨g,j,none⟩=some u
theorem StrsOwn.at_ {w : World} {base : Nat} {v : Value} {l : List (List UInt8)} (h : StrsOwn w base v l) : StrsAt w w.heap.size v l:=by
  obtain ⟨g,c,rfl,h1,h2,h3,h4,h5⟩:=h
  refine ⟨_,_,rfl,h3,h4,(fun h => by cases h),by simp,fun _ => ⟨_,rfl,h2,fun j u hu => ?_⟩⟩
  have e : (⟨g,0,none⟩ : Addr).add j=⟨g,j,none⟩:=by unfold Addr.add;split <;> simp_all
  rw [e]
  exact h5 j u hu
theorem StrsOwn.below {w w' : World} {base B : Nat} {v : Value} {l : List (List UInt8)} (h : StrsOwn w base v l) (hB : w.heap.size≤B) (hb : Below B w w') : StrsOwn w' base v l:=by
  obtain ⟨g,c,rfl,h1,h2,h3,h4,h5⟩:=h
  exact ⟨g,c,rfl,h1,Nat.lt_of_lt_of_le h2 hb.size,h3,h4,fun j u hu => (hb.cell (p:=⟨g,j,none⟩) (by show g < B;omega)).trans (h5 j u hu)⟩
theorem Split_own (l : List UInt8) (w : World) (hs : l.length < 4294967281) (hm : ML w) :
    Calls Tryz.prog 67 #[.string (bs l),.string ⟨#[47]⟩] w fun e w' => ∃ v,e=.returned v∧StrsOwn w' w.heap.size v (splitC 47 l)∧Below w.heap.size w w':=by
  obtain ⟨m,hm⟩:=hm
  refine (Tryz.strings_Split (bs l) ⟨#[47]⟩ m w (by rw [bs_size];exact hs) hm (by decide)).mono ?_
  rintro e w' ⟨rfl,rfl⟩
  have hk : Lib.countB (bs l) ⟨#[47]⟩=Lib.countB (bs l) ⟨#[47]⟩:=rfl
  have hlen:=Lib.splitB_all ⟨#[47]⟩ (by decide) 0 _ (bs l) hk
  have hdat:=Lib.splitB_data ⟨#[47]⟩ 0 (Lib.countB (bs l) ⟨#[47]⟩) (bs l)
  have hsp : Lib.splitK [47] 0 (Lib.countB (bs l) ⟨#[47]⟩) l=splitC 47 l:=by
    have:=split_eq 47 l.length l (Nat.le_refl _)
    unfold Lib.split at this
    exact this
  rw [bs_data] at hdat
  have hdat:=hdat.trans hsp
  generalize Lib.splitB ⟨#[47]⟩ 0 (Lib.countB (bs l) ⟨#[47]⟩) (bs l)=P at *
  have hP : P.map Value.string=(splitC 47 l).map fun s => Value.string (bs s):=by
    rw [← hdat,List.map_map]
    apply List.map_congr_left
    intro x _
    rfl
  have hl2 : (splitC 47 l).length=Lib.countB (bs l) ⟨#[47]⟩ + 1:=by rw [← hlen,← hdat,List.length_map]
  have hl3:=splitC_length 47 l
  refine ⟨_,rfl,⟨_,_,by rw [hl2],Nat.le_refl _,by simp,by omega,by simp only [maxLen];omega,fun j u hu => ?_⟩,(Below.refl _ _).alloc (Nat.le_refl _) _⟩
  rw [hP,World.cell?_alloc_mark]
  simpa using hu
theorem Split_slash (l : List UInt8) (w : World) (hs : l.length < 4294967281) (hm : ML w) :
    Calls Tryz.prog 67 #[.string (bs l),.string ⟨#[47]⟩] w fun e w' => ∃ v,e=.returned v∧StrsAt w' w'.heap.size v (splitC 47 l)∧Below w.heap.size w w' :=
  (Split_own l w hs hm).mono fun _ _ ⟨v,h1,h2,h3⟩ => ⟨v,h1,h2.at_,h3⟩
def partsS (l : List UInt8) : List (List UInt8):=if l=[] then [] else splitC 47 l
set_option maxHeartbeats 400000 in
theorem Parts_any (l : List UInt8) (w : World) (hs : l.length < 4294967281) (hm : ML w) :
    Calls Tryz.prog 135 #[.string (bs l)] w fun e w' => ∃ v,e=.returned v∧StrsAt w' w'.heap.size v (partsS l)∧Below w.heap.size w w':=by
  by_cases h : l=[]
  · have fin:=Lib.hid (show partsS l=[] from if_pos h)
    subst h
    have t0 : (bs []).toList=[]:=bs_toList []
    go_enter Tryz.func135,Tryz.ntmps135
    go_wp2_with fail
    go_ret
    exact ⟨_,rfl,by rw [fin.out];exact StrsAt.nil _ _,Below.refl _ _⟩
  · have fin:=Lib.hid (show partsS l=splitC 47 l from if_neg h)
    have t0 : ¬ (bs l).toList=[]:=by rw [bs_toList];exact h
    have t1 : (bs l).toList.isEmpty=false:=by rw [bs_toList];cases l <;> simp at h ⊢
    go_enter Tryz.func135,Tryz.ntmps135
    go_wp2_with fail
    refine (Split_slash l _ hs hm).mono ?_
    rintro e w1 ⟨v,rfl,hv,hb⟩
    go_wp2_with fail
    go_ret
    exact ⟨_,rfl,by rw [fin.out];exact hv,hb⟩
set_option maxHeartbeats 400000 in
theorem Parts_own (l : List UInt8) (w : World) (h : l≠[]) (hs : l.length < 4294967281) (hm : ML w) :
    Calls Tryz.prog 135 #[.string (bs l)] w fun e w' => ∃ v,e=.returned v∧StrsOwn w' w.heap.size v (splitC 47 l)∧Below w.heap.size w w':=by
  have t0 : ¬ (bs l).toList=[]:=by rw [bs_toList];exact h
  have t1 : (bs l).toList.isEmpty=false:=by rw [bs_toList];cases l <;> simp at h ⊢
  go_enter Tryz.func135,Tryz.ntmps135
  go_wp2_with fail
  refine (Split_own l _ hs hm).mono ?_
  rintro e w1 ⟨v,rfl,hv,hb⟩
  go_wp2_with fail
  go_ret
  exact ⟨_,rfl,hv,hb⟩
def cmpB (a b : List UInt8) : Int:=if Op.bytesLess a b then -1 else if a=b then 0 else 1
set_option maxHeartbeats 400000 in
theorem CmpStr_any (a b : List UInt8) (w : World) :
    Calls Tryz.prog 130 #[.string (bs a),.string (bs b)] w fun e w' => e=.returned (.int .i64 (cmpB a b))∧w=w':=by
  have t1:=bs_toList a
  have t2:=bs_toList b
  by_cases h1 : Op.bytesLess a b=true
  · have fin:=Lib.hid (show cmpB a b=-1 from if_pos h1)
    have u1 : Op.bytesLess (bs a).toList (bs b).toList=true:=by rw [t1,t2];exact h1
    clear t1 t2
    go_enter Tryz.func130,Tryz.ntmps130
    go_wp2
    go_ret
    exact ⟨ret_int (by rw [fin.out]),rfl⟩
  · have u1 : Op.bytesLess (bs a).toList (bs b).toList=false:=by rw [t1,t2];simpa using h1
    by_cases h2 : a=b
    · subst h2
      have fin:=Lib.hid (show cmpB a a=0 by unfold cmpB;rw [if_neg h1,if_pos rfl])
      clear t1 t2
      go_enter Tryz.func130,Tryz.ntmps130
      go_wp2
      go_ret
      exact ⟨ret_int (by rw [fin.out]),rfl⟩
    · have fin:=Lib.hid (show cmpB a b=1 by unfold cmpB;rw [if_neg h1,if_neg h2])
      have u2 : ((bs a).toList == (bs b).toList)=false:=by rw [t1,t2];simpa using h2
      clear t1 t2 h2
      go_enter Tryz.func130,Tryz.ntmps130
      go_wp2
      go_ret
      exact ⟨ret_int (by rw [fin.out]),rfl⟩
def cmpL : List (List UInt8)→List (List UInt8)→Int
  | [],[] => 0
  | [],_ :: _ => -1
  | _ :: _,[] => 1
  | a :: x,b :: y => if cmpB a b=0 then cmpL x y else cmpB a b
theorem cmpB_bd (a b : List UInt8) : cmpB a b=-1∨cmpB a b=0∨cmpB a b=1:=by
  unfold cmpB;split
  · exact .inl rfl
  · split
    · exact .inr (.inl rfl)
    · exact .inr (.inr rfl)
set_option maxHeartbeats 1000000 in
theorem CompareS_any (v1 v2 : Value) (x y : List (List UInt8)) (B : Nat) (w : World) (h1 : StrsAt w B v1 x) (h2 : StrsAt w B v2 y) :
    Calls Tryz.prog 66 #[v1,v2] w fun e w' => e=.returned (.int .i64 (cmpL x y))∧w=w':=by
  obtain ⟨A1,c1,rfl,l1,m1,n1,r1⟩:=h1
  obtain ⟨A2,c2,rfl,l2,m2,n2,r2⟩:=h2
  unfold maxLen at m1 m2
  go_enter Tryz.func66,Tryz.ntmps66
  go_wp2
  go_loop [11] (fun i => ∃ k : Nat,k≤x.length∧k≤y.length∧i=.int .i64 k∧Hid (cmpL x y=cmpL (x.drop k) (y.drop k))) (fun i => x.length - (intOf i).toNat)
  case atStart => exact ⟨0,Nat.zero_le _,Nat.zero_le _,rfl,Lib.hid rfl⟩
  case round =>
    obtain ⟨k,hk,hk2,rfl,hp⟩:=hrel
    by_cases hx : k < x.length
    · obtain ⟨ad1,u1,rfl,_,hu1,hc1⟩:=r1.at_ hx
      rw [List.getElem?_map,List.getElem?_eq_getElem hx] at hu1
      obtain rfl : Value.string (bs x[k])=u1:=by simpa using hu1
      have dx:=List.drop_eq_getElem_cons hx
      by_cases hy : k < y.length
      · obtain ⟨ad2,u2,rfl,_,hu2,hc2⟩:=r2.at_ hy
        rw [List.getElem?_map,List.getElem?_eq_getElem hy] at hu2
        obtain rfl : Value.string (bs y[k])=u2:=by simpa using hu2
        have dy:=List.drop_eq_getElem_cons hy
        have hp2:=hp.out
        rw [dx,dy,cmpL] at hp2
        have hbd:=cmpB_bd x[k] y[k]
        have hcall:=Lib.hid (fun w => CmpStr_any x[k] y[k] w)
        generalize hq : cmpB x[k] y[k]=q at *
        generalize x[k]=a at *
        generalize y[k]=b at *
        clear hq hu1 hu2 dx dy hp
        rcases hbd with rfl | rfl | rfl
        · have H:=Lib.hid (show cmpL x y=-1 by rw [hp2];rfl)
          clear hp2
          go_wp2_with fail
          refine (hcall.out _).mono ?_
          rintro e w' ⟨rfl,rfl⟩
          go_wp2_with fail
          go_ret
          exact ⟨ret_int (by rw [H.out]),rfl⟩
        · have H:=Lib.hid (show cmpL x y=cmpL (x.drop (k + 1)) (y.drop (k + 1)) by rw [hp2,if_pos rfl])
          clear hp2
          go_wp2_with fail
          refine (hcall.out _).mono ?_
          rintro e w' ⟨rfl,rfl⟩
          go_wp2_with fail
          go_round
          case rel => exact ⟨k + 1,by omega,by omega,by go_num,H⟩
          case measure => simp [intOf];omega
        · have H:=Lib.hid (show cmpL x y=1 by rw [hp2];rfl)
          clear hp2
          go_wp2_with fail
          refine (hcall.out _).mono ?_
          rintro e w' ⟨rfl,rfl⟩
          go_wp2_with fail
          go_ret
          exact ⟨ret_int (by rw [H.out]),rfl⟩
      · have H:=Lib.hid (show cmpL x y=1 by rw [hp.out,dx,List.drop_of_length_le (l:=y) (by omega)];rfl)
        generalize x[k]=a at *
        clear hu1 dx hp
        go_wp2_with fail
        go_ret
        exact ⟨ret_int (by rw [H.out]),rfl⟩
    · by_cases hy : k < y.length
      · have H:=Lib.hid (show cmpL x y=-1 by rw [hp.out,List.drop_of_length_le (l:=x) (by omega),List.drop_eq_getElem_cons hy];rfl)
        clear hp
        go_wp2_with fail
        go_ret
        exact ⟨ret_int (by rw [H.out]),rfl⟩
      · have H:=Lib.hid (show cmpL x y=0 by rw [hp.out,List.drop_of_length_le (l:=x) (by omega),List.drop_of_length_le (l:=y) (by omega)];rfl)
        clear hp
        go_wp2_with fail
        go_ret
        exact ⟨ret_int (by rw [H.out]),rfl⟩
def cmpP (a b : List UInt8) : Int:=cmpL (partsS a) (partsS b)
set_option maxHeartbeats 400000 in
theorem Compare_any (a b : List UInt8) (w : World) (ha : a.length < 4294967281) (hb : b.length < 4294967281) (hm : ML w) :
    Calls Tryz.prog 70 #[.string (bs a),.string (bs b)] w fun e w' => e=.returned (.int .i64 (cmpP a b))∧Below w.heap.size w w':=by
  go_enter Tryz.func70,Tryz.ntmps70
  go_wp2_with fail
  refine (Parts_any a _ ha hm).mono ?_
  rintro e w1 ⟨v1,rfl,h1,b1⟩
  go_wp2_with fail
  refine (Parts_any b _ hb (hm.below b1)).mono ?_
  rintro e w2 ⟨v2,rfl,h2,b2⟩
  go_wp2_with fail
  refine (CompareS_any v1 v2 (partsS a) (partsS b) w2.heap.size w2 ((h1.below b2).more b2.size) h2).mono ?_
  rintro e w3 ⟨rfl,rfl⟩
  go_wp2_with fail
  go_ret
  exact ⟨rfl,b1.trans (b2.mono b1.size)⟩
theorem less_irrefl (z : List UInt8) : Op.bytesLess z z=false:=by
  induction z with
  | nil => rfl
  | cons c z ih => simp [Op.bytesLess,ih]
theorem less_cons (a b : UInt8) (x y : List UInt8) : (Op.bytesLess (a :: x) (b :: y)=true) ↔ (a < b∨(a=b∧Op.bytesLess x y=true)):=by
  simp [Op.bytesLess]
theorem u8_tri (a b : UInt8) : a < b∨a=b∨b < a:=by
  rcases Nat.lt_trichotomy a.toNat b.toNat with h | h | h
  · exact .inl (UInt8.lt_iff_toNat_lt.2 h)
  · exact .inr (.inl (UInt8.toNat.inj h))
  · exact .inr (.inr (UInt8.lt_iff_toNat_lt.2 h))
theorem less_tri : ∀ x y : List UInt8,Op.bytesLess x y=true∨x=y∨Op.bytesLess y x=true
  | [],[] => .inr (.inl rfl)
  | [],_ :: _ => .inl rfl
  | _ :: _,[] => .inr (.inr rfl)
  | a :: x,b :: y => by
    rw [less_cons,less_cons]
    rcases u8_tri a b with h | h | h
    · exact .inl (.inl h)
    · subst h
      rcases less_tri x y with h | h | h
      · exact .inl (.inr ⟨rfl,h⟩)
      · exact .inr (.inl (by rw [h]))
      · exact .inr (.inr (.inr ⟨rfl,h⟩))
    · exact .inr (.inr (.inl h))
theorem less_asymm : ∀ x y : List UInt8,Op.bytesLess x y=true→Op.bytesLess y x=false
  | [],[],h => by cases h
  | [],_ :: _,_ => rfl
  | _ :: _,[],h => by cases h
  | a :: x,b :: y,h => by
    rw [less_cons] at h
    rw [Bool.eq_false_iff]
    intro h2
    rw [less_cons] at h2
    rcases h with h | ⟨rfl,h⟩
    · rcases h2 with h2 | ⟨rfl,_⟩
      · exact absurd (UInt8.lt_trans h h2) (UInt8.lt_irrefl _)
      · exact UInt8.lt_irrefl _ h
    · rcases h2 with h2 | ⟨_,h2⟩
      · exact UInt8.lt_irrefl _ h2
      · rw [less_asymm x y h] at h2;cases h2
theorem less_trans : ∀ x y z : List UInt8,Op.bytesLess x y=true→Op.bytesLess y z=true→Op.bytesLess x z=true
  | [],[],_,h,_ => by cases h
  | [],_ :: _,[],_,h => by cases h
  | [],_ :: _,_ :: _,_,_ => rfl
  | _ :: _,[],_,h,_ => by cases h
  | _ :: _,_ :: _,[],_,h => by cases h
  | a :: x,b :: y,c :: z,h1,h2 => by
    rw [less_cons] at h1 h2 ⊢
    rcases h1 with h1 | ⟨rfl,h1⟩
    · rcases h2 with h2 | ⟨rfl,_⟩
      · exact .inl (UInt8.lt_trans h1 h2)
      · exact .inl h1
    · rcases h2 with h2 | ⟨rfl,h2⟩
      · exact .inl h2
      · exact .inr ⟨rfl,less_trans x y z h1 h2⟩
theorem cmpB_self (a : List UInt8) : cmpB a a=0:=by unfold cmpB;rw [less_irrefl];simp
theorem cmpB_zero {a b : List UInt8} (h : cmpB a b=0) : a=b:=by
  unfold cmpB at h
  split at h
  · omega
  · split at h
    · assumption
    · omega
theorem cmpB_neg (a b : List UInt8) : cmpB b a=-cmpB a b:=by
  unfold cmpB
  rcases less_tri a b with h | h | h
  · rw [if_pos h,less_asymm a b h,if_neg (by decide),if_neg (fun e => by subst e;rw [less_irrefl] at h;cases h)];rfl
  · subst h;rw [less_irrefl];simp
  · rw [if_pos h,less_asymm b a h,if_neg (by decide),if_neg (fun e => by subst e;rw [less_irrefl] at h;cases h)]
theorem cmpB_le {a b c : List UInt8} (h1 : cmpB a b≤0) (h2 : cmpB b c≤0) : cmpB a c≤0∧(cmpB a c=0→cmpB a b=0∧cmpB b c=0):=by
  rcases cmpB_bd a b with e1 | e1 | e1
  · rcases cmpB_bd b c with e2 | e2 | e2
    · have l1 : Op.bytesLess a b=true:=by
        unfold cmpB at e1;split at e1
        · assumption
        · split at e1 <;> omega
      have l2 : Op.bytesLess b c=true:=by
        unfold cmpB at e2;split at e2
        · assumption
        · split at e2 <;> omega
      have : cmpB a c=-1:=if_pos (less_trans a b c l1 l2)
      omega
    · have:=cmpB_zero e2;subst this;omega
    · omega
  · have:=cmpB_zero e1;subst this;rw [cmpB_self];omega
  · omega
theorem cmpL_self : ∀ x,cmpL x x=0
  | [] => rfl
  | a :: x => by rw [cmpL,if_pos (cmpB_self a),cmpL_self x]
theorem cmpL_zero : ∀ {x y},cmpL x y=0→x=y
  | [],[],_ => rfl
  | [],_ :: _,h => by simp [cmpL] at h
  | _ :: _,[],h => by simp [cmpL] at h
  | a :: x,b :: y,h => by
    rw [cmpL] at h
    split at h
    · rename_i e
      rw [cmpB_zero e,cmpL_zero h]
    · contradiction
theorem cmpL_neg : ∀ x y,cmpL y x=-cmpL x y
  | [],[] => rfl
  | [],_ :: _ => rfl
  | _ :: _,[] => rfl
  | a :: x,b :: y => by
    rw [cmpL,cmpL,cmpB_neg a b]
    by_cases e : cmpB a b=0
    · rw [if_pos (by omega),if_pos e,cmpL_neg x y]
    · rw [if_neg (by omega),if_neg e]
theorem cmpL_le : ∀ x y z,cmpL x y≤0→cmpL y z≤0→cmpL x z≤0
  | [],_,[],_,_ => by simp [cmpL]
  | [],_,_ :: _,_,_ => by simp [cmpL]
  | _ :: _,[],_,h,_ => by simp [cmpL] at h
  | _ :: _,_ :: _,[],_,h => by simp [cmpL] at h
  | a :: x,b :: y,c :: z,h1,h2 => by
    rw [cmpL] at h1 h2 ⊢
    have k1 : cmpB a b≤0:=by split at h1 <;> omega
    have k2 : cmpB b c≤0:=by split at h2 <;> omega
    obtain ⟨g1,g2⟩:=cmpB_le k1 k2
    split
    · rename_i e
      obtain ⟨e1,e2⟩:=g2 e
      rw [if_pos e1] at h1
      rw [if_pos e2] at h2
      exact cmpL_le x y z h1 h2
    · exact g1
def joinC (c : UInt8) : List (List UInt8)→List UInt8
  | [] => []
  | [a] => a
  | a :: b :: l => a ++ c :: joinC c (b :: l)
theorem join_split (c : UInt8) : ∀ l,joinC c (splitC c l)=l
  | [] => rfl
  | b :: l => by
    have ih:=join_split c l
    have hne:=splitC_ne c l
    rw [splitC]
    cases h : splitC c l with
    | nil => exact absurd h hne
    | cons x y =>
      rw [h] at ih
      split
      · rename_i e
        rw [joinC,ih,e];rfl
      · cases y with
        | nil => simp only [List.headD_cons,List.tail_cons,joinC] at ih ⊢;rw [ih]
        | cons z y => simp only [List.headD_cons,List.tail_cons,joinC,List.cons_append] at ih ⊢;rw [ih]
end
section
open Go.RowKit
theorem IndexByte_nul (l : List UInt8) (w : World) :
    Calls Tryz.prog 89 #[.string (bs l),.int .u8 0] w fun e w' => e=.returned (.int .i64 (Lib.indexByte l 0))∧w=w' :=
  (Tryz.strings_IndexByte (bs l) 0 w).mono fun e w' ⟨h1,h2⟩ => ⟨by rw [h1,bs_data];rfl,h2.symm⟩
theorem IndexByte_of (l : List UInt8) (c : UInt8) (w : World) :
    Calls Tryz.prog 89 #[.string (bs l),.int .u8 c.toNat] w fun e w' => e=.returned (.int .i64 (Lib.indexByte l c))∧w=w' :=
  (Tryz.strings_IndexByte (bs l) c.toNat w).mono fun e w' ⟨h1,h2⟩ => ⟨by rw [h1,bs_data];simp,h2.symm⟩
theorem Trim_nul (l : List UInt8) (w : World) (hs : l.length≤9223372036854775807) :
    Calls Tryz.prog 113 #[.string (bs l),.string ⟨#[0]⟩] w fun e w' => e=.returned (.string (bs (Lib.trimB l 0)))∧Below w.heap.size w w' :=
  (Tryz.strings_Trim_one (bs l) 0 (by decide) w (by rw [bs_size];exact hs)).mono fun e w' ⟨h1,h2⟩ => ⟨by rw [h1,bs_data];rfl,by
    rcases h2 with rfl | rfl
    · exact Below.refl _ _
    · exact (Below.refl _ _).drew⟩
theorem dropWhile_nil_iff (l : List UInt8) (c : UInt8) : l.dropWhile (· == c)=[] ↔ ∀ b∈l,b=c:=by
  induction l with
  | nil => simp
  | cons b l ih =>
    by_cases h : b=c
    · simp [h,ih]
    · simp [h]
theorem trimB_nil (l : List UInt8) (c : UInt8) : Lib.trimB l c=[] ↔ ∀ b∈l,b=c:=by
  unfold Lib.trimB Lib.trimLeftB Lib.trimRightB
  rw [dropWhile_nil_iff]
  constructor
  · intro h b hb
    by_cases hc : b=c
    · exact hc
    · exfalso
      have h2 : l.reverse.dropWhile (· == c)≠[]:=fun e => hc ((dropWhile_nil_iff l.reverse c).1 e b (by simpa using hb))
      obtain ⟨x,r,hx⟩:=List.exists_cons_of_ne_nil h2
      have h3 : (x == c)=false:=by
        have:=List.head?_dropWhile_not (p:=(· == c)) (l:=l.reverse)
        rw [hx] at this
        simpa using this
      have:=h x (by rw [hx];simp)
      simp [this] at h3
  · intro h b hb
    rw [List.mem_reverse] at hb
    exact h b (by simpa using (List.dropWhile_sublist _).subset hb)
theorem repeat_byte (b : UInt8) (c : Nat) : Lib.repeatL [b] c=List.replicate c b:=by
  have:=Lib.repeatL_replicate b 1 c
  simpa using this
theorem Repeat_of (l : List UInt8) (c : Nat) (w : World) (h : l.length * c≤140737488355328) (hc : c≤9223372036854775807) :
    Calls Tryz.prog 27 #[.string (bs l),.int .i64 c] w fun e w' => e=.returned (.string (bs (Lib.repeatL l c)))∧Below w.heap.size w w' :=
  (Tryz.strings_Repeat (bs l) c w hc (by rw [bs_size];exact h)).mono fun e w' ⟨h1,h2⟩ => ⟨by rw [h1,bs_data];rfl,h2⟩
theorem Repeat_byte (b : UInt8) (c : Nat) (w : World) (hc : c≤140737488355328) :
    Calls Tryz.prog 27 #[.string (bs [b]),.int .i64 c] w fun e w' => e=.returned (.string (bs (List.replicate c b)))∧Below w.heap.size w w' :=
  (Repeat_of [b] c w (by simp;omega) (by omega)).mono fun e w' ⟨h1,h2⟩ => ⟨by rw [h1,repeat_byte],h2⟩
theorem bs_rep_size (b : UInt8) (c : Nat) : (bs (List.replicate c b)).size=c:=by rw [bs_size,List.length_replicate]
theorem Cut_at (l a b : List UInt8) (d : Bool) (c : UInt8) (hcut : Lib.cut l [c]=(a,b,d)) (w : World) (hs : l.length < 4294967281) (hm : ML w) :
    Calls Tryz.prog 156 #[.string (bs l),.string ⟨#[c]⟩] w fun e w' => e=.returned (.tuple #[.string (bs a),.string (bs b),.bool d])∧Below w.heap.size w w':=by
  obtain ⟨m,hm⟩:=hm
  refine (Tryz.strings_Cut (bs l) ⟨#[c]⟩ m w (by rw [bs_size];exact hs) hm).mono fun e w' ⟨h1,n,h2⟩ => ⟨?_,by rw [h2];exact below_drewN (Below.refl _ _) n⟩
  have e1 : Lib.cut (bs l).data.toList (⟨#[c]⟩ : ByteArray).data.toList=(a,b,d):=by rw [bs_data];exact hcut
  rw [h1,e1];rfl
theorem HasPrefix_at (l p : List UInt8) (d : Bool) (h : Lib.hasPrefix l p=d) (w : World) :
    Calls Tryz.prog 58 #[.string (bs l),.string (bs p)] w fun e w' => e=.returned (.bool d)∧w=w' :=
  (Tryz.strings_HasPrefix (bs l) (bs p) w).mono fun e w' ⟨h1,h2⟩ => ⟨by rw [h1,bs_data,bs_data,h],h2.symm⟩
end
section
open Go.RowKit
theorem data_at (l : List UInt8) (j : Nat) (h : j < l.length) : ((bs l).data[j]!).toNat=(l.getD j 0).toNat:=by
  have h2 : j < (bs l).data.size:=by show j < l.toArray.size;simpa using h
  rw [getElem!_pos (bs l).data j h2,List.getD_eq_getElem?_getD,List.getElem?_eq_getElem h]
  rfl
theorem lastIdx_none {l : List UInt8} (h : (47 : UInt8) ∉ l) : Lib.lastIndexByte (bs l) 47=-1:=by
  unfold Lib.lastIndexByte
  rcases Lib.lastIdx_spec (bs l) 47 (bs l).size with ⟨h1,_⟩ | ⟨i,hi,_,hc,_⟩
  · exact h1
  · rw [bs_size] at hi
    rw [data_at l i hi,List.getD_eq_getElem?_getD,List.getElem?_eq_getElem hi] at hc
    exact absurd (by rw [show (47 : UInt8)=l[i] from UInt8.toNat.inj (by simp at hc ⊢;omega)];exact List.getElem_mem hi) h
theorem lastIdx_some {a b : List UInt8} (h : (47 : UInt8) ∉ b) : Lib.lastIndexByte (bs (a ++ 47 :: b)) 47=a.length:=by
  have hat : (a ++ 47 :: b).getD a.length 0=47:=by rw [List.getD_eq_getElem?_getD,List.getElem?_append_right (Nat.le_refl _)];simp
  have hl : (a ++ 47 :: b).length=a.length + b.length + 1:=by simp;omega
  unfold Lib.lastIndexByte
  rcases Lib.lastIdx_spec (bs (a ++ 47 :: b)) 47 (bs (a ++ 47 :: b)).size with ⟨_,h1⟩ | ⟨i,hi,he,hc,hn⟩
  · rw [bs_size] at h1
    have:=h1 a.length (by omega)
    rw [data_at _ _ (by omega),hat] at this
    exact absurd rfl this
  · rw [bs_size] at hi hn
    rw [he]
    rcases Nat.lt_trichotomy i a.length with h1 | h1 | h1
    · have:=hn a.length h1 (by omega)
      rw [data_at _ _ (by omega),hat] at this
      exact absurd rfl this
    · rw [h1]
    · exfalso
      rw [data_at _ _ hi,List.getD_eq_getElem?_getD,List.getElem?_append_right (by omega),show i - a.length=(i - a.length - 1) + 1 from by omega,List.getElem?_cons_succ,List.getElem?_eq_getElem (by omega)] at hc
      refine h ?_
      rw [show (47 : UInt8)=b[i - a.length - 1] from UInt8.toNat.inj (by simp at hc ⊢;omega)]
      exact List.getElem_mem _
theorem LastIdx_any (l : List UInt8) (hs : l.length < 4611686018427387904) (w : World) :
    Calls Tryz.prog 136 #[.string (bs l),.int .u8 47] w fun e w' => e=.returned (.int .i64 (Lib.lastIndexByte (bs l) 47))∧w=w' :=
  (Tryz.strings_LastIndexByte (bs l) 47 (by rw [bs_size];exact hs) w).mono fun e w' ⟨h1,h2⟩ => ⟨h1,h2.symm⟩
theorem ret_str {a b : ByteArray} (h : a=b) : Ending.returned (.string a)=.returned (.string b):=by rw [h]
set_option maxHeartbeats 400000 in
theorem Up_none (l : List UInt8) (hs : l.length < 4611686018427387904) (h : (47 : UInt8) ∉ l) (w : World) :
    Calls Tryz.prog 71 #[.string (bs l)] w fun e w' => e=.returned (.string (bs []))∧w=w':=by
  have H:=Lib.hid (lastIdx_none h)
  go_enter Tryz.func71,Tryz.ntmps71
  go_wp2_with fail
  refine (LastIdx_any l hs _).mono ?_
  rintro e w' ⟨rfl,rfl⟩
  rw [H.out]
  go_wp2_with fail
  go_ret
  exact ⟨rfl,rfl⟩
set_option maxHeartbeats 400000 in
theorem Up_some (a b : List UInt8) (hs : a.length + b.length < 4611686018427387000) (h : (47 : UInt8) ∉ b) (w : World) :
    Calls Tryz.prog 71 #[.string (bs (a ++ 47 :: b))] w fun e w' => e=.returned (.string (bs a))∧w=w':=by
  have H:=Lib.hid (lastIdx_some (a:=a) h)
  have hl : (a ++ 47 :: b).length=a.length + b.length + 1:=by simp;omega
  have hz:=bs_size (a ++ 47 :: b)
  have F:=Lib.hid (show (bs (a ++ 47 :: b)).extract 0 a.length=bs a by rw [bs_extract];congr 1;simp)
  have hc:=Lib.hid (LastIdx_any (a ++ 47 :: b) (by omega))
  rw [hl] at hz
  generalize bs (a ++ 47 :: b)=s at *
  go_enter Tryz.func71,Tryz.ntmps71
  go_wp2_with fail
  refine (hc.out _).mono ?_
  rintro e w' ⟨rfl,rfl⟩
  rw [H.out]
  go_wp2_with fail
  go_ret
  exact ⟨ret_str (by simpa using F.out),rfl⟩
end
section
open Go.RowKit
def badPart (p : List UInt8) : Bool:=p == [] || p == [46] || p == [46,46]
def checkS (l : List UInt8) : Int:=if l.length < 1∨400 < l.length then 1 else if (0 : UInt8)∈l then 3 else if (splitC 47 l).any badPart then 9 else 0
theorem bs_beq (a b : List UInt8) : ((bs a).toList == (bs b).toList)=(a == b):=by rw [bs_toList,bs_toList]
set_option maxHeartbeats 1000000 in
theorem Check_any (l : List UInt8) (w : World) (hs : l.length < 4611686018427387904) (hm : ML w) :
    Calls Tryz.prog 87 #[.string (bs l)] w fun e w' => e=.returned (.int .i64 (checkS l))∧Below w.heap.size w w':=by
  have hz:=bs_size l
  by_cases h1 : l.length < 1∨400 < l.length
  · have fin:=Lib.hid (show checkS l=1 from if_pos h1)
    rcases h1 with h1 | h1
    all_goals
      go_enter Tryz.func87,Tryz.ntmps87
      go_wp2_with fail
      go_ret
      exact ⟨ret_int (by rw [fin.out]),Below.refl _ _⟩
  by_cases h2 : (0 : UInt8)∈l
  · have fin:=Lib.hid (show checkS l=3 by rw [checkS,if_neg h1,if_pos h2])
    have hix:=indexByte_mem h2
    have hI:=Lib.hid (IndexByte_nul l)
    generalize Lib.indexByte l 0=ix at *
    go_enter Tryz.func87,Tryz.ntmps87
    go_wp2_with fail
    refine (hI.out _).mono ?_
    rintro e w' ⟨rfl,rfl⟩
    go_wp2_with fail
    go_ret
    exact ⟨ret_int (by rw [fin.out]),Below.refl _ _⟩
  have hix:=Lib.hid (indexByte_not h2)
  have fin:=Lib.hid (show checkS l=if (splitC 47 l).any badPart then 9 else 0 by rw [checkS,if_neg h1,if_neg h2])
  have hspl:=splitC_length 47 l
  have t1:=bs_toList []
  have t2:=bs_toList [46]
  have t3:=bs_toList [46,46]
  clear h2
  have d1 : decide ((l.length : Int) < 1)=false:=decide_eq_false (by omega)
  have d2 : decide (400 < (l.length : Int))=false:=decide_eq_false (by omega)
  have hS:=Lib.hid (fun hs => Split_slash l w hs hm)
  generalize splitC 47 l=P at *
  go_enter Tryz.func87,Tryz.ntmps87
  go_wp2_with fail
  refine (IndexByte_nul l _).mono ?_
  rintro e w' ⟨rfl,rfl⟩
  rw [hix.out]
  go_wp2_with fail
  refine (hS.out (by omega)).mono ?_
  rintro e w1 ⟨v,rfl,hv,hb⟩
  obtain ⟨A,c,rfl,h11,h12,h13,hr⟩:=hv
  unfold maxLen at h12
  go_wp2
  go_loop [19] (fun i => ∃ k : Nat,k≤P.length∧i=.int .i64 k∧Hid ((P.take k).any badPart=false)) (fun i => P.length - (intOf i).toNat)
  case atStart => exact ⟨0,Nat.zero_le _,rfl,Lib.hid rfl⟩
  case round =>
    obtain ⟨k,hk,rfl,hp⟩:=hrel
    by_cases hx : k < P.length
    · obtain ⟨ad1,u1,rfl,_,hu1,hc1⟩:=hr.at_ hx
      rw [List.getElem?_map,List.getElem?_eq_getElem hx] at hu1
      obtain rfl : Value.string (bs P[k])=u1:=by simpa using hu1
      have htk : P.take (k + 1)=P.take k ++ [P[k]]:=List.take_succ_eq_append_getElem hx
      have hmem : P[k]∈P:=List.getElem_mem hx
      have t4:=bs_toList P[k]
      clear hu1
      generalize P[k]=q at *
      by_cases hq : badPart q=true
      · have H:=Lib.hid (show checkS l=9 by rw [fin.out,if_pos (List.any_eq_true.2 ⟨q,hmem,hq⟩)])
        clear htk hp
        unfold badPart at hq
        by_cases q1 : q=[]
        · subst q1
          go_wp2_with fail
          go_ret
          exact ⟨ret_int (by rw [H.out]),hb⟩
        · have q1' : ¬ (bs q).toList=[]:=by rw [t4];exact q1
          have q1'' : (bs q).toList.isEmpty=false:=by rw [t4];cases q <;> simp at q1 ⊢
          by_cases q2 : q=[46]
          · subst q2
            have e1 : ((bs [46]).toList == (ByteArray.mk #[46]).toList)=true:=by rw [show ByteArray.mk #[46]=bs [46] from rfl];exact beq_self_eq_true _
            go_wp2_with fail
            go_ret
            exact ⟨ret_int (by rw [H.out]),hb⟩
          · have q3 : q=[46,46]:=by simpa [q1,q2] using hq
            subst q3
            have e1 : ((bs [46,46]).toList == (ByteArray.mk #[46]).toList)=false:=by rw [show ByteArray.mk #[46]=bs [46] from rfl,bs_beq];decide
            have e2 : ((bs [46,46]).toList == (ByteArray.mk #[46,46]).toList)=true:=by rw [show ByteArray.mk #[46,46]=bs [46,46] from rfl];exact beq_self_eq_true _
            go_wp2_with fail
            go_ret
            exact ⟨ret_int (by rw [H.out]),hb⟩
      · have H:=Lib.hid (show (P.take (k + 1)).any badPart=false by rw [htk,List.any_append,hp.out];simpa using hq)
        clear htk hp
        have hq' : badPart q=false:=by simpa using hq
        unfold badPart at hq'
        simp only [Bool.or_eq_false_iff] at hq'
        obtain ⟨⟨q1,q2⟩,q3⟩:=hq'
        have q1' : ¬ (bs q).toList=[]:=by rw [t4];simpa using q1
        have q1'' : (bs q).toList.isEmpty=false:=by rw [t4];cases q <;> simp at q1 ⊢
        have e1 : ((bs q).toList == [46])=false:=by rw [t4];exact q2
        have e2 : ((bs q).toList == [46,46])=false:=by rw [t4];exact q3
        clear hq q1 q2 q3 t1 t2 t3 t4
        go_wp2_with fail
        go_round
        case rel => exact ⟨k + 1,by omega,by go_num,H⟩
        case measure => simp [intOf];omega
    · have H:=Lib.hid (show checkS l=0 by
        rw [fin.out,if_neg (by rw [List.take_of_length_le (by omega)] at hp;rw [hp.out];simp)])
      clear hp
      go_wp2_with fail
      go_ret
      exact ⟨ret_int (by rw [H.out]),hb⟩
end
section
open Go.RowKit
def inB (s d : List UInt8) : Bool:=if d.isEmpty && !s.isEmpty then true else Lib.hasPrefix s (d ++ [47])
theorem hasPrefix_append_in (p r : List UInt8) : Lib.hasPrefix (p ++ r) p=true:=by
  unfold Lib.hasPrefix
  exact List.isPrefixOf_iff_prefix.2 (List.prefix_append _ _)
end
end Go.Proofs.YtphmhmdcaafmdaaGreatDoor
