import Derived.Test.YtphmhmdcaafmdaaGreatDoorRulesJ
import Derived.Test.YtphmhmdcaafmdaaGreatDoorMetaS
import Derived.Test.YtphmhmdcaafmdaaGreatDoorPathW
namespace Go.Proofs.YtphmhmdcaafmdaaGreatDoor
set_option linter.all false
open Go.RowKit
theorem getD_at {t : List NodeP} {i : Nat} (hi : i < t.length) : t.getD i default=t[i]:=by rw [List.getD_eq_getElem?_getD,List.getElem?_eq_getElem hi];rfl
def upP (p : List UInt8) : List UInt8:=p.take (Lib.lastIndexByte (bs p) 47).toNat
theorem upP_none {p : List UInt8} (h : (47 : UInt8) ∉ p) : upP p=[]:=by
  unfold upP;rw [lastIdx_none h];rfl
theorem upP_some {a b : List UInt8} (h : (47 : UInt8) ∉ b) : upP (a ++ 47 :: b)=a:=by
  unfold upP;rw [lastIdx_some h,Int.toNat_natCast,List.take_left'];rfl
theorem cutLast (p : List UInt8) : (47 : UInt8) ∉ p∨∃ a b,p=a ++ 47 :: b∧(47 : UInt8) ∉ b:=by
  induction p with
  | nil => exact .inl (by simp)
  | cons x p ih =>
    rcases ih with h | ⟨a,b,rfl,h⟩
    · by_cases hx : x=47
      · exact .inr ⟨[],p,by rw [hx];rfl,h⟩
      · exact .inl (fun hm => (List.mem_cons.1 hm).elim (fun e => hx e.symm) h)
    · exact .inr ⟨x :: a,b,rfl,h⟩
theorem upP_length (p : List UInt8) : (upP p).length≤p.length:=by unfold upP;rw [List.length_take];omega
theorem Up_any (p : List UInt8) (hs : p.length < 4611686018427387000) (w : World) :
    Calls Tryz.prog 71 #[.string (bs p)] w fun e w' => e=.returned (.string (bs (upP p)))∧w=w':=by
  rcases cutLast p with h | ⟨a,b,rfl,h⟩
  · rw [upP_none h];exact Up_none p (by omega) h w
  · rw [upP_some h];exact Up_some a b (by simp at hs;omega) h w
structure NodeOk (x : NodeP) : Prop where
  path : checkS x.path=0∧x.path.length≤400
  mt : MetaOk x.mt
  same : 0≤x.same∧x.same≤1048576∧(x.kind≠1→x.same=0)
  kind : x.kind=1∨x.kind=2∨x.kind=3
  data : x.data.length≤2000∧(x.kind≠1→x.data=[])
  none : x.kind≠3→x.target=[]
  target : x.target.length≤400∧(x.kind=3→x.target≠[]∧(0 : UInt8) ∉ x.target)
def findP (t : List NodeP) (p : List UInt8) : Option Nat:=t.findIdx? (fun x => x.path == p)
def alikeB (a b : NodeP) : Bool:=decide (a.mt=b.mt) && (a.data == b.data)
def upBad (t : List NodeP) (i : Nat) (p : List UInt8) : Bool :=
  match findP (t.take i) p with
  | some k => (t.getD k default).kind != 2
  | none => true
def firstSame (t : List NodeP) (s : Int) : Option NodeP:=t.find? (fun x => x.same == s)
def chkAt (t : List NodeP) (i : Nat) : Int :=
  if 0 < i∧0≤cmpP (t.getD (i - 1) default).path (t.getD i default).path then 6
  else if upP (t.getD i default).path≠[]∧upBad t i (upP (t.getD i default).path)=true then 10
  else if (t.getD i default).same≠0∧(firstSame (t.take i) (t.getD i default).same).any (fun f => !alikeB f (t.getD i default))=true then 11
  else 0
def chkFrom (t : List NodeP) : Nat→Nat→Int
  | _,0 => 0
  | i,n + 1 => if chkAt t i=0 then chkFrom t (i + 1) n else chkAt t i
def chkT (t : List NodeP) : Int:=if 40 < t.length then 1 else chkFrom t 0 t.length
theorem chkFrom_zero {t : List NodeP} : ∀ (n i : Nat),(∀ j,i≤j→j < i + n→chkAt t j=0)→chkFrom t i n=0
  | 0,_,_ => rfl
  | n + 1,i,h => by
    rw [chkFrom,if_pos (h i (Nat.le_refl _) (by omega))]
    exact chkFrom_zero n (i + 1) (fun j h1 h2 => h j (by omega) (by omega))
theorem chkFrom_all {t : List NodeP} : ∀ (n i : Nat),chkFrom t i n=0→∀ j,i≤j→j < i + n→chkAt t j=0
  | 0,_,_,j,h1,h2 => absurd h2 (by omega)
  | n + 1,i,h,j,h1,h2 => by
    rw [chkFrom] at h
    split at h
    · next h0 =>
      by_cases e : j=i
      · rw [e];exact h0
      · exact chkFrom_all n (i + 1) h j (by omega) (by omega)
    · next h0 => exact absurd h h0
theorem chkFrom_at {t : List NodeP} {k : Nat} : ∀ (m i n : Nat),i + m=k→m < n→(∀ j,i≤j→j < k→chkAt t j=0)→chkAt t k≠0→chkFrom t i n=chkAt t k
  | 0,i,n + 1,e,_,_,hk => by
    obtain rfl : i=k:=by omega
    rw [chkFrom,if_neg hk]
  | m + 1,i,n + 1,e,hl,h,hk => by
    rw [chkFrom,if_pos (h i (Nat.le_refl _) (by omega))]
    exact chkFrom_at m (i + 1) n (by omega) (by omega) (fun j h1 h2 => h j (by omega) h2) hk
  | _,_,0,_,hl,_,_ => absurd hl (Nat.not_lt_zero _)
theorem chkT_zero {t : List NodeP} (hl : t.length≤40) (h : ∀ j,j < t.length→chkAt t j=0) : chkT t=0:=by
  unfold chkT
  rw [if_neg (by omega)]
  exact chkFrom_zero _ _ (fun j _ h2 => h j (by omega))
theorem chkT_all {t : List NodeP} (h : chkT t=0) : t.length≤40∧∀ j,j < t.length→chkAt t j=0:=by
  unfold chkT at h
  split at h
  · cases h
  · exact ⟨by omega,fun j hj => chkFrom_all _ _ h j (Nat.zero_le _) (by omega)⟩
theorem chkT_at {t : List NodeP} {k : Nat} (hl : t.length≤40) (hk : k < t.length) (h : ∀ j,j < k→chkAt t j=0) (hn : chkAt t k≠0) : chkT t=chkAt t k:=by
  unfold chkT
  rw [if_neg (by omega)]
  exact chkFrom_at k 0 _ (by omega) hk (fun j _ h2 => h j h2) hn
structure TreeOk (t : List NodeP) : Prop where
  len : t.length≤40
  node : ∀ x∈t,NodeOk x
  sorted : t.Pairwise (fun x y => cmpP x.path y.path < 0)
  up : ∀ x∈t,upP x.path=[]∨∃ y∈t,y.path=upP x.path∧y.kind=2
  alike : ∀ x∈t,∀ y∈t,x.same≠0→x.same=y.same→alikeB x y=true
theorem sorted_nodup {t : List NodeP} (h : t.Pairwise (fun x y => cmpP x.path y.path < 0)) : (t.map (·.path)).Nodup:=by
  rw [List.Nodup,List.pairwise_map]
  refine h.imp (fun {a b} h e => ?_)
  rw [e] at h
  have : cmpP b.path b.path=0:=cmpL_self (partsS b.path)
  omega
theorem nodup_at {t : List NodeP} (h : (t.map (·.path)).Nodup) {i j : Nat} (hi : i < t.length) (hj : j < t.length) (e : t[i].path=t[j].path) : i=j:=by
  rw [List.Nodup,List.pairwise_map,List.pairwise_iff_getElem] at h
  rcases Nat.lt_trichotomy i j with a | a | a
  · exact absurd e (h i j hi hj a)
  · exact a
  · exact absurd e.symm (h j i hj hi a)
theorem findP_at {t : List NodeP} (h : (t.map (·.path)).Nodup) {i : Nat} (hi : i < t.length) : findP t t[i].path=some i:=by
  unfold findP
  rw [List.findIdx?_eq_some_iff_getElem]
  refine ⟨hi,by simp,fun j hj => ?_⟩
  simp only [Bool.not_eq_true,beq_eq_false_iff_ne]
  intro e
  have:=nodup_at h (by omega) hi e
  omega
theorem findP_some {t : List NodeP} {p : List UInt8} {k : Nat} (h : findP t p=some k) : ∃ hk : k < t.length,t[k].path=p:=by
  unfold findP at h
  rw [List.findIdx?_eq_some_iff_getElem] at h
  obtain ⟨h1,h2,_⟩:=h
  exact ⟨h1,by simpa using h2⟩
theorem findP_none {t : List NodeP} {p : List UInt8} : findP t p=none ↔ ∀ x∈t,x.path≠p:=by
  unfold findP
  rw [List.findIdx?_eq_none_iff]
  simp
theorem up_less {p : List UInt8} (h : upP p≠[]) : cmpP (upP p) p=-1:=by
  rcases cutLast p with h1 | ⟨a,b,rfl,h1⟩
  · exact absurd (upP_none h1) h
  · rw [upP_some h1] at h ⊢
    exact near_less h (by rw [inB_iff h];exact ⟨b,rfl⟩)
theorem TreeOk.chk {t : List NodeP} (h : TreeOk t) : chkT t=0:=by
  refine chkT_zero h.len (fun i hi => ?_)
  have hg : t.getD i default=t[i]:=by rw [List.getD_eq_getElem?_getD,List.getElem?_eq_getElem hi];rfl
  have hnd:=sorted_nodup h.sorted
  unfold chkAt
  rw [hg]
  rw [if_neg,if_neg,if_neg]
  · rintro ⟨h1,h2⟩
    rw [Option.any_eq_true] at h2
    obtain ⟨f,hf,h3⟩:=h2
    unfold firstSame at hf
    have hm:=List.mem_of_mem_take (List.mem_of_find?_eq_some hf)
    have hs:=List.find?_some hf
    simp only [beq_iff_eq] at hs
    have:=h.alike f hm t[i] (List.getElem_mem _) (by rw [hs];exact h1) hs
    rw [this] at h3
    cases h3
  · rintro ⟨h1,h2⟩
    rcases h.up t[i] (List.getElem_mem _) with h3 | ⟨y,hy,e1,e2⟩
    · exact h1 h3
    · obtain ⟨k,hk,rfl⟩:=List.getElem_of_mem hy
      have hl:=up_less h1
      rw [← e1] at hl
      have hki : k < i:=by
        rcases Nat.lt_trichotomy k i with a | a | a
        · exact a
        · subst a
          have : cmpP t[k].path t[k].path=0:=cmpL_self (partsS _)
          omega
        · have a1:=(List.pairwise_iff_getElem.1 h.sorted) i k hi hk a
          have a2 : cmpP t[k].path t[i].path=-cmpP t[i].path t[k].path:=cmpL_neg _ _
          omega
      unfold upBad at h2
      have hkt : k < (t.take i).length:=by rw [List.length_take];omega
      have hf : findP (t.take i) (upP t[i].path)=some k:=by
        have:=findP_at (t:=t.take i) (by rw [List.map_take];exact hnd.sublist (List.take_sublist _ _)) hkt
        rw [List.getElem_take] at this
        rw [← e1]
        exact this
      rw [hf] at h2
      simp only at h2
      rw [List.getD_eq_getElem?_getD,List.getElem?_eq_getElem hk] at h2
      simp [e2] at h2
  · rintro ⟨h1,h2⟩
    rw [List.getD_eq_getElem?_getD,List.getElem?_eq_getElem (by omega)] at h2
    simp only [Option.getD_some] at h2
    have:=(List.pairwise_iff_getElem.1 h.sorted) (i - 1) i (by omega) hi (by omega)
    omega
theorem findP_take {t : List NodeP} {p : List UInt8} {i k : Nat} (h : findP (t.take i) p=some k) : ∃ hk : k < t.length,k < i∧t[k].path=p:=by
  obtain ⟨h1,h2⟩:=findP_some h
  rw [List.length_take] at h1
  rw [List.getElem_take] at h2
  exact ⟨by omega,by omega,h2⟩
theorem tmem_splitC {c b : UInt8} (hb : b≠c) : ∀ {l : List UInt8},b∈l→∃ q∈splitC c l,b∈q:=by
  intro l h
  have h2:=join_split c l
  rw [← h2] at h
  clear h2
  generalize splitC c l=ps at h
  induction ps with
  | nil => simp [joinC] at h
  | cons x ps ih =>
    cases ps with
    | nil => exact ⟨x,by simp,by simpa [joinC] using h⟩
    | cons y ps =>
      rw [joinC] at h
      rcases List.mem_append.1 h with h | h
      · exact ⟨x,by simp,h⟩
      · rcases List.mem_cons.1 h with h | h
        · exact absurd h hb
        · obtain ⟨q,hq,hbq⟩:=ih h
          exact ⟨q,List.mem_cons_of_mem _ hq,hbq⟩
theorem tparts_check {p : List UInt8} (h : PartsOk p) (hl : p.length≤400) : checkS p=0:=by
  have h1 : 1≤p.length:=by cases p with | nil => exact absurd rfl h.1 | cons => simp
  have h2 : (splitC 47 p).any badPart=false:=by
    rw [List.any_eq_false]
    intro q hq
    obtain ⟨a1,_,_,a4,a5,_⟩:=namesL_ok q (h.2 q hq)
    simp [badPart,a1,a4,a5]
  have h3 : (0 : UInt8) ∉ p:=fun hb => by
    obtain ⟨q,hq,hbq⟩:=tmem_splitC (c:=47) (by decide) hb
    exact (namesL_ok q (h.2 q hq)).2.2.1 hbq
  unfold checkS
  rw [if_neg (by omega),if_neg h3,h2]
  rfl
theorem upP_grow (dirs : List (List UInt8)) (r : RawS) : upP (growPath dirs r)=dirs.getD (pick r.b dirs.length).toNat []:=by
  obtain ⟨_,n2,_⟩:=namesL_ok _ (names_mem r)
  unfold growPath upS
  split
  · next h => rw [h,List.nil_append];exact upP_none n2
  · rw [List.append_assoc,List.singleton_append];exact upP_some n2
structure GrowVOk (s : TreeS) : Prop where
  node : ∀ x∈s.t,NodeOk { x with path:=[97] }
  up : ∀ x∈s.t,upP x.path=[]∨∃ y∈s.t,y.path=upP x.path∧y.kind=2
  dirs : ∀ d∈s.dirs,d=[]∨∃ y∈s.t,y.path=d∧y.kind=2
  same : ∀ x∈s.t,x.same≠0→∃ (k : Nat) (y : NodeP),s.t[k]?=some y∧x.same=(k : Int) + 1∧y.same=(k : Int) + 1∧y.mt=x.mt∧y.data=x.data
theorem ok97 : checkS [97]=0∧([97] : List UInt8).length≤400:=by decide
theorem plainN_ok (r : RawS) (p : List UInt8) : NodeOk { plainN r p with path:=[97] }:=by
  have h1:=pick_bd r.b 30 (by omega)
  have h2:=cleanS_length r.text 40
  have h3 : (Lib.repeatL (cleanS r.text 40) (pick r.b 30).toNat).length≤2000:=by
    rw [Lib.repeatL_length]
    have : (pick r.b 30).toNat * (cleanS r.text 40).length≤30 * 40:=Nat.mul_le_mul (by omega) h2
    omega
  exact ⟨ok97,metaOf_ok r,⟨by show (0 : Int)≤0;omega,by show (0 : Int)≤_;omega,fun _ => rfl⟩,.inl rfl,⟨h3,fun h => absurd rfl h⟩,fun _ => rfl,⟨by show 0≤400;omega,fun h => absurd h (by show ¬ ((1 : Int)=3);omega)⟩⟩
theorem dirN_ok (r : RawS) (p : List UInt8) : NodeOk { dirN r p with path:=[97] } :=
  ⟨ok97,metaOf_ok r,⟨by show (0 : Int)≤0;omega,by show (0 : Int)≤_;omega,fun _ => rfl⟩,.inr (.inl rfl),⟨by show 0≤2000;omega,fun _ => rfl⟩,fun _ => rfl,⟨by show 0≤400;omega,fun h => absurd h (by show ¬ ((2 : Int)=3);omega)⟩⟩
theorem symN_ok (r : RawS) (p : List UInt8) : NodeOk { symN r p with path:=[97] }:=by
  have h1:=pick_bd r.a 20 (by omega)
  have h2:=cleanS_length r.text 10
  have h3 : (Lib.repeatL (cleanS r.text 10) (pick r.a 20).toNat).length≤300:=by
    rw [Lib.repeatL_length]
    have : (pick r.a 20).toNat * (cleanS r.text 10).length≤20 * 10:=Nat.mul_le_mul (by omega) h2
    omega
  have h4:=cleanS_no r.text 10
  have h5 : ∀ n,(0 : UInt8) ∉ Lib.repeatL (cleanS r.text 10) n:=by
    intro n
    induction n with
    | zero => simp [Lib.repeatL]
    | succ n ih => rw [Lib.repeatL];exact fun h => (List.mem_append.1 h).elim h4 ih
  refine ⟨ok97,metaOf_ok r,⟨by show (0 : Int)≤0;omega,by show (0 : Int)≤_;omega,fun _ => rfl⟩,.inr (.inr rfl),⟨by show 0≤2000;omega,fun _ => rfl⟩,fun h => absurd rfl h,⟨?_,fun _ => ⟨by show _ :: _≠[];simp,?_⟩⟩⟩
  · show (116 :: Lib.repeatL (cleanS r.text 10) (pick r.a 20).toNat).length≤400
    rw [List.length_cons];omega
  · show (0 : UInt8) ∉ 116 :: Lib.repeatL (cleanS r.text 10) (pick r.a 20).toNat
    exact fun h => (List.mem_cons.1 h).elim (by decide) (h5 _)
theorem marked_path (x : NodeP) (j : Nat) (h : NodeOk { x with path:=[97] }) (hk : x.kind=1) (hj : j < 1048576) : NodeOk { marked x j with path:=[97] }:=by
  refine ⟨ok97,h.mt,⟨?_,?_,fun hn => absurd hk hn⟩,h.kind,h.data,h.none,h.target⟩
  · show 0≤if x.same=0 then (j : Int) + 1 else x.same
    have : 0≤x.same:=h.same.1
    split <;> omega
  · show (if x.same=0 then (j : Int) + 1 else x.same)≤1048576
    have : x.same≤1048576:=h.same.2.1
    split <;> omega
theorem mem_set_or {α} {t : List α} {j : Nat} {y x : α} (h : x∈t.set j y) : x=y∨x∈t:=by
  rcases List.mem_or_eq_of_mem_set h with h | h
  · exact .inr h
  · exact .inl h
theorem GrowVOk.plain {s : TreeS} (h : GrowVOk s) (n : NodeP) (ds : List (List UInt8)) (hn : NodeOk { n with path:=[97] }) (h0 : n.same=0) (hu : upP n.path=[]∨∃ y∈s.t,y.path=upP n.path∧y.kind=2) (hd : ∀ d∈ds,d=n.path∧n.kind=2) : GrowVOk ⟨s.t ++ [n],s.dirs ++ ds⟩:=by
  have more : ∀ p,(∃ y∈s.t,y.path=p∧y.kind=2)→∃ y∈s.t ++ [n],y.path=p∧y.kind=2:=fun p ⟨y,h1,h2⟩ => ⟨y,List.mem_append_left _ h1,h2⟩
  refine ⟨fun x hx => ?_,fun x hx => ?_,fun d hx => ?_,fun x hx => ?_⟩
  · rcases List.mem_append.1 hx with hx | hx
    · exact h.node x hx
    · rw [List.mem_singleton] at hx;rw [hx];exact hn
  · rcases List.mem_append.1 hx with hx | hx
    · exact (h.up x hx).imp id (more _)
    · rw [List.mem_singleton] at hx;rw [hx];exact hu.imp id (more _)
  · rcases List.mem_append.1 hx with hx | hx
    · exact (h.dirs d hx).imp id (more _)
    · obtain ⟨e1,e2⟩:=hd d hx
      exact .inr ⟨n,by simp,e1.symm,e2⟩
  · intro hs
    rcases List.mem_append.1 hx with hx | hx
    · obtain ⟨k,y,hk,r⟩:=h.same x hx hs
      exact ⟨k,y,by rw [List.getElem?_append_left (List.getElem?_eq_some_iff.1 hk).1];exact hk,r⟩
    · rw [List.mem_singleton] at hx;rw [hx] at hs;exact absurd h0 hs
theorem GrowVOk.link {s : TreeS} (h : GrowVOk s) {j : Nat} {x0 : NodeP} (hj : s.t[j]?=some x0) (hl : s.t.length < 1048576) (hk : x0.kind=1) (p : List UInt8) (hu : upP p=[]∨∃ y∈s.t,y.path=upP p∧y.kind=2) : GrowVOk ⟨s.t.set j (marked x0 j) ++ [linkN x0 j p],s.dirs⟩:=by
  have hjl:=(List.getElem?_eq_some_iff.1 hj).1
  have hx0 : x0∈s.t:=List.mem_of_getElem? hj
  have hset : ∀ (k : Nat) (y : NodeP),s.t[k]?=some y→k≠j→(s.t.set j (marked x0 j) ++ [linkN x0 j p])[k]?=some y:=fun k y hy hne => by
    rw [List.getElem?_append_left (by rw [List.length_set];exact (List.getElem?_eq_some_iff.1 hy).1),List.getElem?_set_ne (Ne.symm hne)]
    exact hy
  have hsj : (s.t.set j (marked x0 j) ++ [linkN x0 j p])[j]?=some (marked x0 j):=by
    rw [List.getElem?_append_left (by rw [List.length_set];exact hjl),List.getElem?_set_self hjl]
  have more : ∀ q,(∃ y∈s.t,y.path=q∧y.kind=2)→∃ y∈s.t.set j (marked x0 j) ++ [linkN x0 j p],y.path=q∧y.kind=2:=by
    rintro q ⟨y,h1,h2,h3⟩
    obtain ⟨k,hkl,rfl⟩:=List.getElem_of_mem h1
    by_cases e : k=j
    · subst e
      rw [List.getElem?_eq_getElem hkl] at hj
      injection hj with hj
      rw [hj] at h3
      omega
    · exact ⟨_,List.mem_of_getElem? (hset k _ (List.getElem?_eq_getElem hkl) e),h2,h3⟩
  have hm:=marked_path x0 j (h.node x0 hx0) hk (by omega)
  have old : ∀ x∈s.t,x.same≠0→∃ (k : Nat) (y : NodeP),(s.t.set j (marked x0 j) ++ [linkN x0 j p])[k]?=some y∧x.same=(k : Int) + 1∧y.same=(k : Int) + 1∧y.mt=x.mt∧y.data=x.data:=by
    intro x hx hs
    obtain ⟨k,y,hk',e1,e2,e3,e4⟩:=h.same x hx hs
    by_cases e : k=j
    · subst e
      rw [hj] at hk'
      injection hk' with hk'
      subst hk'
      refine ⟨k,marked x0 k,hsj,e1,?_,e3,e4⟩
      show (if x0.same=0 then (k : Int) + 1 else x0.same)=_
      split <;> omega
    · exact ⟨k,y,hset k y hk' e,e1,e2,e3,e4⟩
  have mark : ∀ x : NodeP,x.same=(marked x0 j).same→x.mt=x0.mt→x.data=x0.data→∃ (k : Nat) (y : NodeP),(s.t.set j (marked x0 j) ++ [linkN x0 j p])[k]?=some y∧x.same=(k : Int) + 1∧y.same=(k : Int) + 1∧y.mt=x.mt∧y.data=x.data:=by
    intro x e1 e2 e3
    have e0 : (marked x0 j).same=if x0.same=0 then (j : Int) + 1 else x0.same:=rfl
    by_cases h0 : x0.same=0
    · rw [if_pos h0] at e0
      exact ⟨j,marked x0 j,hsj,by rw [e1,e0],e0,e2.symm,e3.symm⟩
    · rw [if_neg h0] at e0
      obtain ⟨k,y,a1,a2,a3,a4,a5⟩:=old x0 hx0 h0
      exact ⟨k,y,a1,by rw [e1,e0];exact a2,a3,by rw [e2];exact a4,by rw [e3];exact a5⟩
  refine ⟨fun x hx => ?_,fun x hx => ?_,fun d hx => ?_,fun x hx => ?_⟩
  · rcases List.mem_append.1 hx with hx | hx
    · rcases mem_set_or hx with rfl | hx
      · exact hm
      · exact h.node x hx
    · rw [List.mem_singleton] at hx;rw [hx];exact hm
  · rcases List.mem_append.1 hx with hx | hx
    · rcases mem_set_or hx with rfl | hx
      · exact (h.up x0 hx0).imp id (more _)
      · exact (h.up x hx).imp id (more _)
    · rw [List.mem_singleton] at hx;rw [hx];exact hu.imp id (more _)
  · exact (h.dirs d hx).imp id (more _)
  · intro hs
    rcases List.mem_append.1 hx with hx | hx
    · rcases mem_set_or hx with rfl | hx
      · exact mark _ rfl rfl rfl
      · exact old x hx hs
    · rw [List.mem_singleton] at hx;rw [hx];exact mark _ rfl rfl rfl
theorem growVOk_kind {s : TreeS} (h : GrowVOk s) (r : RawS) (p : List UInt8) (hl : s.t.length < 1048576) (hu : upP p=[]∨∃ y∈s.t,y.path=upP p∧y.kind=2) (k : Nat) : GrowVOk (growKind s r p k):=by
  have file : GrowVOk ⟨s.t ++ [plainN r p],s.dirs⟩:=by
    have:=h.plain (plainN r p) [] (plainN_ok r p) rfl hu (by simp)
    rwa [List.append_nil] at this
  unfold growKind
  split
  · exact h.plain (dirN r p) [p] (dirN_ok r p) rfl hu (fun d hd => ⟨by rw [List.mem_singleton] at hd;exact hd,rfl⟩)
  · split
    · have:=h.plain (symN r p) [] (symN_ok r p) rfl hu (by simp)
      rwa [List.append_nil] at this
    · split
      · split
        · next j hj =>
          unfold linkAt at hj
          split at hj
          · next x hx =>
            split at hj
            · next hk =>
              injection hj with hj
              subst hj
              have : s.t.getD (pick r.a (s.t.length + 1)).toNat default=x:=by rw [List.getD_eq_getElem?_getD,hx];rfl
              rw [this]
              exact h.link hx hl hk p hu
            · cases hj
          · cases hj
        · exact file
      · exact file
theorem growVOk_all (most : Nat) (hm : most≤1048576) : ∀ (l : List RawS) {s : TreeS},GrowVOk s→GrowVOk (l.foldl (growStep most) s)
  | [],_,h => h
  | r :: l,s,h => by
    rw [List.foldl_cons]
    refine growVOk_all most hm l ?_
    unfold growStep
    split
    · exact h
    · split
      · exact h
      · refine growVOk_kind h r _ (by omega) ?_ _
        rw [upP_grow,List.getD_eq_getElem?_getD]
        rcases hq : s.dirs[(pick r.b s.dirs.length).toNat]? with _ | d
        · exact .inl rfl
        · exact h.dirs d (List.mem_of_getElem? hq)
theorem treeP_ok (l : List RawS) (most : Nat) (hm : most≤40) : TreeOk (treeP l most):=by
  have hg:=growVOk_all most (by omega) l (s:=⟨[],[[]]⟩) ⟨by simp,by simp,by simp,by simp⟩
  have hp:=treeP_perm l most
  have hparts:=treeP_parts l most
  have hne : ∀ x∈treeP l most,x.path≠[]:=fun x hx => (hparts x hx).1.1
  refine ⟨?_,fun x hx => ?_,?_,fun x hx => ?_,fun x hx y hy hs he => ?_⟩
  · have:=treeP_length l most;omega
  · have h1:=hg.node x (hp.subset hx)
    exact ⟨⟨tparts_check (hparts x hx).1 (hparts x hx).2,(hparts x hx).2⟩,h1.mt,h1.same,h1.kind,h1.data,h1.none,h1.target⟩
  · have h1:=treeP_sorted l most
    have h2:=treeP_nodup l most
    rw [List.Nodup,List.pairwise_map] at h2
    have h3:=h1.and h2
    rw [List.pairwise_iff_getElem] at h3 ⊢
    intro i j hi hj hij
    obtain ⟨a1,a2⟩:=h3 i j hi hj hij
    rw [← cmpS_cmpP (hne _ (List.getElem_mem _)) (hne _ (List.getElem_mem _))]
    have : cmpS (treeP l most)[i].path (treeP l most)[j].path≠0:=fun e => a2 (cmpS_zero e)
    omega
  · refine (hg.up x (hp.subset hx)).imp id ?_
    rintro ⟨y,hy,r⟩
    exact ⟨y,hp.symm.subset hy,r⟩
  · obtain ⟨k,z,a1,a2,a3,a4,a5⟩:=hg.same x (hp.subset hx) hs
    obtain ⟨k',z',b1,b2,b3,b4,b5⟩:=hg.same y (hp.subset hy) (by rw [← he];exact hs)
    obtain rfl : k=k':=by omega
    rw [a1] at b1
    injection b1 with b1
    subst b1
    unfold alikeB
    simp [← a4,← a5,b4,b5]
end Go.Proofs.YtphmhmdcaafmdaaGreatDoor
