import Derived.Test.YtphmhmdcaafmdaaGreatDoorAnewLike
import Derived.Test.YtphmhmdcaafmdaaGreatDoorPut
namespace Go.Proofs.YtphmhmdcaafmdaaGreatDoor
set_option linter.all false
open Go.RowKit
def lastN : NodeP:=⟨[255],2,0,[],metaZ,[]⟩
def shiftN (n : NodeP) : NodeP:=⟨255 :: 47 :: n.path,n.kind,if 0 < n.same then n.same + 40 else n.same,n.target,n.mt,n.data⟩
theorem lastN_ok : NodeOk lastN:=⟨by decide,metaZ_ok,by decide,by decide,by decide,by decide,by decide⟩
theorem names_less : ∀ q∈namesL,cmpB q [255]=-1:=by
  intro q hq
  simp only [namesL,List.mem_cons,List.mem_nil_iff,or_false] at hq
  rcases hq with rfl | rfl | rfl | rfl | rfl | rfl | rfl | rfl | rfl | rfl | rfl <;> decide
theorem parts_less {p : List UInt8} (h : PartsOk p) : cmpP p [255] < 0:=by
  obtain ⟨h1,h2⟩:=h
  have h3 : partsS [255]=[[255]]:=by decide
  unfold cmpP
  rw [h3]
  unfold partsS
  rw [if_neg h1]
  cases hq : splitC 47 p with
  | nil => exact absurd hq (splitC_ne _ _)
  | cons q r =>
    have hn:=names_less q (h2 q (by rw [hq];exact List.mem_cons_self))
    simp [cmpL,hn]
theorem split_shift (p : List UInt8) : splitC 47 (255 :: 47 :: p)=[255] :: splitC 47 p:=by
  have h:=splitC_hit (c:=47) (a:=[255]) p (by decide)
  exact h
theorem parts_shift {p : List UInt8} : partsS (255 :: 47 :: p)=[255] :: splitC 47 p:=by
  unfold partsS
  rw [if_neg (by simp),split_shift]
theorem shift_less {p q : List UInt8} (hp : p≠[]) (hq : q≠[]) : cmpP (255 :: 47 :: p) (255 :: 47 :: q)=cmpP p q:=by
  unfold cmpP
  rw [parts_shift,parts_shift]
  unfold partsS
  rw [if_neg hp,if_neg hq]
  conv => lhs;unfold cmpL
  rw [if_pos (cmpB_self _)]
theorem last_less (p : List UInt8) : cmpP [255] (255 :: 47 :: p) < 0:=by
  unfold cmpP
  rw [parts_shift,show partsS [255]=[[255]] by decide]
  cases hq : splitC 47 p with
  | nil => exact absurd hq (splitC_ne _ _)
  | cons q r =>
    unfold cmpL
    rw [if_pos (cmpB_self _)]
    unfold cmpL
    decide
theorem parts_less2 {p : List UInt8} (h : PartsOk p) (q : List UInt8) : cmpP p (255 :: 47 :: q) < 0:=by
  obtain ⟨h1,h2⟩:=h
  unfold cmpP
  rw [parts_shift]
  unfold partsS
  rw [if_neg h1]
  cases hq : splitC 47 p with
  | nil => exact absurd hq (splitC_ne _ _)
  | cons a r =>
    have hn:=names_less a (h2 a (by rw [hq];exact List.mem_cons_self))
    simp [cmpL,hn]
theorem up_shift {p : List UInt8} (hp : p≠[]) : upP (255 :: 47 :: p)=if upP p=[] then (if (47 : UInt8)∈p then [255,47] else [255]) else 255 :: 47 :: upP p:=by
  by_cases hs : (47 : UInt8)∈p
  · obtain ⟨a,b,hb,hpe⟩ : ∃ a b : List UInt8,(47 : UInt8) ∉ b∧p=a ++ 47 :: b:=by
      obtain ⟨i,hi,-⟩ : ∃ i,i=0∧True:=⟨0,rfl,trivial⟩
      clear hi
      have h:=List.append_of_mem (List.mem_reverse.2 hs)
      obtain ⟨s,t,hst⟩:=h
      have hfi : ∀ l : List UInt8,(47 : UInt8)∈l→∃ x y,(47 : UInt8) ∉ x∧l=x ++ 47 :: y:=by
        intro l
        induction l with
        | nil => intro h;simp at h
        | cons c l ih =>
          intro h
          by_cases hc : c=47
          · exact ⟨[],l,by simp,by rw [hc];rfl⟩
          · obtain ⟨x,y,hx,e⟩:=ih (by rcases List.mem_cons.1 h with h | h;exact absurd h.symm hc;exact h)
            exact ⟨c :: x,y,by simp [hx,Ne.symm hc],by rw [e];rfl⟩
      obtain ⟨x,y,hx,e⟩:=hfi p.reverse (List.mem_reverse.2 hs)
      refine ⟨y.reverse,x.reverse,by simpa using hx,?_⟩
      have:=congrArg List.reverse e
      rw [List.reverse_reverse] at this
      rw [this]
      simp
    subst hpe
    have h1 : upP (a ++ 47 :: b)=a:=upP_some hb
    have h2 : upP (255 :: 47 :: (a ++ 47 :: b))=255 :: 47 :: a:=by
      have:=upP_some (a:=255 :: 47 :: a) hb
      simpa using this
    rw [h1,h2,if_pos hs]
    split
    · next h => rw [h]
    · rfl
  · rw [upP_none hs,if_pos rfl,if_neg hs]
    have:=upP_some (a:=[255]) hs
    simpa using this
theorem parts_noslash {p : List UInt8} (h : PartsOk p) (hu : upP p=[]) : (47 : UInt8) ∉ p:=by
  intro hs
  have hfi : ∀ l : List UInt8,(47 : UInt8)∈l→∃ x y,(47 : UInt8) ∉ x∧l=x ++ 47 :: y:=by
    intro l
    induction l with
    | nil => intro h;simp at h
    | cons c l ih =>
      intro h
      by_cases hc : c=47
      · exact ⟨[],l,by simp,by rw [hc];rfl⟩
      · obtain ⟨x,y,hx,e⟩:=ih (by rcases List.mem_cons.1 h with h | h;exact absurd h.symm hc;exact h)
        exact ⟨c :: x,y,by simp [hx,Ne.symm hc],by rw [e];rfl⟩
  obtain ⟨x,y,hx,e⟩:=hfi p.reverse (List.mem_reverse.2 hs)
  have e2 : p=y.reverse ++ 47 :: x.reverse:=by
    have:=congrArg List.reverse e
    rw [List.reverse_reverse] at this
    rw [this]
    simp
  have h1 : upP p=y.reverse:=by rw [e2];exact upP_some (by simpa using hx)
  rw [hu] at h1
  rw [← h1,List.nil_append] at e2
  have hm : ([] : List UInt8)∈splitC 47 p:=by
    rw [e2]
    have:=splitC_hit (c:=47) (a:=[]) x.reverse (by simp)
    rw [List.nil_append] at this
    rw [this]
    exact List.mem_cons_self
  exact (namesL_ok _ (h.2 _ hm)).1 rfl
theorem up_shift2 {p : List UInt8} (h : PartsOk p) : upP (255 :: 47 :: p)=if upP p=[] then [255] else 255 :: 47 :: upP p:=by
  rw [up_shift h.1]
  split
  · next hu => rw [if_neg (parts_noslash h hu)]
  · rfl
theorem last_ok {t : List NodeP} (h : TreeOk t) (hl : t.length≤12) (hp : ∀ x∈t,PartsOk x.path) : TreeOk (t ++ [lastN]) where
  len:=by rw [List.length_append,List.length_singleton];omega
  node:=fun x hx => by
    rcases List.mem_append.1 hx with hx | hx
    · exact h.node x hx
    · rw [List.mem_singleton] at hx;subst hx;exact lastN_ok
  sorted:=by
    rw [List.pairwise_append]
    refine ⟨h.sorted,List.pairwise_singleton _ _,fun x hx y hy => ?_⟩
    rw [List.mem_singleton] at hy
    subst hy
    exact parts_less (hp x hx)
  up:=fun x hx => by
    rcases List.mem_append.1 hx with hx | hx
    · refine (h.up x hx).imp id ?_
      rintro ⟨y,hy,e⟩
      exact ⟨y,List.mem_append_left _ hy,e⟩
    · rw [List.mem_singleton] at hx;subst hx;exact .inl (by decide)
  alike:=fun x hx y hy hs e => by
    rcases List.mem_append.1 hx with hx | hx
    · rcases List.mem_append.1 hy with hy | hy
      · exact h.alike x hx y hy hs e
      · rw [List.mem_singleton] at hy;subst hy;exact absurd e hs
    · rw [List.mem_singleton] at hx;subst hx;exact absurd rfl hs
structure UndOk (a u : List NodeP) : Prop where
  tree : TreeOk a
  len : a.length≤13
  parts : ∀ x∈a,PartsOk x.path∨x.path=[255]
  dir : ∃ y∈a,y.path=[255]∧y.kind=2
  low : ∀ x∈a,x.same≤13
  sub : TreeOk u
  subLen : u.length≤12
  subParts : ∀ x∈u,PartsOk x.path
def undT (a u : List NodeP) (k : Nat) : List NodeP:=a ++ (u.take k).map shiftN
theorem undT_zero (a u : List NodeP) : undT a u 0=a:=by simp [undT]
theorem undT_succ (a u : List NodeP) {k : Nat} (hk : k < u.length) : undT a u (k + 1)=undT a u k ++ [shiftN u[k]]:=by
  unfold undT
  rw [List.take_succ_eq_append_getElem hk,List.map_append,List.append_assoc]
  rfl
theorem undT_len (a u : List NodeP) (k : Nat) : (undT a u k).length≤a.length + k:=by
  unfold undT
  rw [List.length_append,List.length_map,List.length_take]
  omega
theorem shift_node {x : NodeP} (h : NodeOk x) (hs : x.same≤40) (hl : x.path.length≤398) : NodeOk (shiftN x) where
  path:=by
    refine ⟨?_,by show (255 :: 47 :: x.path).length≤400;simp;omega⟩
    have h1:=h.path.1
    show checkS (255 :: 47 :: x.path)=0
    unfold checkS at *
    split at h1
    · cases h1
    · split at h1
      · cases h1
      · split at h1
        · cases h1
        · next q1 q2 q3 =>
          rw [if_neg (by simp;omega),if_neg (by simp [q2]),if_neg ?_]
          rw [split_shift]
          simp only [List.any_cons,Bool.or_eq_true,not_or]
          exact ⟨by decide,q3⟩
  mt:=h.mt
  same:=by
    have h1:=h.same
    show 0≤(if 0 < x.same then x.same + 40 else x.same)∧(if 0 < x.same then x.same + 40 else x.same)≤1048576∧(x.kind≠1→(if 0 < x.same then x.same + 40 else x.same)=0)
    split
    · exact ⟨by omega,by omega,fun hk => by have:=h1.2.2 hk;omega⟩
    · exact h1
  kind:=h.kind
  data:=h.data
  none:=h.none
  target:=h.target
theorem und_up {a u : List NodeP} (h : UndOk a u) : ∀ k,k≤u.length→(∀ j (hj : j < u.length),j < k→u[j].path.length≤398)→(∀ x∈u,x.same≤40)→TreeOk (undT a u k):=fun k hk hs hsm => by
  have hmem : ∀ x∈(u.take k).map shiftN,∃ j,∃ hj : j < u.length,j < k∧x=shiftN u[j]:=fun x hx => by
    obtain ⟨y,hy,rfl⟩:=List.mem_map.1 hx
    obtain ⟨j,hj,rfl⟩:=List.getElem_of_mem hy
    rw [List.length_take] at hj
    exact ⟨j,by omega,by omega,by rw [List.getElem_take]⟩
  have hne : ∀ x∈u,x.path≠[]:=fun x hx => (h.subParts x hx).1
  refine ⟨?_,fun x hx => ?_,?_,fun x hx => ?_,fun x hx y hy h0 e => ?_⟩
  · have:=undT_len a u k
    have:=h.len
    have:=h.subLen
    omega
  · rcases List.mem_append.1 hx with hx | hx
    · exact h.tree.node x hx
    · obtain ⟨j,hj,hjk,rfl⟩:=hmem x hx
      exact shift_node (h.sub.node _ (List.getElem_mem _)) (hsm _ (List.getElem_mem _)) (hs j hj hjk)
  · unfold undT
    rw [List.pairwise_append]
    refine ⟨h.tree.sorted,?_,fun x hx y hy => ?_⟩
    · rw [List.pairwise_map]
      refine (h.sub.sorted.sublist (List.take_sublist _ _)).imp_of_mem fun {x y} hx hy hxy => ?_
      show cmpP (255 :: 47 :: x.path) (255 :: 47 :: y.path) < 0
      rw [shift_less (hne x (List.mem_of_mem_take hx)) (hne y (List.mem_of_mem_take hy))]
      exact hxy
    · obtain ⟨j,hj,hjk,rfl⟩:=hmem y hy
      show cmpP x.path (255 :: 47 :: u[j].path) < 0
      rcases h.parts x hx with hp | hp
      · exact parts_less2 hp _
      · rw [hp];exact last_less _
  · rcases List.mem_append.1 hx with hx | hx
    · refine (h.tree.up x hx).imp id ?_
      rintro ⟨y,hy,e⟩
      exact ⟨y,List.mem_append_left _ hy,e⟩
    · obtain ⟨j,hj,hjk,rfl⟩:=hmem x hx
      right
      show ∃ y∈undT a u k,y.path=upP (255 :: 47 :: u[j].path)∧y.kind=2
      rw [up_shift2 (h.subParts _ (List.getElem_mem _))]
      split
      · obtain ⟨y,hy,e⟩:=h.dir
        exact ⟨y,List.mem_append_left _ hy,e⟩
      · next hu =>
        rcases h.sub.up u[j] (List.getElem_mem _) with h0 | ⟨y,hy,e1,e2⟩
        · exact absurd h0 hu
        · obtain ⟨i,hi,rfl⟩:=List.getElem_of_mem hy
          have hij : i < j:=by
            rcases Nat.lt_trichotomy i j with a | a | a
            · exact a
            · subst a
              have h5:=up_less hu
              have h6 : cmpP u[i].path u[i].path=0:=cmpL_self _
              rw [← e1] at h5
              omega
            · have h7:=List.pairwise_iff_getElem.1 h.sub.sorted j i hj hi a
              have h5:=up_less hu
              rw [← e1] at h5
              have h8:=cmpL_neg (partsS u[i].path) (partsS u[j].path)
              unfold cmpP at h5 h7
              omega
          exact ⟨shiftN u[i],List.mem_append_right _ (List.mem_map.2 ⟨u[i],List.mem_take_iff_getElem.2 ⟨i,by omega,rfl⟩,rfl⟩),by show 255 :: 47 :: u[i].path=_;rw [e1],e2⟩
  · have hlow : ∀ z∈a,z.same≤13:=h.low
    have hhigh : ∀ j (hj : j < u.length),(shiftN u[j]).same=0∨41≤(shiftN u[j]).same:=fun j hj => by
      have h1:=(h.sub.node u[j] (List.getElem_mem _)).same.1
      show (if 0 < u[j].same then u[j].same + 40 else u[j].same)=0∨41≤(if 0 < u[j].same then u[j].same + 40 else u[j].same)
      split
      · right;omega
      · left;omega
    rcases List.mem_append.1 hx with hx | hx
    · rcases List.mem_append.1 hy with hy | hy
      · exact h.tree.alike x hx y hy h0 e
      · obtain ⟨j,hj,hjk,rfl⟩:=hmem y hy
        have:=hlow x hx
        rcases hhigh j hj with h1 | h1
        · exact absurd (e.trans h1) h0
        · omega
    · obtain ⟨i,hi,hik,rfl⟩:=hmem x hx
      rcases List.mem_append.1 hy with hy | hy
      · have:=hlow y hy
        rcases hhigh i hi with h1 | h1
        · exact absurd h1 h0
        · omega
      · obtain ⟨j,hj,hjk,rfl⟩:=hmem y hy
        have hsi:=(h.sub.node u[i] (List.getElem_mem _)).same.1
        have hsj:=(h.sub.node u[j] (List.getElem_mem _)).same.1
        have e' : (if 0 < u[i].same then u[i].same + 40 else u[i].same)=(if 0 < u[j].same then u[j].same + 40 else u[j].same):=e
        have h0' : (if 0 < u[i].same then u[i].same + 40 else u[i].same)≠0:=h0
        have e2 : u[i].same=u[j].same∧u[i].same≠0:=by
          split at e' <;> split at e' <;> split at h0' <;> omega
        have:=h.sub.alike u[i] (List.getElem_mem _) u[j] (List.getElem_mem _) e2.2 e2.1
        unfold alikeB at *
        exact this
theorem tw_all {p : NodeP→Bool} : ∀ (t : List NodeP),(∀ y∈t,p y=true)→t.takeWhile p=t
  | [],_ => rfl
  | y :: t,h => by rw [List.takeWhile_cons,if_pos (h y List.mem_cons_self),tw_all t (fun z hz => h z (List.mem_cons_of_mem _ hz))]
theorem put_end {t : List NodeP} {x : NodeP} (h : ∀ y∈t,cmpP y.path x.path < 0) : putP t x=t ++ [x]:=by
  have h1 : lowP t x.path=t.length:=by
    unfold lowP
    rw [show t.takeWhile (fun y => decide (cmpP y.path x.path < 0))=t from tw_all t (fun y hy => decide_eq_true (h y hy))]
  have h2 : hasAt t x.path=false:=by
    unfold hasAt
    exact decide_eq_false (fun ⟨a,_⟩ => by omega)
  unfold putP
  rw [h2,h1,List.take_length]
  simp
theorem und_before {a u : List NodeP} (h : UndOk a u) {k : Nat} (hk : k < u.length) : ∀ y∈undT a u k,cmpP y.path (shiftN u[k]).path < 0:=fun y hy => by
  show cmpP y.path (255 :: 47 :: u[k].path) < 0
  rcases List.mem_append.1 hy with hy | hy
  · rcases h.parts y hy with hp | hp
    · exact parts_less2 hp _
    · rw [hp];exact last_less _
  · obtain ⟨z,hz,rfl⟩:=List.mem_map.1 hy
    obtain ⟨j,hj,rfl⟩:=List.getElem_of_mem hz
    rw [List.length_take] at hj
    rw [List.getElem_take]
    show cmpP (255 :: 47 :: u[j].path) (255 :: 47 :: u[k].path) < 0
    rw [shift_less (h.subParts _ (List.getElem_mem _)).1 (h.subParts _ (List.getElem_mem _)).1]
    exact List.pairwise_iff_getElem.1 h.sub.sorted j k (by omega) hk (by omega)
theorem find_before {t : List NodeP} {p : List UInt8} (h : ∀ y∈t,cmpP y.path p < 0) : findP t p=none:=by
  rw [findP_none]
  intro y hy e
  have h1:=h y hy
  have h2 : cmpP y.path y.path=0:=cmpL_self _
  rw [← e] at h1
  omega
theorem anew_low {t : List NodeP} : ∀ x∈anewP t,x.same≤t.length:=fun x hx => by
  obtain ⟨i,hi,rfl⟩:=List.getElem_of_mem hx
  rw [anewP_length] at hi
  rw [anewP_at hi]
  unfold anewAt setSame anewS
  show (if 1 < (firstsP t).count (firstAt t i : Int) then (firstAt t i : Int) + 1 else 0)≤(t.length : Int)
  have:=(firstAt_spec hi).1
  split <;> omega
theorem anew_path {t : List NodeP} {i : Nat} (hi : i < t.length) (h2 : i < (anewP t).length) : (anewP t)[i].path=t[i].path∧(anewP t)[i].kind=t[i].kind∧(anewP t)[i].mt=t[i].mt∧(anewP t)[i].data=t[i].data:=by
  rw [anewP_at hi]
  unfold anewAt
  rw [getD_at hi]
  exact ⟨rfl,rfl,rfl,rfl⟩
theorem anew_mem {t : List NodeP} : ∀ x∈anewP t,∃ y∈t,x.path=y.path∧x.kind=y.kind:=fun x hx => by
  obtain ⟨i,hi,rfl⟩:=List.getElem_of_mem hx
  have h:=hi
  rw [anewP_length] at h
  obtain ⟨h1,h2,-⟩:=anew_path h hi
  exact ⟨t[i],List.getElem_mem _,h1,h2⟩
theorem und_start {t u : List NodeP} (ht : TreeOk t) (hl : t.length≤12) (hp : ∀ x∈t,PartsOk x.path) (hu : TreeOk u) (hul : u.length≤12) (hup : ∀ x∈u,PartsOk x.path) : UndOk (anewP (t ++ [lastN])) (anewP u) where
  tree:=anew_ok (last_ok ht hl hp)
  len:=by rw [anewP_length,List.length_append,List.length_singleton];omega
  parts:=fun x hx => by
    obtain ⟨y,hy,e,-⟩:=anew_mem x hx
    rw [e]
    rcases List.mem_append.1 hy with hy | hy
    · exact .inl (hp y hy)
    · rw [List.mem_singleton] at hy;subst hy;exact .inr rfl
  dir:=by
    have hi : t.length < (t ++ [lastN]).length:=by simp
    have h2 : t.length < (anewP (t ++ [lastN])).length:=by rw [anewP_length];exact hi
    obtain ⟨e1,e2,-⟩:=anew_path hi h2
    exact ⟨_,List.getElem_mem h2,by rw [e1];simp [lastN],by rw [e2];simp [lastN]⟩
  low:=fun x hx => by
    have:=anew_low x hx
    rw [List.length_append,List.length_singleton] at this
    omega
  sub:=anew_ok hu
  subLen:=by rw [anewP_length];exact hul
  subParts:=fun x hx => by
    obtain ⟨y,hy,e,-⟩:=anew_mem x hx
    rw [e]
    exact hup y hy
end Go.Proofs.YtphmhmdcaafmdaaGreatDoor
