import Derived.Test.YtphmhmdcaafmdaaGreatDoorWords
import Derived.Test.YtphmhmdcaafmdaaGreatDoorMetaS
import Derived.Test.YtphmhmdcaafmdaaGreatDoorOctalB
import Derived.Lib.Repeat
import Derived.Sort.Grow
import Derived.Shelf.SlicesQ.Load
import Derived.Shelf.GgClosure.Gives
import Derived.Deep.LoopGhost
namespace Go.Proofs.YtphmhmdcaafmdaaGreatDoor
set_option linter.all false
section
open Go.RowKit
structure NodeP where
  path : List UInt8
  kind : Int
  same : Int
  target : List UInt8
  mt : MetaP
  data : List UInt8
  deriving DecidableEq
def nodeZ : NodeP:=⟨[],0,0,[],⟨0,0,0,[],[],0,0⟩,[]⟩
instance : Inhabited NodeP:=⟨nodeZ⟩
abbrev NodeV:=NodeP × Value
def nodeC (x : NodeV) : List Value:=[.string (bs x.1.path),.int .i64 x.1.kind,.int .i64 x.1.same,.string (bs x.1.target),.int .i64 x.1.mt.mode,.int .i64 x.1.mt.uid,.int .i64 x.1.mt.gid,.string (bs x.1.mt.user),.string (bs x.1.mt.group),.int .i64 x.1.mt.second,.int .i64 x.1.mt.nano,x.2]
theorem nodeC_length (x : NodeV) : (nodeC x).length=12:=rfl
def U8Kept (w w' : World) : Prop:=∀ (k : Nat) (C : Array Value) (fr : Nat × Nat),w.heap[k]?=some (.cells C 5 fr)→w'.heap[k]?=some (.cells C 5 fr)
theorem heap_lt {w : World} {k : Nat} {o : Obj} (h : w.heap[k]?=some o) : k < w.heap.size:=(Array.getElem?_eq_some_iff.1 h).1
section
variable {w w' w'' : World}
theorem U8Kept.refl (w : World) : U8Kept w w:=fun _ _ _ h => h
theorem U8Kept.trans (h : U8Kept w w') (h' : U8Kept w' w'') : U8Kept w w'':=fun k C fr hk => h' k C fr (h k C fr hk)
theorem U8Kept.of_below (h : Below w.heap.size w w') : U8Kept w w':=fun k _ _ hk => (h.block k (heap_lt hk)).trans hk
theorem U8Kept.set_ {g : Nat} {C : Array Value} {t : TypeId} {fr : Nat × Nat} (hg : w.heap[g]?=some (.cells C t fr)) (hne : t≠5) (i : Nat) (u : Value) : U8Kept w (w.setCell ⟨g,i,none⟩ u):=by
  intro k C' fr' hk
  rw [Below.heap_setCell _ _ _ _ ?_]
  · exact hk
  · rintro rfl
    rw [hg] at hk
    injection hk with hk
    injection hk with _ ht
    exact hne ht
theorem U8Kept.grown {row : Option Nat} (hb : w.grownBy w' row) (hr : ∀ g,row=some g→∃ C t fr,w.heap[g]?=some (.cells C t fr)∧t≠5) : U8Kept w w':=by
  intro k C fr hk
  refine (hb.block k (heap_lt hk) ?_).trans hk
  intro e
  obtain ⟨C',t,fr',hg,hne⟩:=hr k e.symm
  rw [hg] at hk
  injection hk with hk
  injection hk with _ ht
  exact hne ht
end
def DataAt (w : World) (base : Nat) (v : Value) (l : List UInt8) : Prop :=
  ∃ A c,v=.slice A l.length c∧l.length≤c∧c≤maxLen∧(A=none→c=0∧l=[]) ∧
    ∀ ad,A=some ad→ad.spot=none∧base≤ad.block∧∃ C fr,w.heap[ad.block]?=some (.cells C 5 fr)∧∀ j,(hj : j < l.length)→C[ad.off + j]?=some (.int .u8 (l[j].toNat : Int))∧(fr.1≤ad.off + j && decide (ad.off + j < fr.2))=false
theorem DataAt.nil (w : World) (base : Nat) : DataAt w base (.slice none 0 0) []:=⟨none,0,rfl,by simp,by simp,fun _ => ⟨rfl,rfl⟩,fun _ h => by cases h⟩
theorem DataAt.kept {w w' : World} {base : Nat} {v : Value} {l : List UInt8} (h : DataAt w base v l) (hk : U8Kept w w') : DataAt w' base v l:=by
  obtain ⟨A,c,h1,h2,h3,h4,h5⟩:=h
  refine ⟨A,c,h1,h2,h3,h4,fun ad e => ?_⟩
  obtain ⟨s,b,C,fr,hc,hx⟩:=h5 ad e
  exact ⟨s,b,C,fr,hk _ _ _ hc,hx⟩
theorem DataAt.below {w w' : World} {base : Nat} {v : Value} {l : List UInt8} (h : DataAt w base v l) (hb : Below w.heap.size w w') : DataAt w' base v l:=h.kept (U8Kept.of_below hb)
theorem DataAt.mono {w : World} {base base' : Nat} {v : Value} {l : List UInt8} (h : DataAt w base v l) (hb : base'≤base) : DataAt w base' v l:=by
  obtain ⟨A,c,h1,h2,h3,h4,h5⟩:=h
  refine ⟨A,c,h1,h2,h3,h4,fun ad e => ?_⟩
  obtain ⟨s,b,r⟩:=h5 ad e
  exact ⟨s,by omega,r⟩
theorem add_flat (g o j : Nat) : (⟨g,o,none⟩ : Addr).add j=⟨g,o + j,none⟩:=by
  unfold Addr.add;split
  · next h => subst h;rfl
  · rfl
theorem DataAt.bytes {w : World} {base : Nat} {v : Value} {l : List UInt8} (h : DataAt w base v l) : BytesAt w w.heap.size v l:=by
  obtain ⟨A,c,h1,h2,h3,h4,h5⟩:=h
  refine ⟨A,c,by rw [List.length_map];exact h1,by rw [List.length_map];exact h2,h3,fun e => (h4 e).1,?_⟩
  rw [List.length_map]
  refine ⟨by simp,fun hl => ?_⟩
  rcases A with _ | ad
  · have:=(h4 rfl).2;subst this;simp at hl
  · obtain ⟨s,b,C,fr,hc,hx⟩:=h5 ad rfl
    obtain ⟨g,o,sp⟩:=ad
    simp only at s hc b hx
    subst s
    refine ⟨_,rfl,heap_lt hc,fun j u hu => ?_⟩
    have hj : j < l.length:=by have:=(List.getElem?_eq_some_iff.1 hu).1;simpa using this
    rw [add_flat,cell_of_row _ _ _ _ _ _ hc,(hx j hj).1]
    rw [List.getElem?_map,List.getElem?_map,List.getElem?_eq_getElem hj] at hu
    exact hu
theorem DataAt.of_own {w : World} {base : Nat} {v : Value} {l : List UInt8} (h : w.ownsRow base 5 1 v l.length ((l.map ofB).map (.int .u8))) : DataAt w base v l:=by
  obtain ⟨_,h⟩:=h
  rcases h with ⟨rfl,h0⟩ | ⟨g,cap,cur,rfl,hb,hg,hn,hm,hs,ht⟩
  · obtain rfl : l=[]:=List.eq_nil_of_length_eq_zero h0
    exact DataAt.nil w base
  · refine ⟨_,cap,rfl,hn,hm,(fun h => by cases h),fun ad e => ?_⟩
    cases e
    refine ⟨rfl,hb,cur,_,hg,fun j hj => ⟨?_,by simp⟩⟩
    have h2 : (cur.toList.take (l.length * 1))[j]?=some (.int .u8 (l[j].toNat : Int)):=by
      rw [ht,List.getElem?_map,List.getElem?_map,List.getElem?_eq_getElem hj];rfl
    rw [List.getElem?_take,if_pos (by omega)] at h2
    simpa using h2
theorem conv_data (l : List UInt8) (w : World) (hl : l.length≤4611686018427387904) : ∃ (v : Value) (W : World),
    (convert 9 27 (.string (bs l))).run Tryz.prog w=.ok v W∧DataAt W w.heap.size v l∧Below w.heap.size w W:=by
  obtain ⟨c,n,C,h1,h2,h3,h4,h5,h6⟩:=conv_sb l w hl
  refine ⟨_,_,h6,⟨_,c,rfl,h1,h2,(fun h => by cases h),fun ad e => ?_⟩,((Below.refl _ w).drew).alloc (Nat.le_refl _) _⟩
  cases e
  refine ⟨rfl,Nat.le_refl _,C,(n,n + 1),heap_alloc_new w.drew _,fun j hj => ⟨by rw [Nat.zero_add];exact h5 j hj,?_⟩⟩
  simp only [Bool.and_eq_false_iff,decide_eq_false_iff_not]
  left;omega
def NodesAt (w : World) (v : Value) (l : List NodeP) : Prop :=
  ∃ (xs : List NodeV) (A : Option Addr) (c : Nat),xs.map (·.1)=l∧v=.slice A l.length c∧l.length≤c∧c≤maxLen∧(A=none→c=0)∧Reads w w.heap.size 12 A l.length (xs.flatMap nodeC)∧∀ x∈xs,DataAt w 0 x.2 x.1.data
theorem NodesAt.below {w w' : World} {v : Value} {l : List NodeP} (h : NodesAt w v l) (hb : Below w.heap.size w w') : NodesAt w' v l:=by
  obtain ⟨xs,A,c,h0,h1,h2,h3,h4,h5,h6⟩:=h
  exact ⟨xs,A,c,h0,h1,h2,h3,h4,(h5.below hb).more hb.size,fun x hx => (h6 x hx).below hb⟩
theorem NodesAt.nil (w : World) : NodesAt w (.slice none 0 0) []:=⟨[],none,0,rfl,rfl,by simp,by simp,fun _ => rfl,Reads.none_,by simp⟩
def NodesOwn (w : World) (base : Nat) (v : Value) (l : List NodeP) : Prop :=
  ∃ xs : List NodeV,xs.map (·.1)=l∧w.ownsRow base 29 12 v l.length (xs.flatMap nodeC)∧∀ x∈xs,DataAt w base x.2 x.1.data
theorem ownsRow_below {w w' : World} {base : Nat} {e : TypeId} {size n : Nat} {v : Value} {xs : List Value} (h : w.ownsRow base e size v n xs) (hb : Below w.heap.size w w') : w'.ownsRow base e size v n xs:=by
  obtain ⟨h1,h2⟩:=h
  refine ⟨h1,?_⟩
  rcases h2 with h | ⟨g,cap,cur,hv,hb',hg,r⟩
  · exact .inl h
  · exact .inr ⟨g,cap,cur,hv,hb',(hb.block g (heap_lt hg)).trans hg,r⟩
theorem ownsRow_mono {w : World} {base base' : Nat} {e : TypeId} {size n : Nat} {v : Value} {xs : List Value} (h : w.ownsRow base e size v n xs) (hb : base'≤base) : w.ownsRow base' e size v n xs:=by
  obtain ⟨h1,h2⟩:=h
  refine ⟨h1,?_⟩
  rcases h2 with h | ⟨g,cap,cur,hv,hb',r⟩
  · exact .inl h
  · exact .inr ⟨g,cap,cur,hv,by omega,r⟩
theorem NodesOwn.below {w w' : World} {base : Nat} {v : Value} {l : List NodeP} (h : NodesOwn w base v l) (hb : Below w.heap.size w w') : NodesOwn w' base v l:=by
  obtain ⟨xs,h0,h1,h2⟩:=h
  exact ⟨xs,h0,ownsRow_below h1 hb,fun x hx => (h2 x hx).below hb⟩
theorem NodesOwn.mono {w : World} {base base' : Nat} {v : Value} {l : List NodeP} (h : NodesOwn w base v l) (hb : base'≤base) : NodesOwn w base' v l:=by
  obtain ⟨xs,h0,h1,h2⟩:=h
  exact ⟨xs,h0,ownsRow_mono h1 hb,fun x hx => (h2 x hx).mono hb⟩
theorem ownsRow_read {w : World} {base : Nat} {e : TypeId} {size n : Nat} {v : Value} {xs : List Value} (h : w.ownsRow base e size v n xs) : ∃ A c,v=.slice A n c∧n≤c∧c≤maxLen∧(A=none→c=0)∧Reads w w.heap.size size A n xs:=by
  rcases h.2 with ⟨rfl,h0⟩ | ⟨g,cap,cur,rfl,_,_,hn,hm,_⟩
  · have h1:=h.1
    subst h0
    refine ⟨none,0,rfl,by simp,by simp,fun _ => rfl,?_⟩
    refine ⟨h1,fun h => absurd h (by omega)⟩
  · exact ⟨_,cap,rfl,hn,hm,(fun h => by cases h),Reads.of_own h⟩
theorem NodesOwn.at_ {w : World} {base : Nat} {v : Value} {l : List NodeP} (h : NodesOwn w base v l) : NodesAt w v l:=by
  obtain ⟨xs,h0,h1,h2⟩:=h
  obtain ⟨A,c,e1,e2,e3,e4,e5⟩:=ownsRow_read h1
  exact ⟨xs,A,c,h0,e1,e2,e3,e4,e5,fun x hx => (h2 x hx).mono (Nat.zero_le _)⟩
theorem Reads.node_at {w : World} {B : Nat} {A : Option Addr} {xs : List NodeV} {n : Nat} (h : Reads w B 12 A n (xs.flatMap nodeC)) {k : Nat} (hk : k < xs.length) (hn : k < n) :
    ∃ ad,A=some ad∧ad.block < B∧∀ j,j < 12→w.cell? (ad.add (k * 12 + j))=(nodeC xs[k])[j]?:=by
  obtain ⟨ad,e,hb,hc⟩:=h.2 (by omega)
  refine ⟨ad,e,hb,fun j hj => ?_⟩
  have key : (xs.flatMap nodeC)[k * 12 + j]?=(nodeC xs[k])[j]?:=by
    rw [flat_get nodeC_length xs k j hj,List.getElem?_eq_getElem hk];rfl
  have hj2 : j < (nodeC xs[k]).length:=hj
  rw [List.getElem?_eq_getElem hj2] at key ⊢
  exact hc _ _ key
end
section
open Go.RowKit
def namesL : List (List UInt8):=[[97],[98],[97,98],[66],[120,32,121],[195,169],[99,46,116,120,116],List.replicate 60 110,List.replicate 130 109,[97,33],[45]]
structure TreeS where
  t : List NodeP
  dirs : List (List UInt8)
def upS (d : List UInt8) : List UInt8:=if d=[] then [] else d ++ [47]
def growPath (dirs : List (List UInt8)) (r : RawS) : List UInt8:=upS (dirs.getD (pick r.b dirs.length).toNat []) ++ namesL.getD (pick r.a 11).toNat []
def plainN (r : RawS) (p : List UInt8) : NodeP:=⟨p,1,0,[],metaOf r,Lib.repeatL (cleanS r.text 40) (pick r.b 30).toNat⟩
def dirN (r : RawS) (p : List UInt8) : NodeP:=⟨p,2,0,[],metaOf r,[]⟩
def symN (r : RawS) (p : List UInt8) : NodeP:=⟨p,3,0,116 :: Lib.repeatL (cleanS r.text 10) (pick r.a 20).toNat,metaOf r,[]⟩
def marked (x : NodeP) (j : Nat) : NodeP:=⟨x.path,x.kind,if x.same=0 then (j : Int) + 1 else x.same,x.target,x.mt,x.data⟩
def linkN (x : NodeP) (j : Nat) (p : List UInt8) : NodeP:=⟨p,x.kind,if x.same=0 then (j : Int) + 1 else x.same,x.target,x.mt,x.data⟩
def linkAt (s : TreeS) (r : RawS) : Option Nat :=
  match s.t[(pick r.a (s.t.length + 1)).toNat]? with
  | some x => if x.kind=1 then some (pick r.a (s.t.length + 1)).toNat else none
  | none => none
def growKind (s : TreeS) (r : RawS) (p : List UInt8) (k : Nat) : TreeS :=
  if k=0∨k=1 then ⟨s.t ++ [dirN r p],s.dirs ++ [p]⟩
  else if k=2 then ⟨s.t ++ [symN r p],s.dirs⟩
  else if k=3∨k=4 then
    match linkAt s r with
    | some j => ⟨s.t.set j (marked (s.t.getD j default) j) ++ [linkN (s.t.getD j default) j p],s.dirs⟩
    | none => ⟨s.t ++ [plainN r p],s.dirs⟩
  else ⟨s.t ++ [plainN r p],s.dirs⟩
def hasPath (t : List NodeP) (p : List UInt8) : Bool:=t.any fun x => x.path == p
def growStep (most : Nat) (s : TreeS) (r : RawS) : TreeS :=
  if most≤s.t.length then s
  else if 400 < (growPath s.dirs r).length∨hasPath s.t (growPath s.dirs r)=true then s
  else growKind s r (growPath s.dirs r) (pick r.kind 7).toNat
def growAll (most : Nat) (l : List RawS) : TreeS:=l.foldl (growStep most) ⟨[],[[]]⟩
theorem grow_full {most : Nat} {s : TreeS} (h : most≤s.t.length) : ∀ l : List RawS,l.foldl (growStep most) s=s
  | [] => rfl
  | r :: l => by rw [List.foldl_cons,show growStep most s r=s from if_pos h];exact grow_full h l
def cmpS (a b : List UInt8) : Int:=cmpL (splitC 47 a) (splitC 47 b)
theorem cmpS_cmpP {a b : List UInt8} (ha : a≠[]) (hb : b≠[]) : cmpS a b=cmpP a b:=by
  unfold cmpS cmpP partsS;rw [if_neg ha,if_neg hb]
theorem split_inj {a b : List UInt8} (h : splitC 47 a=splitC 47 b) : a=b:=by rw [← join_split 47 a,h,join_split]
theorem cmpS_self (a : List UInt8) : cmpS a a=0:=cmpL_self _
theorem cmpS_zero {a b : List UInt8} (h : cmpS a b=0) : a=b:=split_inj (cmpL_zero h)
theorem cmpS_neg (a b : List UInt8) : cmpS b a=-cmpS a b:=cmpL_neg _ _
theorem cmpS_le {a b c : List UInt8} (h1 : cmpS a b≤0) (h2 : cmpS b c≤0) : cmpS a c≤0:=cmpL_le _ _ _ h1 h2
def nodeLe (x y : NodeP) : Bool:=decide (cmpS x.path y.path≤0)
def treeP (l : List RawS) (most : Nat) : List NodeP:=(growAll most l).t.mergeSort nodeLe
theorem nodeLe_trans (a b c : NodeP) (h1 : nodeLe a b=true) (h2 : nodeLe b c=true) : nodeLe a c=true:=by
  unfold nodeLe at *
  simp only [decide_eq_true_eq] at *
  exact cmpS_le h1 h2
theorem nodeLe_total (a b : NodeP) : (nodeLe a b || nodeLe b a)=true:=by
  unfold nodeLe
  have:=cmpS_neg a.path b.path
  simp only [Bool.or_eq_true,decide_eq_true_eq]
  omega
theorem treeP_perm (l : List RawS) (most : Nat) : (treeP l most).Perm (growAll most l).t:=List.mergeSort_perm _ _
theorem treeP_sorted (l : List RawS) (most : Nat) : (treeP l most).Pairwise (fun x y => cmpS x.path y.path≤0) :=
  (List.pairwise_mergeSort nodeLe_trans nodeLe_total _).imp (fun h => by unfold nodeLe at h;simpa using h)
theorem sorted_one : ∀ {l m : List NodeP},l.Perm m→l.Pairwise (fun x y => cmpS x.path y.path≤0)→m.Pairwise (fun x y => cmpS x.path y.path≤0)→(l.map (·.path)).Nodup→l=m
  | [],m,hp,_,_,_ => (List.nil_perm.1 hp).symm
  | x :: l,m,hp,h1,h2,hn => by
    match m,hp,h2 with
    | [],hp,_ => simp at hp
    | y :: m,hp,h2 =>
      have hxy : x=y:=by
        have hx : x∈y :: m:=hp.subset (List.mem_cons_self ..)
        have hy : y∈x :: l:=hp.symm.subset (List.mem_cons_self ..)
        rcases List.mem_cons.1 hx with e | hx
        · exact e
        · rcases List.mem_cons.1 hy with e | hy
          · exact e.symm
          · have a1:=(List.pairwise_cons.1 h1).1 y hy
            have a2:=(List.pairwise_cons.1 h2).1 x hx
            have a3:=cmpS_neg x.path y.path
            have a4 : x.path=y.path:=cmpS_zero (by omega)
            rw [List.map_cons,List.nodup_cons] at hn
            exact absurd (List.mem_map.2 ⟨y,hy,a4.symm⟩) hn.1
      subst hxy
      rw [List.map_cons,List.nodup_cons] at hn
      rw [sorted_one (List.Perm.cons_inv hp) (List.pairwise_cons.1 h1).2 (List.pairwise_cons.1 h2).2 hn.2]
structure GrowOk (most : Nat) (s : TreeS) : Prop where
  len : s.t.length≤most
  dirs : 1≤s.dirs.length
  dirsLe : s.dirs.length≤s.t.length + 1
  dirLen : ∀ d∈s.dirs,d.length≤400
  path : ∀ x∈s.t,x.path.length≤400
  nodup : (s.t.map (·.path)).Nodup
theorem hasPath_iff {t : List NodeP} {p : List UInt8} : hasPath t p=true ↔ p∈t.map (·.path):=by
  unfold hasPath
  rw [List.any_eq_true,List.mem_map]
  simp
theorem growOk_start (most : Nat) : GrowOk most ⟨[],[[]]⟩:=⟨by simp,by simp,by simp,by simp,by simp,by simp⟩
theorem growKind_form (s : TreeS) (r : RawS) (p : List UInt8) (k : Nat) : ∃ (j : Nat) (y : NodeP) (n : NodeP) (ds : List (List UInt8)),growKind s r p k=⟨s.t.set j y ++ [n],s.dirs ++ ds⟩∧n.path=p∧(ds=[]∨ds=[p])∧(∀ x,s.t[j]?=some x→y.path=x.path):=by
  have plain : ∀ n : NodeP,n.path=p→∀ ds,(ds=[]∨ds=[p])→∃ (j : Nat) (y : NodeP) (n' : NodeP) (ds' : List (List UInt8)),(⟨s.t ++ [n],s.dirs ++ ds⟩ : TreeS)=⟨s.t.set j y ++ [n'],s.dirs ++ ds'⟩∧n'.path=p∧(ds'=[]∨ds'=[p])∧(∀ x,s.t[j]?=some x→y.path=x.path):=by
    intro n hn ds hds
    refine ⟨s.t.length,n,n,ds,?_,hn,hds,fun x hx => ?_⟩
    · rw [List.set_eq_of_length_le (Nat.le_refl _)]
    · rw [List.getElem?_eq_none (Nat.le_refl _)] at hx;cases hx
  unfold growKind
  split
  · exact plain (dirN r p) rfl [p] (.inr rfl)
  · split
    · have h:=plain (symN r p) rfl [] (.inl rfl);rw [List.append_nil] at h;exact h
    · split
      · split
        · next j hj =>
          refine ⟨j,_,_,[],by rw [List.append_nil],rfl,.inl rfl,fun x hx => ?_⟩
          rw [List.getD_eq_getElem?_getD,hx];rfl
        · have h:=plain (plainN r p) rfl [] (.inl rfl);rw [List.append_nil] at h;exact h
      · have h:=plain (plainN r p) rfl [] (.inl rfl);rw [List.append_nil] at h;exact h
theorem set_paths {t : List NodeP} {j : Nat} {y : NodeP} (h : ∀ x,t[j]?=some x→y.path=x.path) : (t.set j y).map (·.path)=t.map (·.path):=by
  rw [List.map_set]
  apply List.ext_getElem?
  intro i
  rw [List.getElem?_set]
  split
  · next e =>
    subst e
    split
    · next hl =>
      rw [List.length_map] at hl
      rw [List.getElem?_map,List.getElem?_eq_getElem hl,h _ (List.getElem?_eq_getElem hl)];rfl
    · next hl => rw [List.getElem?_eq_none (by omega)]
  · rfl
theorem growOk_step {most : Nat} {s : TreeS} (h : GrowOk most s) (r : RawS) : GrowOk most (growStep most s r):=by
  unfold growStep
  split
  · exact h
  · split
    · exact h
    · next h1 h2 =>
      obtain ⟨j,y,n,ds,e,hn,hds,hy⟩:=growKind_form s r (growPath s.dirs r) (pick r.kind 7).toNat
      have hp : (growPath s.dirs r).length≤400:=by
        rcases Nat.lt_or_ge 400 (growPath s.dirs r).length with a | a
        · exact absurd (.inl a) h2
        · exact a
      have hno : growPath s.dirs r ∉ s.t.map (·.path):=fun a => h2 (.inr (hasPath_iff.2 a))
      have hm : (s.t.set j y ++ [n]).map (·.path)=s.t.map (·.path) ++ [growPath s.dirs r]:=by rw [List.map_append,set_paths hy,List.map_cons,hn];rfl
      have hl : ds.length≤1:=by rcases hds with rfl | rfl <;> simp
      rw [e]
      refine ⟨?_,?_,?_,?_,?_,?_⟩
      · simp only [List.length_append,List.length_set,List.length_cons,List.length_nil];omega
      · have:=h.dirs;simp only [List.length_append];omega
      · have:=h.dirsLe;simp only [List.length_append,List.length_set,List.length_cons,List.length_nil];omega
      · intro d hd
        rcases List.mem_append.1 hd with hd | hd
        · exact h.dirLen d hd
        · rcases hds with rfl | rfl
          · simp at hd
          · rw [List.mem_singleton] at hd;subst hd;exact hp
      · intro x hx
        have hx2 : x.path∈(s.t.set j y ++ [n]).map (·.path):=List.mem_map_of_mem hx
        rw [hm] at hx2
        rcases List.mem_append.1 hx2 with a | a
        · obtain ⟨z,hz,ez⟩:=List.mem_map.1 a
          rw [← ez];exact h.path z hz
        · rw [List.mem_singleton] at a;rw [a];exact hp
      · rw [hm,List.nodup_append]
        exact ⟨h.nodup,by simp,fun a ha b hb e => by rw [List.mem_singleton] at hb;subst hb;subst e;exact hno ha⟩
theorem growOk_all (most : Nat) : ∀ (l : List RawS) {s : TreeS},GrowOk most s→GrowOk most (l.foldl (growStep most) s)
  | [],_,h => h
  | r :: l,_,h => growOk_all most l (growOk_step h r)
theorem treeP_nodup (l : List RawS) (most : Nat) : ((treeP l most).map (·.path)).Nodup :=
  (List.Perm.nodup_iff ((treeP_perm l most).map _)).2 (growOk_all most l (growOk_start most)).nodup
theorem treeP_length (l : List RawS) (most : Nat) : (treeP l most).length≤most:=by
  rw [(treeP_perm l most).length_eq];exact (growOk_all most l (growOk_start most)).len
theorem treeP_of {l : List RawS} {most : Nat} {m : List NodeP} (hp : m.Perm (growAll most l).t) (hs : m.Pairwise (fun x y => cmpS x.path y.path≤0)) : m=treeP l most :=
  sorted_one (hp.trans (treeP_perm l most).symm) hs (treeP_sorted l most) ((List.Perm.nodup_iff (hp.map _)).2 (growOk_all most l (growOk_start most)).nodup)
end
section
open Go.RowKit Go.Sort
theorem split_grow (l : List UInt8) (w : World) (hs : l.length < 4294967281) (hm : ML w) :
    Calls Tryz.prog 67 #[.string (bs l),.string ⟨#[47]⟩] w fun e w' => ∃ v,e=.returned v∧StrsAt w' w'.heap.size v (splitC 47 l)∧∃ os,w'=grow w os:=by
  obtain ⟨m,hm⟩:=hm
  refine (Tryz.strings_Split (bs l) ⟨#[47]⟩ m w (by rw [bs_size];exact hs) hm (by decide)).mono ?_
  rintro e w' ⟨rfl,rfl⟩
  have hk : Lib.countB (bs l) ⟨#[47]⟩=Lib.countB (bs l) ⟨#[47]⟩:=rfl
  have hlen:=Lib.splitB_all ⟨#[47]⟩ (by decide) 0 _ (bs l) hk
  have hdat:=Lib.splitB_data ⟨#[47]⟩ 0 (Lib.countB (bs l) ⟨#[47]⟩) (bs l)
  have hsp : Lib.splitK [47] 0 (Lib.countB (bs l) ⟨#[47]⟩) l=splitC 47 l:=by
    have:=split_eq 47 l.length l (Nat.le_refl _)
    unfold Lib.split at this
    exact this
  rw [bs_data] at hdat
  have hdat:=hdat.trans hsp
  generalize Lib.splitB ⟨#[47]⟩ 0 (Lib.countB (bs l) ⟨#[47]⟩) (bs l)=P at *
  have hP : P.map Value.string=(splitC 47 l).map fun s => Value.string (bs s):=by
    rw [← hdat,List.map_map]
    apply List.map_congr_left
    intro x _
    rfl
  have hl2 : (splitC 47 l).length=Lib.countB (bs l) ⟨#[47]⟩ + 1:=by rw [← hlen,← hdat,List.length_map]
  have hl3:=splitC_length 47 l
  have ho : StrsOwn (w.alloc (.cells (P.map Value.string).toArray 9)) w.heap.size (.slice (some ⟨w.heap.size,0,none⟩) (Lib.countB (bs l) ⟨#[47]⟩ + 1) (Lib.countB (bs l) ⟨#[47]⟩ + 1)) (splitC 47 l):=by
    refine ⟨_,_,by rw [hl2],Nat.le_refl _,by simp,by omega,by simp only [maxLen];omega,fun j u hu => ?_⟩
    rw [hP,World.cell?_alloc_mark]
    simpa using hu
  exact ⟨_,rfl,ho.at_,_,alloc_eq_grow _ _⟩
theorem below_grow (w : World) (os : Array Obj) : Below w.heap.size w (grow w os) :=
  ⟨rfl,rfl,rfl,by simp [grow],fun k hk => heap_grow_old w os hk⟩
set_option maxHeartbeats 400000 in
theorem less_grow (a b : List UInt8) (w : World) (ha : a.length < 4294967281) (hb : b.length < 4294967281) (hm : ML w) :
    Calls Tryz.prog 32 #[.string (bs a),.string (bs b)] w fun e w' => e=.returned (.int .i64 (cmpS a b))∧∃ os,w'=grow w os:=by
  have HA:=Lib.hid (fun w hm => split_grow a w ha hm)
  have HB:=Lib.hid (fun w hm => split_grow b w hb hm)
  have HM:=Lib.hid (fun os => hm.below (below_grow w os))
  have HM0:=Lib.hid hm
  clear hm ha hb
  go_enter Tryz.func32,Tryz.ntmps32
  go_wp2_with fail
  refine (HA.out _ HM0.out).mono ?_
  rintro e w1 ⟨v1,rfl,h1,os1,rfl⟩
  have H1:=Lib.hid h1
  clear h1
  go_wp2_with fail
  refine (HB.out _ (HM.out os1)).mono ?_
  rintro e w2 ⟨v2,rfl,h2,os2,rfl⟩
  have H2:=Lib.hid h2
  clear h2
  go_wp2_with fail
  refine (CompareS_any v1 v2 (splitC 47 a) (splitC 47 b) (grow (grow w os1) os2).heap.size _ ((H1.out.below (below_grow _ os2)).more (by simp [grow])) H2.out).mono ?_
  rintro e w3 ⟨rfl,rfl⟩
  go_wp2_with fail
  go_ret
  exact ⟨rfl,os1 ++ os2,grow_grow _ _ _⟩
theorem ML.grow {w : World} (h : ML w) (os : Array Obj) : ML (grow w os):=h.below (below_grow w os)
set_option maxHeartbeats 400000 in
theorem lessN_grow (x y : NodeV) (w : World) (ha : x.1.path.length < 4294967281) (hb : y.1.path.length < 4294967281) (hm : ML w) :
    Calls Tryz.prog 31 #[.agg (nodeC x).toArray,.agg (nodeC y).toArray] w fun e w' => e=.returned (.int .i64 (cmpS x.1.path y.1.path))∧∃ q os,w'=grow (w.drewN q) os:=by
  obtain ⟨⟨p,k,s,t,⟨m1,m2,m3,m4,m5,m6,m7⟩,d⟩,dv⟩:=x
  obtain ⟨⟨p',k',s',t',⟨n1,n2,n3,n4,n5,n6,n7⟩,d'⟩,dv'⟩:=y
  simp only at ha hb
  have HL:=Lib.hid (fun w hm => less_grow p p' w ha hb hm)
  have HM:=Lib.hid (fun o1 o2 => (hm.grow #[o1]).grow #[o2])
  clear ha hb hm
  unfold nodeC
  simp only
  generalize cmpS p p'=c at *
  generalize bs p=bp at *
  generalize bs p'=bp' at *
  go_enter Tryz.func31,Tryz.ntmps31
  go_wp2_with fail
  rw [alloc_eq_grow,alloc_eq_grow]
  refine (HL.out _ (HM.out _ _)).mono ?_
  rintro e w1 ⟨rfl,os,rfl⟩
  go_wp2_with fail
  go_ret
  exact ⟨rfl,0,_,(grow_grow _ _ _).trans (grow_grow _ _ _)⟩
theorem namesL_length : namesL.length=11:=rfl
set_option maxHeartbeats 400000 in
theorem names_any (w : World) :
    Calls Tryz.prog 25 #[] w fun e w' => ∃ v,e=.returned v∧StrsOwn w' w.heap.size v namesL∧Below w.heap.size w w':=by
  have H1 : Hid (∀ w,Calls Tryz.prog 27 #[.string ⟨#[110]⟩,.int .i64 60] w fun e w' => e=.returned (.string (bs (List.replicate 60 110)))∧Below w.heap.size w w'):=Lib.hid (fun w => Repeat_byte 110 60 w (by omega))
  have H2 : Hid (∀ w,Calls Tryz.prog 27 #[.string ⟨#[109]⟩,.int .i64 130] w fun e w' => e=.returned (.string (bs (List.replicate 130 109)))∧Below w.heap.size w w'):=Lib.hid (fun w => Repeat_byte 109 130 w (by omega))
  have fin : Hid (namesL.map (fun s => Value.string (bs s))=[.string ⟨#[97]⟩,.string ⟨#[98]⟩,.string ⟨#[97,98]⟩,.string ⟨#[66]⟩,.string ⟨#[120,32,121]⟩,.string ⟨#[195,169]⟩,.string ⟨#[99,46,116,120,116]⟩,.string (bs (List.replicate 60 110)),.string (bs (List.replicate 130 109)),.string ⟨#[97,33]⟩,.string ⟨#[45]⟩]):=Lib.hid rfl
  generalize bs (List.replicate 60 110)=b1 at *
  generalize bs (List.replicate 130 109)=b2 at *
  go_enter Tryz.func25,Tryz.ntmps25
  go_wp2_with fail
  refine (H1.out _).mono ?_
  rintro e w1 ⟨rfl,c1⟩
  have B1:=Lib.hid c1
  clear c1
  go_wp2_with fail
  refine (H2.out _).mono ?_
  rintro e w2 ⟨rfl,c2⟩
  have B2:=Lib.hid (B1.out.trans (c2.mono B1.out.size))
  clear c2
  go_wp2_with fail
  go_ret
  refine ⟨_,rfl,⟨w2.heap.size,11,rfl,B2.out.size,by simp,Nat.le_refl _,by simp [maxLen],fun j u hu => ?_⟩,B2.out.alloc B2.out.size _⟩
  rw [fin.out] at hu
  rw [World.cell?_alloc_mark]
  simpa using hu
end
section
open Go.RowKit
def idxN (p : NodeP→Bool) (l : List NodeP) : Int:=match l.findIdx? p with | some i => (i : Int) | none => -1
theorem idxN_hit {p : NodeP→Bool} {l : List NodeP} {k : Nat} (hk : k < l.length) (hp : p l[k]=true) (hb : ∀ j (hj : j < k),p (l[j]'(by omega))=false) : idxN p l=k:=by
  unfold idxN
  have : l.findIdx? p=some k:=by
    rw [List.findIdx?_eq_some_iff_getElem]
    exact ⟨hk,hp,fun j hj => by simp [hb j hj]⟩
  rw [this]
theorem idxN_miss {p : NodeP→Bool} {l : List NodeP} (hb : ∀ j (hj : j < l.length),p (l[j]'hj)=false) : idxN p l=-1:=by
  unfold idxN
  have : l.findIdx? p=none:=by
    rw [List.findIdx?_eq_none_iff]
    intro x hx
    obtain ⟨j,hj,rfl⟩:=List.getElem_of_mem hx
    exact hb j hj
  rw [this]
theorem spot_of {w : World} {a : Addr} {v : Value} (h : w.cell? a=some v) : a.spot=none:=by
  unfold World.cell? at h
  split at h
  · split at h
    · cases h
    · next hs => simpa using hs
  · cases h
theorem add_step {a : Addr} (h : a.spot=none) (j : Nat) : a.add j=⟨a.block,a.off + j,none⟩:=by
  obtain ⟨b,o,s⟩:=a
  simp only at h
  subst h
  exact add_flat b o j
theorem load_node {w : World} {B : Nat} {A : Option Addr} {xs : List NodeV} {n : Nat} (h : Reads w B 12 A n (xs.flatMap nodeC)) {k : Nat} (hk : k < xs.length) (hn : k < n) :
    ∃ ad,A=some ad∧ad.block < B∧w.cell? (ad.add (k * 12))=some (.string (bs xs[k].1.path)) ∧
      w.cell? ⟨(ad.add (k * 12)).block,(ad.add (k * 12)).off + 1,none⟩=some (.int .i64 xs[k].1.kind) ∧
      w.cell? ⟨(ad.add (k * 12)).block,(ad.add (k * 12)).off + 2,none⟩=some (.int .i64 xs[k].1.same) ∧
      w.cell? ⟨(ad.add (k * 12)).block,(ad.add (k * 12)).off + 3,none⟩=some (.string (bs xs[k].1.target)) ∧
      w.cell? ⟨(ad.add (k * 12)).block,(ad.add (k * 12)).off + 4,none⟩=some (.int .i64 xs[k].1.mt.mode) ∧
      w.cell? ⟨(ad.add (k * 12)).block,(ad.add (k * 12)).off + 5,none⟩=some (.int .i64 xs[k].1.mt.uid) ∧
      w.cell? ⟨(ad.add (k * 12)).block,(ad.add (k * 12)).off + 6,none⟩=some (.int .i64 xs[k].1.mt.gid) ∧
      w.cell? ⟨(ad.add (k * 12)).block,(ad.add (k * 12)).off + 7,none⟩=some (.string (bs xs[k].1.mt.user)) ∧
      w.cell? ⟨(ad.add (k * 12)).block,(ad.add (k * 12)).off + 8,none⟩=some (.string (bs xs[k].1.mt.group)) ∧
      w.cell? ⟨(ad.add (k * 12)).block,(ad.add (k * 12)).off + 9,none⟩=some (.int .i64 xs[k].1.mt.second) ∧
      w.cell? ⟨(ad.add (k * 12)).block,(ad.add (k * 12)).off + 10,none⟩=some (.int .i64 xs[k].1.mt.nano) ∧
      w.cell? ⟨(ad.add (k * 12)).block,(ad.add (k * 12)).off + 11,none⟩=some (xs[k].2):=by
  obtain ⟨ad,e,hb,hc⟩:=h.node_at hk hn
  have h0:=hc 0 (by omega)
  rw [Nat.add_zero] at h0
  have hs:=spot_of h0
  have key : ∀ j,j < 12→w.cell? ⟨(ad.add (k * 12)).block,(ad.add (k * 12)).off + j,none⟩=(nodeC xs[k])[j]?:=fun j hj => by
    rw [← add_step hs,add_of_add];exact hc j hj
  exact ⟨ad,e,hb,h0,key 1 (by omega),key 2 (by omega),key 3 (by omega),key 4 (by omega),key 5 (by omega),key 6 (by omega),key 7 (by omega),key 8 (by omega),key 9 (by omega),key 10 (by omega),key 11 (by omega)⟩
set_option maxHeartbeats 1000000 in
theorem IdxN_any (g : FuncId) (cb : Array Value) (eg : ∀ args w,(callFunc g args).run Tryz.prog w=.ok (.enter g args) w) (v : Value) (l : List NodeP) (p : NodeP→Bool) (w : World) (hl : NodesAt w v l)
    (hp : ∀ (W : World) (x : NodeV),Below w.heap.size w W→Calls Tryz.prog g (#[.agg (nodeC x).toArray] ++ cb) W fun e w' => e=.returned (.bool (p x.1))∧Below w.heap.size w w') :
    Calls Tryz.prog 22 #[v,.func (.func g) #[] cb] w fun e w' => e=.returned (.int .i64 (idxN p l))∧Below w.heap.size w w':=by
  obtain ⟨xs,A,c,hx,rfl,hlc,hc,hA,hr,_⟩:=hl
  have hxl : xs.length=l.length:=by rw [← hx,List.length_map]
  unfold maxLen at hc
  have HX:=Lib.hid hx
  clear hx
  go_enter Tryz.func22,Tryz.ntmps22
  go_wp2
  go_loopg [5,8] l.length (fun gg _ s8 wr => ∃ kk : Nat,kk≤l.length∧l.length - kk≤gg∧s8=.int .i64 kk∧Hid (Below w.heap.size w wr)∧Hid (∀ j (hj : j < l.length),j < kk→p (l[j]'hj)=false))
  case atStart => exact ⟨0,Nat.zero_le _,by omega,rfl,Below.refl _ w,Lib.hid (fun j _ h => absurd h (Nat.not_lt_zero _))⟩
  case round =>
    obtain ⟨kk,hkk,hg,rfl,BW,HB⟩:=hrel
    by_cases hlt : kk < l.length
    · have hltz : (kk : Int) < (l.length : Int):=by omega
      have hr2:=hr.below BW.out
      obtain ⟨ad,rfl,hb,e0,e1,e2,e3,e4,e5,e6,e7,e8,e9,e10,e11⟩:=load_node hr2 (by omega) hlt
      have hcall:=hp wr xs[kk] BW.out
      have hxk : xs[kk].1=l[kk]:=by
        have:=HX.out
        subst this
        simp
      have HXK:=Lib.hid hxk
      have HP:=Lib.hid hp
      clear hp hr2 hxk
      generalize xs[kk]=x at *
      unfold nodeC at hcall
      cases hq : p x.1 with
      | true =>
        rw [hq] at hcall
        have HQ:=Lib.hid hq
        clear hq
        go_wp2_with (go_at_fn g;refine hcall.mono ?_;rintro e w' ⟨rfl,hb'⟩)
        go_ret
        exact ⟨ret_int (idxN_hit (p:=p) hlt (by rw [← HXK.out];exact HQ.out) (fun j hj => HB.out j (by omega) hj)).symm,hb'⟩
      | false =>
        rw [hq] at hcall
        have HQ:=Lib.hid hq
        clear hq
        go_wp2_with (go_at_fn g;refine hcall.mono ?_;rintro e w' ⟨rfl,hb'⟩)
        go_roundg (l.length - (kk + 1))
        case measure => omega
        case rel =>
          refine ⟨kk + 1,by omega,by omega,by go_num,hb',Lib.hid (fun j hj h => ?_)⟩
          by_cases e : j=kk
          · subst e
            rw [← HXK.out];exact HQ.out
          · exact HB.out j hj (by omega)
    · have hltz : ¬ (kk : Int) < (l.length : Int):=by omega
      have HF:=Lib.hid (idxN_miss (p:=p) (fun j hj => HB.out j hj (by omega)))
      go_wp2
      go_ret
      exact ⟨ret_int HF.out.symm,BW.out⟩
end
end Go.Proofs.YtphmhmdcaafmdaaGreatDoor
