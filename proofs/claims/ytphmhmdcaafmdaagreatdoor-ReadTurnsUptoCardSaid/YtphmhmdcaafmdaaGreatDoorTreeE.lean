import Derived.Test.YtphmhmdcaafmdaaGreatDoorSortN
import Derived.Test.YtphmhmdcaafmdaaGreatDoorSum
namespace Go.Proofs.YtphmhmdcaafmdaaGreatDoor
set_option linter.all false
section
open Go.RowKit
theorem conv_ex (l : List UInt8) (w : World) : ∃ p : Value × World,l.length≤4611686018427387904→((convert 9 27 (.string (bs l))).run Tryz.prog w=.ok p.1 p.2∧DataAt p.2 w.heap.size p.1 l∧Below w.heap.size w p.2):=by
  by_cases h : l.length≤4611686018427387904
  · obtain ⟨v,W,h1,h2,h3⟩:=conv_data l w h
    exact ⟨(v,W),fun _ => ⟨h1,h2,h3⟩⟩
  · exact ⟨(undef,w),fun h2 => absurd h2 h⟩
noncomputable def cvW (l : List UInt8) (w : World) : World:=(Classical.choose (conv_ex l w)).2
section
variable {l : List UInt8} (hl : l.length≤4611686018427387904) (w : World)
include hl
theorem cv_below : Below w.heap.size w (cvW l w):=(Classical.choose_spec (conv_ex l w) hl).2.2
end
abbrev RSt (w0 : World) (g : Nat) (kd a b : Int) (bt : ByteArray) (w : World) : Prop :=
  w.cell? ⟨g,0,none⟩=some (.int .i64 kd)∧w.cell? ⟨g,1,none⟩=some (.int .i64 a)∧w.cell? ⟨g,2,none⟩=some (.int .i64 b)∧w.cell? ⟨g,3,none⟩=some (.string bt)∧g < w0.heap.size∧Below w0.heap.size w0 w
section
variable {w0 w w' : World} {g : Nat} {kd a b : Int} {bt : ByteArray}
theorem RSt.start (h : Blk w g 55 #[.int .i64 kd,.int .i64 a,.int .i64 b,.string bt]) : RSt w g kd a b bt w:=⟨h.cell 0,h.cell 1,h.cell 2,h.cell 3,h.lt,Below.refl _ _⟩
theorem RSt.below (h : RSt w0 g kd a b bt w) (hb : Below w.heap.size w w') : RSt w0 g kd a b bt w':=by
  obtain ⟨h0,h1,h2,h3,hg,h4⟩:=h
  have hg2 : g < w.heap.size:=Nat.lt_of_lt_of_le hg h4.size
  have k : ∀ i,w'.cell? ⟨g,i,none⟩=w.cell? ⟨g,i,none⟩:=fun i => hb.cell (p:=⟨g,i,none⟩) hg2
  exact ⟨(k 0).trans h0,(k 1).trans h1,(k 2).trans h2,(k 3).trans h3,hg,h4.trans (hb.mono h4.size)⟩
theorem RSt.alloc (h : RSt w0 g kd a b bt w) (o : Obj) : RSt w0 g kd a b bt (w.alloc o):=h.below ((Below.refl _ _).alloc (Nat.le_refl _) o)
theorem RSt.drew (h : RSt w0 g kd a b bt w) : RSt w0 g kd a b bt w.drew:=h.below ((Below.refl _ _).drew)
theorem RSt.conv {l : List UInt8} (hl : l.length≤4611686018427387904) (h : RSt w0 g kd a b bt w) : RSt w0 g kd a b bt (cvW l w):=h.below (cv_below hl w)
theorem RSt.set_ (h : RSt w0 g kd a b bt w) {n : Nat} (hn : w0.heap.size≤n) (i : Nat) (u : Value) : RSt w0 g kd a b bt (w.setCell ⟨n,i,none⟩ u):=by
  obtain ⟨h0,h1,h2,h3,hg,h4⟩:=h
  have k : ∀ j,(w.setCell ⟨n,i,none⟩ u).cell? ⟨g,j,none⟩=w.cell? ⟨g,j,none⟩:=fun j => World.cell?_setCell_other w ⟨n,i,none⟩ ⟨g,j,none⟩ u (by
    intro e
    have : n=g:=congrArg Addr.block e
    omega)
  exact ⟨(k 0).trans h0,(k 1).trans h1,(k 2).trans h2,(k 3).trans h3,hg,h4.setCell (p:=⟨n,i,none⟩) hn u⟩
end
theorem RSt.setAll {w0 : World} {g : Nat} {kd a b : Int} {bt : ByteArray} {n : Nat} (hn : w0.heap.size≤n) : ∀ (vs : List Value) (i : Nat) {w : World},RSt w0 g kd a b bt w→RSt w0 g kd a b bt (Proofs.YtphmhmdcaafmdaaGreatDoor.setAll w n i vs)
  | [],_,_,h => h
  | v :: r,i,_,h => RSt.setAll hn r (i + 1) (h.set_ hn i v)
def nodeZC : Array Value:=#[.string ⟨#[]⟩,.int .i64 0,.int .i64 0,.string ⟨#[]⟩,.int .i64 0,.int .i64 0,.int .i64 0,.string ⟨#[]⟩,.string ⟨#[]⟩,.int .i64 0,.int .i64 0,.slice none 0 0]
theorem U8Kept.setAll {g : Nat} {t : TypeId} {n : Nat} (hne : t≠5) : ∀ (vs : List Value) (i : Nat) {w : World},HasBlk w g t n→U8Kept w (Proofs.YtphmhmdcaafmdaaGreatDoor.setAll w g i vs)
  | [],_,w,_ => U8Kept.refl w
  | v :: r,i,w,h => by
    obtain ⟨cs,hs,hb⟩:=id h
    exact (U8Kept.set_ (g:=g) (t:=t) hb hne i v).trans (U8Kept.setAll hne r (i + 1) (h.set_ i v))
theorem HasBlk.node {w : World} {g : Nat} (h : HasBlk w g 29 12) (vs : List Value) (hl : vs.length=12) : Blk (Proofs.YtphmhmdcaafmdaaGreatDoor.setAll w g 0 vs) g 29 vs.toArray∧U8Kept w (Proofs.YtphmhmdcaafmdaaGreatDoor.setAll w g 0 vs) :=
  ⟨h.fill vs hl,U8Kept.setAll (by decide) vs 0 h⟩
theorem HasBlk.newN (w : World) : HasBlk (w.alloc (.cells nodeZC 29)) w.heap.size 29 12:=⟨_,rfl,Blk.new w _ _⟩
set_option maxRecDepth 100000 in
theorem upon_conv {o : Oper} {a : Act} {w : World} {K : Act→World→Prop} {Q : Exit→Act→World→Prop} (l : List UInt8) (hl : l.length≤4611686018427387904)
    (h : ∀ A c w',DataAt w' w.heap.size (.slice A l.length c) l→Below w.heap.size w w'→Oper.upon Tryz.prog o a K Q (Result.ok (Next.value (.slice A l.length c)) w')) :
    Oper.upon Tryz.prog o a K Q ((Sem.run Tryz.prog (convert 9 27 (.string (bs l))) w).andThen fun a w' => Result.ok (Next.value a) w'):=by
  obtain ⟨v,w',hrun,hd,hb⟩:=conv_data l w hl
  obtain ⟨A,c,rfl,_⟩:=id hd
  rw [hrun]
  exact h A c w' hd hb
end
section
open Go.RowKit
def NodeBlk (w : World) (base g : Nat) (n : NodeP) : Prop:=∃ dv,Blk w g 29 (nodeC (n,dv)).toArray∧DataAt w base dv n.data
theorem NodeBlk.below {w w' : World} {base g : Nat} {n : NodeP} (h : NodeBlk w base g n) (hb : Below w.heap.size w w') : NodeBlk w' base g n:=by
  obtain ⟨dv,h1,h2⟩:=h
  exact ⟨dv,h1.below hb h1.lt,h2.below hb⟩
def TrEnd (w0 : World) (s : TreeS) (g : Nat) (dv : Value) (w : World) : Prop:=∃ t' n' ds',s=⟨t' ++ [n'],ds'⟩∧TrSt w0 ⟨t',ds'⟩ dv w∧NodeBlk w w0.heap.size g n'
section
variable {w0 w w' : World} {s : TreeS} {dv : Value}
theorem own_typed {base : Nat} {e : TypeId} {size n : Nat} {v : Value} {xs : List Value} (h : w.ownsRow base e size v n xs) {g : Nat} (hg : v.ownBlock=some g) : base≤g∧∃ C fr,w.heap[g]?=some (.cells C e fr):=by
  rcases h.2 with ⟨rfl,_⟩ | ⟨g',cap,cur,rfl,hb,hh,_⟩
  · simp [Value.ownBlock] at hg
  · have : g'=g:=by simpa [Value.ownBlock] using hg
    subst this
    exact ⟨hb,cur,_,hh⟩
theorem ownsRow_grown {base : Nat} {e : TypeId} {size n : Nat} {v : Value} {xs : List Value} {row : Option Nat} (h : w.ownsRow base e size v n xs) (hb : w.grownBy w' row) (hr : ∀ g,row=some g→∃ C t fr,w.heap[g]?=some (.cells C t fr)∧t≠e) : w'.ownsRow base e size v n xs:=by
  obtain ⟨h1,h2⟩:=h
  refine ⟨h1,?_⟩
  rcases h2 with h | ⟨g,cap,cur,hv,hb',hg,r⟩
  · exact .inl h
  · refine .inr ⟨g,cap,cur,hv,hb',(hb.block g (heap_lt hg) ?_).trans hg,r⟩
    intro e2
    obtain ⟨C,t,fr,hC,hne⟩:=hr g e2.symm
    rw [hg] at hC
    injection hC with hC
    injection hC with _ ht
    exact hne ht.symm
theorem NodesOwn.grown {base : Nat} {v : Value} {l : List NodeP} {row : Option Nat} (h : NodesOwn w base v l) (hb : w.grownBy w' row) (hr : ∀ g,row=some g→∃ C t fr,w.heap[g]?=some (.cells C t fr)∧t≠29∧t≠5) : NodesOwn w' base v l:=by
  obtain ⟨xs,h0,h1,h2⟩:=h
  exact ⟨xs,h0,ownsRow_grown h1 hb (fun g e => by obtain ⟨C,t,fr,a,b,_⟩:=hr g e;exact ⟨C,t,fr,a,b⟩),fun x hx => (h2 x hx).kept (U8Kept.grown hb (fun g e => by obtain ⟨C,t,fr,a,_,b⟩:=hr g e;exact ⟨C,t,fr,a,b⟩))⟩
theorem TrSt.dir (h : TrSt w0 s dv w) {v' : Value} {ds : List (List UInt8)} (hg : w.grownBy w' dv.ownBlock) (ho : DirsOwn w' w0.heap.size v' ds) : TrSt w0 ⟨s.t,ds⟩ v' w':=by
  obtain ⟨h1,⟨tv,h2,h3⟩,h4⟩:=h
  have ht : ∀ g,dv.ownBlock=some g→w0.heap.size≤g∧∃ C fr,w.heap[g]?=some (.cells C 9 fr):=fun g e => own_typed h4 e
  refine ⟨h1.grown hg h1.size (fun k e => (ht k e).1),⟨tv,h2.grown hg ?_,h3.grown hg (fun g e => ?_)⟩,ho⟩
  · intro e
    obtain ⟨_,C,fr,hC⟩:=ht _ e.symm
    unfold Blk at h2
    rw [h2] at hC
    injection hC with hC
    injection hC with _ ht
    exact absurd ht (by decide)
  · obtain ⟨_,C,fr,hC⟩:=ht g e
    exact ⟨C,_,fr,hC,by decide,by decide⟩
theorem NodeBlk.grown {base g : Nat} {n : NodeP} {row : Option Nat} (h : NodeBlk w base g n) (hb : w.grownBy w' row) (hr : ∀ g,row=some g→∃ C t fr,w.heap[g]?=some (.cells C t fr)∧t≠29∧t≠5) : NodeBlk w' base g n:=by
  obtain ⟨dv,h1,h2⟩:=h
  refine ⟨dv,h1.grown hb (fun e => ?_),h2.kept (U8Kept.grown hb (fun g e => by obtain ⟨C,t,fr,a,_,b⟩:=hr g e;exact ⟨C,t,fr,a,b⟩))⟩
  obtain ⟨C,t,fr,hC,hne,_⟩:=hr g e.symm
  unfold Blk at h1
  rw [h1] at hC
  injection hC with hC
  injection hC with _ ht
  exact hne ht.symm
theorem dirs_typed (h : TrSt w0 s dv w) : ∀ g,dv.ownBlock=some g→∃ C t fr,w.heap[g]?=some (.cells C t fr)∧t≠29∧t≠5:=fun g e => by
  obtain ⟨_,C,fr,hC⟩:=own_typed h.2.2 e
  exact ⟨C,_,fr,hC,by decide,by decide⟩
theorem TrSt.node (h : TrSt w0 s dv w) {tv v' : Value} {n : NodeP} (hT : w.cell? ⟨w0.heap.size,0,none⟩=some tv) (hg : w.grownBy w' tv.ownBlock) (ho : NodesOwn w' w0.heap.size v' (s.t ++ [n])) :
    TrSt w0 ⟨s.t ++ [n],s.dirs⟩ dv (w'.setCell ⟨w0.heap.size,0,none⟩ v'):=by
  obtain ⟨h1,⟨tv',h2,h3⟩,h4⟩:=h
  have e : tv'=tv:=by
    have:=h2.cell 0
    rw [hT] at this
    simpa using this.symm
  subst e
  obtain ⟨xs,_,h5,_⟩:=id h3
  have ht : ∀ g,tv'.ownBlock=some g→w0.heap.size≤g∧∃ C fr,w.heap[g]?=some (.cells C 29 fr):=fun g e => own_typed h5 e
  have hT2 : Blk w' w0.heap.size 23 #[tv']:=h2.grown hg (fun e => by
    obtain ⟨_,C,fr,hC⟩:=ht _ e.symm
    unfold Blk at h2
    rw [h2] at hC
    injection hC with hC
    injection hC with _ ht
    exact absurd ht (by decide))
  have hgs : w'.grownBy (w'.setCell ⟨w0.heap.size,0,none⟩ v') (some w0.heap.size):=⟨rfl,rfl,rfl,by simp [World.setCell],fun k hk hne => Below.heap_setCell _ _ _ _ (fun e => hne (by rw [e]))⟩
  have hrow : ∀ g,some w0.heap.size=some g→∃ C t fr,w'.heap[g]?=some (.cells C t fr)∧t≠29∧t≠5:=fun g e => by
    cases e
    exact ⟨_,_,_,hT2,by decide,by decide⟩
  refine ⟨(h1.grown hg h1.size (fun k e => (ht k e).1)).setCell (p:=⟨w0.heap.size,0,none⟩) (Nat.le_refl _) _,⟨v',?_,ho.grown hgs hrow⟩,?_⟩
  · have:=hT2.set_ 0 v'
    exact this
  · refine ownsRow_grown (ownsRow_grown h4 hg (fun g e => ?_)) hgs (fun g e => ?_)
    · obtain ⟨_,C,fr,hC⟩:=ht g e
      exact ⟨C,_,fr,hC,by decide⟩
    · cases e
      exact ⟨_,_,_,hT2,by decide⟩
theorem flat_set {u : Value} {z : NodeV} {i : Nat} (hi : i < 12) : ∀ (xs : List NodeV) (j : Nat) (hj : j < xs.length),(nodeC xs[j]).set i u=nodeC z→(xs.flatMap nodeC).set (j * 12 + i) u=(xs.set j z).flatMap nodeC
  | [],j,hj,_ => absurd hj (by simp)
  | x :: xs,0,_,h => by
    rw [List.flatMap_cons,Nat.zero_mul,Nat.zero_add,List.set_append_left _ _ (by exact hi),List.set_cons_zero,List.flatMap_cons]
    exact congrArg (· ++ xs.flatMap nodeC) h
  | x :: xs,j + 1,hj,h => by
    rw [List.flatMap_cons,List.set_append_right _ _ (by rw [nodeC_length];omega),List.set_cons_succ,List.flatMap_cons,nodeC_length,show (j + 1) * 12 + i - 12=j * 12 + i by omega,flat_set hi xs j (by simpa using hj) h]
theorem NodesOwn.set_ {base : Nat} {v : Value} {l : List NodeP} (h : NodesOwn w base v l) {g j i : Nat} {n c : Nat} {u : Value} (hv : v=.slice (some ⟨g,0,none⟩) n c) (hj : j < l.length) (hi : i < 12) (y : NodeP) (hd : y.data=l[j].data) (hy : ∀ dv,(nodeC (l[j],dv)).set i u=nodeC (y,dv)) :
    NodesOwn (w.setCell ⟨g,j * 12 + i,none⟩ u) base v (l.set j y):=by
  obtain ⟨xs,h0,⟨h1,h2⟩,h3⟩:=h
  subst hv
  have hxl : xs.length=l.length:=by rw [← h0,List.length_map]
  rcases h2 with ⟨h4,_⟩ | ⟨g',cap,cur,hv,hb,hg,hn,hm,hs,ht⟩
  · simp at h4
  · obtain ⟨rfl,rfl,rfl⟩ : g=g'∧n=l.length∧c=cap:=by simpa using hv
    have hjx : j < xs.length:=by omega
    have hx1 : xs[j].1=l[j]:=by subst h0;simp
    have hk:=U8Kept.set_ (w:=w) hg (by decide) (j * 12 + i) u
    refine ⟨xs.set j (y,xs[j].2),?_,⟨?_,.inr ⟨g,c,cur.setIfInBounds (j * 12 + i) u,by rw [List.length_set],hb,?_,by rw [List.length_set];exact hn,hm,by simpa using hs,?_⟩⟩,?_⟩
    · rw [List.map_set,h0]
    · rw [flat_length nodeC_length,List.length_set,List.length_set,hxl]
    · simp [World.setCell,Array.getElem?_modify,hg]
    · rw [List.length_set,Array.toList_setIfInBounds]
      have hx2 : xs[j]=(l[j],xs[j].2):=by rw [← hx1]
      rw [List.take_set,ht]
      exact flat_set hi xs j hjx (by rw [hx2];exact hy _)
    · intro z hz
      rcases List.mem_or_eq_of_mem_set hz with hz | rfl
      · exact (h3 z hz).kept hk
      · have:=h3 xs[j] (List.getElem_mem hjx)
        rw [hx1,← hd] at this
        exact this.kept hk
theorem TrSt.mark (h : TrSt w0 s dv w) {g n c j i : Nat} {u : Value} (hT : w.cell? ⟨w0.heap.size,0,none⟩=some (.slice (some ⟨g,0,none⟩) n c)) (hj : j < s.t.length) (hi : i < 12) (y : NodeP) (hd : y.data=s.t[j].data) (hy : ∀ dv,(nodeC (s.t[j],dv)).set i u=nodeC (y,dv)) :
    TrSt w0 ⟨s.t.set j y,s.dirs⟩ dv (w.setCell ⟨g,j * 12 + i,none⟩ u)∧(w.setCell ⟨g,j * 12 + i,none⟩ u).cell? ⟨w0.heap.size,0,none⟩=some (.slice (some ⟨g,0,none⟩) n c):=by
  obtain ⟨h1,⟨tv,h2,h3⟩,h4⟩:=h
  have e : tv=.slice (some ⟨g,0,none⟩) n c:=by
    have:=h2.cell 0
    rw [hT] at this
    simpa using this.symm
  obtain ⟨xs,_,h5,_⟩:=id h3
  obtain ⟨hb,C,fr,hC⟩:=own_typed h5 (g:=g) (by rw [e];rfl)
  have hgs : w.grownBy (w.setCell ⟨g,j * 12 + i,none⟩ u) (some g):=⟨rfl,rfl,rfl,by simp [World.setCell],fun k hk hne => Below.heap_setCell _ _ _ _ (fun e => hne (by rw [e]))⟩
  have hne : w0.heap.size≠g:=fun e2 => by
    subst e2
    unfold Blk at h2
    rw [h2] at hC
    injection hC with hC
    injection hC with _ ht
    exact absurd ht (by decide)
  refine ⟨⟨h1.setCell (p:=⟨g,j * 12 + i,none⟩) hb u,⟨tv,h2.grown hgs (fun e2 => hne (by injection e2)),h3.set_ e hj hi y hd hy⟩,ownsRow_grown h4 hgs (fun k e2 => ?_)⟩,?_⟩
  · cases e2
    exact ⟨C,_,fr,hC,by decide⟩
  · rw [World.cell?_setCell_other w ⟨g,j * 12 + i,none⟩ ⟨w0.heap.size,0,none⟩ u (fun e => hne (congrArg Addr.block e).symm)]
    exact hT
end
theorem strinfo : (Tryz.prog.info? 9).map (fun i => (i.zero,i.size,i.bytes))=some (some (.string ⟨#[]⟩),1,16):=by kernel_rfl
theorem nodeinfo : (Tryz.prog.info? 29).map (fun i => (i.zero,i.size,i.bytes))=some (some (.agg nodeZC),12,144):=by kernel_rfl
theorem new_row (w : World) (t : TypeId) (vs : List Value) (n size : Nat) (h : vs.length=n * size) : Reads (w.alloc (.cells vs.toArray t)) (w.heap.size + 1) size (some ⟨w.heap.size,0,none⟩) n vs :=
  ⟨h,fun _ => ⟨_,rfl,Nat.lt_succ_self _,fun j u hu => by
    rw [add_flat,Nat.zero_add,World.cell?_alloc_mark]
    simpa using hu⟩⟩
theorem one_node (x : NodeV) (h : x.2.oneCell'=true) : ∀ u∈nodeC x,u.oneCell'=true:=by
  intro v hv
  simp only [nodeC,List.mem_cons,List.mem_nil_iff,or_false] at hv
  rcases hv with rfl | rfl | rfl | rfl | rfl | rfl | rfl | rfl | rfl | rfl | rfl | rfl
  all_goals first | rfl | exact h
theorem NodesOwn.row {w : World} {base : Nat} {v : Value} {l : List NodeP} (h : NodesOwn w base v l) (hl : 0 < l.length) : ∃ g c,v=.slice (some ⟨g,0,none⟩) l.length c∧base≤g∧g < w.heap.size∧l.length≤c∧c≤maxLen∧(∀ i,w.frozen? ⟨g,i,none⟩=false) ∧
    ∀ j,(hj : j < l.length)→∃ dv,DataAt w base dv l[j].data∧w.cell? ⟨g,j * 12,none⟩=(nodeC (l[j],dv))[0]?∧∀ i,i < 12→w.cell? ⟨g,j * 12 + i,none⟩=(nodeC (l[j],dv))[i]?:=by
  obtain ⟨xs,h0,h1,h2⟩:=h
  have hxl : xs.length=l.length:=by rw [← h0,List.length_map]
  rcases id h1.2 with ⟨_,h4⟩ | ⟨g,cap,cur,rfl,hb,hg,hn,hm,_⟩
  · omega
  · refine ⟨g,cap,rfl,hb,heap_lt hg,hn,hm,fun i => by simp [World.frozen?,hg],fun j hj => ?_⟩
    have hjx : j < xs.length:=by omega
    have hx1 : xs[j].1=l[j]:=by subst h0;simp
    have hx2 : xs[j]=(l[j],xs[j].2):=by rw [← hx1]
    have hd:=h2 xs[j] (List.getElem_mem hjx)
    rw [hx1] at hd
    have key : ∀ i,i < 12→w.cell? ⟨g,j * 12 + i,none⟩=(nodeC (l[j],xs[j].2))[i]?:=fun i hi => by
      have h3 : (xs.flatMap nodeC)[j * 12 + i]?=(nodeC xs[j])[i]?:=by
        rw [flat_get nodeC_length xs j i hi,List.getElem?_eq_getElem hjx];rfl
      rw [hx2] at h3
      have hl2 : i < (nodeC (l[j],xs[j].2)).length:=hi
      rw [List.getElem?_eq_getElem hl2] at h3 ⊢
      have h4:=World.ownsRow.cells h1 (g:=g) rfl (j * 12 + i) _ h3
      rwa [add_flat,Nat.zero_add] at h4
    exact ⟨xs[j].2,hd,key 0 (by omega),key⟩
theorem linkAt_none {s : TreeS} {r : RawS} {j : Nat} (hj : (pick r.a (s.t.length + 1)).toNat=j) (h : ∀ x,s.t[j]?=some x→x.kind≠1) : linkAt s r=none:=by
  unfold linkAt
  rw [hj]
  cases hq : s.t[j]? with
  | none => rfl
  | some x => simp only;rw [if_neg (h x hq)]
theorem linkAt_some {s : TreeS} {r : RawS} {j : Nat} (hj : (pick r.a (s.t.length + 1)).toNat=j) {x : NodeP} (hx : s.t[j]?=some x) (h : x.kind=1) : linkAt s r=some j:=by
  unfold linkAt
  rw [hj,hx]
  simp only
  rw [if_pos h]
theorem growKind_P {P : NodeP→Prop} (h1 : ∀ r p,P (plainN r p)) (h2 : ∀ r p,P (dirN r p)) (h3 : ∀ r p,P (symN r p)) (h4 : ∀ x j,P x→P (marked x j)) (h5 : ∀ x j p,P x→P (linkN x j p)) {s : TreeS} (hs : ∀ x∈s.t,P x) (r : RawS) (p : List UInt8) (k : Nat) : ∀ x∈(growKind s r p k).t,P x:=by
  have add : ∀ n,P n→∀ x∈s.t ++ [n],P x:=fun n hn x hx => by
    rcases List.mem_append.1 hx with h | h
    · exact hs x h
    · rw [List.mem_singleton] at h;rw [h];exact hn
  unfold growKind
  split
  · exact add _ (h2 r p)
  · split
    · exact add _ (h3 r p)
    · split
      · split
        · next j hj =>
          have hx : P (s.t.getD j default):=by
            unfold linkAt at hj
            split at hj
            · next x hq =>
              split at hj
              · cases hj
                rw [List.getD_eq_getElem?_getD,hq]
                exact hs x (List.mem_of_getElem? hq)
              · cases hj
            · cases hj
          intro x hx2
          rcases List.mem_append.1 hx2 with h | h
          · rcases List.mem_or_eq_of_mem_set h with h | rfl
            · exact hs x h
            · exact h4 _ _ hx
          · rw [List.mem_singleton] at h;rw [h];exact h5 _ _ _ hx
        · exact add _ (h1 r p)
      · exact add _ (h1 r p)
theorem grow_P {P : NodeP→Prop} (h1 : ∀ r p,P (plainN r p)) (h2 : ∀ r p,P (dirN r p)) (h3 : ∀ r p,P (symN r p)) (h4 : ∀ x j,P x→P (marked x j)) (h5 : ∀ x j p,P x→P (linkN x j p)) (most : Nat) : ∀ (l : List RawS) {s : TreeS},(∀ x∈s.t,P x)→∀ x∈(l.foldl (growStep most) s).t,P x
  | [],_,hs => hs
  | r :: l,s,hs => by
    refine grow_P h1 h2 h3 h4 h5 most l (s:=growStep most s r) ?_
    unfold growStep
    split
    · exact hs
    · split
      · exact hs
      · exact growKind_P h1 h2 h3 h4 h5 hs r _ _
theorem growN_data (most : Nat) (l : List RawS) (k : Nat) : ∀ x∈(growN most l k).t,x.data.length≤1200:=by
  refine grow_P (P:=fun x => x.data.length≤1200) (fun r p => ?_) (fun r p => ?_) (fun r p => ?_) (fun x j h => h) (fun x j p h => h) most _ (by simp)
  · show (Lib.repeatL (cleanS r.text 40) (pick r.b 30).toNat).length≤1200
    rw [Lib.repeatL_length]
    have h1:=cleanS_length r.text 40
    have h2:=pick_bd r.b 30 (by omega)
    have h3 : (pick r.b 30).toNat * (cleanS r.text 40).length≤30 * 40:=Nat.mul_le_mul (by omega) h1
    omega
  · exact Nat.zero_le _
  · exact Nat.zero_le _
theorem TrSt.far {w0 w : World} {s : TreeS} {dv : Value} (h : TrSt w0 s dv w) {gt n c g : Nat} (hT : w.cell? ⟨w0.heap.size,0,none⟩=some (.slice (some ⟨gt,0,none⟩) n c)) (hne : g≠gt) (hB : w0.heap.size≤g) (hb : HasBlk w g 29 12) (i : Nat) (u : Value) : TrSt w0 s dv (w.setCell ⟨g,i,none⟩ u)∧(w.setCell ⟨g,i,none⟩ u).cell? ⟨w0.heap.size,0,none⟩=some (.slice (some ⟨gt,0,none⟩) n c):=by
  obtain ⟨h1,⟨tv,h2,xs,h3,h4,h5⟩,h6⟩:=h
  obtain ⟨cs,hcs,hk⟩:=hb
  have hT2 : w0.heap.size≠g:=h2.ne_ hk (by decide)
  have e : tv=.slice (some ⟨gt,0,none⟩) n c:=by
    have:=h2.cell 0
    rw [hT] at this
    simpa using this.symm
  have hgs : w.grownBy (w.setCell ⟨g,i,none⟩ u) (some g):=⟨rfl,rfl,rfl,by simp [World.setCell],fun k hk hne => Below.heap_setCell _ _ _ _ (fun e => hne (by rw [e]))⟩
  have hkp : U8Kept w (w.setCell ⟨g,i,none⟩ u):=U8Kept.set_ (g:=g) hk (by decide) i u
  refine ⟨⟨h1.setCell (p:=⟨g,i,none⟩) hB u,⟨tv,h2.far (p:=⟨g,i,none⟩) hT2 u,xs,h3,?_,fun x hx => (h5 x hx).kept hkp⟩,ownsRow_grown h6 hgs (fun k e2 => by cases e2;exact ⟨_,_,_,hk,by decide⟩)⟩,?_⟩
  · obtain ⟨h7,h8⟩:=h4
    refine ⟨h7,?_⟩
    rcases h8 with h | ⟨g',cap,cur,hv,hb',hg,r⟩
    · exact .inl h
    · refine .inr ⟨g',cap,cur,hv,hb',?_,r⟩
      have : g'=gt:=by rw [e] at hv;injection hv with h9;injection h9 with h9;injection h9 with h9;exact h9.symm
      subst this
      rw [Below.heap_setCell _ _ _ _ (fun e => hne e.symm)]
      exact hg
  · rw [World.cell?_setCell_other w ⟨g,i,none⟩ ⟨w0.heap.size,0,none⟩ u (fun e => hT2 (congrArg Addr.block e).symm)]
    exact hT
theorem TrSt.farAll {w0 : World} {s : TreeS} {dv : Value} {gt n c g : Nat} (hne : g≠gt) (hB : w0.heap.size≤g) : ∀ (vs : List Value) (i : Nat) {w : World},TrSt w0 s dv w→w.cell? ⟨w0.heap.size,0,none⟩=some (.slice (some ⟨gt,0,none⟩) n c)→HasBlk w g 29 12→TrSt w0 s dv (setAll w g i vs)∧(setAll w g i vs).cell? ⟨w0.heap.size,0,none⟩=some (.slice (some ⟨gt,0,none⟩) n c)
  | [],_,_,h,hT,_ => ⟨h,hT⟩
  | v :: r,i,_,h,hT,hb => by
    obtain ⟨h1,h2⟩:=h.far hT hne hB hb i v
    exact TrSt.farAll hne hB r (i + 1) h1 h2 (hb.set_ i v)
theorem TrSt.tblk {w0 w w' : World} {s : TreeS} {dv tv : Value} (h : TrSt w0 s dv w) (hT : w.cell? ⟨w0.heap.size,0,none⟩=some tv) (hg : w.grownBy w' tv.ownBlock) : w'.cell? ⟨w0.heap.size,0,none⟩=some tv∧w'.frozen? ⟨w0.heap.size,0,none⟩=false:=by
  obtain ⟨h1,⟨tv',h2,h3⟩,h4⟩:=h
  have e : tv'=tv:=by
    have:=h2.cell 0
    rw [hT] at this
    simpa using this.symm
  subst e
  obtain ⟨xs,_,h5,_⟩:=id h3
  have hT2 : Blk w' w0.heap.size 23 #[tv']:=h2.grown hg (fun e => by
    obtain ⟨_,C,fr,hC⟩:=own_typed h5 e.symm
    unfold Blk at h2
    rw [h2] at hC
    injection hC with hC
    injection hC with _ ht
    exact absurd ht (by decide))
  exact ⟨hT2.cell 0,hT2.frozen 0⟩
theorem NodesOwn.snoc {w w' : World} {base : Nat} {tv v' : Value} {l : List NodeP} {xs : List NodeV} {n : NodeP} {dv : Value} (hx : xs.map (·.1)=l) (hd : ∀ x∈xs,DataAt w base x.2 x.1.data) (hn : DataAt w base dv n.data) (h : w.ownsRow base 29 12 tv l.length (xs.flatMap nodeC)) (hg : w.grownBy w' tv.ownBlock)
    (ho : w'.ownsRow base 29 12 v' (l.length + 1) (xs.flatMap nodeC ++ nodeC (n,dv))) : NodesOwn w' base v' (l ++ [n]):=by
  have hk : U8Kept w w':=U8Kept.grown hg (fun g e => by
    obtain ⟨_,C,fr,hC⟩:=own_typed h e
    exact ⟨C,_,fr,hC,by decide⟩)
  refine ⟨xs ++ [(n,dv)],by rw [List.map_append,hx];rfl,?_,fun x hx2 => ?_⟩
  · rw [List.length_append,List.flatMap_append]
    simpa using ho
  · rcases List.mem_append.1 hx2 with h1 | h1
    · exact (hd x h1).kept hk
    · rw [List.mem_singleton] at h1
      subst h1
      exact hn.kept hk
theorem Clone_data (v : Value) (l : List UInt8) (w : World) (base : Nat) (h : DataAt w base v l) (hn : l.length≤100000) :
    Calls Tryz.prog 29 #[v] w fun e w' => ∃ v',e=.returned v'∧DataAt w' w.heap.size v' l∧Below w.heap.size w w':=by
  have hb:=h.bytes
  refine (Clone_any v (l.map ofB) w hb (by rw [List.length_map];unfold reachBytes;omega)).mono ?_
  rintro e w' ⟨v',rfl,h1,h2⟩
  rw [List.length_map] at h1
  exact ⟨v',rfl,DataAt.of_own h1,h2⟩
end
end Go.Proofs.YtphmhmdcaafmdaaGreatDoor
