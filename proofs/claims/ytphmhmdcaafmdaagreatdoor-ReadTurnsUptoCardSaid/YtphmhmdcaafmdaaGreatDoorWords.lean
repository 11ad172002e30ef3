import Derived.Test.YtphmhmdcaafmdaaGreatDoorRows
import Derived.WalkKit
import Derived.ProofKit
import Derived.OpenShut
import Derived.JoinedCond
import Derived.HandedShaped
import Derived.Deep.Draws
import Derived.Deep.AppendLies
import Derived.Deep.DeepHandedRow
import Derived.Lib.LaidTab
import Derived.Laws.OwnMore
import Derived.Laws.Rows
import Derived.Maps.AppendAt
import Derived.RegionTactic
import Derived.OwnWalk
import Derived.Lib.SlBytesConst
import Derived.Deep.Slices
import Derived.Deep.Fields
import Derived.ChangeSame
import Derived.Lib.OthersKept
import Derived.Lib.Strings
import Derived.Lib.Bytealg
import Derived.WalkSpells
import Derived.WalkLawsBesides
import Derived.Lib.Hide
namespace Go.Proofs.YtphmhmdcaafmdaaGreatDoor
set_option linter.all false
section
open Go.RowKit Go.WideShapes Go.ChangeShapes
def I64 (n : Int) : Prop:=-9223372036854775808≤n∧n≤9223372036854775807
def U8 (n : Int) : Prop:=0≤n∧n≤255
theorem i64_of_wf {x : Int} (h : (Lit.int .i64 x).wf=true) : I64 x:=by
  simp [Lit.wf,IntKind.min,IntKind.max,IntKind.signed,IntKind.bits] at h
  exact ⟨by omega,by omega⟩
theorem u8_of_wf {x : Int} (h : (Lit.int .u8 x).wf=true) : U8 x:=by
  simp [Lit.wf,IntKind.min,IntKind.max,IntKind.signed,IntKind.bits] at h
  exact ⟨by omega,by omega⟩
theorem block_of_add (a : Addr) (n : Nat) : (a.add n).block=a.block:=by unfold Addr.add;split <;> rfl
theorem add_of_add (a : Addr) (i j : Nat) : (a.add i).add j=a.add (i + j):=by
  unfold Addr.add
  by_cases hi : i=0 <;> by_cases hj : j=0 <;> simp [hi,hj,Nat.add_assoc]
def Reads (w : World) (B size : Nat) (A : Option Addr) (n : Nat) (xs : List Value) : Prop :=
  xs.length=n * size∧(0 < n→∃ ad,A=some ad∧ad.block < B∧∀ j u,xs[j]?=some u→w.cell? (ad.add j)=some u)
section
variable {w w' : World} {B B' size n : Nat} {A : Option Addr} {xs : List Value}
theorem Reads.none_ : Reads w B size A 0 []:=⟨by simp,fun h => absurd h (by omega)⟩
theorem Reads.at_ {k : Nat} (h : Reads w B 1 A n xs) (hk : k < n) : ∃ ad u,A=some ad∧ad.block < B∧xs[k]?=some u∧w.cell? (ad.add k)=some u:=by
  obtain ⟨ad,e,hb,hc⟩:=h.2 (by omega)
  have hl : k < xs.length:=by have:=h.1;omega
  exact ⟨ad,xs[k],e,hb,List.getElem?_eq_getElem hl,hc k _ (List.getElem?_eq_getElem hl)⟩
theorem Reads.keep (h : Reads w B size A n xs) (hk : ∀ p : Addr,p.block < B→w'.cell? p=w.cell? p) : Reads w' B size A n xs :=
  ⟨h.1,fun hn => by
    obtain ⟨ad,e,hb,hc⟩:=h.2 hn
    exact ⟨ad,e,hb,fun j u hu => (hk _ (by rw [block_of_add];exact hb)).trans (hc j u hu)⟩⟩
theorem Reads.more (h : Reads w B size A n xs) (hB : B≤B') : Reads w B' size A n xs :=
  ⟨h.1,fun hn => by
    obtain ⟨ad,e,hb,hc⟩:=h.2 hn
    exact ⟨ad,e,by omega,hc⟩⟩
theorem Reads.below (h : Reads w B size A n xs) (hb : Below B w w') : Reads w' B size A n xs:=h.keep fun _ hp => hb.cell hp
theorem Reads.drew (h : Reads w B size A n xs) : Reads w.drew B size A n xs:=h
theorem Reads.drewN (h : Reads w B size A n xs) (k : Nat) : Reads (w.drewN k) B size A n xs:=h
theorem Reads.alloc (h : Reads w B size A n xs) (hB : B≤w.heap.size) (o : Obj) : Reads (w.alloc o) B size A n xs:=h.keep fun p hp => World.cell?_alloc_lt w o p (by omega)
theorem Reads.setCell (h : Reads w B size A n xs) {p : Addr} (hB : B≤p.block) (u : Value) : Reads (w.setCell p u) B size A n xs :=
  h.keep fun q hq => World.cell?_setCell_other w p q u (fun e => by subst e;omega)
theorem Reads.grown (h : Reads w B size A n xs) {row : Option Nat} (hg : w.grownBy w' row) (hB : B≤w.heap.size) (hr : ∀ g,row=some g→B≤g) : Reads w' B size A n xs :=
  h.keep fun p hp => World.cell?_of_block (hg.block p.block (by omega) (fun e => by have:=hr _ e.symm;omega))
theorem Reads.cut (h : Reads w B size A n xs) {k cap : Nat} (hk : k≤n) (hc : n≤cap) :
    Reads w B size (if cap=k then A else A.map (·.add (k * size))) (n - k) (xs.drop (k * size)):=by
  refine ⟨by rw [List.length_drop,h.1,Nat.sub_mul],fun hn => ?_⟩
  obtain ⟨ad,rfl,hb,hcell⟩:=h.2 (by omega)
  rw [if_neg (by omega)]
  refine ⟨ad.add (k * size),rfl,by rw [block_of_add];exact hb,fun j u hu => ?_⟩
  rw [add_of_add]
  exact hcell _ u (by rw [← hu,List.getElem?_drop])
theorem Reads.of_own {base : Nat} {e : TypeId} {c : Nat} (h : w.ownsRow base e size (.slice A n c) n xs) : Reads w w.heap.size size A n xs:=by
  refine ⟨h.1,fun hn => ?_⟩
  obtain ⟨g,cap,hv,_,hlt⟩:=h.form hn
  have hA : A=some ⟨g,0,none⟩:=by injection hv
  subst hA
  exact ⟨_,rfl,hlt,h.cells (g:=g) rfl⟩
end
def IntsAt (k : IntKind) (w : World) (B : Nat) (v : Value) (l : List Int) : Prop :=
  ∃ A c,v=.slice A l.length c∧l.length≤c∧c≤maxLen∧(A=none→c=0)∧Reads w B 1 A l.length (l.map (.int k))
section
variable {H : Type} {enc : TypeId × Value→H} {P : Program}
theorem trodAll_stays (hl : laidOutB P=true) {W W' : World} {sp : Nat→Bool} : ∀ {ts : List TypeId} {vs : List Value} {ds : List (DataW H)} {ps : List MemPlace},
    (∀ t∈ts,P.readableRec t=true∧t < P.types.size)→(∀ x∈ps,W.sameAt W' x)→(∀ x∈ps,sp x.block=true) →
    DataW.TrodAll enc P W 0 (fun _ => true) true ts vs ds ps→DataW.TrodAll enc P W' 0 sp true ts vs ds ps
  | [],vs,ds,ps,_,_,_,h => by
    obtain ⟨rfl,rfl,rfl⟩:=trodAll_nil h
    exact trodAll_mk0
  | t :: ts,vs,ds,ps,hr,hs,hp,h => by
    obtain ⟨v,vs',d,ds',p,q,rfl,rfl,rfl,h1,h2⟩:=trodAll_cons h
    refine trodAll_cons_mk (WideElems.Trod_stays hl (hr t (by simp)).1 (hr t (by simp)).2 h1 (fun x hx => hs x (by simp [hx])) (fun x hx => hp x (by simp [hx]))) ?_
    exact trodAll_stays hl (fun t ht => hr t (by simp [ht])) (fun x hx => hs x (by simp [hx])) (fun x hx => hp x (by simp [hx])) h2
theorem post_of_below {f : Func} {s : ChangeSpec} {apart fresh handsOn again : Bool} {W W' : World} {args : Array Value} {v : Value} {ds gs : List (DataW H)} {before pa pv : List MemPlace}
    (hW : DataW.Whole enc P f.params.toList s.vars apart W args.toList ds gs before)
    (hres : ∀ (b : Nat) (sp : Nat→Bool) (hd : Bool),DataW.TrodAll enc P W' b sp hd f.resultTypes.toList (v.resultList f.resultTypes.size) (s.fn H (ds ++ gs)).results [])
    (hargs : ∀ sp : Nat→Bool,(∀ p∈before,sp p.block=true)→DataW.TrodAll enc P W' 0 sp true f.params.toList args.toList (s.fn H (ds ++ gs)).args pa)
    (hvars : ∀ sp : Nat→Bool,(∀ p∈before,sp p.block=true)→DataW.TrodVars enc P W' sp s.vars (s.fn H (ds ++ gs)).vars pv)
    (hps : before=pa ++ pv) (hb : Below W.heap.size W W')
    (hok : ∀ (j : Nat) (t : TypeId) (r : Value),f.resultTypes[j]?=some t→(v.resultList f.resultTypes.size)[j]?=some r→Value.okWide P W' .any 0 t r) :
    s.post enc P f apart fresh handsOn again W args v W':=by
  have hlt : ∀ p∈before,p.block < W.heap.size:=fun p hp => hW.lt p hp
  have hold : ∀ p∈before,(fun b => decide (b < W.heap.size)) p.block=true:=fun p hp => by simpa using hlt p hp
  refine ⟨ds,gs,before,[],pa,pv,hW,hres _ _ _,hargs _ hold,hvars _ hold,World.keptBut_mono (fun p hp => ⟨hp,?_⟩) (hb.frame (·∈before)),fun _ => ?_⟩
  · rw [hps,List.mem_append] at hp
    exact Or.inr hp
  · obtain ⟨_,_,_,_,_,hz,hn⟩:=hW
    refine ⟨hok,_,_,([] ++ pa) ++ pv,⟨[] ++ pa,pv,trodAll_append (hargs _ (fun _ _ => rfl)) (hres _ _ _),hvars _ (fun _ _ => rfl),rfl,?_,?_⟩,?_⟩
    · intro b off hp
      have hin : MemPlace.cell b off∈before:=by rw [hps];simpa using hp
      rw [hb.frozen (hlt _ hin)]
      exact hz b off hin
    · intro ha
      have:=hn ha
      rw [hps] at this
      simpa using this
    · intro p hp _
      rw [hps]
      simpa using hp
theorem law_post {f : Func} {s : ChangeSpec} {fresh handsOn again : Bool} {W W' : World} {args : Array Value} {ds gs : List (DataW H)} {before : List MemPlace} {tb : TypeId}
    (hl : laidOutB P=true) (hreadB : (f.params.toList.all fun t => P.readableRec t && decide (t < P.types.size))=true)
    (hvars : s.vars=[]) (hrt : f.resultTypes=#[tb]) (htb : P.underlying tb=some .bool)
    (hW : DataW.Whole enc P f.params.toList s.vars false W args.toList ds gs before)
    (hfn : s.fn H (ds ++ gs)={ results:=[.lit (.bool true)],args:=ds })
    (hb : Below W.heap.size W W') : s.post enc P f false fresh handsOn again W args (.bool true) W':=by
  have hread : ∀ t∈f.params.toList,P.readableRec t=true∧t < P.types.size:=by
    intro t ht
    simpa using List.all_eq_true.1 hreadB t ht
  have hlt : ∀ p∈before,p.block < W.heap.size:=fun p hp => hW.lt p hp
  obtain ⟨p,q,hA,hV,hpq,hfz,hnd⟩:=id hW
  rw [hvars] at hV
  obtain ⟨rfl,rfl⟩:=trodVars_none hV
  have hpq' : before=p:=by simpa using hpq
  subst hpq'
  refine post_of_below (pa:=before) (pv:=[]) hW ?_ ?_ ?_ (by simp) hb (ok_one hrt rfl (okWide_bool_mk htb _))
  · intro b sp hd
    rw [hrt,hfn]
    exact trodAll_mk1 (shut_bool htb _)
  · intro sp hsp
    rw [hfn]
    exact trodAll_stays hl hread (fun x hx => hb.same (hlt x hx)) hsp hA
  · intro sp _
    rw [hfn,hvars]
    rfl
end
section
variable {H : Type} {enc : TypeId × Value→H}
end
theorem Tryz_own : ownKnob Tryz.prog.godebug=none:=by kernel_rfl
theorem Tryz_laidOut : laidOutB Tryz.prog=true:=by kernel_rfl
end
namespace bulks
section
open Go.RowKit
theorem part_le {H : Type} {d : DataW H} {l : List (DataW H)} (h : d∈l) : Rows.uptoBulk d≤Rows.uptoBulkAll l:=by
  induction l with
  | nil => cases h
  | cons x r ih =>
    simp only [Rows.uptoBulkAll]
    cases List.mem_cons.1 h with
    | inl e => subst e;omega
    | inr e => have:=ih e;omega
theorem one_le {H : Type} (d : DataW H) : 1≤Rows.uptoBulk d:=by
  cases d with
  | lit l => cases l <;> simp [Rows.uptoBulk]
  | nil => simp [Rows.uptoBulk]
  | ptr d => simp [Rows.uptoBulk]
  | slice elems spare => simp [Rows.uptoBulk]
  | agg parts => simp [Rows.uptoBulk]
  | iface t d => simp [Rows.uptoBulk]
  | map entries => simp [Rows.uptoBulk]
  | held h => simp [Rows.uptoBulk]
theorem length_le {H : Type} (l : List (DataW H)) : l.length≤Rows.uptoBulkAll l:=by
  induction l with
  | nil => simp [Rows.uptoBulkAll]
  | cons x r ih => have:=one_le x;simp only [Rows.uptoBulkAll,List.length_cons];omega
theorem bound {H : Type} {l : List (DataW H)} (hk : Rows.uptoSmall H l=true) : Rows.uptoBulkAll l≤1048576:=by
  have h:=of_decide_eq_true hk
  exact h
end
end bulks
section
open Go.RowKit
def Blk (w : World) (g : Nat) (t : TypeId) (cs : Array Value) : Prop:=w.heap[g]?=some (.cells cs t (0,0))
section
variable {w w' : World} {g : Nat} {t : TypeId} {cs : Array Value}
theorem Blk.lt (h : Blk w g t cs) : g < w.heap.size:=by
  rcases Nat.lt_or_ge g w.heap.size with hlt | hge
  · exact hlt
  · unfold Blk at h;rw [Array.getElem?_eq_none hge] at h;cases h
theorem Blk.cell (h : Blk w g t cs) (i : Nat) : w.cell? ⟨g,i,none⟩=cs[i]?:=cell_of_row w g i cs t (0,0) h
theorem Blk.frozen (h : Blk w g t cs) (i : Nat) : w.frozen? ⟨g,i,none⟩=false:=by
  unfold Blk at h
  simp [World.frozen?,h]
theorem Blk.new (w : World) (t : TypeId) (cs : Array Value) : Blk (w.alloc (.cells cs t)) w.heap.size t cs:=heap_alloc_new w _
theorem Blk.drew (h : Blk w g t cs) : Blk w.drew g t cs:=h
theorem Blk.drewN (h : Blk w g t cs) (n : Nat) : Blk (w.drewN n) g t cs:=h
theorem Blk.alloc (h : Blk w g t cs) (o : Obj) : Blk (w.alloc o) g t cs:=(Below.heap_alloc w o g h.lt).trans h
theorem Blk.set_ (h : Blk w g t cs) (i : Nat) (u : Value) : Blk (w.setCell ⟨g,i,none⟩ u) g t (cs.setIfInBounds i u):=by
  unfold Blk at h ⊢
  simp [World.setCell,Array.getElem?_modify,h]
theorem Blk.far (h : Blk w g t cs) {p : Addr} (hp : g≠p.block) (u : Value) : Blk (w.setCell p u) g t cs:=(Below.heap_setCell w p u g hp).trans h
theorem Blk.below {B : Nat} (h : Blk w g t cs) (hb : Below B w w') (hg : g < B) : Blk w' g t cs:=(hb.block g hg).trans h
theorem Blk.grown {row : Option Nat} (h : Blk w g t cs) (hb : w.grownBy w' row) (hg : some g≠row) : Blk w' g t cs:=(hb.block g h.lt hg).trans h
theorem Blk.ne_ {g' : Nat} {t' : TypeId} {cs' : Array Value} (h : Blk w g t cs) (h' : Blk w g' t' cs') (hne : t≠t') : g≠g':=by
  rintro rfl
  unfold Blk at h h'
  rw [h] at h'
  injection h' with h'
  injection h' with _ ht
  exact hne ht
theorem own_blk_ne {base : Nat} {e : TypeId} {size n : Nat} {v : Value} {xs : List Value} (h : w.ownsRow base e size v n xs) (hg : Blk w g t cs) (hne : e≠t) : v.ownBlock≠some g:=by
  rcases h.2 with ⟨rfl,_⟩ | ⟨g',cap,cur,rfl,_,hh,_⟩
  · simp [Value.ownBlock]
  · intro he
    have : g'=g:=by simpa [Value.ownBlock] using he
    subst this
    exact Blk.ne_ (t:=e) hh hg hne rfl
end
section
variable {P : Program} (w : World)
theorem run_append_of_nil (base : Nat) (t ty e : TypeId) (i : TypeInfo) (size : Nat) (ht : P.underlying t=some (.slice e)) (hi : P.info? e=some i)
    (v : Value) (n : Nat) (xs : List Value) (hown : w.ownsRow base e size v n xs) (c : Nat) : (Builtin.append_ #[t,t] ty #[v,.slice none 0 c]).run P w=.ok v w:=by
  rcases hown.2 with ⟨rfl,rfl⟩ | ⟨g,cap,cur,rfl,_,_,hnc,_⟩
  · simp [Builtin.append_,run_underlying ht,sizeOf,typeInfo,hi,Builtin.lenOf,Builtin.firstCells]
  · simp [Builtin.append_,run_underlying ht,sizeOf,typeInfo,hi,Builtin.lenOf,Builtin.firstCells,hnc,storeCells]
theorem run_append_any (base : Nat) (t ty e : TypeId) (i : TypeInfo) (z : Value) (size bytes : Nat) (ht : P.underlying t=some (.slice e)) (hi : P.info? e=some i) (hz : i.zero=some z)
    (hsize : i.size=size) (hby : i.bytes=bytes) (hzs : z.cells.size=size) (hsz : 0 < size)
    (v : Value) (n : Nat) (xs : List Value) (hown : w.ownsRow base e size v n xs)
    (B : Nat) (A : Option Addr) (m c : Nat) (news : List Value) (hr : Reads w B size A m news) (h1 : ∀ u∈news,u.oneCell'=true)
    (h63 : n + m≤maxLen) (hbytes : (n + m) * bytes≤140737488355328) (hbase : base≤w.heap.size) :
    ∃ v' w',(Builtin.append_ #[t,t] ty #[v,.slice A m c]).run P w=.ok v' w'∧w'.ownsRow base e size v' (n + m) (xs ++ news)∧w.grownBy w' v.ownBlock ∧
      (v'.ownBlock=v.ownBlock∨v'.ownBlock=some w.heap.size):=by
  rcases A with _ | ad
  · have hm : m=0:=by
      rcases Nat.eq_zero_or_pos m with h0 | h0
      · exact h0
      · obtain ⟨ad,h,_⟩:=hr.2 h0
        cases h
    subst hm
    have hn : news=[]:=List.eq_nil_of_length_eq_zero (by simpa using hr.1)
    subst hn
    exact ⟨v,w,run_append_of_nil w base t ty e i size ht hi v n xs hown c,by simpa using hown,World.grownBy.refl w _,.inl rfl⟩
  · have hcells : ∀ j u,news[j]?=some u→w.cell? (ad.add j)=some u:=by
      intro j u hu
      rcases Nat.eq_zero_or_pos m with h0 | h0
      · subst h0
        have hn : news=[]:=List.eq_nil_of_length_eq_zero (by simpa using hr.1)
        subst hn
        simp at hu
      · obtain ⟨ad',h,_,hc⟩:=hr.2 h0
        injection h with h
        subst h
        exact hc j u hu
    obtain ⟨v',w',hrun,h2,h3,_,h5⟩:=run_append_own_at (P:=P) w base t ty e i z size bytes ht hi hz hsize hby hzs hsz v n xs hown ad m c news hr.1 hcells h1 h63 hbytes hbase
    exact ⟨v',w',hrun,h2,h3,h5⟩
theorem wp_append_any {o : Oper} {a : Act} {K : Act→World→Prop} {Q : Exit→Act→World→Prop} (s x : Operand) (t : TypeId)
    (ho : o.op=.call { callee:=.builtin .append,args:=#[s,x],argTypes:=#[t,t] })
    (base : Nat) (e : TypeId) (i : TypeInfo) (z : Value) (size bytes : Nat) (ht : P.underlying t=some (.slice e)) (hi : P.info? e=some i) (hz : i.zero=some z)
    (hsize : i.size=size) (hby : i.bytes=bytes) (hzs : z.cells.size=size) (hsz : 0 < size)
    (v : Value) (n : Nat) (xs : List Value) (hs : a.eval s=v) (hown : w.ownsRow base e size v n xs)
    (B : Nat) (A : Option Addr) (m c : Nat) (news : List Value) (hx : a.eval x=.slice A m c) (hr : Reads w B size A m news) (h1 : ∀ u∈news,u.oneCell'=true)
    (h63 : n + m≤maxLen) (hbytes : (n + m) * bytes≤140737488355328) (hbase : base≤w.heap.size)
    (h : ∀ v' w',w'.ownsRow base e size v' (n + m) (xs ++ news)→w.grownBy w' v.ownBlock→(v'.ownBlock=v.ownBlock∨v'.ownBlock=some w.heap.size)→K (a.put o.dst v') w') : o.wp P a w K Q:=by
  obtain ⟨v',w',hrun,h2,h3,h4⟩:=run_append_any (P:=P) w base t o.type e i z size bytes ht hi hz hsize hby hzs hsz v n xs hown B A m c news hr h1 h63 hbytes hbase
  unfold Oper.wp execOp
  simp only [ho,resolve,invoke,builtin,Sem.run_bind,Sem.run_pure,Result.andThen_ok,List.map_toArray,List.map_cons,List.map_nil,hs,hx,hrun]
  exact h v' w' h2 h3 h4
theorem wpList_append_any {ops : Array Oper} {rest : List Oper} {o : Oper} {a : Act} {Q : Exit→Act→World→Prop} (hgd : o.guard=none) (s x : Operand) (t : TypeId)
    (ho : o.op=.call { callee:=.builtin .append,args:=#[s,x],argTypes:=#[t,t] })
    (base : Nat) (e : TypeId) (i : TypeInfo) (z : Value) (size bytes : Nat) (ht : P.underlying t=some (.slice e)) (hi : P.info? e=some i) (hz : i.zero=some z)
    (hsize : i.size=size) (hby : i.bytes=bytes) (hzs : z.cells.size=size) (hsz : 0 < size)
    (v : Value) (n : Nat) (xs : List Value) (hs : a.eval s=v) (hown : w.ownsRow base e size v n xs)
    (B : Nat) (A : Option Addr) (m c : Nat) (news : List Value) (hx : a.eval x=.slice A m c) (hr : Reads w B size A m news) (h1 : ∀ u∈news,u.oneCell'=true)
    (h63 : n + m≤maxLen) (hbytes : (n + m) * bytes≤140737488355328) (hbase : base≤w.heap.size)
    (h : ∀ v' w',w'.ownsRow base e size v' (n + m) (xs ++ news)→w.grownBy w' v.ownBlock→(v'.ownBlock=v.ownBlock∨v'.ownBlock=some w.heap.size)→wpList P ops Q rest (a.put o.dst v') w') : wpList P ops Q (o :: rest) a w :=
  wpList_plain hgd fun _ hK => wp_append_any w s x t ho base e i z size bytes ht hi hz hsize hby hzs hsz v n xs hs hown B A m c news hx hr h1 h63 hbytes hbase fun v' w' h2 h3 h4 => hK _ _ (h v' w' h2 h3 h4)
theorem step_append_any {ops : Array Oper} {o : Oper} {a : Act} {K : Act→World→Prop} {Q : Exit→Act→World→Prop} {E : Prop} (hgd : o.guard=none) (s x : Operand) (t : TypeId)
    (ho : o.op=.call { callee:=.builtin .append,args:=#[s,x],argTypes:=#[t,t] })
    (base : Nat) (e : TypeId) (i : TypeInfo) (z : Value) (size bytes : Nat) (ht : P.underlying t=some (.slice e)) (hi : P.info? e=some i) (hz : i.zero=some z)
    (hsize : i.size=size) (hby : i.bytes=bytes) (hzs : z.cells.size=size) (hsz : 0 < size)
    (v : Value) (n : Nat) (xs : List Value) (hs : a.eval s=v) (hown : w.ownsRow base e size v n xs)
    (B : Nat) (A : Option Addr) (m c : Nat) (news : List Value) (hx : a.eval x=.slice A m c) (hr : Reads w B size A m news) (h1 : ∀ u∈news,u.oneCell'=true)
    (h63 : n + m≤maxLen) (hbytes : (n + m) * bytes≤140737488355328) (hbase : base≤w.heap.size)
    (h : ∀ v' w',w'.ownsRow base e size v' (n + m) (xs ++ news)→w.grownBy w' v.ownBlock→(v'.ownBlock=v.ownBlock∨v'.ownBlock=some w.heap.size)→K (a.put o.dst v') w') :
    if Region.wanted o (yielded ops a.tmps)=true then Oper.wp P o a w K Q else E:=by
  have hw : Region.wanted o (yielded ops a.tmps)=true:=by simp [Region.wanted,hgd]
  rw [if_pos hw]
  exact wp_append_any w s x t ho base e i z size bytes ht hi hz hsize hby hzs hsz v n xs hs hown B A m c news hx hr h1 h63 hbytes hbase h
end
theorem u8_info : (Tryz.prog.info? 5).map (fun i => (i.zero,i.size,i.bytes))=some (some (.int .u8 0),1,1):=by kernel_rfl
theorem one_u8 (l : List Int) : ∀ u∈l.map (Value.int .u8),u.oneCell'=true:=by
  intro u hu
  obtain ⟨x,_,rfl⟩:=List.mem_map.1 hu
  rfl
theorem IntsAt.of_own {k : IntKind} {w : World} {base : Nat} {e : TypeId} {v : Value} {l : List Int} (h : w.ownsRow base e 1 v l.length (l.map (.int k))) : IntsAt k w w.heap.size v l:=by
  rcases h.2 with ⟨rfl,h0⟩ | ⟨g,cap,cur,rfl,_,_,hn,hm,_⟩
  · obtain rfl : l=[]:=List.eq_nil_of_length_eq_zero h0
    exact ⟨none,0,rfl,by simp,by simp,fun _ => rfl,Reads.none_⟩
  · exact ⟨_,cap,rfl,hn,hm,(fun h => by cases h),Reads.of_own h⟩
theorem IntsAt.below {k : IntKind} {w w' : World} {B : Nat} {v : Value} {l : List Int} (h : IntsAt k w B v l) (hb : Below B w w') : IntsAt k w' B v l:=by
  obtain ⟨A,c,h1,h2,h3,h4,h5⟩:=h
  exact ⟨A,c,h1,h2,h3,h4,h5.below hb⟩
theorem IntsAt.more {k : IntKind} {w : World} {B B' : Nat} {v : Value} {l : List Int} (h : IntsAt k w B v l) (hb : B≤B') : IntsAt k w B' v l:=by
  obtain ⟨A,c,h1,h2,h3,h4,h5⟩:=h
  exact ⟨A,c,h1,h2,h3,h4,h5.more hb⟩
theorem IntsAt.nil (k : IntKind) (w : World) (B : Nat) : IntsAt k w B (.slice none 0 0) []:=⟨none,0,rfl,by simp,by simp,fun _ => rfl,Reads.none_⟩
def MBlk (w : World) (g : Nat) (t : TypeId) (l : List Value) (fr : Nat × Nat) : Prop:=w.heap[g]?=some (.cells l.toArray t fr)
section
variable {w w' : World} {g : Nat} {t : TypeId} {l : List Value} {fr : Nat × Nat}
theorem MBlk.lt (h : MBlk w g t l fr) : g < w.heap.size:=by
  rcases Nat.lt_or_ge g w.heap.size with hlt | hge
  · exact hlt
  · unfold MBlk at h;rw [Array.getElem?_eq_none hge] at h;cases h
theorem MBlk.cell (h : MBlk w g t l fr) (i : Nat) : w.cell? ⟨g,i,none⟩=l[i]?:=by
  rw [cell_of_row w g i l.toArray t fr h];simp
theorem MBlk.frozen (h : MBlk w g t l fr) {i : Nat} (hi : i < fr.1) : w.frozen? ⟨g,i,none⟩=false:=by
  unfold MBlk at h
  obtain ⟨lo,hi'⟩:=fr
  simp only at hi
  simp only [World.frozen?,h]
  simp only [Bool.and_eq_false_iff,decide_eq_false_iff_not]
  omega
theorem MBlk.new (w : World) (t : TypeId) (l : List Value) (fr : Nat × Nat) : MBlk (w.alloc (.cells l.toArray t fr)) w.heap.size t l fr:=heap_alloc_new w _
theorem MBlk.alloc (h : MBlk w g t l fr) (o : Obj) : MBlk (w.alloc o) g t l fr:=(Below.heap_alloc w o g h.lt).trans h
theorem MBlk.set_ (h : MBlk w g t l fr) (i : Nat) (u : Value) : MBlk (w.setCell ⟨g,i,none⟩ u) g t (l.set i u) fr:=by
  unfold MBlk at h ⊢
  simp [World.setCell,Array.getElem?_modify,h]
theorem MBlk.far (h : MBlk w g t l fr) {p : Addr} (hp : g≠p.block) (u : Value) : MBlk (w.setCell p u) g t l fr:=(Below.heap_setCell w p u g hp).trans h
theorem MBlk.below {B : Nat} (h : MBlk w g t l fr) (hb : Below B w w') (hg : g < B) : MBlk w' g t l fr:=(hb.block g hg).trans h
end
def peek (w : World) (a : Addr) : Value:=(w.cell? a).getD undef
theorem peek_some {w : World} {a : Addr} {v : Value} (h : w.cell? a=some v) : w.cell? a=some (peek w a):=by unfold peek;rw [h];rfl
def HasBlk (w : World) (g : Nat) (t : TypeId) (n : Nat) : Prop:=∃ cs : Array Value,cs.size=n∧Blk w g t cs
theorem HasBlk.peek_ {w : World} {g : Nat} {t : TypeId} {n : Nat} (h : HasBlk w g t n) {i : Nat} (hi : i < n) : w.cell? ⟨g,i,none⟩=some (peek w ⟨g,i,none⟩):=by
  obtain ⟨cs,hs,hb⟩:=h
  refine peek_some (v:=cs[i]) ?_
  rw [hb.cell i,Array.getElem?_eq_getElem]
theorem HasBlk.frozen {w : World} {g : Nat} {t : TypeId} {n : Nat} (h : HasBlk w g t n) (i : Nat) : w.frozen? ⟨g,i,none⟩=false:=by
  obtain ⟨cs,hs,hb⟩:=h
  exact hb.frozen i
theorem HasBlk.below {w w' : World} {g : Nat} {t : TypeId} {n : Nat} (h : HasBlk w g t n) (hb : Below w.heap.size w w') : HasBlk w' g t n:=by
  obtain ⟨cs,hs,h⟩:=h
  exact ⟨cs,hs,h.below hb h.lt⟩
theorem HasBlk.set_ {w : World} {g : Nat} {t : TypeId} {n : Nat} (h : HasBlk w g t n) (i : Nat) (u : Value) : HasBlk (w.setCell ⟨g,i,none⟩ u) g t n:=by
  obtain ⟨cs,hs,h⟩:=h
  exact ⟨_,by simp [hs],h.set_ i u⟩
theorem HasBlk.lt {w : World} {g : Nat} {t : TypeId} {n : Nat} (h : HasBlk w g t n) : g < w.heap.size:=by
  obtain ⟨cs,hs,h⟩:=h
  exact h.lt
def setAll (w : World) (g : Nat) : Nat→List Value→World
  | _,[] => w
  | i,v :: r => setAll (w.setCell ⟨g,i,none⟩ v) g (i + 1) r
theorem HasBlk.setAll {g : Nat} {t : TypeId} {n : Nat} : ∀ (vs : List Value) (i : Nat) {w : World},HasBlk w g t n→HasBlk (setAll w g i vs) g t n
  | [],_,_,h => h
  | v :: r,i,_,h => HasBlk.setAll r (i + 1) (h.set_ i v)
theorem Below.setAll {B g : Nat} (hB : B≤g) : ∀ (vs : List Value) (i : Nat) {a w : World},Below B a w→Below B a (setAll w g i vs)
  | [],_,_,_,h => h
  | v :: r,i,_,_,h => Below.setAll hB r (i + 1) (h.setCell (p:=⟨g,i,none⟩) hB v)
theorem Blk.far_setAll {g b : Nat} {t : TypeId} {cs : Array Value} (hne : b≠g) : ∀ (vs : List Value) (i : Nat) {w : World},Blk w b t cs→Blk (setAll w g i vs) b t cs
  | [],_,_,h => h
  | v :: r,i,_,h => Blk.far_setAll hne r (i + 1) (h.far (p:=⟨g,i,none⟩) hne v)
theorem Blk.fill_from {g : Nat} {t : TypeId} : ∀ (vs : List Value) (i : Nat) {w : World} {cs : Array Value},Blk w g t cs→cs.size=i + vs.length→Blk (setAll w g i vs) g t (cs.toList.take i ++ vs).toArray
  | [],i,w,cs,h,hs => by
    have e : (cs.toList.take i ++ []).toArray=cs:=by
      rw [List.append_nil,List.take_of_length_le (by simp at hs ⊢;omega)]
    rw [e]
    exact h
  | v :: r,i,w,cs,h,hs => by
    have h2:=Blk.fill_from r (i + 1) (h.set_ i v) (by simp at hs ⊢;omega)
    have e : (cs.setIfInBounds i v).toList.take (i + 1) ++ r=cs.toList.take i ++ v :: r:=by
      have hi : i < cs.toList.length:=by simp at hs ⊢;omega
      rw [Array.toList_setIfInBounds,List.take_succ_eq_append_getElem (by simpa using hi),List.take_set_of_le (by omega)]
      simp
    rw [e] at h2
    exact h2
theorem Blk.fill {w : World} {g : Nat} {t : TypeId} {cs : Array Value} (h : Blk w g t cs) (vs : List Value) (hs : cs.size=vs.length) : Blk (setAll w g 0 vs) g t vs.toArray:=by
  have:=Blk.fill_from vs 0 h (by omega)
  simpa using this
theorem HasBlk.fill {w : World} {g : Nat} {t : TypeId} {n : Nat} (h : HasBlk w g t n) (vs : List Value) (hs : vs.length=n) : Blk (Proofs.YtphmhmdcaafmdaaGreatDoor.setAll w g 0 vs) g t vs.toArray:=by
  obtain ⟨cs,hn,hb⟩:=h
  exact hb.fill vs (by omega)
end
section
open Go.RowKit Go.ChangeShapes Go.WideShapes Go.Deep
section
variable {α : Type} {g : α→List Value} {k : Nat}
theorem flat_length (hg : ∀ x,(g x).length=k) : ∀ l : List α,(l.flatMap g).length=l.length * k
  | [] => by simp
  | x :: l => by rw [List.flatMap_cons,List.length_append,hg,flat_length hg l,List.length_cons,Nat.add_mul];omega
theorem flat_get (hg : ∀ x,(g x).length=k) : ∀ (l : List α) (i j : Nat),j < k→(l.flatMap g)[i * k + j]?=(l[i]?).bind fun x => (g x)[j]?
  | [],i,j,_ => by simp
  | x :: l,0,j,h => by
    rw [List.flatMap_cons,Nat.zero_mul,Nat.zero_add,List.getElem?_append_left (by rw [hg];exact h)]
    simp
  | x :: l,i + 1,j,h => by
    rw [List.flatMap_cons,List.getElem?_append_right (by rw [hg,Nat.add_mul];omega),hg]
    have e : (i + 1) * k + j - k=i * k + j:=by rw [Nat.add_mul];omega
    rw [e,flat_get hg l i j h]
    simp
theorem flat_some (hg : ∀ x,(g x).length=k) {l : List α} {t : Nat} {u : Value} (h : (l.flatMap g)[t]?=some u) : ∃ (i j : Nat) (x : α),t=i * k + j∧j < k∧l[i]?=some x∧(g x)[j]?=some u:=by
  have ht : t < l.length * k:=by
    have:=(List.getElem?_eq_some_iff.1 h).1
    rwa [flat_length hg] at this
  have k0 : 0 < k:=by
    rcases Nat.eq_zero_or_pos k with h | h
    · subst h;simp at ht
    · exact h
  have e : t=t / k * k + t % k:=by rw [Nat.mul_comm];exact (Nat.div_add_mod t k).symm
  rw [e,flat_get hg l _ _ (Nat.mod_lt _ k0)] at h
  cases hx : l[t / k]? with
  | none => rw [hx] at h;cases h
  | some x => rw [hx] at h;exact ⟨t / k,t % k,x,e,Nat.mod_lt _ k0,hx,h⟩
end
section
variable {H : Type} {enc : TypeId × Value→H} {P : Program} {w : World} {base : Nat} {spare : Nat→Bool} {held : Bool}
theorem open_slice_fields {t e : TypeId} {fs : Array Field} {fuel : Nat} {cs : List Value} {x : DataW H × List MemPlace} (ht : P.underlying t=some (.slice e)) (he : P.underlying e=some (.struct fs))
    (hone : oneCellFields P fs=true) (hC : P.cellsOf e=fs.size) (h : DataW.trod enc P w base spare held fuel t cs=some x) :
    (cs=[.slice none 0 0]∧x=(.nil,[])) ∨
    ∃ (a : Addr) (len cap m : Nat) (D : Nat→DataW H) (Pl : Nat→List MemPlace),cs=[.slice (some a) len cap]∧base≤a.block∧len≤cap∧cap≤maxLen∧m=(if spare a.block then cap else len) ∧
      x=(.slice ((List.range len).map D) ((List.range (m - len)).map fun j => D (len + j)),MemPlace.row a (m * fs.size) ++ (List.range m).flatMap Pl) ∧
      ∀ i,i < m→∃ (ys : List (DataW H × List MemPlace)) (n : Nat),D i=.agg (ys.map (·.1))∧Pl i=ys.flatMap (·.2)∧ys.length=fs.size ∧
        ∀ (j : Nat) (f : Field),fs[j]?=some f→∃ (v : Value) (y : DataW H × List MemPlace),w.cell? (a.add (i * fs.size + j))=some v∧ys[j]?=some y∧DataW.trod enc P w base spare held n f.type [v]=some y:=by
  rcases open_slice ht h with h0 | ⟨a,len,cap,m,n,D,Pl,hcs,hb,hl,hm,hmm,hx,hi⟩
  · exact .inl h0
  · refine .inr ⟨a,len,cap,m,D,Pl,hcs,hb,hl,hm,hmm,by rw [hC] at hx;exact hx,fun i him => ?_⟩
    obtain ⟨cs',hc,ht'⟩:=hi i him
    rw [hC] at hc
    obtain ⟨ys,n',hn',hy,hlen,hyl,hf⟩:=DataW.trod_struct he ht'
    obtain ⟨_,hcl,hat⟩:=World.cells?_some hc
    simp only [Prod.mk.injEq] at hy
    refine ⟨ys,n',hy.1,hy.2,hyl,fun j f hj => ?_⟩
    obtain ⟨ho,hk⟩:=hone_of hone j f hj
    have hjl : j < fs.size:=(Array.getElem?_eq_some_iff.1 hj).1
    have hcell:=hat j hjl
    have hv : cs'[j]?=some (cs'[j]'(by omega)):=List.getElem?_eq_getElem (by omega)
    have h1:=hf j f hj
    rw [ho,hk] at h1
    have hone' : (cs'.drop j).take 1=[cs'[j]'(by omega)]:=by
      rw [List.drop_eq_getElem_cons (by omega)]
      rfl
    rw [hone'] at h1
    have hys : ys[j]?=some (ys[j]'(by omega)):=List.getElem?_eq_getElem (by omega)
    refine ⟨_,_,?_,hys,h1.trans hys⟩
    rw [← Go.Deep.add_add,hcell,hv]
end
end
section
open Go.RowKit
def bs (l : List UInt8) : ByteArray:=⟨l.toArray⟩
theorem bs_data (l : List UInt8) : (bs l).data.toList=l:=by simp [bs]
theorem bs_size (l : List UInt8) : (bs l).size=l.length:=by show l.toArray.size=_;simp
theorem bs_of {s : ByteArray} {l : List UInt8} (h : s.data.toList=l) : s=bs l:=by rw [← h];rfl
theorem bs_toList (l : List UInt8) : (bs l).toList=l:=by rw [Lib.toList_data,bs_data]
theorem bs_append (a b : List UInt8) : bs a ++ bs b=bs (a ++ b):=bs_of (by simp [bs_data])
theorem bs_extract (l : List UInt8) (a b : Nat) : (bs l).extract a b=bs ((l.drop a).take (b - a)):=bs_of (by rw [Lib.extract_data,bs_data])
theorem bs_get (l : List UInt8) (j : Nat) (h : j < (bs l).size) : (bs l)[j]=l.getD j 0:=by
  have hl : j < l.length:=by rw [bs_size] at h;exact h
  rw [List.getD_eq_getElem?_getD,List.getElem?_eq_getElem hl]
  rfl
theorem byte_eq {c d : UInt8} (h : c=d) : ((c.toNat : Int) == (d.toNat : Int))=true:=by rw [h];exact beq_self_eq_true _
theorem byte_ne {c d : UInt8} (h : c≠d) : ((c.toNat : Int) == (d.toNat : Int))=false:=by
  rw [beq_eq_false_iff_ne];intro e;exact h (UInt8.toNat.inj (by omega))
theorem indexByte_mem {l : List UInt8} {c : UInt8} (h : c∈l) : 0≤Lib.indexByte l c:=by
  induction l with
  | nil => cases h
  | cons b l ih =>
    unfold Lib.indexByte
    by_cases e : b=c
    · simp [e]
    · have h2 : c∈l:=by
        rcases List.mem_cons.1 h with h | h
        · exact absurd h.symm e
        · exact h
      have:=ih h2
      have e1 : (b == c)=false:=by simpa using e
      have e2 : (Lib.indexByte l c == -1)=false:=by simp;omega
      rw [e1,e2]
      simp only [if_neg (show ¬ (false=true) by decide)]
      simp
      omega
theorem indexByte_not {l : List UInt8} {c : UInt8} (h : c ∉ l) : Lib.indexByte l c=-1:=by
  induction l with
  | nil => rfl
  | cons b l ih =>
    unfold Lib.indexByte
    have e : b≠c:=fun e => h (by simp [e])
    have h2 : c ∉ l:=fun h' => h (by simp [h'])
    have e1 : (b == c)=false:=by simpa using e
    rw [e1,ih h2]
    rfl
theorem indexByte_at {c : UInt8} : ∀ {a r : List UInt8},c ∉ a→Lib.indexByte (a ++ c :: r) c=a.length
  | [],r,_ => by unfold Lib.indexByte;simp
  | b :: a,r,h => by
    have h1 : b≠c:=fun e => h (by simp [e])
    have e1 : (b == c)=false:=by simpa using h1
    rw [List.cons_append,Lib.indexByte,e1,indexByte_at (a:=a) (fun h' => h (by simp [h']))]
    have e2 : ((a.length : Int) == -1)=false:=by simp
    rw [e2]
    simp
theorem indexByte_ge (l : List UInt8) (c : UInt8) : -1≤Lib.indexByte l c∧Lib.indexByte l c < l.length:=by
  induction l with
  | nil => unfold Lib.indexByte;simp
  | cons b l ih =>
    unfold Lib.indexByte
    simp only [List.length_cons]
    split
    · omega
    · split <;> omega
theorem get!_eq (s : ByteArray) (i : Nat) (h : i < s.size) : s.get! i=s[i]:=by
  simp [ByteArray.get!,getElem!_pos,h];rfl
theorem decode_width (s : ByteArray) (pos : Nat) : 1≤(Utf8.decode s pos).2∧∀ j,pos < j→j < pos + (Utf8.decode s pos).2→∃ h : j < s.size,128≤s[j].toNat:=by
  have key : ∀ k,(pos + k < s.size && (s.get! (pos + k)).toNat / 64 == 2)=true→∃ h : pos + k < s.size,128≤s[pos + k].toNat:=by
    intro k hk
    simp only [Bool.and_eq_true,decide_eq_true_eq,beq_iff_eq] at hk
    refine ⟨hk.1,?_⟩
    rw [get!_eq s _ hk.1] at hk
    omega
  unfold Utf8.decode
  simp only
  split
  · exact ⟨by simp,fun j h1 h2 => by simp at h2;omega⟩
  · split
    · rename_i h
      simp only [Bool.and_eq_true] at h
      split
      · refine ⟨by simp,fun j h1 h2 => ?_⟩
        simp at h2
        obtain rfl : j=pos + 1:=by omega
        exact key 1 (by simpa using h.2)
      · exact ⟨by simp,fun j h1 h2 => by simp at h2;omega⟩
    · split
      · rename_i h
        simp only [Bool.and_eq_true] at h
        split
        · refine ⟨by simp,fun j h1 h2 => ?_⟩
          simp at h2
          rcases (show j=pos + 1∨j=pos + 2 by omega) with rfl | rfl
          · exact key 1 (by simpa using h.1.2)
          · exact key 2 (by simpa using h.2)
        · exact ⟨by simp,fun j h1 h2 => by simp at h2;omega⟩
      · split
        · rename_i h
          simp only [Bool.and_eq_true] at h
          split
          · refine ⟨by simp,fun j h1 h2 => ?_⟩
            simp at h2
            rcases (show j=pos + 1∨j=pos + 2∨j=pos + 3 by omega) with rfl | rfl | rfl
            · exact key 1 (by simpa using h.1.1.2)
            · exact key 2 (by simpa using h.1.2)
            · exact key 3 (by simpa using h.2)
          · exact ⟨by simp,fun j h1 h2 => by simp at h2;omega⟩
        · exact ⟨by simp,fun j h1 h2 => by simp at h2;omega⟩
theorem below_drewN {B : Nat} {a w : World} (h : Below B a w) (n : Nat) : Below B a (w.drewN n):=⟨h.os,h.tape,h.output,h.size,h.block⟩
theorem iterPos_of {w : World} {k : Nat} {s : ByteArray} {p : Nat} (h : w.heap[k]?=some (.stringIter s p)) : w.iterPos k=p:=by simp [World.iterPos,h]
end
section
open Go.RowKit
theorem ret_int {k : IntKind} {a b : Int} (h : a=b) : Ending.returned (.int k a)=.returned (.int k b):=by rw [h]
theorem ret_bool {a b : Bool} (h : a=b) : Ending.returned (.bool a)=.returned (.bool b):=by rw [h]
def pick (n many : Int) : Int:=(if n < 0 then -(n + 1) else n) % many
theorem pick_neg {n many : Int} (h : n < 0) : (-(n + 1)).tmod many=pick n many:=by
  rw [pick,if_pos h,Int.tmod_eq_emod_of_nonneg (by omega)]
theorem pick_pos {n many : Int} (h : 0≤n) : n % many=pick n many:=by
  rw [pick,if_neg (by omega)]
theorem pick_bd (n many : Int) (hm : 1≤many) : 0≤pick n many∧pick n many < many:=by
  unfold pick
  exact ⟨Int.emod_nonneg _ (by omega),Int.emod_lt_of_pos _ (by omega)⟩
set_option maxHeartbeats 400000 in
theorem picked_any (n many : Int) (hn : I64 n) (hm : 1≤many) (hm2 : many≤9223372036854775807) (w : World) :
    Calls Tryz.prog 24 #[.int .i64 n,.int .i64 many] w fun e w' => e=.returned (.int .i64 (pick n many))∧w=w':=by
  obtain ⟨hn1,hn2⟩:=hn
  by_cases h : n < 0
  · go_enter Tryz.func24,Tryz.ntmps24
    go_wp2
    go_ret
    exact ⟨ret_int ((Int.neg_tmod ..).symm.trans (pick_neg h)),rfl⟩
  · go_enter Tryz.func24,Tryz.ntmps24
    go_wp2
    go_ret
    exact ⟨ret_int (pick_pos (by omega)),rfl⟩
def blocks (n : Int) : Int:=(n + 512 - 1) / 512
set_option maxHeartbeats 400000 in
theorem Blocks_ok (n : Int) (h0 : 0≤n) (h1 : n≤8589934591) (w : World) :
    Calls Tryz.prog 154 #[.int .i64 n] w fun e w' => e=.returned (.tuple #[.int .i64 (blocks n),.int .i64 0])∧w=w':=by
  go_enter Tryz.func154,Tryz.ntmps154
  go_wp2
  go_ret2
  exact ⟨rfl,rfl⟩
end
end Go.Proofs.YtphmhmdcaafmdaaGreatDoor
