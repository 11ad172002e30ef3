import Derived.Test.YtphmhmdcaafmdaaGreatDoorNodesG
import Derived.Test.YtphmhmdcaafmdaaGreatDoorRawW
import Derived.Test.YtphmhmdcaafmdaaGreatDoorPathW
import Derived.Test.YtphmhmdcaafmdaaGreatDoorShelfB
namespace Go.Proofs.YtphmhmdcaafmdaaGreatDoor
set_option linter.all false
section
open Go.RowKit
def DirsOwn (w : World) (base : Nat) (v : Value) (l : List (List UInt8)) : Prop:=w.ownsRow base 9 1 v l.length (l.map fun d => .string (bs d))
def TrSt (w0 : World) (s : TreeS) (dv : Value) (w : World) : Prop :=
  Below w0.heap.size w0 w∧(∃ tv,Blk w w0.heap.size 23 #[tv]∧NodesOwn w w0.heap.size tv s.t)∧DirsOwn w w0.heap.size dv s.dirs
theorem TrSt.below {w0 w w' : World} {s : TreeS} {dv : Value} (h : TrSt w0 s dv w) (hb : Below w.heap.size w w') : TrSt w0 s dv w':=by
  obtain ⟨h1,⟨tv,h2,h3⟩,h4⟩:=h
  exact ⟨h1.trans (hb.mono h1.size),⟨tv,h2.below hb h2.lt,h3.below hb⟩,ownsRow_below h4 hb⟩
def TrBl (w0 : World) (s : TreeS) (dv : Value) (g : Nat) (t : TypeId) (cs : Array Value) (w : World) : Prop:=TrSt w0 s dv w∧Blk w g t cs
theorem TrBl.below {w0 w w' : World} {s : TreeS} {dv : Value} {g : Nat} {t : TypeId} {cs : Array Value} (h : TrBl w0 s dv g t cs w) (hb : Below w.heap.size w w') : TrBl w0 s dv g t cs w':=⟨h.1.below hb,h.2.below hb h.2.lt⟩
theorem TrSt.tree {w0 w : World} {s : TreeS} {dv : Value} (h : TrSt w0 s dv w) : ∃ A c,w.cell? ⟨w0.heap.size,0,none⟩=some (.slice A s.t.length c)∧s.t.length≤c∧c≤maxLen∧NodesOwn w w0.heap.size (.slice A s.t.length c) s.t∧w.frozen? ⟨w0.heap.size,0,none⟩=false∧w0.heap.size < w.heap.size:=by
  obtain ⟨_,⟨tv,h2,h3⟩,_⟩:=h
  obtain ⟨xs,h0,h1,h4⟩:=id h3
  obtain ⟨A,c,rfl,e2,e3,_,_⟩:=ownsRow_read h1
  exact ⟨A,c,h2.cell 0,e2,e3,h3,h2.frozen 0,h2.lt⟩
theorem DirsOwn.at_ {w : World} {base : Nat} {v : Value} {l : List (List UInt8)} (h : DirsOwn w base v l) (hl : 1≤l.length) : ∃ g c,v=.slice (some ⟨g,0,none⟩) l.length c∧l.length≤c∧c≤maxLen∧g < w.heap.size∧∀ k,(hk : k < l.length)→w.cell? ⟨g,k,none⟩=some (.string (bs l[k])):=by
  obtain ⟨g,cap,rfl,hb,hlt⟩:=World.ownsRow.form h (by omega)
  have h2:=h
  obtain ⟨A,c,e1,e2,e3,_,_⟩:=ownsRow_read h
  injection e1 with e1 _ e4
  subst e4
  refine ⟨g,_,rfl,e2,e3,hlt,fun k hk => ?_⟩
  have h3:=World.ownsRow.cells h2 (g:=g) rfl k (.string (bs l[k])) (by rw [List.getElem?_map,List.getElem?_eq_getElem hk];rfl)
  rwa [add_flat,Nat.zero_add] at h3
def growN (most : Nat) (l : List RawS) (k : Nat) : TreeS:=growAll most (l.take k)
theorem growN_succ {most : Nat} {l : List RawS} {k : Nat} (hk : k < l.length) : growN most l (k + 1)=growStep most (growN most l k) l[k]:=by
  unfold growN growAll
  rw [List.take_succ_eq_append_getElem hk,List.foldl_append];rfl
theorem growN_all {most : Nat} {l : List RawS} {k : Nat} (hk : l.length≤k) : growN most l k=growAll most l:=by
  unfold growN;rw [List.take_of_length_le hk]
theorem growN_full {most : Nat} {l : List RawS} {k : Nat} (h : most≤(growN most l k).t.length) : growN most l k=growAll most l:=by
  have e : growAll most l=(l.drop k).foldl (growStep most) (growN most l k):=by
    unfold growN growAll
    rw [← List.foldl_append,List.take_append_drop]
  rw [e,grow_full h]
theorem growN_ok (most : Nat) (l : List RawS) (k : Nat) : GrowOk most (growN most l k):=growOk_all most _ (growOk_start most)
theorem load_raw {w : World} {B : Nat} {A : Option Addr} {l : List RawS} (h : Reads w B 4 A l.length (l.flatMap rawCells)) {k : Nat} (hk : k < l.length) :
    ∃ ad,A=some ad∧ad.block < B∧w.cell? (ad.add (k * 4))=some (.int .i64 l[k].kind)∧w.cell? ⟨(ad.add (k * 4)).block,(ad.add (k * 4)).off + 1,none⟩=some (.int .i64 l[k].a)∧w.cell? ⟨(ad.add (k * 4)).block,(ad.add (k * 4)).off + 2,none⟩=some (.int .i64 l[k].b)∧w.cell? ⟨(ad.add (k * 4)).block,(ad.add (k * 4)).off + 3,none⟩=some (.string (bs l[k].text)):=by
  obtain ⟨ad,e,hb,h0,h1,h2,h3⟩:=h.raw_at hk
  have hs:=spot_of h0
  refine ⟨ad,e,hb,h0,?_,?_,?_⟩
  · rw [← add_step hs,add_of_add];exact h1
  · rw [← add_step hs,add_of_add];exact h2
  · rw [← add_step hs,add_of_add];exact h3
theorem namesL_bd : ∀ n∈namesL,n.length≤130:=by
  intro n hn
  simp only [namesL,List.mem_cons,List.mem_nil_iff,or_false] at hn
  rcases hn with rfl | rfl | rfl | rfl | rfl | rfl | rfl | rfl | rfl | rfl | rfl
  all_goals first | (rw [List.length_replicate];omega) | (simp only [List.length_cons,List.length_nil];omega)
theorem growPath_length {most : Nat} {s : TreeS} (h : GrowOk most s) (r : RawS) : (growPath s.dirs r).length≤531:=by
  unfold growPath upS
  have h1 : (s.dirs.getD (pick r.b s.dirs.length).toNat []).length≤400:=by
    rw [List.getD_eq_getElem?_getD]
    rcases hq : s.dirs[(pick r.b s.dirs.length).toNat]? with _ | d
    · simp
    · exact h.dirLen d (List.mem_of_getElem? hq)
  have h2 : (namesL.getD (pick r.a 11).toNat []).length≤130:=by
    rw [List.getD_eq_getElem?_getD]
    rcases hq : namesL[(pick r.a 11).toNat]? with _ | d
    · simp
    · exact namesL_bd d (List.mem_of_getElem? hq)
  rw [List.length_append]
  split
  · rw [List.length_nil];omega
  · rw [List.length_append,List.length_singleton];omega
end
section
open Go.RowKit
set_option maxHeartbeats 400000 in
theorem atP_any (p : List UInt8) (B : Nat) (W : World) (x : NodeV) (hB : B < W.heap.size) (hc : W.cell? ⟨B,0,none⟩=some (.string (bs p))) :
    Calls Tryz.prog 23 #[.agg (nodeC x).toArray,.pointer (some ⟨B,0,none⟩)] W fun e w' => e=.returned (.bool (x.1.path == p))∧Below W.heap.size W w':=by
  obtain ⟨⟨q,k,s,t,⟨m1,m2,m3,m4,m5,m6,m7⟩,d⟩,dv⟩:=x
  unfold nodeC
  simp only
  have hne : B≠W.heap.size:=by omega
  have hq:=Lib.hid (bs_beq q p)
  generalize bs q=bq at *
  generalize bs p=bp at *
  go_enter Tryz.func23,Tryz.ntmps23
  go_wp2
  go_ret
  exact ⟨ret_bool hq.out,(Below.refl _ _).alloc (Nat.le_refl _) _⟩
theorem eg_at : ∀ args w,(callFunc 23 args).run Tryz.prog w=.ok (.enter 23 args) w:=enters_of Tryz.func23 (by kernel_rfl) rfl
set_option maxHeartbeats 400000 in
theorem At_any (w0 : World) (s : TreeS) (dv : Value) (p : List UInt8) (w : World) (h : TrSt w0 s dv w) :
    Calls Tryz.prog 21 #[.string (bs p),.pointer (some ⟨w0.heap.size,0,none⟩)] w fun e w' => e=.returned (.int .i64 (idxN (fun x => x.path == p) s.t))∧Below w.heap.size w w':=by
  have b0 : Below w.heap.size w (w.alloc (.cells #[.string (bs p)] 9)):=(Below.refl _ _).alloc (Nat.le_refl _) _
  have h1:=h.below b0
  obtain ⟨A,c,hc,_,_,ho,_,_⟩:=h1.tree
  have hk:=(Blk.new w 9 #[.string (bs p)])
  have hcon:=IdxN_any 23 #[.pointer (some ⟨w.heap.size,0,none⟩)] eg_at _ s.t (fun x => x.path == p) _ ho.at_ (fun W x hb => by
    have hk2:=hk.below hb hk.lt
    have hlt:=hk2.lt
    exact (atP_any p w.heap.size W x hlt (hk2.cell 0)).mono fun e w' ⟨h1,h2⟩ => ⟨h1,hb.trans (h2.mono hb.size)⟩)
  have HC:=Lib.hid hcon
  have B0:=Lib.hid b0
  clear hcon h h1 hk ho b0
  go_enter Tryz.func21,Tryz.ntmps21
  go_wp2_with fail
  refine HC.out.mono ?_
  rintro e w' ⟨rfl,b1⟩
  have B1:=Lib.hid (B0.out.trans (b1.mono B0.out.size))
  clear b1
  go_wp2_with fail
  go_ret
  exact ⟨rfl,B1.out⟩
theorem idxN_neg {p : List UInt8} {l : List NodeP} (h : hasPath l p=false) : idxN (fun x => x.path == p) l=-1 :=
  idxN_miss (fun j hj => by
    unfold hasPath at h
    rw [List.any_eq_false] at h
    simpa using h _ (List.getElem_mem hj))
theorem idxN_nat {p : List UInt8} {l : List NodeP} (h : hasPath l p=true) : ∃ i : Nat,i < l.length∧idxN (fun x => x.path == p) l=i∧∃ x,l[i]?=some x∧x.path=p:=by
  unfold idxN
  cases hq : l.findIdx? (fun x => x.path == p) with
  | some i =>
    rw [List.findIdx?_eq_some_iff_getElem] at hq
    obtain ⟨h1,h2,_⟩:=hq
    exact ⟨i,h1,rfl,l[i],List.getElem?_eq_getElem h1,by simpa using h2⟩
  | none =>
    rw [List.findIdx?_eq_none_iff] at hq
    unfold hasPath at h
    rw [List.any_eq_true] at h
    obtain ⟨x,hx,e⟩:=h
    rw [hq x hx] at e
    cases e
end
end Go.Proofs.YtphmhmdcaafmdaaGreatDoor
namespace Go.Proofs.YtphmhmdcaafmdaaGreatDoor
set_option linter.all false
open Go.RowKit Go.Sort Go.Shelf Go.Lib
abbrev ShortN:={ x : NodeV // x.1.path.length≤400∧x.2.oneCell'=true }
instance : Inhabited ShortN:=⟨⟨(nodeZ,.slice none 0 0),by simp [nodeZ],rfl⟩⟩
def shortC (x : ShortN) : List Value:=nodeC x.1
def shortCmp (x y : ShortN) : Int:=cmpS x.1.1.path y.1.1.path
theorem lt_short (x y : ShortN) : ltOf shortCmp x y=decide (cmpS x.1.1.path y.1.1.path < 0):=rfl
theorem short_swo : SWO (ltOf shortCmp) where
  irrefl x:=by rw [lt_short,cmpS_self];rfl
  trans x y z h1 h2:=by
    rw [lt_short] at *
    simp only [decide_eq_true_eq] at *
    have h3:=cmpS_le (a:=x.1.1.path) (b:=y.1.1.path) (c:=z.1.1.path) (by omega) (by omega)
    rcases Int.lt_or_eq_of_le h3 with h | h
    · exact h
    · have e:=cmpS_zero h
      rw [e] at h1
      have:=cmpS_neg z.1.1.path y.1.1.path
      omega
  ntrans x y z h1 h2:=by
    rw [lt_short] at *
    simp only [decide_eq_false_iff_not,Int.not_lt] at *
    have a1:=cmpS_neg x.1.1.path y.1.1.path
    have a2:=cmpS_neg y.1.1.path z.1.1.path
    have a3:=cmpS_neg x.1.1.path z.1.1.path
    have:=cmpS_le (a:=z.1.1.path) (b:=y.1.1.path) (c:=x.1.1.path) (by omega) (by omega)
    omega
theorem short_one (x : ShortN) : ∀ v∈shortC x,v.oneCell'=true:=by
  obtain ⟨x,h1,h2⟩:=x
  intro v hv
  simp only [shortC,nodeC,List.mem_cons,List.mem_nil_iff,or_false] at hv
  rcases hv with rfl | rfl | rfl | rfl | rfl | rfl | rfl | rfl | rfl | rfl | rfl | rfl
  all_goals first | rfl | exact h2
theorem heap_sortedK {w : World} {g n : Nat} {os : Array Obj} {cur : Array Value} {e : TypeId} {fr : Nat × Nat} (d : Array ShortN) (hb : w.heap[g]?=some (.cells cur e fr)) :
    (sortWorldK shortC 12 w g 0 n d os).heap[g]?=some (.cells (putCells id 0 (flatK shortC 12 d) cur) e fr):=by
  have hg : g < w.heap.size:=(Array.getElem?_eq_some_iff.1 hb).1
  unfold sortWorldK putRowK
  rw [heap_grow_old _ _ (by simpa using hg)]
  simp [putRow,mapBlock,Sort.ahead,Array.getElem?_modify,hb,onCells]
theorem grownBy_sortedK {w : World} {g n : Nat} {os : Array Obj} (d : Array ShortN) : w.grownBy (sortWorldK shortC 12 w g 0 n d os) (some g):=by
  unfold sortWorldK putRowK
  refine ⟨rfl,rfl,rfl,by simp,fun k hk hne => ?_⟩
  rw [heap_grow_old _ _ (by simpa using hk)]
  have : g≠k:=fun e => hne (by rw [e])
  simp [putRow,mapBlock,Sort.ahead,Array.getElem?_modify,this]
theorem flat_ofK (d : Array ShortN) : (flatK shortC 12 d).toList=(d.toList.map (·.1)).flatMap nodeC:=by
  apply List.ext_getElem?
  intro t
  have hlen : ((d.toList.map (·.1)).flatMap nodeC).length=d.size * 12:=by rw [flat_length nodeC_length,List.length_map,Array.length_toList]
  by_cases ht : t < d.size * 12
  · have hq : t / 12 < d.size:=by omega
    have e : t=t / 12 * 12 + t % 12:=by omega
    have h2 : ((d.toList.map (·.1)).flatMap nodeC)[t / 12 * 12 + t % 12]?=_:=flat_get nodeC_length _ _ _ (Nat.mod_lt _ (by omega))
    rw [← e] at h2
    have h3:=get_flatK shortC 12 d t ht
    have hs : t < (flatK shortC 12 d).size:=by rw [size_flatK];exact ht
    rw [getElem!_pos (flatK shortC 12 d) t hs,getElem!_pos d (t / 12) hq] at h3
    have a1 : (flatK shortC 12 d).toList[t]?=some ((shortC d[t / 12])[t % 12]!):=by
      rw [Array.getElem?_toList,Array.getElem?_eq_getElem hs,h3]
    have a2 : (d.toList.map (·.1))[t / 12]?=some d[t / 12].1:=by
      rw [List.getElem?_map,Array.getElem?_toList,Array.getElem?_eq_getElem hq];rfl
    rw [a1,h2,a2]
    have hl : t % 12 < (shortC d[t / 12]).length:=by show t % 12 < 12;omega
    show some ((shortC d[t / 12])[t % 12]!)=(shortC d[t / 12])[t % 12]?
    rw [List.getElem?_eq_getElem hl,getElem!_pos (shortC d[t / 12]) (t % 12) hl]
  · rw [List.getElem?_eq_none (by simp;omega),List.getElem?_eq_none (by omega)]
theorem take_flatK (cur : Array Value) (d : Array ShortN) (h : d.size * 12≤cur.size) : (putCells id 0 (flatK shortC 12 d) cur).toList.take (d.size * 12)=(d.toList.map (·.1)).flatMap nodeC:=by
  rw [← flat_ofK]
  apply List.ext_getElem?
  intro j
  by_cases hj : j < d.size * 12
  · rw [List.getElem?_take_of_lt hj,Array.getElem?_toList]
    have h2 : j < (flatK shortC 12 d).size:=by rw [size_flatK];exact hj
    rw [Array.getElem?_toList,Array.getElem?_eq_getElem h2]
    simp [putCells,show j < cur.size by omega,hj]
  · rw [List.getElem?_take_eq_none (by omega),List.getElem?_eq_none (by simp;omega)]
theorem holds_nodes {w : World} {g : Nat} {cur : Array Value} {e : TypeId} {d : Array ShortN} (hb : w.heap[g]?=some (.cells cur e (0,0))) (ht : cur.toList.take (d.size * 12)=(d.toList.map (·.1)).flatMap nodeC) : HoldsK shortC 12 w g 0 d:=by
  intro j hj
  rw [size_flatK] at hj
  refine ⟨?_,by simp [World.frozen?,hb]⟩
  rw [← flat_ofK] at ht
  have h2 : j < (flatK shortC 12 d).size:=by rw [size_flatK];exact hj
  have h1 : (cur.toList.take (d.size * 12))[j]?=(flatK shortC 12 d).toList[j]?:=by rw [ht]
  rw [List.getElem?_take_of_lt hj,Array.getElem?_toList,Array.getElem?_toList,Array.getElem?_eq_getElem h2] at h1
  simp only [World.cell?,hb,Nat.zero_add]
  rw [if_neg (by simp),h1,getElem!_pos (flatK shortC 12 d) j h2]
  rfl
theorem ML.sorted {w : World} (h : ML w) {g n : Nat} {os : Array Obj} {d : Array ShortN} (hg : 0≠g) : ML (sortWorldK shortC 12 w g 0 n d os):=by
  have hl:=h.lt
  obtain ⟨m,hm⟩:=h
  refine ⟨m,?_⟩
  unfold sortWorldK
  rw [cell?_grow _ _ _ (by rw [show (putRowK shortC 12 (Sort.ahead w n) g 0 d).heap.size=w.heap.size by unfold putRowK;simp];exact hl),cell?_putRowK_other _ _ _ _ _ _ _ hg]
  exact hm
theorem lessN_lays (g size : Nat) (w : World) (hm : ML w) (hg : 0≠g) : CmpLays Tryz.prog 31 #[] shortC 12 shortCmp g 0 size w :=
  fun m os dk _ x y => lessN_grow x.1 y.1 _ (by have:=x.2.1;omega) (by have:=y.2.1;omega) (hm.sorted hg)
theorem eg_less : ∀ args w,(callFunc 31 args).run Tryz.prog w=.ok (.enter 31 args) w:=enters_of Tryz.func31 (by kernel_rfl) rfl
theorem SortN_any (v : Value) (l : List NodeP) (base : Nat) (w : World) (hm : ML w) (hbase : 0 < base) (h : NodesOwn w base v l) (hp : ∀ x∈l,x.path.length≤400) (hlen : l.length≤1000000) :
    Calls Tryz.prog 30 #[v,.func (.func 31) #[] #[]] w fun e w' =>
      e=.returned (.tuple #[])∧(∃ m : List NodeP,m.Perm l∧m.Pairwise (fun x y => cmpS x.path y.path≤0)∧NodesOwn w' base v m)∧w.grownBy w' v.ownBlock:=by
  obtain ⟨xs,hx,hown,hd⟩:=h
  obtain ⟨h1,h2⟩:=hown
  rcases h2 with ⟨rfl,h0⟩ | ⟨g,cap,cur,rfl,hb,hg,hn,hmx,hsz,htk⟩
  · obtain rfl : l=[]:=List.eq_nil_of_length_eq_zero h0
    refine (AnyF.slices_SortFunc_none Tryz.laysSortNode none 0 _ w).mono ?_
    rintro e w' ⟨rfl,rfl⟩
    exact ⟨rfl,⟨[],List.Perm.refl _,by simp,[],rfl,⟨by simp,.inl ⟨rfl,rfl⟩⟩,by simp⟩,World.grownBy.refl _ _⟩
  · have hs : ∀ x∈xs,x.1.path.length≤400∧x.2.oneCell'=true:=fun x hx2 => ⟨hp x.1 (by rw [← hx];exact List.mem_map_of_mem hx2),by
      obtain ⟨A,c,e,_⟩:=hd x hx2
      rw [e];rfl⟩
    have hxl : xs.length=l.length:=by rw [← hx,List.length_map]
    obtain ⟨d,hd1⟩ : ∃ d : Array ShortN,d.toList.map (·.1)=xs:=⟨(xs.attach.map fun x => (⟨x.1,hs x.1 x.2⟩ : ShortN)).toArray,by
      rw [List.toList_toArray,List.map_map]
      exact List.attach_map_subtype_val xs⟩
    have hds : d.size=l.length:=by rw [← hxl,← hd1,List.length_map,Array.length_toList]
    have hne : 0≠g:=by omega
    have hH : HoldsK shortC 12 w g 0 d:=holds_nodes hg (by rw [hds,hd1];exact htk)
    have hcon:=AnyQ.slices_SortFunc Tryz.laysSortNode 12 Tryz.isAgg29 Tryz.sizeOf29 shortC (fun _ => rfl) short_one shortCmp short_swo 31 #[] g 0 cap d w eg_less (lessN_lays g d.size w hm hne) hH (heap_lt hg) (by omega)
    rw [hds] at hcon
    refine hcon.mono ?_
    rintro e w' ⟨rfl,d',n,os,⟨p1,_,p2⟩,hso,rfl⟩
    have p3 : d'.toList.Perm d.toList:=by
      have e1 : d'.extract 0 l.length=d':=by rw [← hds,← p1];simp
      have e2 : d.extract 0 l.length=d:=by rw [← hds];simp
      rw [e1,e2] at p2
      exact p2
    have p4 : (d'.toList.map (·.1)).Perm xs:=by rw [← hd1];exact p3.map _
    have hds' : d'.size=l.length:=by rw [p1,hds]
    have hgr:=grownBy_sortedK (w:=w) (g:=g) (n:=n) (os:=os) d'
    refine ⟨rfl,⟨(d'.toList.map (·.1)).map (·.1),?_,?_,d'.toList.map (·.1),rfl,?_,?_⟩,hgr⟩
    · have:=p4.map (·.1)
      rw [hx] at this
      exact this
    · rw [List.pairwise_iff_getElem]
      intro i j hi hj hij
      simp only [List.length_map,Array.length_toList] at hi hj
      have hq:=hso i j (Nat.zero_le _) hij (by omega)
      rw [getElem!_pos d' j hj,getElem!_pos d' i hi,lt_short] at hq
      simp only [decide_eq_false_iff_not,Int.not_lt] at hq
      have:=cmpS_neg d'[i].1.1.path d'[j].1.1.path
      simp only [List.getElem_map,Array.getElem_toList]
      omega
    · simp only [List.length_map,Array.length_toList,hds']
      refine ⟨by rw [flat_length nodeC_length,List.length_map,Array.length_toList,hds'],.inr ⟨g,cap,_,rfl,hb,heap_sortedK d' hg,hn,hmx,by simp [putCells,hsz],?_⟩⟩
      have:=take_flatK cur d' (by rw [hds',hsz];exact Nat.mul_le_mul_right _ hn)
      rw [hds'] at this
      exact this
    · intro x hx2
      refine (hd x (p4.subset hx2)).kept (U8Kept.grown hgr (fun k hk => ?_))
      cases hk
      exact ⟨cur,_,_,hg,by decide⟩
end Go.Proofs.YtphmhmdcaafmdaaGreatDoor
