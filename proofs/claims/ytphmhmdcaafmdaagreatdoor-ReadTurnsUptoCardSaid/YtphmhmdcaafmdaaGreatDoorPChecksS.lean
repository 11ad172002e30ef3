import Derived.Test.YtphmhmdcaafmdaaGreatDoorWords
import Derived.Maps.OwnOps
import Derived.Laws.StructEq
import Derived.Test.YtphmhmdcaafmdaaGreatDoorMake
import Derived.Test.YtphmhmdcaafmdaaGreatDoorEnts
import Derived.Carry
import Derived.Deep.CutRange
import Derived.Deep.DeepCutAuto
import Derived.Lib.QuietBelow
namespace Go.Proofs.YtphmhmdcaafmdaaGreatDoor
set_option linter.all false
section
open Go.RowKit Go.ChangeMaps Go.MapKept
theorem bs_eqB (a b : List UInt8) : (bs a == bs b)=(a == b):=by rw [Go.beq_toListBytes,bs_toList,bs_toList]
def smapGet (M : List (List UInt8 × Value)) (s : List UInt8) : Option Value:=(M.find? (fun p => p.1 == s)).map (·.2)
def smapPut : List (List UInt8 × Value)→List UInt8→Value→List (List UInt8 × Value)
  | [],s,v => [(s,v)]
  | p :: r,s,v => if p.1=s then (s,v) :: r else p :: smapPut r s v
theorem smapGet_put (M : List (List UInt8 × Value)) (s : List UInt8) (v : Value) (t : List UInt8) : smapGet (smapPut M s v) t=if t=s then some v else smapGet M t:=by
  induction M with
  | nil =>
    unfold smapPut smapGet
    by_cases h : t=s
    · subst h;simp
    · rw [if_neg h]
      have : (s == t)=false:=by simp;exact fun e => h e.symm
      simp [this]
  | cons p r ih =>
    unfold smapPut
    by_cases hp : p.1=s
    · rw [if_pos hp]
      unfold smapGet
      by_cases h : t=s
      · subst h;simp
      · rw [if_neg h]
        have e1 : (s == t)=false:=by simp;exact fun e => h e.symm
        have e2 : (p.1 == t)=false:=by rw [hp];exact e1
        simp [e1,e2]
    · rw [if_neg hp]
      unfold smapGet at ih ⊢
      by_cases h : p.1=t
      · have : ¬ t=s:=fun e => hp (h.trans e)
        simp [h,this]
      · have e2 : (p.1 == t)=false:=by simp;exact h
        simp only [List.find?_cons,e2]
        exact ih
def SMap (w : World) (b : Nat) (M : List (List UInt8 × Value)) : Prop :=
  ∃ (es : Array MapEntry) (clock : Nat),w.heap[b]?=some (.map es clock)∧es.toList.map (fun e => (e.key,e.val))=M.map (fun p => (Value.string (bs p.1),p.2))
section
variable {w w' : World} {b : Nat} {M : List (List UInt8 × Value)}
theorem SMap.lt (h : SMap w b M) : b < w.heap.size:=by
  obtain ⟨es,clock,hb,_⟩:=h
  exact (Array.getElem?_eq_some_iff.1 hb).1
theorem SMap.new (w : World) : SMap (w.alloc (.map #[] 0)) w.heap.size []:=⟨#[],0,(MapKept.heap_alloc w _).1,rfl⟩
theorem SMap.below (h : SMap w b M) (hb : Below w.heap.size w w') : SMap w' b M:=by
  have hl:=h.lt
  obtain ⟨es,clock,h1,h2⟩:=h
  exact ⟨es,clock,(hb.block b hl).trans h1,h2⟩
theorem SMap.grown {row : Option Nat} (h : SMap w b M) (hg : w.grownBy w' row) (hne : some b≠row) : SMap w' b M:=by
  have hl:=h.lt
  obtain ⟨es,clock,h1,h2⟩:=h
  exact ⟨es,clock,(hg.block b hl hne).trans h1,h2⟩
theorem findNow_str (s : List UInt8) : ∀ (es : List MapEntry) (M : List (List UInt8 × Value)) (i : Nat),es.map (fun e => (e.key,e.val))=M.map (fun p => (Value.string (bs p.1),p.2)) →
    (Instr.findNow .string (.string (bs s)) es i=some none∧smapGet M s=none∧∀ v,smapPut M s v=M ++ [(s,v)]) ∨
    ∃ j v e,Instr.findNow .string (.string (bs s)) es i=some (some (i + j,v))∧smapGet M s=some v∧es[j]?=some e∧e.key=.string (bs s) ∧
      ∀ u,(es.modify j fun e => { e with key:=.string (bs s),val:=u }).map (fun e => (e.key,e.val))=(smapPut M s u).map (fun p => (Value.string (bs p.1),p.2))
  | [],M,i,h => by
    obtain rfl : M=[]:=by cases M with | nil => rfl | cons => simp at h
    exact .inl ⟨rfl,rfl,fun _ => rfl⟩
  | e :: es,M,i,h => by
    match M,h with
    | [],h => simp at h
    | p :: M,h =>
      simp only [List.map_cons,List.cons.injEq,Prod.mk.injEq] at h
      obtain ⟨⟨h1,h2⟩,h3⟩:=h
      by_cases hp : p.1=s
      · refine .inr ⟨0,p.2,e,?_,?_,rfl,by rw [h1,hp],fun u => ?_⟩
        · simp [Instr.findNow,Instr.sameNow,bs_eqB,h1,hp,h2]
        · simp [smapGet,hp]
        · simp [smapPut,hp,h3]
      · have hs : Instr.sameNow .string (.string (bs s)) e.key=some false:=by
          rw [h1];simp [Instr.sameNow,bs_eqB];exact fun e => hp e.symm
        have hb : (p.1 == s)=false:=by simp [hp]
        rcases findNow_str s es M (i + 1) h3 with ⟨a1,a2,a3⟩ | ⟨j,v,e',a1,a2,a3,a4,a5⟩
        · refine .inl ⟨by simp [Instr.findNow,hs,a1],?_,fun v => ?_⟩
          · simp only [smapGet,List.find?_cons,hb];exact a2
          · rw [smapPut,if_neg hp,a3];rfl
        · refine .inr ⟨j + 1,v,e',?_,?_,by simpa using a3,a4,fun u => ?_⟩
          · simp [Instr.findNow,hs,a1];omega
          · simp only [smapGet,List.find?_cons,hb];exact a2
          · rw [smapPut,if_neg hp]
            simp only [List.modify_succ_cons,List.map_cons,h1,h2]
            rw [a5 u]
variable {P : Program} {t k e : TypeId}
theorem SMap.look (h : SMap w b M) (ht : P.underlying t=some (.map k e)) (hk : P.underlying k=some .string) {z : Value} (hz : (zeroValue e).run P w=.ok z w) (s : List UInt8) :
    (Instr.lookup t (.map (some b)) (.string (bs s)) true).run P w=.ok (.tuple #[(smapGet M s).getD z,.bool (smapGet M s).isSome]) w:=by
  obtain ⟨es,clock,hb,hM⟩:=h
  have hck : ∀ em,(Instr.checkKey em (9999 + 1) k (.string (bs s))).run P w=.ok () w:=fun em => MapKept.run_checkKey hk (by simp [MapKept.IsKey]) em 9999
  unfold Instr.lookup
  rcases findNow_str s es.toList M 0 hM with ⟨a1,a2,_⟩ | ⟨j,v,e',a1,a2,_⟩
  · have hf:=MapKept.run_findKey (w:=w) hk a1
    simp [run_underlying ht,Result.andThen,MapKept.run_getObj_map hb,hck,hf,hz,a2]
  · have hf:=MapKept.run_findKey (w:=w) hk a1
    simp [run_underlying ht,Result.andThen,MapKept.run_getObj_map hb,hck,hf,a2]
theorem SMap.get (h : SMap w b M) (ht : P.underlying t=some (.map k e)) (hk : P.underlying k=some .string) {z : Value} (hz : (zeroValue e).run P w=.ok z w) (s : List UInt8) :
    (Instr.lookup t (.map (some b)) (.string (bs s)) false).run P w=.ok ((smapGet M s).getD z) w:=by
  obtain ⟨es,clock,hb,hM⟩:=h
  have hck : ∀ em,(Instr.checkKey em (9999 + 1) k (.string (bs s))).run P w=.ok () w:=fun em => MapKept.run_checkKey hk (by simp [MapKept.IsKey]) em 9999
  unfold Instr.lookup
  rcases findNow_str s es.toList M 0 hM with ⟨a1,a2,_⟩ | ⟨j,v,e',a1,a2,_⟩
  · have hf:=MapKept.run_findKey (w:=w) hk a1
    simp [run_underlying ht,Result.andThen,MapKept.run_getObj_map hb,hck,hf,hz,a2]
  · have hf:=MapKept.run_findKey (w:=w) hk a1
    simp [run_underlying ht,Result.andThen,MapKept.run_getObj_map hb,hck,hf,a2]
theorem SMap.put (h : SMap w b M) (ht : P.underlying t=some (.map k e)) (hk : P.underlying k=some .string) (s : List UInt8) (u : Value) :
    ∃ w',(Instr.mapUpdate t (.map (some b)) (.string (bs s)) u).run P w=.ok () w'∧SMap w' b (smapPut M s u)∧w.grownBy w' (some b):=by
  obtain ⟨es,clock,hb,hM⟩:=h
  have hck : ∀ em,(Instr.checkKey em (9999 + 1) k (.string (bs s))).run P w=.ok () w:=fun em => MapKept.run_checkKey hk (by simp [MapKept.IsKey]) em 9999
  have grow : ∀ o,w.grownBy (setBlock w b o) (some b):=fun o => ⟨rfl,rfl,rfl,by simp [setBlock],fun i _ hi => heap_setBlock_other hb _ (fun e => hi (by rw [e]))⟩
  rcases findNow_str s es.toList M 0 hM with ⟨a1,a2,a3⟩ | ⟨j,v,e',a1,a2,a3,a4,a5⟩
  · have hf:=MapKept.run_findKey (w:=w) hk a1
    refine ⟨setBlock w b (.map (es.push { key:=.string (bs s),val:=u,born:=clock }) (clock + 1)),?_,⟨_,_,heap_setBlock_same hb _,?_⟩,grow _⟩
    · unfold Instr.mapUpdate
      simp [run_underlying ht,Result.andThen,MapKept.run_getObj_map hb,hck,hf,MapKept.run_setObj_map _ hb,setBlock]
    · rw [a3];simp [hM]
  · have hf:=MapKept.run_findKey (w:=w) hk a1
    rw [Nat.zero_add] at hf
    have hkt : (Instr.keyThatStays (((es[j]?).map (·.key)).getD (.string (bs s))) (.string (bs s))).run P w=.ok (.string (bs s)) w:=by
      have : es[j]?=some e':=by simpa using a3
      rw [this]
      simp [Instr.keyThatStays,a4,Instr.sameBits,bs_eqB]
    refine ⟨setBlock w b (.map (es.modify j fun e => { e with key:=.string (bs s),val:=u }) clock),?_,⟨_,_,heap_setBlock_same hb _,?_⟩,grow _⟩
    · unfold Instr.mapUpdate
      simp only [Sem.run_bind,run_underlying ht,Result.andThen_ok,MapKept.run_getObj_map hb,hck,hf,hkt,MapKept.run_setObj_map _ hb,setBlock]
    · rw [← a5 u];simp
end
theorem wp_put_sm {P : Program} {w : World} {o : Oper} {a : Act} {K : Act→World→Prop} {Q : Exit→Act→World→Prop} (m x v : Operand) (t : TypeId) (hop : o.op=Op.mapUpdate t m x v)
    (k e : TypeId) (ht : P.underlying t=some (.map k e)) (hk : P.underlying k=some .string) (b : Nat) (M : List (List UInt8 × Value)) (hm : a.eval m=.map (some b)) (hown : SMap w b M) (s : List UInt8) (u : Value) (hx : a.eval x=.string (bs s)) (hv : a.eval v=u)
    (hK : ∀ w',SMap w' b (smapPut M s u)→w.grownBy w' (some b)→K (a.put o.dst undef) w') : o.wp P a w K Q:=by
  obtain ⟨w',hrun,r1,r2⟩:=hown.put ht hk s u
  unfold Oper.wp
  simp [execOp,hop,hm,hx,hv,hrun,Result.andThen]
  exact hK w' r1 r2
theorem wpList_put_sm {P : Program} (w : World) {ops : Array Oper} {rest : List Oper} {o : Oper} {a : Act} {Q : Exit→Act→World→Prop} (hg : o.guard=none) (m x v : Operand) (t : TypeId) (hop : o.op=Op.mapUpdate t m x v)
    (k e : TypeId) (ht : P.underlying t=some (.map k e)) (hk : P.underlying k=some .string) (b : Nat) (M : List (List UInt8 × Value)) (hm : a.eval m=.map (some b)) (hown : SMap w b M) (s : List UInt8) (u : Value) (hx : a.eval x=.string (bs s)) (hv : a.eval v=u)
    (hK : ∀ w',SMap w' b (smapPut M s u)→w.grownBy w' (some b)→wpList P ops Q rest (a.put o.dst undef) w') : wpList P ops Q (o :: rest) a w :=
  wpList_plain hg fun _ hK' => wp_put_sm m x v t hop k e ht hk b M hm hown s u hx hv fun w' r1 r2 => hK' _ _ (hK w' r1 r2)
end
section
section
open Go.RowKit
structure EntsOk (l : List EntP) : Prop where
  len : l.length≤40
  ent : ∀ x∈l,EntOk x
  sorted : l.Pairwise (fun x y => cmpP x.path y.path < 0)
  up : ∀ i (hi : i < l.length),upP l[i].path=[]∨∃ j,∃ hj : j < i,l[j].path=upP l[i].path∧l[j].kind=2
  link : ∀ i (hi : i < l.length),l[i].kind=4→∃ j,∃ hj : j < i,l[j].path=l[i].target∧l[j].kind=1∧l[j].mt=l[i].mt
theorem EntsOk.nodup {l : List EntP} (h : EntsOk l) {i j : Nat} (hi : i < l.length) (hj : j < l.length) (e : l[i].path=l[j].path) : i=j:=by
  have hs:=List.pairwise_iff_getElem.1 h.sorted
  have self : ∀ p,cmpP p p=0:=fun p => cmpL_self (partsS p)
  rcases Nat.lt_trichotomy i j with a | a | a
  · have:=hs i j hi hj a
    rw [e,self] at this;omega
  · exact a
  · have:=hs j i hj hi a
    rw [e,self] at this;omega
def PcM (xs : List EntV) (k : Nat) (M : List (List UInt8 × Value)) : Prop:=∀ p : List UInt8,smapGet M p=((xs.take k).find? (fun x => x.1.path == p)).map fun x => Value.agg (entV x).toArray
theorem PcM.start (xs : List EntV) : PcM xs 0 []:=fun _ => rfl
theorem PcM.next {xs : List EntV} {k : Nat} {M : List (List UInt8 × Value)} (h : PcM xs k M) (hk : k < xs.length) (hn : ∀ j (hj : j < k),xs[j].1.path≠xs[k].1.path) : PcM xs (k + 1) (smapPut M xs[k].1.path (.agg (entV xs[k]).toArray)):=by
  intro p
  rw [smapGet_put,List.take_succ_eq_append_getElem hk,List.find?_append]
  by_cases e : p=xs[k].1.path
  · have h0 : (xs.take k).find? (fun x => x.1.path == p)=none:=by
      rw [List.find?_eq_none]
      intro x hx
      obtain ⟨j,hj,rfl⟩:=List.getElem_of_mem hx
      rw [List.length_take] at hj
      rw [List.getElem_take,e]
      simpa using hn j (by omega)
    rw [if_pos e,h0,e]
    simp
  · rw [if_neg e,h p]
    have : List.find? (fun x : EntV => x.1.path == p) [xs[k]]=none:=by
      rw [List.find?_eq_none]
      intro x hx
      rw [List.mem_singleton] at hx
      subst hx
      simpa using fun e2 => e e2.symm
    rw [this,Option.or_none]
theorem PcM.found {xs : List EntV} {k j : Nat} {M : List (List UInt8 × Value)} (h : PcM xs k M) (hj : j < k) (hk : k≤xs.length) (hn : ∀ i (hi : i < xs.length),xs[i].1.path=(xs[j]'(by omega)).1.path→i=j) : smapGet M (xs[j]'(by omega)).1.path=some (.agg (entV (xs[j]'(by omega))).toArray):=by
  rw [h]
  have hjl : j < xs.length:=by omega
  have : (xs.take k).find? (fun x => x.1.path == xs[j].1.path)=some xs[j]:=by
    rw [List.find?_eq_some_iff_getElem]
    refine ⟨by simp,j,by rw [List.length_take];omega,by rw [List.getElem_take],fun i hi => ?_⟩
    rw [List.getElem_take]
    simp only [Bool.not_eq_true',beq_eq_false_iff_ne]
    intro e
    have:=hn i (by omega) e
    omega
  rw [this];rfl
theorem zeroE (w : World) : (zeroValue 58).run Tryz.prog w=.ok (.agg #[.string ⟨#[]⟩,.int .i64 0,.string ⟨#[]⟩,.int .i64 0,.int .i64 0,.int .i64 0,.string ⟨#[]⟩,.string ⟨#[]⟩,.int .i64 0,.int .i64 0,.slice none 0 0]) w:=by kernel_rfl
theorem PcM.got {xs : List EntV} {k : Nat} {M : List (List UInt8 × Value)} (h : PcM xs k M) (p : List UInt8) : (∃ x∈xs,smapGet M p=some (.agg (entV x).toArray))∨smapGet M p=none:=by
  rw [h p]
  cases hq : (xs.take k).find? (fun x => x.1.path == p) with
  | none => exact .inr rfl
  | some x => exact .inl ⟨x,List.mem_of_mem_take (List.mem_of_find?_eq_some hq),rfl⟩
def PcSt (w : World) (xs : List EntV) (k : Nat) (W : World) : Prop:=Below w.heap.size w W∧∃ M,SMap W w.heap.size M∧PcM xs k M
theorem PcSt.below {w W W' : World} {xs : List EntV} {k : Nat} (h : PcSt w xs k W) (hb : Below W.heap.size W W') : PcSt w xs k W':=by
  obtain ⟨h1,M,h2,h3⟩:=h
  exact ⟨h1.trans (hb.mono h1.size),M,h2.below hb,h3⟩
def EntsAt (w : World) (v : Value) (l : List EntP) (xs : List EntV) : Prop :=
  ∃ (A : Option Addr) (c : Nat),xs.map (·.1)=l∧v=.slice A l.length c∧l.length≤c∧c≤maxLen∧Reads w w.heap.size 11 A l.length (xs.flatMap entV)∧∀ x∈xs,DataAt w 0 x.2 x.1.data
theorem EntsRow.at_ {w : World} {b1 b0 : Nat} {v : Value} {l : List EntP} (h : EntsRow w b1 b0 v l) : ∃ xs,EntsAt w v l xs:=by
  obtain ⟨xs,h0,h1,h2⟩:=h
  obtain ⟨A,c,e1,e2,e3,e4,e5⟩:=ownsRow_read h1
  exact ⟨xs,A,c,h0,e1,e2,e3,e5,fun x hx => (h2 x hx).mono (Nat.zero_le _)⟩
theorem EntsAt.below {w w' : World} {v : Value} {l : List EntP} {xs : List EntV} (h : EntsAt w v l xs) (hb : Below w.heap.size w w') : EntsAt w' v l xs:=by
  obtain ⟨A,c,h0,h1,h2,h3,h5,h6⟩:=h
  exact ⟨A,c,h0,h1,h2,h3,(h5.below hb).more hb.size,fun x hx => (h6 x hx).below hb⟩
theorem EntsAt.read {w : World} {A : Option Addr} {n c : Nat} {l : List EntP} {xs : List EntV} (h : EntsAt w (.slice A n c) l xs) {k : Nat} (hk : k < l.length) :
    ∃ (ad : Addr) (hx : k < xs.length) (Ax : Option Addr) (cx : Nat),A=some ad∧ad.block < w.heap.size∧xs[k]=(l[k],.slice Ax l[k].data.length cx)∧DataAt w 0 (.slice Ax l[k].data.length cx) l[k].data ∧
      w.cell? (ad.add (k * 11))=some (.string (bs l[k].path)) ∧
      w.cell? ⟨(ad.add (k * 11)).block,(ad.add (k * 11)).off + 1,none⟩=some (.int .i64 l[k].kind) ∧
      w.cell? ⟨(ad.add (k * 11)).block,(ad.add (k * 11)).off + 2,none⟩=some (.string (bs l[k].target)) ∧
      w.cell? ⟨(ad.add (k * 11)).block,(ad.add (k * 11)).off + 3,none⟩=some (.int .i64 l[k].mt.mode) ∧
      w.cell? ⟨(ad.add (k * 11)).block,(ad.add (k * 11)).off + 4,none⟩=some (.int .i64 l[k].mt.uid) ∧
      w.cell? ⟨(ad.add (k * 11)).block,(ad.add (k * 11)).off + 5,none⟩=some (.int .i64 l[k].mt.gid) ∧
      w.cell? ⟨(ad.add (k * 11)).block,(ad.add (k * 11)).off + 6,none⟩=some (.string (bs l[k].mt.user)) ∧
      w.cell? ⟨(ad.add (k * 11)).block,(ad.add (k * 11)).off + 7,none⟩=some (.string (bs l[k].mt.group)) ∧
      w.cell? ⟨(ad.add (k * 11)).block,(ad.add (k * 11)).off + 8,none⟩=some (.int .i64 l[k].mt.second) ∧
      w.cell? ⟨(ad.add (k * 11)).block,(ad.add (k * 11)).off + 9,none⟩=some (.int .i64 l[k].mt.nano) ∧
      w.cell? ⟨(ad.add (k * 11)).block,(ad.add (k * 11)).off + 10,none⟩=some (.slice Ax l[k].data.length cx):=by
  obtain ⟨A',c',h0,h1,h2,h3,h5,h6⟩:=h
  injection h1 with e1 e2 e3
  subst e1 e2 e3
  have hxl : xs.length=l.length:=by rw [← h0,List.length_map]
  have hkx : k < xs.length:=by omega
  obtain ⟨ad,e,hb,hc⟩:=h5.2 (by omega)
  have hxk : xs[k].1=l[k]:=by subst h0;simp
  have hd:=h6 xs[k] (List.getElem_mem _)
  obtain ⟨Ax,cx,hde,-⟩:=id hd
  rw [hxk] at hde
  have hxe : xs[k]=(l[k],.slice Ax l[k].data.length cx):=by rw [← hxk,Prod.mk.injEq];exact ⟨rfl,by rw [hxk];exact hde⟩
  rw [hxe] at hd
  have key : ∀ j,j < 11→w.cell? (ad.add (k * 11 + j))=(entV xs[k])[j]?:=fun j hj => by
    have h7 : (xs.flatMap entV)[k * 11 + j]?=(entV xs[k])[j]?:=by
      rw [flat_get entV_length xs k j hj,List.getElem?_eq_getElem hkx];rfl
    have hj2 : j < (entV xs[k]).length:=hj
    rw [List.getElem?_eq_getElem hj2] at h7 ⊢
    exact hc _ _ h7
  have hsp : ad.spot=none:=by
    have h0x : 0 < xs.length:=by omega
    have h7 : (xs.flatMap entV)[0 * 11 + 0]?=(entV xs[0])[0]?:=by
      rw [flat_get entV_length xs 0 0 (by omega),List.getElem?_eq_getElem h0x];rfl
    have h8 : w.cell? (ad.add (0 * 11 + 0))=some (.string (bs xs[0].1.path)):=hc _ _ h7
    have:=spot_of h8
    simpa [Addr.add] using this
  have stp : ∀ j,ad.add (k * 11 + (j + 1))=⟨(ad.add (k * 11)).block,(ad.add (k * 11)).off + (j + 1),none⟩:=fun j => by
    obtain ⟨g,o,sp⟩:=ad
    simp only at hsp
    subst hsp
    rw [add_flat,add_flat]
    simp only [Addr.mk.injEq,true_and,and_true]
    omega
  rw [hxe] at key
  refine ⟨ad,hkx,Ax,cx,e,hb,hxe,hd,key 0 (by omega),?_,?_,?_,?_,?_,?_,?_,?_,?_,?_⟩
  all_goals
    rw [← stp]
  · exact key 1 (by omega)
  · exact key 2 (by omega)
  · exact key 3 (by omega)
  · exact key 4 (by omega)
  · exact key 5 (by omega)
  · exact key 6 (by omega)
  · exact key 7 (by omega)
  · exact key 8 (by omega)
  · exact key 9 (by omega)
  · exact key 10 (by omega)
theorem check_nul {p : List UInt8} (h : checkS p=0) : (0 : UInt8) ∉ p:=by
  unfold checkS at h
  split at h
  · cases h
  · split at h
    · cases h
    · next h0 => exact h0
theorem plan_ok {t : List NodeP} (h : TreeOk t) : EntsOk (planP t):=by
  have hat : ∀ i (hi : i < (planP t).length),(planP t)[i]=entAt t i:=fun i hi => planP_at (by rw [planP_length] at hi;exact hi)
  have hpath : ∀ i (hi : i < t.length),(entAt t i).path=t[i].path:=fun i hi => by
    unfold entAt
    rw [getD_at hi]
    split <;> rfl
  refine ⟨by rw [planP_length];exact h.len,fun x hx => ?_,?_,fun i hi => ?_,fun i hi hk => ?_⟩
  · obtain ⟨i,hi,rfl⟩:=List.getElem_of_mem hx
    rw [hat i hi]
    rw [planP_length] at hi
    have hn:=h.node t[i] (List.getElem_mem _)
    unfold entAt
    rw [getD_at hi]
    split
    · next hlt =>
      obtain ⟨_,_,hsp⟩:=firstAt_spec hi
      obtain ⟨hfl,_,hs0⟩:=hsp (by omega)
      have hf:=h.node t[firstAt t i] (List.getElem_mem _)
      rw [getD_at hfl]
      have hne:=node_path_ne hf
      refine ⟨hn.path,hn.mt,.inr (.inr (.inr rfl)),⟨by show 0≤2000;omega,fun _ => rfl⟩,fun hk => ?_,⟨hf.path.2,fun _ => ⟨hne,check_nul hf.path.1⟩,fun _ => hf.path.1⟩⟩
      rcases hk with hk | hk
      · exact absurd hk (by show ¬ (4 : Int)=1;omega)
      · exact absurd hk (by show ¬ (4 : Int)=2;omega)
    · refine ⟨hn.path,hn.mt,?_,⟨hn.data.1,fun hk => hn.data.2 hk⟩,fun hk => hn.none ?_,⟨hn.target.1,fun hk => ?_,fun hk => ?_⟩⟩
      · rcases hn.kind with hk | hk | hk
        · exact .inl hk
        · exact .inr (.inl hk)
        · exact .inr (.inr (.inl hk))
      · have hk : t[i].kind=1∨t[i].kind=2:=hk
        omega
      · have hk : t[i].kind=3∨t[i].kind=4:=hk
        have:=hn.kind
        exact hn.target.2 (by omega)
      · have hk : t[i].kind=4:=hk
        have:=hn.kind
        omega
  · rw [List.pairwise_iff_getElem]
    intro i j hi hj hij
    rw [hat i hi,hat j hj]
    rw [planP_length] at hi hj
    rw [hpath i hi,hpath j hj]
    exact (List.pairwise_iff_getElem.1 h.sorted) i j hi hj hij
  · rw [hat i hi]
    rw [planP_length] at hi
    rw [hpath i hi]
    by_cases hu : upP t[i].path=[]
    · exact .inl hu
    · obtain ⟨j,hj,hji,e1,e2⟩:=h.ahead hi hu
      refine .inr ⟨j,hji,?_,?_⟩
      · rw [hat j (by rw [planP_length];exact hj),hpath j hj];exact e1
      · rw [hat j (by rw [planP_length];exact hj)]
        have hs:=(h.node t[j] (List.getElem_mem _)).same.2.2 (by omega)
        have hf : firstAt t j=j:=by unfold firstAt;rw [getD_at hj,if_pos hs]
        unfold entAt
        rw [if_neg (by omega),getD_at hj]
        exact e2
  · rw [hat i hi] at hk ⊢
    rw [planP_length] at hi
    have hn:=h.node t[i] (List.getElem_mem _)
    unfold entAt at hk ⊢
    rw [getD_at hi] at hk ⊢
    split at hk
    · next hlt =>
      rw [if_pos hlt]
      obtain ⟨_,hff,hsp⟩:=firstAt_spec hi
      obtain ⟨hfl,hsame,hs0⟩:=hsp (by omega)
      have hf:=h.node t[firstAt t i] (List.getElem_mem _)
      refine ⟨firstAt t i,hlt,?_,?_,?_⟩
      · rw [hat _ (by rw [planP_length];exact hfl),hpath _ hfl,getD_at hfl];rfl
      · rw [hat _ (by rw [planP_length];exact hfl)]
        unfold entAt
        rw [if_neg (by omega),getD_at hfl]
        have h1:=hf.same.2.2
        show t[firstAt t i].kind=1
        by_cases hk1 : t[firstAt t i].kind=1
        · exact hk1
        · exact absurd (h1 hk1) (by rw [hsame];exact hs0)
      · rw [hat _ (by rw [planP_length];exact hfl)]
        unfold entAt
        rw [if_neg (by omega),getD_at hfl]
        have:=h.alike t[firstAt t i] (List.getElem_mem _) t[i] (List.getElem_mem _) (by rw [hsame];exact hs0) hsame
        unfold alikeB at this
        rw [Bool.and_eq_true,decide_eq_true_eq] at this
        exact this.1
    · have hk : t[i].kind=4:=hk
      have:=hn.kind
      omega
end
section
open Go.RowKit
def PcNd (w : World) (xs : List EntV) (k g : Nat) (x : EntV) (W : World) : Prop:=PcSt w xs k W∧Blk W g 58 (entV x).toArray∧w.heap.size < g
theorem PcNd.below {w W W' : World} {xs : List EntV} {k g : Nat} {x : EntV} (h : PcNd w xs k g x W) (hb : Below W.heap.size W W') : PcNd w xs k g x W':=⟨h.1.below hb,h.2.1.below hb h.2.1.lt,h.2.2⟩
theorem xs_at {xs : List EntV} {l : List EntP} (h : xs.map (·.1)=l) {j : Nat} (hj : j < l.length) (hx : j < xs.length) : xs[j].1=l[j]:=by subst h;simp
theorem PcM.found_ {xs : List EntV} {l : List EntP} {k j : Nat} {M : List (List UInt8 × Value)} (h : PcM xs k M) (hx : xs.map (·.1)=l) (hok : EntsOk l) (hj : j < k) (hk : k≤l.length) (dv : Value) (hd : xs[j]'(by rw [← hx,List.length_map] at hk;omega)=(l[j]'(by omega),dv)) : smapGet M (l[j]'(by omega)).path=some (.agg (entC (l[j]'(by omega)) dv).toArray):=by
  have hxl : xs.length=l.length:=by rw [← hx,List.length_map]
  have h1:=h.found hj (by omega) (fun i hi e => by
    rw [xs_at hx (by omega) hi,xs_at hx (by omega) (by omega)] at e
    exact hok.nodup (by omega) (by omega) e)
  rw [hd] at h1
  exact h1
theorem PcM.next_ {xs : List EntV} {l : List EntP} {k : Nat} {M : List (List UInt8 × Value)} (h : PcM xs k M) (hx : xs.map (·.1)=l) (hok : EntsOk l) (hk : k < l.length) (dv : Value) (hd : xs[k]'(by rw [← hx,List.length_map] at hk;exact hk)=(l[k],dv)) : PcM xs (k + 1) (smapPut M l[k].path (.agg (entC l[k] dv).toArray)):=by
  have hxl : xs.length=l.length:=by rw [← hx,List.length_map]
  have h1:=h.next (by omega : k < xs.length) (fun j hj e => by
    rw [xs_at hx (by omega) (by omega),xs_at hx hk (by omega)] at e
    have:=hok.nodup (by omega) hk e
    omega)
  rw [hd] at h1
  exact h1
theorem PcM.got_ {xs : List EntV} {k : Nat} {M : List (List UInt8 × Value)} (h : PcM xs k M) (hd : ∀ x∈xs,∃ A c,x.2=.slice A x.1.data.length c) (p : List UInt8) : (∃ (f : EntP) (A : Option Addr) (c : Nat),smapGet M p=some (.agg (entC f (.slice A f.data.length c)).toArray))∨smapGet M p=none:=by
  rcases h.got p with ⟨⟨f,dv⟩,hx,e⟩ | e
  · obtain ⟨A,c,e2⟩:=hd _ hx
    simp only at e2
    subst e2
    exact .inl ⟨f,A,c,e⟩
  · exact .inr e
theorem field_kind (w : World) (a0 a1 a2 a3 a4 a5 a6 a7 a8 a9 a10 : Value) : (Instr.field 58 (.agg #[a0,a1,a2,a3,a4,a5,a6,a7,a8,a9,a10]) 1).run Tryz.prog w=.ok a1 w:=by kernel_rfl
set_option maxRecDepth 100000 in
set_option maxHeartbeats 16000000 in
theorem PCheck_ok (v : Value) (l : List EntP) (xs : List EntV) (w : World) (hm : ∀ W,Below w.heap.size w W→ML W) (hl : EntsAt w v l xs) (hok : EntsOk l) :
    Calls Tryz.prog 35 #[v] w fun e w' => e=.returned (.int .i64 0)∧Below w.heap.size w w':=by
  have HLA:=Lib.hid hl
  have HML:=Lib.hid hm
  have HOK:=Lib.hid hok
  have hlen:=hok.len
  obtain ⟨A,c,hx,rfl,hlc,hc,-,hdat⟩:=hl
  unfold maxLen at hc
  have HX:=Lib.hid hx
  have HDV : Hid (∀ x∈xs,∃ A c,x.2=.slice A x.1.data.length c):=Lib.hid (fun x hx => by obtain ⟨A,c,e,_⟩:=hdat x hx;exact ⟨A,c,e⟩)
  have H0 : Hid (PcSt w xs 0 (w.alloc (.map #[] 0))):=Lib.hid ⟨(Below.refl _ _).alloc (Nat.le_refl _) _,[],SMap.new w,PcM.start xs⟩
  clear hm hok hx hdat
  have hmm:=@run_makeMap Tryz.prog
  go_enter Tryz.func35,Tryz.ntmps35
  go_wp2_with fail
  clear hmm
  go_loopg [15] l.length (fun gg s15 wr => ∃ k : Nat,k≤l.length∧l.length - k≤gg∧s15=.int .i64 k∧Hid (PcSt w xs k wr))
  case atStart => exact ⟨0,Nat.zero_le _,by omega,rfl,H0⟩
  case round =>
    obtain ⟨k,hk,hg,rfl,HS⟩:=hrel
    by_cases hlt : k < l.length
    · have hltz : (k : Int) < (l.length : Int):=by omega
      obtain ⟨ad,hkx,Ad,cd,rfl,hb,hxe,hdx,e0,e1,e2,e3,e4,e5,e6,e7,e8,e9,e10⟩:=(HLA.out.below HS.out.1).read hlt
      have hox:=HOK.out.ent _ (List.getElem_mem hlt)
      have HUPX:=Lib.hid (HOK.out.up k hlt)
      have HLNK:=Lib.hid (HOK.out.link k hlt)
      have HNX:=Lib.hid (fun M (h : PcM xs k M) => h.next_ HX.out HOK.out hlt _ hxe)
      have HORD : Hid (∀ j (hj : j < k),cmpP (l[j]'(by omega)).path l[k].path < 0):=Lib.hid (fun j hj => (List.pairwise_iff_getElem.1 HOK.out.sorted) j k (by omega) hlt hj)
      have hpl:=hox.path.2
      have HRT:=Lib.hid (fun W hm => PRight_ok _ hox Ad cd W hm)
      obtain ⟨x,hxx⟩ : ∃ x,x=l[k]:=⟨_,rfl⟩
      rw [← hxx] at hdx hpl HUPX HLNK HNX HORD HRT e0 e1 e2 e3 e4 e5 e6 e7 e8 e9 e10
      have HDX:=Lib.hid hdx
      clear hxx hxe hdx hox
      obtain ⟨np,nk,nt,⟨o1,o2,o3,o4,o5,o6,o7⟩,nd⟩:=x
      simp only at hpl HUPX HLNK HNX HORD HRT e0 e1 e2 e3 e4 e5 e6 e7 e8 e9 e10
      have hsz:=HS.out.1.size
      have HSB : Hid (PcNd w xs k wr.heap.size (⟨np,nk,nt,⟨o1,o2,o3,o4,o5,o6,o7⟩,nd⟩,.slice Ad nd.length cd) (wr.alloc (.cells #[.string (bs np),.int .i64 nk,.string (bs nt),.int .i64 o1,.int .i64 o2,.int .i64 o3,.string (bs o4),.string (bs o5),.int .i64 o6,.int .i64 o7,.slice Ad nd.length cd] 58))):=Lib.hid ⟨HS.out.below ((Below.refl _ _).alloc (Nat.le_refl _) _),Blk.new wr _ _,by
        obtain ⟨_,M,hM,_⟩:=HS.out
        exact hM.lt⟩
      unfold entC at HRT HNX
      simp only at HRT HNX
      go_wp2_with fail
      refine (HRT.out _ (HML.out _ HSB.out.1.1)).mono ?_
      rintro e w1 ⟨rfl,hb1⟩
      have hS1:=Lib.hid (HSB.out.below hb1)
      clear hb1
      go_upto_region 10 with fail
      clear e0 e1 e2 e3 e4 e5 e6 e7 e8 e9 e10 HSB HRT
      obtain ⟨g5,hg5⟩ : ∃ g5,g5=wr.heap.size:=⟨_,rfl⟩
      rw [← hg5] at hS1 ⊢
      clear hg5
      go_cut [15,38] from 15 to 74 (fun s15 s38 wx => s15=.int .i64 k∧s38=.bool false∧Hid (PcNd w xs k g5 (⟨np,nk,nt,⟨o1,o2,o3,o4,o5,o6,o7⟩,nd⟩,.slice Ad nd.length cd) wx))
      case first =>
        by_cases hk0 : 0 < k
        · obtain ⟨m,rfl⟩ : ∃ m,k=m + 1:=⟨k - 1,by omega⟩
          obtain ⟨ad',-,Am,cm,had',-,-,-,p0,-⟩:=(HLA.out.below hS1.out.1.1).read (show m < l.length by omega)
          injection had' with had'
          subst had'
          have c0 : w1.cell? ⟨g5,0,none⟩=some (.string (bs np)):=hS1.out.2.1.cell 0
          have hpm:=(HOK.out.ent _ (List.getElem_mem (show m < l.length by omega))).path.2
          have hcm:=HORD.out m (by omega)
          have HCO:=Lib.hid (fun d os => Calls.regrown_of (w:=w1) (d:=d) (os:=os) (Compare_any (l[m]'(by omega)).path np _ (by omega) (by omega) (HML.out _ (hS1.out.1.1.trans ((below_regrown w1 d os).mono hS1.out.1.1.size)))))
          have f1:=fun d os => cell_regrown p0 d os
          have f0:=fun d os => cell_regrown c0 d os
          clear p0 c0 hpm hk0
          generalize cmpP (l[m]'(by omega)).path np=cc at *
          generalize bs (l[m]'(by omega)).path=bp at *
          have hw : IntKind.i64.wrap (m : Int)=m:=IntWalk.i64_in _ (by omega)
          have i1 : (m : Int) < l.length:=by omega
          have i2 : (0 : Int)≤m:=by omega
          have i3 : (0 : Int) < (m : Int) + 1:=by omega
          have i4 : decide (0≤cc)=false:=decide_eq_false (by omega)
          have i5 : ¬ 0≤cc:=by omega
          refine wp_region_quiet_below mixed_ok (by kernel_rfl) ?_
          repeat (first | go_big_quiet_step (exact HCO.out _ _) | quiet_step (exact HCO.out _ _))
          refine wpQuiet_nil ?_
          intro _ hw'
          obtain ⟨⟨dq,osq⟩,hw''⟩:=hw'
          subst hw''
          clear f0 f1 hw i1 i2 i3 i4 i5 hcm
          have HS4:=Lib.hid (hS1.out.below (below_regrown w1 dq osq))
          generalize Sort.grow (redrawn w1 dq) osq=w4 at *
          go_wp2_with fail
          go_meet
          case rel => exact ⟨by go_num,rfl,HS4⟩
        · obtain rfl : k=0:=by omega
          clear hk0
          refine wp_region_quiet_below mixed_ok (by kernel_rfl) ?_
          repeat (go_big_quiet_step (fail))
          refine wpQuiet_nil ?_
          intro _ hw'
          obtain ⟨⟨dq,osq⟩,hw''⟩:=hw'
          subst hw''
          have HS4:=Lib.hid (hS1.out.below (below_regrown w1 dq osq))
          generalize Sort.grow (redrawn w1 dq) osq=w4 at *
          go_wp2_with fail
          go_meet
          case rel => exact ⟨by go_num,rfl,HS4⟩
      case rest =>
        obtain ⟨rfl,rfl,HS2⟩:=hcut
        clear hS1
        have c0 : wc.cell? ⟨g5,0,none⟩=some (.string (bs np)):=HS2.out.2.1.cell 0
        have HUP:=Lib.hid (fun W => Up_any np (by omega) W)
        have hul:=upP_length np
        go_upto_region 13 with (go_at_call 71;(with_reducible refine (HUP.out _).mono ?_);rintro e w' ⟨rfl,rfl⟩)
        clear c0
        go_cut [15,50] from 15 to 74 (fun s15 s50 wx => s15=.int .i64 k∧s50=.bool false∧Hid (PcNd w xs k g5 (⟨np,nk,nt,⟨o1,o2,o3,o4,o5,o6,o7⟩,nd⟩,.slice Ad nd.length cd) wx))
        case first =>
          by_cases hu : upP np=[]
          · have t1 : (bs (upP np)).toList=[]:=by rw [bs_toList];exact hu
            have t2 : (bs (upP np)).toList.isEmpty=true:=by rw [t1];rfl
            clear hu
            go_wp2_with fail
            go_meet
            case rel => exact ⟨rfl,rfl,HS2⟩
          · have t1 : ¬ (bs (upP np)).toList=[]:=by rw [bs_toList];exact hu
            have t2 : (bs (upP np)).toList.isEmpty=false:=by rw [bs_toList];exact List.isEmpty_eq_false_iff.2 hu
            obtain ⟨hB,M,hM,hPM⟩:=HS2.out.1
            obtain ⟨j,hj,hjp,hjk⟩:=HUPX.out.resolve_left hu
            obtain ⟨ad',hjx,Aj,cj,-,-,hxj,-⟩:=(HLA.out.below hB).read (show j < l.length by omega)
            have hfd:=hPM.found_ HX.out HOK.out hj (by omega) _ hxj
            rw [hjp] at hfd
            have hlk:=hM.get (P:=Tryz.prog) (t:=146) Tryz.underlying146 Tryz.underlying9 (zeroE wc) (upP np)
            rw [hfd,Option.getD_some] at hlk
            clear hxj hfd hB hM hPM hu hjp hjx
            generalize (l[j]'(by omega))=y at *
            obtain ⟨fp,fk,ft,⟨p1,p2,p3,p4,p5,p6,p7⟩,fd⟩:=y
            simp only at hjk
            subst hjk
            unfold entC at hlk
            simp only at hlk
            have hfk:=fun (w : World) a0 a1 a2 a3 a4 a5 a6 a7 a8 a9 a10 => field_kind w a0 a1 a2 a3 a4 a5 a6 a7 a8 a9 a10
            go_wp2_with fail
            go_meet
            case rel => exact ⟨rfl,rfl,HS2⟩
        case rest =>
          obtain ⟨rfl,rfl,HS3⟩:=hcut
          clear HS2
          obtain ⟨wd,hwd⟩ : ∃ wd,wd=wc:=⟨_,rfl⟩
          rw [← hwd] at HS3 ⊢
          clear hwd
          obtain ⟨hB,M,hM,hPM⟩:=HS3.out.1
          have hlk:=hM.get (P:=Tryz.prog) (t:=146) Tryz.underlying146 Tryz.underlying9 (zeroE wd) nt
          by_cases h4 : nk=4
          · subst h4
            obtain ⟨j,hj,hjp,hjk,hjm⟩:=HLNK.out rfl
            obtain ⟨ad',hjx,Af,cf,-,-,hxj,-⟩:=(HLA.out.below hB).read (show j < l.length by omega)
            have hfd:=hPM.found_ HX.out HOK.out hj (by omega) _ hxj
            rw [hjp] at hfd
            rw [hfd,Option.getD_some] at hlk
            clear hxj hfd hjp hjx
            generalize (l[j]'(by omega))=y at *
            obtain ⟨fp,fk,ft,fm,fd⟩:=y
            simp only at hjk hjm
            subst hjk hjm
            unfold entC at hlk
            simp only at hlk
            have HB4:=Lib.hid ((Below.refl wd.heap.size wd).alloc (Nat.le_refl _) (.cells #[.string (bs fp),.int .i64 1,.string (bs ft),.int .i64 o1,.int .i64 o2,.int .i64 o3,.string (bs o4),.string (bs o5),.int .i64 o6,.int .i64 o7,.slice Af fd.length cf] 58))
            have HM4:=Lib.hid (hM.below HB4.out)
            have HK4:=Lib.hid (HS3.out.2.1.below HB4.out HS3.out.2.1.lt)
            have HBB:=Lib.hid (hB.trans (HB4.out.mono hB.size))
            have HNM:=Lib.hid (HNX.out M hPM)
            have hg5l:=HS3.out.2.2
            have hg5s : g5 < wd.heap.size:=HS3.out.2.1.lt
            have hml : w.heap.size < wd.heap.size:=hM.lt
            obtain ⟨c0,c1,c2,c3,c4,c5,c6,c7,c8,c9,c10⟩:=HS3.out.2.1.ent
            simp only at c0 c1 c2 c3 c4 c5 c6 c7 c8 c9 c10
            clear hB hM hPM
            go_wp2_with (with_reducible refine wpList_put_sm _ rfl (.tmp 70) (.tmp 72) (.tmp 73) 146 rfl _ _ Tryz.underlying146 Tryz.underlying9 w.heap.size M rfl HM4.out np _ rfl rfl ?_;intro w7 hM7 hg7;have HM7:=Lib.hid hM7;have HG7:=Lib.hid hg7;clear hM7 hg7)
            go_roundg (l.length - (k + 1))
            case measure => omega
            case rel => exact ⟨k + 1,by omega,by omega,by go_num,Lib.hid ⟨HBB.out.grown HG7.out HBB.out.size (fun g hg => by cases hg;omega),_,HM7.out,HNM.out⟩⟩
          · have q4 : (nk == 4)=false:=by simp [h4]
            clear h4
            rcases hPM.got_ HDV.out nt with ⟨f,Af,cf,hf⟩ | hf
            · rw [hf,Option.getD_some] at hlk
              clear hf
              obtain ⟨fp,fk,ft,⟨p1,p2,p3,p4,p5,p6,p7⟩,fd⟩:=f
              unfold entC at hlk
              simp only at hlk
              have HB4:=Lib.hid ((Below.refl wd.heap.size wd).alloc (Nat.le_refl _) (.cells #[.string (bs fp),.int .i64 fk,.string (bs ft),.int .i64 p1,.int .i64 p2,.int .i64 p3,.string (bs p4),.string (bs p5),.int .i64 p6,.int .i64 p7,.slice Af fd.length cf] 58))
              have HM4:=Lib.hid (hM.below HB4.out)
              have HK4:=Lib.hid (HS3.out.2.1.below HB4.out HS3.out.2.1.lt)
              have HBB:=Lib.hid (hB.trans (HB4.out.mono hB.size))
              have HNM:=Lib.hid (HNX.out M hPM)
              have hg5l:=HS3.out.2.2
              have hg5s : g5 < wd.heap.size:=HS3.out.2.1.lt
              have hml : w.heap.size < wd.heap.size:=hM.lt
              obtain ⟨c0,c1,c2,c3,c4,c5,c6,c7,c8,c9,c10⟩:=HS3.out.2.1.ent
              simp only at c0 c1 c2 c3 c4 c5 c6 c7 c8 c9 c10
              clear hB hM hPM
              go_wp2_with (with_reducible refine wpList_put_sm _ rfl (.tmp 70) (.tmp 72) (.tmp 73) 146 rfl _ _ Tryz.underlying146 Tryz.underlying9 w.heap.size M rfl HM4.out np _ rfl rfl ?_;intro w7 hM7 hg7;have HM7:=Lib.hid hM7;have HG7:=Lib.hid hg7;clear hM7 hg7)
              go_roundg (l.length - (k + 1))
              case measure => omega
              case rel => exact ⟨k + 1,by omega,by omega,by go_num,Lib.hid ⟨HBB.out.grown HG7.out HBB.out.size (fun g hg => by cases hg;omega),_,HM7.out,HNM.out⟩⟩
            · rw [hf,Option.getD_none] at hlk
              clear hf
              have HB4:=Lib.hid ((Below.refl wd.heap.size wd).alloc (Nat.le_refl _) (.cells #[.string ⟨#[]⟩,.int .i64 0,.string ⟨#[]⟩,.int .i64 0,.int .i64 0,.int .i64 0,.string ⟨#[]⟩,.string ⟨#[]⟩,.int .i64 0,.int .i64 0,.slice none 0 0] 58))
              have HM4:=Lib.hid (hM.below HB4.out)
              have HK4:=Lib.hid (HS3.out.2.1.below HB4.out HS3.out.2.1.lt)
              have HBB:=Lib.hid (hB.trans (HB4.out.mono hB.size))
              have HNM:=Lib.hid (HNX.out M hPM)
              have hg5l:=HS3.out.2.2
              have hg5s : g5 < wd.heap.size:=HS3.out.2.1.lt
              have hml : w.heap.size < wd.heap.size:=hM.lt
              obtain ⟨c0,c1,c2,c3,c4,c5,c6,c7,c8,c9,c10⟩:=HS3.out.2.1.ent
              simp only at c0 c1 c2 c3 c4 c5 c6 c7 c8 c9 c10
              clear hB hM hPM
              go_wp2_with (with_reducible refine wpList_put_sm _ rfl (.tmp 70) (.tmp 72) (.tmp 73) 146 rfl _ _ Tryz.underlying146 Tryz.underlying9 w.heap.size M rfl HM4.out np _ rfl rfl ?_;intro w7 hM7 hg7;have HM7:=Lib.hid hM7;have HG7:=Lib.hid hg7;clear hM7 hg7)
              go_roundg (l.length - (k + 1))
              case measure => omega
              case rel => exact ⟨k + 1,by omega,by omega,by go_num,Lib.hid ⟨HBB.out.grown HG7.out HBB.out.size (fun g hg => by cases hg;omega),_,HM7.out,HNM.out⟩⟩
    · obtain rfl : k=l.length:=by omega
      go_wp2_with fail
      go_ret
      exact ⟨rfl,HS.out.1⟩
end
end
end Go.Proofs.YtphmhmdcaafmdaaGreatDoor
