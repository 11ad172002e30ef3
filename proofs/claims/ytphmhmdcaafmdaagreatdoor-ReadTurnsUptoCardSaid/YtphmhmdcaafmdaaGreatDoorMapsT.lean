import Derived.Deep.RegionHeld
import Derived.Below
import Derived.Test.YtphmhmdcaafmdaaGreatDoorWords
import Derived.Maps.OwnOps
namespace Go.Proofs.YtphmhmdcaafmdaaGreatDoor
set_option linter.all false
section
open Go.RowKit
section
variable {P : Program} {ops : Array Oper} {Q : Exit→Act→World→Prop} {md : Region.Mode} {S : World→Prop}
def Brings (P : Program) (ops : Array Oper) (S : World→Prop) (o : Oper) (v : Value) (a : Act) : Prop :=
  (Region.wanted o (yielded ops a.tmps)=true∧∀ w,S w→((execOp a.eval o).run P w=.ok (.value v) w∨∃ f args,(execOp a.eval o).run P w=.ok (.enter f args) w∧Calls P f args w fun e w' => e=.returned v∧S w'∧Below w.heap.size w w')) ∨
  (Region.wanted o (yielded ops a.tmps)=false∧v=undef)
theorem Brings.of_same {o : Oper} {v : Value} {a a' : Act} (hy : Brings P ops S o v a) (he : execOp a'.eval o=execOp a.eval o) (hw : Region.wanted o (yielded ops a'.tmps)=Region.wanted o (yielded ops a.tmps)) : Brings P ops S o v a':=by
  unfold Brings at *
  rw [he,hw]
  exact hy
theorem Brings.wpOp {i : Nat} {o : Oper} {v : Value} {a : Act} (hi : ops[i]?=some o) (hy : Brings P ops S o v a) {K : Act→World→Prop} {w : World} (hS : S w)
    (h : ∀ w',Below w.heap.size w w'→S w'→K (a.put o.dst v) w') : wpOp P ops Q i K a w:=by
  unfold Go.wpOp
  simp only [hi]
  rcases hy with ⟨hw,hv⟩ | ⟨hw,rfl⟩
  · simp only [hw,if_true]
    left
    unfold Oper.wp
    rcases hv w hS with h1 | ⟨f,args,h1,h2⟩
    · rw [h1];exact h w (Below.refl _ _) hS
    · rw [h1,Oper.upon_enter]
      refine Calls.mono h2 fun e w' ⟨he,hs,hb⟩ => ?_
      subst he
      exact h w' hb hs
  · simp only [hw,Bool.false_eq_true,if_false]
    exact h w (Below.refl _ _) hS
theorem wpOp_shape {j : Nat} {oj : Oper} (hj : ops[j]?=some oj) {K : Act→World→Prop} {a : Act} {w : World} (h : wpOp P ops Q j K a w) :
    wpOp P ops Q j (fun a' w' => (∃ u,a'=a.put oj.dst u∨∃ d,a'={ a with defers:=d :: a.defers }.put oj.dst u)∧K a' w') a w:=by
  unfold wpOp at *
  simp only [hj] at *
  split
  · rename_i hw
    simp only [hw,if_true] at h
    rcases h with h | h
    case inr => exact .inr h
    left
    unfold Oper.wp at *
    generalize (execOp a.eval oj).run P w=r at *
    cases r with
    | ok n w' =>
      cases n <;> simp only [Oper.upon] at h ⊢
      case value u => exact ⟨⟨u,.inl rfl⟩,h⟩
      case skip => exact ⟨⟨undef,.inl rfl⟩,h⟩
      case defer d => exact ⟨⟨undef,.inr ⟨d,rfl⟩⟩,h⟩
      case enter f args =>
        refine Calls.mono h fun e w'' he => ?_
        cases e with
        | returned u => exact ⟨⟨u,.inl rfl⟩,he⟩
        | panicked c => exact he
        | outgrown => exact he
      case row row args => exact Rows.mono h fun u w'' he => ⟨⟨u,.inl rfl⟩,he⟩
    | halt x w' =>
      cases x <;> simp only [Oper.upon] at h ⊢
      case panic u => exact h
  · rename_i hw
    simp only [hw] at h
    exact ⟨⟨undef,.inl rfl⟩,h⟩
def wpG (P : Program) (md : Region.Mode) (ops : Array Oper) (Q : Exit→Act→World→Prop) (S : World→Prop) : Nat→Array Bool→Act→World→Prop
  | 0,listed,a,w => Region.ready md ops listed=[]∧∀ w',Below w.heap.size w w'→S w'→Q .normal a w'
  | fuel + 1,listed,a,w => ∀ w',Below w.heap.size w w'→S w' →
    ((Region.ready md ops listed=[]→Q .normal a w') ∧
    ∀ i∈Region.ready md ops listed,wpOp P ops Q i (fun a' w'' => S w''∧wpG P md ops Q S fuel (listed.setIfInBounds i true) a' w'') a w')
theorem wpG_grow {w w' : World} (hb : Below w.heap.size w w') : ∀ {fuel : Nat} {listed : Array Bool} {a : Act},wpG P md ops Q S fuel listed a w→wpG P md ops Q S fuel listed a w'
  | 0,_,_,h => ⟨h.1,fun w2 hb2 => h.2 w2 (hb.trans (hb2.mono hb.size))⟩
  | _ + 1,_,_,h => fun w2 hb2 => h w2 (hb.trans (hb2.mono hb.size))
theorem wpAny_of_G : ∀ (fuel : Nat) (listed : Array Bool) (a : Act) (w : World),S w→wpG P md ops Q S fuel listed a w→wpAny P md ops Q fuel listed a w
  | 0,_,_,w,hS,h => ⟨h.1,h.2 w (Below.refl _ _) hS⟩
  | fuel + 1,_,_,w,hS,h =>
    have h:=h w (Below.refl _ _) hS
    ⟨h.1,fun i hi => wpOp_mono (fun a' w' h' => wpAny_of_G fuel _ a' w' h'.1 h'.2) (h.2 i hi)⟩
theorem wpG_first {i : Nat} {oi : Oper} {v : Value} (hi : ops[i]?=some oi) (hsel : ∀ (j : Nat) (o : Oper) cs b,ops[j]?=some o→o.op≠.select cs b)
    (hQ : ∀ c a w,Q (.panic c) (a.put oi.dst v) w→Q (.panic c) a w) :
    ∀ (fuel : Nat) (listed : Array Bool) (a : Act) (w : World),
      (∀ j oj,ops[j]?=some oj→j≠i→listed.getD j true=false→(∀ e∈oj.after,Region.binds md e=true→e.on≠i)→oi.apart ops oj=true) →
      i∈Region.ready md ops listed→Brings P ops S oi v a →
      wpG P md ops Q S fuel (listed.setIfInBounds i true) (a.put oi.dst v) w→wpG P md ops Q S (fuel + 1) listed a w:=by
  intro fuel
  induction fuel with
  | zero =>
    intro listed a w _ hr hy H w' hb hS
    refine ⟨fun h => (by rw [h] at hr;cases hr),fun j hj => ?_⟩
    by_cases hji : j=i
    · subst hji
      exact hy.wpOp hi hS fun w2 hb2 hS2 => ⟨hS2,wpG_grow (hb.trans (hb2.mono hb.size)) H⟩
    · have:=ready_mono hj hji
      rw [H.1] at this
      cases this
  | succ fuel ih =>
    intro listed a w hfree hr hy H w' hb hS
    refine ⟨fun h => (by rw [h] at hr;cases hr),fun j hj => ?_⟩
    by_cases hji : j=i
    · subst hji
      exact hy.wpOp hi hS fun w2 hb2 hS2 => ⟨hS2,wpG_grow (hb.trans (hb2.mono hb.size)) H⟩
    · have h1:=(H w' hb hS).2 j (ready_mono hj hji)
      obtain ⟨hjun,oj,hoj,hall⟩:=mem_ready.1 hj
      have hnot : ∀ e∈oj.after,Region.binds md e=true→e.on≠i:=fun e he hbd heq => by
        have h2:=hall e he hbd
        have h0:=(mem_ready.1 hr).1
        rw [heq] at h2
        rcases Nat.lt_or_ge i listed.size with h' | h'
        · simp [h'] at h0 h2;rw [h0] at h2;cases h2
        · simp [Array.getElem?_eq_none h'] at h2
      have hap:=hfree j oj hoj hji hjun hnot
      have hyF : YieldsIf P ops (fun _ => False) oi v a:=hy.imp (fun ⟨x,_⟩ => ⟨x,fun _ h => h.elim⟩) id
      have h2:=wpOp_shape hoj (wpOp_putIf hoj hap (fun cs b => hsel i oi cs b hi) (fun cs b => hsel j oj cs b hoj) hQ hyF h1)
      have hfree' : ∀ k ok,ops[k]?=some ok→k≠i→(listed.setIfInBounds j true).getD k true=false →
          (∀ e∈ok.after,Region.binds md e=true→e.on≠i)→oi.apart ops ok=true:=fun k ok hk hki hun hno => by
        refine hfree k ok hk hki ?_ hno
        by_cases hjk : j=k
        · subst hjk;exact hjun
        · rw [getD_set_ne true hjk] at hun;exact hun
      obtain ⟨_,_,h3⟩:=Oper.apart_spec hap
      refine wpOp_mono (fun a' w'' ⟨⟨u,hu⟩,_,hS2,h4⟩ => ⟨hS2,ih (listed.setIfInBounds j true) a' w'' hfree' (ready_mono hr (Ne.symm hji)) ?_ ?_⟩) h2
      · rcases hu with rfl | ⟨d,rfl⟩
        · exact hy.of_same (execOp_put oi (fun cs b => hsel i oi cs b hi) a oj.dst u h3) (wanted_put oi a oj.dst u h3)
        · exact (hy.of_same (a':={ a with defers:=d :: a.defers }) rfl rfl).of_same (execOp_put oi (fun cs b => hsel i oi cs b hi) _ oj.dst u h3) (wanted_put oi _ oj.dst u h3)
      · rw [Array.setIfInBounds_comm _ _ hji]
        exact h4
theorem wpG_take {i : Nat} {oi : Oper} {v : Value} {fuel : Nat} {listed : Array Bool} {a : Act} {w : World} (hi : ops[i]?=some oi)
    (hs : Region.noSelect ops=true) (hf : Region.free md ops listed i=true) (hr : (Region.ready md ops listed).contains i=true)
    (hQ : ∀ c a w,Q (.panic c) (a.put oi.dst v) w→Q (.panic c) a w) (hy : Brings P ops S oi v a)
    (h : wpG P md ops Q S fuel (listed.setIfInBounds i true) (a.put oi.dst v) w) : wpG P md ops Q S (fuel + 1) listed a w :=
  wpG_first hi (Region.noSelect_spec hs) hQ fuel listed a w (Region.free_spec hi hf) (by simpa using hr) hy h
theorem wpG_one {i : Nat} {o : Oper} {fuel : Nat} {listed : Array Bool} {a : Act} {w : World} (hr : Region.ready md ops listed=[i]) (ho : ops[i]?=some o)
    (h : ∀ w',Below w.heap.size w w'→S w'→∀ K' : Act→World→Prop,Shut (∀ a w,S w→wpG P md ops Q S fuel (listed.setIfInBounds i true) a w→K' a w)→if Region.wanted o (yielded ops a.tmps)=true then Oper.wp P o a w' K' Q else K' (a.put o.dst undef) w') : wpG P md ops Q S (fuel + 1) listed a w:=by
  intro w' hb hS
  refine ⟨fun h0 => absurd (hr ▸ h0) (by simp),fun j hj => ?_⟩
  rw [hr] at hj
  obtain rfl : j=i:=by simpa using hj
  exact wpOp_step ho (fun K' hK => h w' hb hS K' (fun a w hS hW => hK a w ⟨hS,hW⟩))
theorem wpG_done {listed : Array Bool} {a : Act} {w : World} (hr : Region.ready md ops listed=[]) (h : ∀ w',Below w.heap.size w w'→S w'→Q .normal a w') : ∀ fuel,wpG P md ops Q S fuel listed a w
  | 0 => ⟨hr,h⟩
  | _ + 1 => fun w' hb hS => ⟨fun _ => h w' hb hS,by rw [hr];simp⟩
theorem wp_region_G {id : Nat} {a : Act} {w : World} (hm : P.follows .mixedOrders=true) (hS : S w.drew)
    (h : wpG P .any ops Q S ops.size (Array.replicate ops.size false) a w.drew) : (Code.region id ops true).wp P Q a w :=
  wp_region_any hm (wpAny_of_G _ _ _ _ hS h)
end
end
section
open Go.RowKit Go.ChangeMaps Go.MapKept
def mapGet (M : List (Int × Value)) (s : Int) : Option Value:=(M.find? (fun p => p.1 == s)).map (·.2)
def mapPut : List (Int × Value)→Int→Value→List (Int × Value)
  | [],s,v => [(s,v)]
  | p :: r,s,v => if p.1=s then (s,v) :: r else p :: mapPut r s v
theorem mapGet_put (M : List (Int × Value)) (s : Int) (v : Value) (t : Int) : mapGet (mapPut M s v) t=if t=s then some v else mapGet M t:=by
  induction M with
  | nil =>
    unfold mapPut mapGet
    by_cases h : t=s
    · subst h;simp
    · rw [if_neg h]
      have : (s == t)=false:=by simp;exact fun e => h e.symm
      simp [this]
  | cons p r ih =>
    unfold mapPut
    by_cases hp : p.1=s
    · rw [if_pos hp]
      unfold mapGet
      by_cases h : t=s
      · subst h;simp
      · rw [if_neg h]
        have e1 : (s == t)=false:=by simp;exact fun e => h e.symm
        have e2 : (p.1 == t)=false:=by rw [hp];exact e1
        simp [e1,e2]
    · rw [if_neg hp]
      unfold mapGet at ih ⊢
      by_cases h : p.1=t
      · have : ¬ t=s:=fun e => hp (h.trans e)
        simp [h,this]
      · have e2 : (p.1 == t)=false:=by simp;exact h
        simp only [List.find?_cons,e2]
        exact ih
def IMap (w : World) (b : Nat) (M : List (Int × Value)) : Prop :=
  ∃ (es : Array MapEntry) (clock : Nat),w.heap[b]?=some (.map es clock)∧es.toList.map (fun e => (e.key,e.val))=M.map (fun p => (Value.int .i64 p.1,p.2))
section
variable {w w' : World} {b : Nat} {M : List (Int × Value)}
theorem IMap.lt (h : IMap w b M) : b < w.heap.size:=by
  obtain ⟨es,clock,hb,_⟩:=h
  exact (Array.getElem?_eq_some_iff.1 hb).1
theorem IMap.new (w : World) : IMap (w.alloc (.map #[] 0)) w.heap.size []:=⟨#[],0,(MapKept.heap_alloc w _).1,rfl⟩
theorem IMap.below (h : IMap w b M) (hb : Below w.heap.size w w') : IMap w' b M:=by
  have hl:=h.lt
  obtain ⟨es,clock,h1,h2⟩:=h
  exact ⟨es,clock,(hb.block b hl).trans h1,h2⟩
theorem IMap.grown {row : Option Nat} (h : IMap w b M) (hg : w.grownBy w' row) (hne : some b≠row) : IMap w' b M:=by
  have hl:=h.lt
  obtain ⟨es,clock,h1,h2⟩:=h
  exact ⟨es,clock,(hg.block b hl hne).trans h1,h2⟩
theorem findNow_int (s : Int) : ∀ (es : List MapEntry) (M : List (Int × Value)) (i : Nat),es.map (fun e => (e.key,e.val))=M.map (fun p => (Value.int .i64 p.1,p.2)) →
    (Instr.findNow (.int .i64) (.int .i64 s) es i=some none∧mapGet M s=none∧∀ v,mapPut M s v=M ++ [(s,v)]) ∨
    ∃ j v e,Instr.findNow (.int .i64) (.int .i64 s) es i=some (some (i + j,v))∧mapGet M s=some v∧es[j]?=some e∧e.key=.int .i64 s ∧
      ∀ u,(es.modify j fun e => { e with key:=.int .i64 s,val:=u }).map (fun e => (e.key,e.val))=(mapPut M s u).map (fun p => (Value.int .i64 p.1,p.2))
  | [],M,i,h => by
    obtain rfl : M=[]:=by cases M with | nil => rfl | cons => simp at h
    exact .inl ⟨rfl,rfl,fun _ => rfl⟩
  | e :: es,M,i,h => by
    match M,h with
    | [],h => simp at h
    | p :: M,h =>
      simp only [List.map_cons,List.cons.injEq,Prod.mk.injEq] at h
      obtain ⟨⟨h1,h2⟩,h3⟩:=h
      by_cases hp : p.1=s
      · refine .inr ⟨0,p.2,e,?_,?_,rfl,by rw [h1,hp],fun u => ?_⟩
        · simp [Instr.findNow,Instr.sameNow,h1,hp,h2]
        · simp [mapGet,hp]
        · simp [mapPut,hp,h3]
      · have hs : Instr.sameNow (.int .i64) (.int .i64 s) e.key=some false:=by
          rw [h1];simp [Instr.sameNow];exact fun e => hp e.symm
        have hb : (p.1 == s)=false:=by simp [hp]
        rcases findNow_int s es M (i + 1) h3 with ⟨a1,a2,a3⟩ | ⟨j,v,e',a1,a2,a3,a4,a5⟩
        · refine .inl ⟨by simp [Instr.findNow,hs,a1],?_,fun v => ?_⟩
          · simp only [mapGet,List.find?_cons,hb];exact a2
          · rw [mapPut,if_neg hp,a3];rfl
        · refine .inr ⟨j + 1,v,e',?_,?_,by simpa using a3,a4,fun u => ?_⟩
          · simp [Instr.findNow,hs,a1];omega
          · simp only [mapGet,List.find?_cons,hb];exact a2
          · rw [mapPut,if_neg hp]
            simp only [List.modify_succ_cons,List.map_cons,h1,h2]
            rw [a5 u]
variable {P : Program} {t k e : TypeId}
theorem IMap.look (h : IMap w b M) (ht : P.underlying t=some (.map k e)) (hk : P.underlying k=some (.int .i64)) {z : Value} (hz : (zeroValue e).run P w=.ok z w) (s : Int) :
    (Instr.lookup t (.map (some b)) (.int .i64 s) true).run P w=.ok (.tuple #[(mapGet M s).getD z,.bool (mapGet M s).isSome]) w:=by
  obtain ⟨es,clock,hb,hM⟩:=h
  have hck : ∀ em,(Instr.checkKey em (9999 + 1) k (.int .i64 s)).run P w=.ok () w:=fun em => MapKept.run_checkKey hk (by simp [MapKept.IsKey]) em 9999
  unfold Instr.lookup
  rcases findNow_int s es.toList M 0 hM with ⟨a1,a2,_⟩ | ⟨j,v,e',a1,a2,_⟩
  · have hf:=MapKept.run_findKey (w:=w) hk a1
    simp [run_underlying ht,Result.andThen,MapKept.run_getObj_map hb,hck,hf,hz,a2]
  · have hf:=MapKept.run_findKey (w:=w) hk a1
    simp [run_underlying ht,Result.andThen,MapKept.run_getObj_map hb,hck,hf,a2]
theorem IMap.get (h : IMap w b M) (ht : P.underlying t=some (.map k e)) (hk : P.underlying k=some (.int .i64)) {z : Value} (hz : (zeroValue e).run P w=.ok z w) (s : Int) :
    (Instr.lookup t (.map (some b)) (.int .i64 s) false).run P w=.ok ((mapGet M s).getD z) w:=by
  obtain ⟨es,clock,hb,hM⟩:=h
  have hck : ∀ em,(Instr.checkKey em (9999 + 1) k (.int .i64 s)).run P w=.ok () w:=fun em => MapKept.run_checkKey hk (by simp [MapKept.IsKey]) em 9999
  unfold Instr.lookup
  rcases findNow_int s es.toList M 0 hM with ⟨a1,a2,_⟩ | ⟨j,v,e',a1,a2,_⟩
  · have hf:=MapKept.run_findKey (w:=w) hk a1
    simp [run_underlying ht,Result.andThen,MapKept.run_getObj_map hb,hck,hf,hz,a2]
  · have hf:=MapKept.run_findKey (w:=w) hk a1
    simp [run_underlying ht,Result.andThen,MapKept.run_getObj_map hb,hck,hf,a2]
theorem IMap.put (h : IMap w b M) (ht : P.underlying t=some (.map k e)) (hk : P.underlying k=some (.int .i64)) (s : Int) (u : Value) :
    ∃ w',(Instr.mapUpdate t (.map (some b)) (.int .i64 s) u).run P w=.ok () w'∧IMap w' b (mapPut M s u)∧w.grownBy w' (some b):=by
  obtain ⟨es,clock,hb,hM⟩:=h
  have hck : ∀ em,(Instr.checkKey em (9999 + 1) k (.int .i64 s)).run P w=.ok () w:=fun em => MapKept.run_checkKey hk (by simp [MapKept.IsKey]) em 9999
  have grow : ∀ o,w.grownBy (setBlock w b o) (some b):=fun o => ⟨rfl,rfl,rfl,by simp [setBlock],fun i _ hi => heap_setBlock_other hb _ (fun e => hi (by rw [e]))⟩
  rcases findNow_int s es.toList M 0 hM with ⟨a1,a2,a3⟩ | ⟨j,v,e',a1,a2,a3,a4,a5⟩
  · have hf:=MapKept.run_findKey (w:=w) hk a1
    refine ⟨setBlock w b (.map (es.push { key:=.int .i64 s,val:=u,born:=clock }) (clock + 1)),?_,⟨_,_,heap_setBlock_same hb _,?_⟩,grow _⟩
    · unfold Instr.mapUpdate
      simp [run_underlying ht,Result.andThen,MapKept.run_getObj_map hb,hck,hf,MapKept.run_setObj_map _ hb,setBlock]
    · rw [a3];simp [hM]
  · have hf:=MapKept.run_findKey (w:=w) hk a1
    rw [Nat.zero_add] at hf
    have hkt : (Instr.keyThatStays (((es[j]?).map (·.key)).getD (.int .i64 s)) (.int .i64 s)).run P w=.ok (.int .i64 s) w:=by
      have : es[j]?=some e':=by simpa using a3
      rw [this]
      simp [Instr.keyThatStays,a4,Instr.sameBits]
    refine ⟨setBlock w b (.map (es.modify j fun e => { e with key:=.int .i64 s,val:=u }) clock),?_,⟨_,_,heap_setBlock_same hb _,?_⟩,grow _⟩
    · unfold Instr.mapUpdate
      simp only [Sem.run_bind,run_underlying ht,Result.andThen_ok,MapKept.run_getObj_map hb,hck,hf,hkt,MapKept.run_setObj_map _ hb,setBlock]
    · rw [← a5 u];simp
end
theorem wp_put_im {P : Program} {w : World} {o : Oper} {a : Act} {K : Act→World→Prop} {Q : Exit→Act→World→Prop} (m x v : Operand) (t : TypeId) (hop : o.op=Op.mapUpdate t m x v)
    (k e : TypeId) (ht : P.underlying t=some (.map k e)) (hk : P.underlying k=some (.int .i64)) (b : Nat) (M : List (Int × Value)) (hm : a.eval m=.map (some b)) (hown : IMap w b M) (s : Int) (u : Value) (hx : a.eval x=.int .i64 s) (hv : a.eval v=u)
    (hK : ∀ w',IMap w' b (mapPut M s u)→w.grownBy w' (some b)→K (a.put o.dst undef) w') : o.wp P a w K Q:=by
  obtain ⟨w',hrun,r1,r2⟩:=hown.put ht hk s u
  unfold Oper.wp
  simp [execOp,hop,hm,hx,hv,hrun,Result.andThen]
  exact hK w' r1 r2
theorem wpList_put_im {P : Program} (w : World) {ops : Array Oper} {rest : List Oper} {o : Oper} {a : Act} {Q : Exit→Act→World→Prop} (hg : o.guard=none) (m x v : Operand) (t : TypeId) (hop : o.op=Op.mapUpdate t m x v)
    (k e : TypeId) (ht : P.underlying t=some (.map k e)) (hk : P.underlying k=some (.int .i64)) (b : Nat) (M : List (Int × Value)) (hm : a.eval m=.map (some b)) (hown : IMap w b M) (s : Int) (u : Value) (hx : a.eval x=.int .i64 s) (hv : a.eval v=u)
    (hK : ∀ w',IMap w' b (mapPut M s u)→w.grownBy w' (some b)→wpList P ops Q rest (a.put o.dst undef) w') : wpList P ops Q (o :: rest) a w :=
  wpList_plain hg fun _ hK' => wp_put_im m x v t hop k e ht hk b M hm hown s u hx hv fun w' r1 r2 => hK' _ _ (hK w' r1 r2)
theorem wp_look_im {P : Program} {w : World} {o : Oper} {a : Act} {K : Act→World→Prop} {Q : Exit→Act→World→Prop} (m x : Operand) (t : TypeId) (hop : o.op=Op.lookup t m x true)
    (k e : TypeId) (ht : P.underlying t=some (.map k e)) (hk : P.underlying k=some (.int .i64)) (z : Value) (hz : (zeroValue e).run P w=.ok z w) (b : Nat) (M : List (Int × Value)) (hm : a.eval m=.map (some b)) (hown : IMap w b M) (s : Int) (hx : a.eval x=.int .i64 s)
    (hK : K (a.put o.dst (.tuple #[(mapGet M s).getD z,.bool (mapGet M s).isSome])) w) : o.wp P a w K Q:=by
  have hrun:=hown.look ht hk hz s
  unfold Oper.wp
  simp [execOp,hop,hm,hx,hrun,Result.andThen]
  exact hK
theorem wpList_look_im {P : Program} (w : World) {ops : Array Oper} {rest : List Oper} {o : Oper} {a : Act} {Q : Exit→Act→World→Prop} (hg : o.guard=none) (m x : Operand) (t : TypeId) (hop : o.op=Op.lookup t m x true)
    (k e : TypeId) (ht : P.underlying t=some (.map k e)) (hk : P.underlying k=some (.int .i64)) (z : Value) (hz : (zeroValue e).run P w=.ok z w) (b : Nat) (M : List (Int × Value)) (hm : a.eval m=.map (some b)) (hown : IMap w b M) (s : Int) (hx : a.eval x=.int .i64 s)
    (hK : wpList P ops Q rest (a.put o.dst (.tuple #[(mapGet M s).getD z,.bool (mapGet M s).isSome])) w) : wpList P ops Q (o :: rest) a w :=
  wpList_plain hg fun _ hK' => wp_look_im m x t hop k e ht hk z hz b M hm hown s hx (hK' _ _ hK)
end
section
open Go.RowKit Go.ChangeMaps Go.MapKept
def BMap (w : World) (b : Nat) (M : List (Int × Value)) : Prop :=
  ∃ (es : Array MapEntry) (clock : Nat),w.heap[b]?=some (.map es clock)∧es.toList.map (fun e => (e.key,e.val))=M.map (fun p => (Value.int .u8 p.1,p.2))
section
variable {w w' : World} {b : Nat} {M : List (Int × Value)}
theorem BMap.lt (h : BMap w b M) : b < w.heap.size:=by
  obtain ⟨es,clock,hb,_⟩:=h
  exact (Array.getElem?_eq_some_iff.1 hb).1
theorem BMap.new (w : World) : BMap (w.alloc (.map #[] 0)) w.heap.size []:=⟨#[],0,(MapKept.heap_alloc w _).1,rfl⟩
theorem BMap.below (h : BMap w b M) (hb : Below w.heap.size w w') : BMap w' b M:=by
  have hl:=h.lt
  obtain ⟨es,clock,h1,h2⟩:=h
  exact ⟨es,clock,(hb.block b hl).trans h1,h2⟩
theorem BMap.grown {row : Option Nat} (h : BMap w b M) (hg : w.grownBy w' row) (hne : some b≠row) : BMap w' b M:=by
  have hl:=h.lt
  obtain ⟨es,clock,h1,h2⟩:=h
  exact ⟨es,clock,(hg.block b hl hne).trans h1,h2⟩
theorem findNow_byte (s : Int) : ∀ (es : List MapEntry) (M : List (Int × Value)) (i : Nat),es.map (fun e => (e.key,e.val))=M.map (fun p => (Value.int .u8 p.1,p.2)) →
    (Instr.findNow (.int .u8) (.int .u8 s) es i=some none∧mapGet M s=none∧∀ v,mapPut M s v=M ++ [(s,v)]) ∨
    ∃ j v e,Instr.findNow (.int .u8) (.int .u8 s) es i=some (some (i + j,v))∧mapGet M s=some v∧es[j]?=some e∧e.key=.int .u8 s ∧
      ∀ u,(es.modify j fun e => { e with key:=.int .u8 s,val:=u }).map (fun e => (e.key,e.val))=(mapPut M s u).map (fun p => (Value.int .u8 p.1,p.2))
  | [],M,i,h => by
    obtain rfl : M=[]:=by cases M with | nil => rfl | cons => simp at h
    exact .inl ⟨rfl,rfl,fun _ => rfl⟩
  | e :: es,M,i,h => by
    match M,h with
    | [],h => simp at h
    | p :: M,h =>
      simp only [List.map_cons,List.cons.injEq,Prod.mk.injEq] at h
      obtain ⟨⟨h1,h2⟩,h3⟩:=h
      by_cases hp : p.1=s
      · refine .inr ⟨0,p.2,e,?_,?_,rfl,by rw [h1,hp],fun u => ?_⟩
        · simp [Instr.findNow,Instr.sameNow,h1,hp,h2]
        · simp [mapGet,hp]
        · simp [mapPut,hp,h3]
      · have hs : Instr.sameNow (.int .u8) (.int .u8 s) e.key=some false:=by
          rw [h1];simp [Instr.sameNow];exact fun e => hp e.symm
        have hb : (p.1 == s)=false:=by simp [hp]
        rcases findNow_byte s es M (i + 1) h3 with ⟨a1,a2,a3⟩ | ⟨j,v,e',a1,a2,a3,a4,a5⟩
        · refine .inl ⟨by simp [Instr.findNow,hs,a1],?_,fun v => ?_⟩
          · simp only [mapGet,List.find?_cons,hb];exact a2
          · rw [mapPut,if_neg hp,a3];rfl
        · refine .inr ⟨j + 1,v,e',?_,?_,by simpa using a3,a4,fun u => ?_⟩
          · simp [Instr.findNow,hs,a1];omega
          · simp only [mapGet,List.find?_cons,hb];exact a2
          · rw [mapPut,if_neg hp]
            simp only [List.modify_succ_cons,List.map_cons,h1,h2]
            rw [a5 u]
variable {P : Program} {t k e : TypeId}
theorem BMap.look (h : BMap w b M) (ht : P.underlying t=some (.map k e)) (hk : P.underlying k=some (.int .u8)) {z : Value} (hz : (zeroValue e).run P w=.ok z w) (s : Int) :
    (Instr.lookup t (.map (some b)) (.int .u8 s) true).run P w=.ok (.tuple #[(mapGet M s).getD z,.bool (mapGet M s).isSome]) w:=by
  obtain ⟨es,clock,hb,hM⟩:=h
  have hck : ∀ em,(Instr.checkKey em (9999 + 1) k (.int .u8 s)).run P w=.ok () w:=fun em => MapKept.run_checkKey hk (by simp [MapKept.IsKey]) em 9999
  unfold Instr.lookup
  rcases findNow_byte s es.toList M 0 hM with ⟨a1,a2,_⟩ | ⟨j,v,e',a1,a2,_⟩
  · have hf:=MapKept.run_findKey (w:=w) hk a1
    simp [run_underlying ht,Result.andThen,MapKept.run_getObj_map hb,hck,hf,hz,a2]
  · have hf:=MapKept.run_findKey (w:=w) hk a1
    simp [run_underlying ht,Result.andThen,MapKept.run_getObj_map hb,hck,hf,a2]
theorem BMap.get (h : BMap w b M) (ht : P.underlying t=some (.map k e)) (hk : P.underlying k=some (.int .u8)) {z : Value} (hz : (zeroValue e).run P w=.ok z w) (s : Int) :
    (Instr.lookup t (.map (some b)) (.int .u8 s) false).run P w=.ok ((mapGet M s).getD z) w:=by
  obtain ⟨es,clock,hb,hM⟩:=h
  have hck : ∀ em,(Instr.checkKey em (9999 + 1) k (.int .u8 s)).run P w=.ok () w:=fun em => MapKept.run_checkKey hk (by simp [MapKept.IsKey]) em 9999
  unfold Instr.lookup
  rcases findNow_byte s es.toList M 0 hM with ⟨a1,a2,_⟩ | ⟨j,v,e',a1,a2,_⟩
  · have hf:=MapKept.run_findKey (w:=w) hk a1
    simp [run_underlying ht,Result.andThen,MapKept.run_getObj_map hb,hck,hf,hz,a2]
  · have hf:=MapKept.run_findKey (w:=w) hk a1
    simp [run_underlying ht,Result.andThen,MapKept.run_getObj_map hb,hck,hf,a2]
theorem BMap.put (h : BMap w b M) (ht : P.underlying t=some (.map k e)) (hk : P.underlying k=some (.int .u8)) (s : Int) (u : Value) :
    ∃ w',(Instr.mapUpdate t (.map (some b)) (.int .u8 s) u).run P w=.ok () w'∧BMap w' b (mapPut M s u)∧w.grownBy w' (some b):=by
  obtain ⟨es,clock,hb,hM⟩:=h
  have hck : ∀ em,(Instr.checkKey em (9999 + 1) k (.int .u8 s)).run P w=.ok () w:=fun em => MapKept.run_checkKey hk (by simp [MapKept.IsKey]) em 9999
  have grow : ∀ o,w.grownBy (setBlock w b o) (some b):=fun o => ⟨rfl,rfl,rfl,by simp [setBlock],fun i _ hi => heap_setBlock_other hb _ (fun e => hi (by rw [e]))⟩
  rcases findNow_byte s es.toList M 0 hM with ⟨a1,a2,a3⟩ | ⟨j,v,e',a1,a2,a3,a4,a5⟩
  · have hf:=MapKept.run_findKey (w:=w) hk a1
    refine ⟨setBlock w b (.map (es.push { key:=.int .u8 s,val:=u,born:=clock }) (clock + 1)),?_,⟨_,_,heap_setBlock_same hb _,?_⟩,grow _⟩
    · unfold Instr.mapUpdate
      simp [run_underlying ht,Result.andThen,MapKept.run_getObj_map hb,hck,hf,MapKept.run_setObj_map _ hb,setBlock]
    · rw [a3];simp [hM]
  · have hf:=MapKept.run_findKey (w:=w) hk a1
    rw [Nat.zero_add] at hf
    have hkt : (Instr.keyThatStays (((es[j]?).map (·.key)).getD (.int .u8 s)) (.int .u8 s)).run P w=.ok (.int .u8 s) w:=by
      have : es[j]?=some e':=by simpa using a3
      rw [this]
      simp [Instr.keyThatStays,a4,Instr.sameBits]
    refine ⟨setBlock w b (.map (es.modify j fun e => { e with key:=.int .u8 s,val:=u }) clock),?_,⟨_,_,heap_setBlock_same hb _,?_⟩,grow _⟩
    · unfold Instr.mapUpdate
      simp only [Sem.run_bind,run_underlying ht,Result.andThen_ok,MapKept.run_getObj_map hb,hck,hf,hkt,MapKept.run_setObj_map _ hb,setBlock]
    · rw [← a5 u];simp
end
theorem wp_put_bm {P : Program} {w : World} {o : Oper} {a : Act} {K : Act→World→Prop} {Q : Exit→Act→World→Prop} (m x v : Operand) (t : TypeId) (hop : o.op=Op.insert t m x v)
    (k e : TypeId) (ht : P.underlying t=some (.map k e)) (hk : P.underlying k=some (.int .u8)) (b : Nat) (M : List (Int × Value)) (hm : a.eval m=.map (some b)) (hown : BMap w b M) (s : Int) (u : Value) (hx : a.eval x=.int .u8 s) (hv : a.eval v=u)
    (hK : ∀ w',BMap w' b (mapPut M s u)→w.grownBy w' (some b)→K (a.put o.dst undef) w') : o.wp P a w K Q:=by
  obtain ⟨w',hrun,r1,r2⟩:=hown.put ht hk s u
  unfold Oper.wp
  simp [execOp,hop,hm,hx,hv,hrun,Result.andThen]
  exact hK w' r1 r2
theorem wpList_put_bm {P : Program} (w : World) {ops : Array Oper} {rest : List Oper} {o : Oper} {a : Act} {Q : Exit→Act→World→Prop} (hg : o.guard=none) (m x v : Operand) (t : TypeId) (hop : o.op=Op.insert t m x v)
    (k e : TypeId) (ht : P.underlying t=some (.map k e)) (hk : P.underlying k=some (.int .u8)) (b : Nat) (M : List (Int × Value)) (hm : a.eval m=.map (some b)) (hown : BMap w b M) (s : Int) (u : Value) (hx : a.eval x=.int .u8 s) (hv : a.eval v=u)
    (hK : ∀ w',BMap w' b (mapPut M s u)→w.grownBy w' (some b)→wpList P ops Q rest (a.put o.dst undef) w') : wpList P ops Q (o :: rest) a w :=
  wpList_plain hg fun _ hK' => wp_put_bm m x v t hop k e ht hk b M hm hown s u hx hv fun w' r1 r2 => hK' _ _ (hK w' r1 r2)
theorem wpList_get_bm {P : Program} (w : World) {ops : Array Oper} {rest : List Oper} {o : Oper} {a : Act} {Q : Exit→Act→World→Prop} (hg : o.guard=none) (m x : Operand) (t : TypeId) (hop : o.op=Op.lookup t m x false)
    (k e : TypeId) (ht : P.underlying t=some (.map k e)) (hk : P.underlying k=some (.int .u8)) (z : Value) (hz : (zeroValue e).run P w=.ok z w) (b : Nat) (M : List (Int × Value)) (hm : a.eval m=.map (some b)) (hown : BMap w b M) (s : Int) (hx : a.eval x=.int .u8 s)
    (hK : wpList P ops Q rest (a.put o.dst ((mapGet M s).getD z)) w) : wpList P ops Q (o :: rest) a w:=by
  refine wpList_plain hg fun _ hK' => ?_
  have hrun:=hown.get ht hk hz s
  unfold Oper.wp
  simp [execOp,hop,hm,hx,hrun,Result.andThen]
  exact hK' _ _ hK
end
end Go.Proofs.YtphmhmdcaafmdaaGreatDoor
