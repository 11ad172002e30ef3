import Derived.Test.YtphmhmdcaafmdaaGreatDoorMake
import Derived.Test.YtphmhmdcaafmdaaGreatDoorAnewLike
import Derived.Test.YtphmhmdcaafmdaaGreatDoorPChecksS
namespace Go.Proofs.YtphmhmdcaafmdaaGreatDoor
set_option linter.all false
section
open Go.RowKit
theorem firstAt_take {t : List NodeP} {k i : Nat} (hi : i < k) (hk : k≤t.length) : firstAt (t.take k) i=firstAt t i:=by
  have hit : i < t.length:=by omega
  have his : i < (t.take k).length:=by rw [List.length_take];omega
  have he : (t.take k)[i]=t[i]:=List.getElem_take
  unfold firstAt
  rw [getD_at his,getD_at hit,he]
  split
  · rfl
  · cases hq : (t.take k).findIdx? (sameAt t[i].same) with
    | none =>
      rw [List.findIdx?_eq_none_iff] at hq
      have:=hq (t.take k)[i] (List.getElem_mem _)
      rw [he] at this
      simp [sameAt] at this
    | some j => rw [take_some hq]
theorem firstsP_pre {t : List NodeP} {k : Nat} (hk : k≤t.length) : firstsP (t.take k)=(firstsP t).take k:=by
  refine List.ext_getElem (by rw [firstsP_length,List.length_take,List.length_take,firstsP_length]) fun i h1 h2 => ?_
  rw [firstsP_length,List.length_take] at h1
  rw [List.getElem_take]
  simp only [firstsP,List.getElem_map,List.getElem_range]
  rw [firstAt_take (by omega) hk]
def numK (t : List NodeP) (k i : Nat) : Int:=if 1 < ((firstsP t).take k).count (firstAt t i : Int) then (firstAt t i : Int) + 1 else 0
theorem anewS_pre {t : List NodeP} {k i : Nat} (hi : i < k) (hk : k≤t.length) : anewS (t.take k) i=numK t k i:=by
  unfold anewS numK
  rw [firstAt_take hi hk,firstsP_pre hk]
theorem anew_pre {t : List NodeP} {k i : Nat} (hi : i < k) (hk : k≤t.length) : (anewP (t.take k))[i]'(by rw [anewP_length,List.length_take];omega)=setSame (t[i]'(by omega)) (numK t k i):=by
  have his : i < (t.take k).length:=by rw [List.length_take];omega
  rw [anewP_at his]
  unfold anewAt
  rw [getD_at his,anewS_pre hi hk,List.getElem_take]
theorem anew_pre_length {t : List NodeP} {k : Nat} (hk : k≤t.length) : (anewP (t.take k)).length=k:=by rw [anewP_length,List.length_take];omega
theorem count_next {t : List NodeP} {k : Nat} (hk : k < t.length) (x : Int) : ((firstsP t).take (k + 1)).count x=((firstsP t).take k).count x + if x=(firstAt t k : Int) then 1 else 0:=by
  rw [firstsP_take hk,List.count_append]
  congr 1
  by_cases h : x=(firstAt t k : Int)
  · rw [if_pos h,h];simp
  · rw [if_neg h,List.count_eq_zero];simp [h]
theorem first_in {t : List NodeP} {k i : Nat} (hi : i < k) (hk : k≤t.length) : (firstAt t i : Int)∈(firstsP t).take k:=by
  rw [List.mem_take_iff_getElem]
  refine ⟨i,by rw [firstsP_length];omega,?_⟩
  simp [firstsP]
theorem count_fresh {t : List NodeP} {k : Nat} (hk : k < t.length) (hf : firstAt t k=k) : ((firstsP t).take k).count (k : Int)=0:=by
  rw [List.count_eq_zero]
  intro h
  rw [List.mem_take_iff_getElem] at h
  obtain ⟨j,hj,e⟩:=h
  simp only [firstsP,List.getElem_map,List.getElem_range] at e
  have:=(firstAt_spec (t:=t) (i:=j) (by rw [firstsP_length] at hj;omega)).1
  rw [firstsP_length] at hj
  omega
theorem count_two {t : List NodeP} {k i j : Nat} (hij : i < j) (hj : j < k) (hk : k≤t.length) (he : firstAt t i=firstAt t j) : 1 < ((firstsP t).take k).count (firstAt t j : Int):=by
  have e : (firstsP t).take k=(firstsP t).take j ++ ((firstsP t).take k).drop j:=by
    have:=List.take_append_drop j ((firstsP t).take k)
    rw [List.take_take,Nat.min_eq_left (by omega)] at this
    exact this.symm
  rw [e,List.count_append]
  have h1 : 0 < ((firstsP t).take j).count (firstAt t j : Int):=by
    rw [List.count_pos_iff,← he];exact first_in hij (by omega)
  have h2 : 0 < (((firstsP t).take k).drop j).count (firstAt t j : Int):=by
    rw [List.count_pos_iff,List.mem_drop_iff_getElem]
    refine ⟨0,by rw [List.length_take,firstsP_length];omega,?_⟩
    rw [List.getElem_take]
    simp [firstsP]
  omega
theorem anew_fresh {t : List NodeP} {k : Nat} (hk : k < t.length) (hf : firstAt t k=k) : anewP (t.take (k + 1))=anewP (t.take k) ++ [setSame t[k] 0]:=by
  refine List.ext_getElem (by rw [anew_pre_length (by omega),List.length_append,anew_pre_length (by omega)];rfl) fun i h1 h2 => ?_
  rw [anew_pre_length (by omega)] at h1
  rw [anew_pre h1 (by omega)]
  by_cases hi : i < k
  · rw [List.getElem_append_left (by rw [anew_pre_length (by omega)];exact hi),anew_pre hi (by omega)]
    congr 1
    have h3:=(firstAt_spec (t:=t) (i:=i) (by omega)).1
    have hc : ((firstsP t).take (k + 1)).count (firstAt t i : Int)=((firstsP t).take k).count (firstAt t i : Int):=by
      have h4:=count_next hk (firstAt t i : Int)
      have h5 : ¬ (firstAt t i : Int)=(firstAt t k : Int):=by omega
      rw [if_neg h5] at h4
      omega
    unfold numK
    rw [hc]
  · obtain rfl : i=k:=by omega
    rw [List.getElem_append_right (by rw [anew_pre_length (by omega)];omega)]
    simp only [anew_pre_length (Nat.le_of_lt hk),Nat.sub_self,List.getElem_cons_zero]
    congr 1
    have hc : ((firstsP t).take (i + 1)).count (i : Int)=1:=by
      have h4:=count_next hk (i : Int)
      rw [if_pos (by rw [hf]),count_fresh hk hf] at h4
      omega
    unfold numK
    rw [hf,hc,if_neg (by omega)]
theorem anew_link {t : List NodeP} {k : Nat} (hk : k < t.length) (hf : firstAt t k < k) : anewP (t.take (k + 1))=(anewP (t.take k)).set (firstAt t k) (setSame (t[firstAt t k]'(by omega)) ((firstAt t k : Int) + 1)) ++ [setSame t[k] ((firstAt t k : Int) + 1)]:=by
  obtain ⟨_,hff,_⟩:=firstAt_spec hk
  have hnum : ∀ i,i≤k→firstAt t i=firstAt t k→numK t (k + 1) i=(firstAt t k : Int) + 1:=fun i hi he => by
    unfold numK
    rw [he,if_pos]
    exact count_two hf (by omega) (by omega) (by rw [hff])
  refine List.ext_getElem (by rw [anew_pre_length (by omega),List.length_append,List.length_set,anew_pre_length (by omega)];rfl) fun i h1 h2 => ?_
  rw [anew_pre_length (by omega)] at h1
  rw [anew_pre h1 (by omega)]
  by_cases hi : i < k
  · rw [List.getElem_append_left (by rw [List.length_set,anew_pre_length (by omega)];exact hi),List.getElem_set]
    split
    · next he =>
      subst he
      rw [hnum _ (by omega) hff]
    · next hne =>
      rw [anew_pre hi (by omega)]
      congr 1
      by_cases he : firstAt t i=firstAt t k
      · rw [hnum i (by omega) he]
        unfold numK
        have hfi : firstAt t k < i:=by
          have h3:=(firstAt_spec (t:=t) (i:=i) (by omega)).1
          rw [he] at h3
          omega
        rw [he,if_pos]
        rw [← he]
        exact count_two (i:=firstAt t k) hfi hi (by omega) (by rw [hff,he])
      · have hc : ((firstsP t).take (k + 1)).count (firstAt t i : Int)=((firstsP t).take k).count (firstAt t i : Int):=by
          have h4:=count_next hk (firstAt t i : Int)
          have h5 : ¬ (firstAt t i : Int)=(firstAt t k : Int):=by omega
          rw [if_neg h5] at h4
          omega
        unfold numK
        rw [hc]
  · obtain rfl : i=k:=by omega
    rw [List.getElem_append_right (by rw [List.length_set,anew_pre_length (by omega)];omega)]
    simp only [List.length_set,anew_pre_length (Nat.le_of_lt hk),Nat.sub_self,List.getElem_cons_zero]
    rw [hnum i (Nat.le_refl _) rfl]
theorem link_like {t : List NodeP} (h : TreeOk t) {k : Nat} (hk : k < t.length) (hf : firstAt t k < k) : t[firstAt t k]'(by omega)=⟨(t[firstAt t k]'(by omega)).path,t[k].kind,(t[firstAt t k]'(by omega)).same,t[k].target,t[k].mt,t[k].data⟩:=by
  obtain ⟨_,_,hsp⟩:=firstAt_spec hk
  obtain ⟨hl,hs,hs0⟩:=hsp (by omega)
  have ha:=h.alike t[firstAt t k] (List.getElem_mem _) t[k] (List.getElem_mem _) (by rw [hs];exact hs0) hs
  unfold alikeB at ha
  rw [Bool.and_eq_true,decide_eq_true_eq,beq_iff_eq] at ha
  have n1:=h.node t[firstAt t k] (List.getElem_mem _)
  have n2:=h.node t[k] (List.getElem_mem _)
  have k1 : t[firstAt t k].kind=1:=by
    by_cases e : t[firstAt t k].kind=1
    · exact e
    · exact absurd (n1.same.2.2 e) (by rw [hs];exact hs0)
  have k2 : t[k].kind=1:=by
    by_cases e : t[k].kind=1
    · exact e
    · exact absurd (n2.same.2.2 e) hs0
  have t1:=n1.none (by omega)
  have t2:=n2.none (by omega)
  generalize t[firstAt t k]=a at *
  generalize t[k]=b at *
  obtain ⟨a1,a2,a3,a4,a5,a6⟩:=a
  obtain ⟨b1,b2,b3,b4,b5,b6⟩:=b
  simp only at ha k1 k2 t1 t2
  simp only [NodeP.mk.injEq,true_and]
  exact ⟨by omega,by rw [t1,t2],ha.1,ha.2⟩
end
section
open Go.RowKit
theorem U8Kept.off_map {w w' : World} {b : Nat} {M : List (List UInt8 × Value)} (hM : SMap w b M) (hg : w.grownBy w' (some b)) : U8Kept w w':=fun k C fr hk => (hg.block k (heap_lt hk) (by
  rintro e
  injection e with e
  subst e
  obtain ⟨es,clock,hc,_⟩:=hM
  rw [hk] at hc
  cases hc)).trans hk
theorem ownsRow_off_smap {w w' : World} {base : Nat} {e : TypeId} {size n : Nat} {v : Value} {xs : List Value} {b : Nat} {M : List (List UInt8 × Value)} (h : w.ownsRow base e size v n xs) (hM : SMap w b M) (hb : w.grownBy w' (some b)) : w'.ownsRow base e size v n xs:=by
  obtain ⟨h1,h2⟩:=h
  refine ⟨h1,?_⟩
  rcases h2 with h | ⟨g,cap,cur,hv,hb',hg,r⟩
  · exact .inl h
  · refine .inr ⟨g,cap,cur,hv,hb',(hb.block g (heap_lt hg) ?_).trans hg,r⟩
    rintro e
    injection e with e
    subst e
    obtain ⟨es,clock,hc,_⟩:=hM
    rw [hg] at hc
    cases hc
theorem own_smap_ne {w : World} {base : Nat} {e : TypeId} {size n : Nat} {v : Value} {xs : List Value} {b : Nat} {M : List (List UInt8 × Value)} (h : w.ownsRow base e size v n xs) (hM : SMap w b M) : some b≠v.ownBlock:=by
  intro hv
  obtain ⟨_,C,fr,hC⟩:=own_typed h hv.symm
  obtain ⟨es,clock,hc,_⟩:=hM
  rw [hC] at hc
  cases hc
theorem SMap.set_ {w : World} {b g : Nat} {M : List (List UInt8 × Value)} (h : SMap w b M) (hne : b≠g) (o : Nat) (u : Value) : SMap (w.setCell ⟨g,o,none⟩ u) b M:=by
  obtain ⟨es,clock,h1,h2⟩:=h
  exact ⟨es,clock,(Below.heap_setCell w ⟨g,o,none⟩ u b hne).trans h1,h2⟩
theorem SMap.setAll {b g : Nat} {M : List (List UInt8 × Value)} (hne : b≠g) : ∀ (vs : List Value) (i : Nat) {w : World},SMap w b M→SMap (Proofs.YtphmhmdcaafmdaaGreatDoor.setAll w g i vs) b M
  | [],_,_,h => h
  | v :: r,i,_,h => SMap.setAll hne r (i + 1) (h.set_ hne i v)
theorem ownsRow_far {w : World} {base : Nat} {e : TypeId} {size n : Nat} {v : Value} {xs : List Value} {g : Nat} (h : w.ownsRow base e size v n xs) (hne : v.ownBlock≠some g) (i : Nat) (u : Value) : (w.setCell ⟨g,i,none⟩ u).ownsRow base e size v n xs:=by
  obtain ⟨h1,h2⟩:=h
  refine ⟨h1,?_⟩
  rcases h2 with h | ⟨g',cap,cur,hv,hb',hg,r⟩
  · exact .inl h
  · refine .inr ⟨g',cap,cur,hv,hb',?_,r⟩
    rw [Below.heap_setCell _ _ _ _ (fun (e : g'=g) => hne (by rw [hv,e];rfl))]
    exact hg
theorem NodesOwn.far_ {w : World} {base : Nat} {v : Value} {l : List NodeP} {g : Nat} (h : NodesOwn w base v l) (hne : v.ownBlock≠some g) (hb : HasBlk w g 29 12) (i : Nat) (u : Value) : NodesOwn (w.setCell ⟨g,i,none⟩ u) base v l:=by
  obtain ⟨xs,h0,h1,h2⟩:=h
  obtain ⟨C,_,hC⟩:=hb
  exact ⟨xs,h0,ownsRow_far h1 hne i u,fun x hx => (h2 x hx).kept (U8Kept.set_ (g:=g) hC (by decide) i u)⟩
theorem NodesOwn.farAll {base : Nat} {v : Value} {l : List NodeP} {g : Nat} (hne : v.ownBlock≠some g) : ∀ (vs : List Value) (i : Nat) {w : World},NodesOwn w base v l→HasBlk w g 29 12→NodesOwn (setAll w g i vs) base v l
  | [],_,_,h,_ => h
  | u :: r,i,_,h,hb => NodesOwn.farAll hne r (i + 1) (h.far_ hne hb i u) (hb.set_ i u)
def PtM (t : List NodeP) (k : Nat) (M : List (List UInt8 × Value)) : Prop:=∀ j (h : j < t.length),j < k→smapGet M t[j].path=some (.int .i64 (j : Int))
theorem PtM.next {t : List NodeP} {k : Nat} {M : List (List UInt8 × Value)} (h : PtM t k M) (ht : TreeOk t) (hk : k < t.length) : PtM t (k + 1) (smapPut M t[k].path (.int .i64 (k : Int))):=by
  intro j hj hjk
  rw [smapGet_put]
  by_cases e : j=k
  · subst e;rw [if_pos rfl]
  · rw [if_neg]
    · exact h j hj (by omega)
    · intro e2
      exact e (nodup_at (sorted_nodup ht.sorted) hj hk e2)
def PtSt (w : World) (b : Nat) (t : List NodeP) (k : Nat) (v : Value) (W : World) : Prop :=
  Below w.heap.size w W∧NodesOwn W 0 v (anewP (t.take k))∧(∀ g,v.ownBlock=some g→w.heap.size≤g)∧∃ M,SMap W b M∧PtM t k M
theorem PtSt.below {w W W' : World} {b : Nat} {t : List NodeP} {k : Nat} {v : Value} (h : PtSt w b t k v W) (hb : Below W.heap.size W W') : PtSt w b t k v W':=by
  obtain ⟨h1,h2,h3,M,h4,h5⟩:=h
  exact ⟨h1.trans (hb.mono h1.size),h2.below hb,h3,M,h4.below hb,h5⟩
theorem PtSt.snoc {w W w7 W8 w9 : World} {b : Nat} {t : List NodeP} {k : Nat} {v v9 : Value} {OUT : List NodeP} {N : NodeP} {dv : Value} {M : List (List UInt8 × Value)} {o : Obj} {ys : List NodeV} (hB : Below w.heap.size w W) (hG : ∀ g,v.ownBlock=some g→w.heap.size≤g) (hbb : w.heap.size≤b)
    (hM : SMap W b M) (hM7 : SMap w7 b (smapPut M (t.getD k default).path (.int .i64 (k : Int)))) (hg7 : W.grownBy w7 (some b)) (hP : PtM t k M) (ht : TreeOk t) (hk : k < t.length) (hys : ys.map (·.1)=OUT) (hyo : W.ownsRow 0 29 12 v OUT.length (ys.flatMap nodeC)) (hyd : ∀ y∈ys,DataAt W 0 y.2 y.1.data) (hD : DataAt W 0 dv N.data)
    (h8 : W8=w7.alloc o) (hg9 : W8.grownBy w9 v.ownBlock) (hat : v9.ownBlock=v.ownBlock∨v9.ownBlock=some W8.heap.size) (ho : w9.ownsRow 0 29 12 v9 (OUT.length + 1) (ys.flatMap nodeC ++ nodeC (N,dv))) (he : anewP (t.take (k + 1))=OUT ++ [N]) : PtSt w b t (k + 1) v9 w9:=by
  have b7 : Below w.heap.size w w7:=hB.grown hg7 hB.size (fun g e => by injection e with e;omega)
  have bA : Below w7.heap.size w7 W8:=by rw [h8];exact (Below.refl _ _).alloc (Nat.le_refl _) _
  have k7:=U8Kept.off_map hM hg7
  have o8:=ownsRow_below (ownsRow_off_smap hyo hM hg7) bA
  have b8 : Below w.heap.size w W8:=b7.trans (bA.mono b7.size)
  refine ⟨b8.grown hg9 b8.size hG,?_,fun g e => ?_,_,(hM7.below bA).grown hg9 (own_smap_ne o8 (hM7.below bA)),?_⟩
  · rw [he]
    exact NodesOwn.snoc hys (fun y hy => ((hyd y hy).kept k7).below bA) ((hD.kept k7).below bA) o8 hg9 ho
  · rcases hat with h | h
    · rw [h] at e;exact hG g e
    · rw [h] at e
      injection e with e
      have:=b8.size
      omega
  · have:=hP.next ht hk
    rw [getD_at hk]
    exact this
set_option maxRecDepth 100000 in
set_option maxHeartbeats 16000000 in
theorem PTree_ok (v : Value) (t : List NodeP) (xs : List EntV) (w : World) (hm : ∀ W,Below w.heap.size w W→ML W) (hl : EntsAt w v (planP t) xs) (ht : TreeOk t) :
    Calls Tryz.prog 75 #[v] w fun e w' => ∃ tv,e=.returned (.tuple #[tv,.int .i64 0])∧NodesOwn w' w.heap.size tv (anewP t)∧Below w.heap.size w w':=by
  have HCK:=Lib.hid (PCheck_ok v (planP t) xs w hm hl (plan_ok ht))
  have HLA:=Lib.hid hl
  have HTO:=Lib.hid ht
  have hlen:=ht.len
  have hpl:=planP_length t
  have HPL:=Lib.hid hpl
  obtain ⟨A,c,-,rfl,hlc,hc,-,-⟩:=hl
  unfold maxLen at hc
  rw [hpl] at hlc HLA HCK ⊢
  obtain ⟨i9,hi9,hy0,hy1,hy2⟩:=info_parts nodeinfo
  clear hm ht hpl
  go_enter Tryz.func75,Tryz.ntmps75
  go_wp2_with fail
  refine HCK.out.mono ?_
  rintro e w1 ⟨rfl,b1⟩
  have B1:=Lib.hid b1
  clear b1 HCK
  have hmm:=@run_makeMap Tryz.prog
  have H0 : Hid (PtSt w w1.heap.size t 0 (.slice none 0 0) (w1.alloc (.map #[] 0))):=Lib.hid ⟨B1.out.alloc B1.out.size _,⟨[],by rw [List.take_zero];rfl,World.ownsRow_nil _ _ _ _,by simp⟩,fun g e => by simp [Value.ownBlock] at e,[],SMap.new w1,fun j _ h => absurd h (Nat.not_lt_zero _)⟩
  have hbb:=B1.out.size
  go_wp2_with fail
  clear hmm
  obtain ⟨b,hbe⟩ : ∃ b,b=w1.heap.size:=⟨_,rfl⟩
  rw [← hbe] at H0 hbb ⊢
  clear hbe
  go_loopg [5,19] t.length (fun gg s5 s19 wr => ∃ k : Nat,k≤t.length∧t.length - k≤gg∧s19=.int .i64 k∧Hid (PtSt w b t k s5 wr))
  case atStart => exact ⟨0,Nat.zero_le _,by omega,rfl,H0⟩
  case round =>
    obtain ⟨k,hk,hg,rfl,HS⟩:=hrel
    by_cases hlt : k < t.length
    · have hltz : (k : Int) < (t.length : Int):=by omega
      have hk0 : (0 : Int)≤(k : Int):=by omega
      obtain ⟨ad,hkx,Ad,cd,rfl,hb,-,hdx,e0,e1,e2,e3,e4,e5,e6,e7,e8,e9,e10⟩:=(HLA.out.below HS.out.1).read (k:=k) (by rw [HPL.out];exact hlt)
      rw [planP_at hlt] at hdx e0 e1 e2 e3 e4 e5 e6 e7 e8 e9 e10
      have hgk : t.getD k default=t[k]:=getD_at hlt
      obtain ⟨hfle,hff,-⟩:=firstAt_spec hlt
      obtain ⟨hB,hO,hG,M,hM,hP⟩:=HS.out
      obtain ⟨ys,hys,hyo,hyd⟩:=id hO
      have hol : (anewP (t.take k)).length=k:=anew_pre_length hk
      obtain ⟨A5,c5,h5e,hc51,hc52,-⟩:=ownsRow_read hyo
      rw [hol] at h5e hc51
      subst h5e
      unfold maxLen at hc52
      have HB:=Lib.hid hB
      have HO:=Lib.hid hO
      have HG:=Lib.hid hG
      have HM:=Lib.hid hM
      have HP:=Lib.hid hP
      have HOL:=Lib.hid hol
      clear hys hyo hyd hB hO hG hM hP hol
      by_cases hfk : firstAt t k=k
      · have he : entAt t k=entOf t[k]:=by unfold entAt;rw [if_neg (by omega),hgk]
        have HNX:=Lib.hid (anew_fresh hlt hfk)
        have hkn : (t[k].kind == 4)=false:=by
          have:=(HTO.out.node _ (List.getElem_mem hlt)).kind
          simp;omega
        rw [he] at hdx e0 e1 e2 e3 e4 e5 e6 e7 e8 e9 e10
        have HGK:=Lib.hid hgk
        clear he hfk hfle hff hgk
        obtain ⟨x,hx⟩ : ∃ x,x=t[k]:=⟨_,rfl⟩
        rw [← hx] at hdx hkn HNX HGK e0 e1 e2 e3 e4 e5 e6 e7 e8 e9 e10
        clear hx
        obtain ⟨np,nk,ns,nt,⟨o1,o2,o3,o4,o5,o6,o7⟩,nd⟩:=x
        simp only [entOf] at hdx hkn e0 e1 e2 e3 e4 e5 e6 e7 e8 e9 e10
        obtain ⟨W2,hW2⟩ : ∃ W2,W2=(wr.alloc (.cells #[.string (bs np),.int .i64 nk,.string (bs nt),.int .i64 o1,.int .i64 o2,.int .i64 o3,.string (bs o4),.string (bs o5),.int .i64 o6,.int .i64 o7,.slice Ad nd.length cd] 58)).alloc (.cells #[.string (bs np),.int .i64 nk,.int .i64 0,.string (bs nt),.int .i64 o1,.int .i64 o2,.int .i64 o3,.string (bs o4),.string (bs o5),.int .i64 o6,.int .i64 o7,.slice Ad nd.length cd] 29):=⟨_,rfl⟩
        have b2 : Below wr.heap.size wr W2:=by rw [hW2];exact ((Below.refl _ _).alloc (Nat.le_refl _) _).alloc (by simp) _
        have K8 : Blk W2 wr.heap.size 58 #[.string (bs np),.int .i64 nk,.string (bs nt),.int .i64 o1,.int .i64 o2,.int .i64 o3,.string (bs o4),.string (bs o5),.int .i64 o6,.int .i64 o7,.slice Ad nd.length cd]:=by rw [hW2];exact (Blk.new wr _ _).alloc _
        have K9 : Blk W2 (wr.heap.size + 1) 29 #[.string (bs np),.int .i64 nk,.int .i64 0,.string (bs nt),.int .i64 o1,.int .i64 o2,.int .i64 o3,.string (bs o4),.string (bs o5),.int .i64 o6,.int .i64 o7,.slice Ad nd.length cd]:=by
          have h:=Blk.new (wr.alloc (.cells #[.string (bs np),.int .i64 nk,.string (bs nt),.int .i64 o1,.int .i64 o2,.int .i64 o3,.string (bs o4),.string (bs o5),.int .i64 o6,.int .i64 o7,.slice Ad nd.length cd] 58)) 29 #[.string (bs np),.int .i64 nk,.int .i64 0,.string (bs nt),.int .i64 o1,.int .i64 o2,.int .i64 o3,.string (bs o4),.string (bs o5),.int .i64 o6,.int .i64 o7,.slice Ad nd.length cd]
          rw [← hW2,show (wr.alloc (.cells #[.string (bs np),.int .i64 nk,.string (bs nt),.int .i64 o1,.int .i64 o2,.int .i64 o3,.string (bs o4),.string (bs o5),.int .i64 o6,.int .i64 o7,.slice Ad nd.length cd] 58)).heap.size=wr.heap.size + 1 by simp] at h
          exact h
        obtain ⟨g9,hg9⟩ : ∃ g9,g9=wr.heap.size + 1:=⟨_,rfl⟩
        obtain ⟨g8,hg8⟩ : ∃ g8,g8=wr.heap.size:=⟨_,rfl⟩
        rw [← hg9] at K9
        rw [← hg8] at K8
        have hg89 : g8≠g9:=by omega
        have hg9l : wr.heap.size≤g9:=by omega
        have hg8l : wr.heap.size≤g8:=by omega
        have HB2:=Lib.hid b2
        have HK8 : Hid (Blk W2 g8 58 (entC ⟨np,nk,nt,⟨o1,o2,o3,o4,o5,o6,o7⟩,nd⟩ (.slice Ad nd.length cd)).toArray):=Lib.hid K8
        have HK9 : Hid (Blk W2 g9 29 (nodeC (⟨np,nk,0,nt,⟨o1,o2,o3,o4,o5,o6,o7⟩,nd⟩,.slice Ad nd.length cd)).toArray):=Lib.hid K9
        clear b2 K8 K9
        have HD0:=Lib.hid (hdx.below HB2.out)
        clear hdx
        go_upto_region 10 with fail
        rw [← hg9,← hg8,← hW2]
        clear hW2 hg9 hg8 e0 e1 e2 e3 e4 e5 e6 e7 e8 e9 e10
        obtain ⟨f0,f1,f2,f3,f4,f5,f6,f7,f8,f9,f10⟩:=HK8.out.ent
        simp only at f0 f1 f2 f3 f4 f5 f6 f7 f8 f9 f10
        have HZB:=Lib.hid (HB.out.trans (HB2.out.mono HB.out.size))
        have HZM:=Lib.hid (HM.out.below HB2.out)
        have HZO:=Lib.hid (HO.out.below HB2.out)
        have HZK:=HK9
        obtain ⟨Wz,hWz⟩ : ∃ Wz,Wz=W2:=⟨_,rfl⟩
        rw [← hWz] at HZB HZM HZO HZK HD0 f0 f1 ⊢
        clear hWz f2 f3 f4 f5 f6 f7 f8 f9 f10
        obtain ⟨zs,hzs,hzo,hzd⟩:=HZO.out
        rw [HOL.out] at hzo
        have HZS:=Lib.hid hzs
        have HZW:=Lib.hid hzo
        have HZD:=Lib.hid hzd
        have hMlt:=HZM.out.lt
        have hsz9:=HZB.out.size
        clear hzs hzo hzd
        go_wp2_with (first
          | ((with_reducible refine wpList_put_sm _ rfl (.tmp 55) (.tmp 57) (.tmp 58) 223 rfl _ _ Tryz.underlying223 Tryz.underlying9 b M rfl HZM.out np _ rfl rfl ?_);intro w7 hM7 hg7;have HM7:=Lib.hid hM7;have HG7:=Lib.hid hg7;have HK7:=Lib.hid (HZK.out.grown hg7 (by intro e;injection e with e;exact by have:=HM.out.lt;omega));obtain ⟨m0,m1,m2,m3,m4,m5,m6,m7,m8,m9,m10,m11⟩:=HK7.out.node;have HO7:=Lib.hid (ownsRow_off_smap HZW.out HZM.out hg7);clear hM7 hg7)
          | (at_builtin;refine wpList_append_any _ rfl (.tmp 59) (.tmp 61) _ rfl 0 29 i9 _ 12 144 Tryz.underlying23 hi9 hy0 hy1 hy2 rfl (by omega) _ k (zs.flatMap nodeC) rfl (ownsRow_below HO7.out ((Below.refl _ _).alloc (Nat.le_refl _) _)) (w7.heap.size + 1) (some ⟨w7.heap.size,0,none⟩) 1 1 (nodeC (⟨np,nk,0,nt,⟨o1,o2,o3,o4,o5,o6,o7⟩,nd⟩,.slice Ad nd.length cd)) rfl (new_row w7 29 (nodeC (⟨np,nk,0,nt,⟨o1,o2,o3,o4,o5,o6,o7⟩,nd⟩,.slice Ad nd.length cd)) 1 12 rfl) (one_node _ rfl) (by simp only [maxLen];omega) (by omega) (Nat.zero_le _) ?_;intro v9 w9 hown9 hg9 hat9;obtain ⟨A9,c9,hv9,-⟩:=ownsRow_read hown9;subst hv9;have HO9:=Lib.hid hown9;have HG9:=Lib.hid hg9;have HAT:=Lib.hid hat9;clear hown9 hg9 hat9))
        go_roundg (t.length - (k + 1))
        case measure => omega
        case rel =>
          refine ⟨k + 1,by omega,by omega,by go_num,Lib.hid (PtSt.snoc (OUT:=anewP (t.take k)) (N:=⟨np,nk,0,nt,⟨o1,o2,o3,o4,o5,o6,o7⟩,nd⟩) HZB.out HG.out hbb HZM.out (by rw [HGK.out];exact HM7.out) HG7.out HP.out HTO.out hlt HZS.out (by rw [HOL.out];exact HZW.out) HZD.out HD0.out rfl HG9.out HAT.out (by rw [HOL.out];exact HO9.out) HNX.out)⟩
      · have hfl : firstAt t k < k:=by omega
        have hft : firstAt t k < t.length:=by omega
        have he : entAt t k=entLink t[k] (t[firstAt t k]'hft):=by unfold entAt;rw [if_pos hfl,hgk,getD_at hft]
        have HNX:=Lib.hid (anew_link hlt hfl)
        have HLK:=Lib.hid (link_like HTO.out hlt hfl)
        have HMG:=Lib.hid (HP.out _ hft hfl)
        have HAF : Hid (∃ n,(anewP (t.take k))[firstAt t k]?=some (setSame (t[firstAt t k]'hft) n)):=Lib.hid ⟨numK t k (firstAt t k),by rw [List.getElem?_eq_getElem (by rw [HOL.out];exact hfl),anew_pre hfl hk]⟩
        rw [he] at hdx e0 e1 e2 e3 e4 e5 e6 e7 e8 e9 e10
        have HGK:=Lib.hid hgk
        clear he hfle hff hgk hfk
        obtain ⟨y,hy⟩ : ∃ y,y=t[firstAt t k]'hft:=⟨_,rfl⟩
        rw [← hy] at hdx HNX HLK HMG HAF e0 e1 e2 e3 e4 e5 e6 e7 e8 e9 e10
        clear hy
        obtain ⟨x,hx⟩ : ∃ x,x=t[k]:=⟨_,rfl⟩
        rw [← hx] at hdx HNX HGK HLK e0 e1 e2 e3 e4 e5 e6 e7 e8 e9 e10
        clear hx
        obtain ⟨f,hf⟩ : ∃ f,f=firstAt t k:=⟨_,rfl⟩
        rw [← hf] at HNX HMG HAF hfl hft
        clear hf
        obtain ⟨np,nk,ns,nt,⟨o1,o2,o3,o4,o5,o6,o7⟩,nd⟩:=x
        simp only [entLink,List.length_nil] at hdx HLK e0 e1 e2 e3 e4 e5 e6 e7 e8 e9 e10
        obtain ⟨yp,hyp⟩ : ∃ yp,yp=y.path:=⟨_,rfl⟩
        obtain ⟨ys',hys⟩ : ∃ s,s=y.same:=⟨_,rfl⟩
        rw [← hyp,← hys] at HLK
        rw [← hyp] at HMG e2
        clear hyp hys
        obtain ⟨g5,c5',hv5,hg50,hg5l,-,-,hz5,-⟩:=HO.out.row (by rw [HOL.out];omega)
        rw [HOL.out] at hv5
        obtain ⟨h9,-,h8⟩:=Value.slice.inj hv5
        subst h9 h8
        clear hv5
        obtain ⟨W2,hW2⟩ : ∃ W2,W2=(wr.alloc (.cells #[.string (bs np),.int .i64 4,.string (bs yp),.int .i64 o1,.int .i64 o2,.int .i64 o3,.string (bs o4),.string (bs o5),.int .i64 o6,.int .i64 o7,.slice Ad 0 cd] 58)).alloc (.cells #[.string (bs np),.int .i64 4,.int .i64 0,.string (bs yp),.int .i64 o1,.int .i64 o2,.int .i64 o3,.string (bs o4),.string (bs o5),.int .i64 o6,.int .i64 o7,.slice Ad 0 cd] 29):=⟨_,rfl⟩
        have b2 : Below wr.heap.size wr W2:=by rw [hW2];exact ((Below.refl _ _).alloc (Nat.le_refl _) _).alloc (by simp) _
        have K8 : Blk W2 wr.heap.size 58 #[.string (bs np),.int .i64 4,.string (bs yp),.int .i64 o1,.int .i64 o2,.int .i64 o3,.string (bs o4),.string (bs o5),.int .i64 o6,.int .i64 o7,.slice Ad 0 cd]:=by rw [hW2];exact (Blk.new wr _ _).alloc _
        have K9 : Blk W2 (wr.heap.size + 1) 29 #[.string (bs np),.int .i64 4,.int .i64 0,.string (bs yp),.int .i64 o1,.int .i64 o2,.int .i64 o3,.string (bs o4),.string (bs o5),.int .i64 o6,.int .i64 o7,.slice Ad 0 cd]:=by
          have h:=Blk.new (wr.alloc (.cells #[.string (bs np),.int .i64 4,.string (bs yp),.int .i64 o1,.int .i64 o2,.int .i64 o3,.string (bs o4),.string (bs o5),.int .i64 o6,.int .i64 o7,.slice Ad 0 cd] 58)) 29 #[.string (bs np),.int .i64 4,.int .i64 0,.string (bs yp),.int .i64 o1,.int .i64 o2,.int .i64 o3,.string (bs o4),.string (bs o5),.int .i64 o6,.int .i64 o7,.slice Ad 0 cd]
          rw [← hW2,show (wr.alloc (.cells #[.string (bs np),.int .i64 4,.string (bs yp),.int .i64 o1,.int .i64 o2,.int .i64 o3,.string (bs o4),.string (bs o5),.int .i64 o6,.int .i64 o7,.slice Ad 0 cd] 58)).heap.size=wr.heap.size + 1 by simp] at h
          exact h
        obtain ⟨g9,hg9⟩ : ∃ g9,g9=wr.heap.size + 1:=⟨_,rfl⟩
        obtain ⟨g8,hg8⟩ : ∃ g8,g8=wr.heap.size:=⟨_,rfl⟩
        rw [← hg9] at K9
        rw [← hg8] at K8
        have hg89 : g8≠g9:=by omega
        have hg9l : wr.heap.size≤g9:=by omega
        have hg8l : wr.heap.size≤g8:=by omega
        have HB2:=Lib.hid b2
        have HK8 : Hid (Blk W2 g8 58 (entC ⟨np,4,yp,⟨o1,o2,o3,o4,o5,o6,o7⟩,[]⟩ (.slice Ad 0 cd)).toArray):=Lib.hid K8
        have HK9 : Hid (Blk W2 g9 29 (nodeC (⟨np,4,0,yp,⟨o1,o2,o3,o4,o5,o6,o7⟩,[]⟩,.slice Ad 0 cd)).toArray):=Lib.hid K9
        clear b2 K8 K9
        go_upto_region 11 with fail
        rw [← hg9,← hg8,← hW2]
        have hlu : (Instr.lookup 223 (.map (some b)) (.string (bs yp)) false).run Tryz.prog W2=.ok (.int .i64 (f : Int)) W2:=by
          have h:=(HM.out.below HB2.out).get Tryz.underlying223 Tryz.underlying9 (zeroI _) yp
          rw [HMG.out] at h
          exact h
        clear hW2 hg9 hg8 e0 e1 e2 e3 e4 e5 e6 e7 e8 e9 e10
        obtain ⟨f0,f1,f2,f3,f4,f5,f6,f7,f8,f9,f10⟩:=HK8.out.ent
        simp only at f0 f1 f2 f3 f4 f5 f6 f7 f8 f9 f10
        have HB3:=Lib.hid (HB.out.trans (HB2.out.mono HB.out.size))
        have HM3:=Lib.hid (HM.out.below HB2.out)
        have HO3:=Lib.hid (HO.out.below HB2.out)
        have hbs : some b≠(Value.slice (some ⟨g5,0,none⟩) k c5).ownBlock:=by
          obtain ⟨_,_,h,_⟩:=HO.out
          rw [HOL.out] at h
          exact own_smap_ne h HM.out
        have hb5 : b≠g5:=fun e => hbs (by rw [e];rfl)
        have hb9 : b≠g9:=by have:=HM.out.lt;omega
        have h58 : g8≠g5:=by omega
        have h59 : g9≠g5:=by omega
        have hG5 : w.heap.size≤g5:=HG.out g5 rfl
        clear hz5 hbs
        obtain ⟨g5',c5',hv5,-,-,-,-,hz5,hr5⟩:=HO3.out.row (by rw [HOL.out];omega)
        obtain ⟨h9,-,h8⟩:=Value.slice.inj hv5
        have h9:=congrArg Addr.block (Option.some.inj h9)
        simp only at h9
        subst h9 h8
        clear hv5
        obtain ⟨dv5,-,-,hc5⟩:=hr5 f (by rw [HOL.out];exact hfl)
        obtain ⟨u2,k2⟩ : ∃ u2,W2.cell? ⟨g5,f * 12 + 2,none⟩=some u2:=⟨_,(hc5 2 (by omega)).trans rfl⟩
        have z2:=hz5 (f * 12 + 2)
        have hf0 : (0 : Int)≤(f : Int):=by omega
        have hflz : (f : Int) < (k : Int):=by omega
        clear hr5 hc5 hz5 hc51 hc52
        obtain ⟨W3,hW3⟩ : ∃ W3,W3=W2.setCell ⟨g5,f * 12 + 2,none⟩ (.int .i64 ((f : Int) + 1)):=⟨_,rfl⟩
        go_upto_region 13 with fail
        rw [← hW3]
        have HB4 : Hid (Below w.heap.size w W3):=Lib.hid (by rw [hW3];exact HB3.out.setCell (p:=⟨g5,f * 12 + 2,none⟩) hG5 _)
        have HM4 : Hid (SMap W3 b M):=Lib.hid (by rw [hW3];exact HM3.out.set_ hb5 _ _)
        have HO4 : Hid (NodesOwn W3 0 (.slice (some ⟨g5,0,none⟩) k c5) ((anewP (t.take k)).set f (setSame y ((f : Int) + 1)))):=Lib.hid (by
          rw [hW3]
          obtain ⟨n,hn⟩:=HAF.out
          have hfn : f < (anewP (t.take k)).length:=by rw [HOL.out];exact hfl
          rw [List.getElem?_eq_getElem hfn] at hn
          have hn:=Option.some.inj hn
          exact HO3.out.set_ rfl hfn (by omega) _ (by rw [hn];rfl) (fun dv => by rw [hn];rfl))
        have HK48 : Hid (Blk W3 g8 58 (entC ⟨np,4,yp,⟨o1,o2,o3,o4,o5,o6,o7⟩,[]⟩ (.slice Ad 0 cd)).toArray):=Lib.hid (by rw [hW3];exact HK8.out.far (p:=⟨g5,f * 12 + 2,none⟩) h58 _)
        have HK49 : Hid (Blk W3 g9 29 (nodeC (⟨np,4,0,yp,⟨o1,o2,o3,o4,o5,o6,o7⟩,[]⟩,.slice Ad 0 cd)).toArray):=Lib.hid (by rw [hW3];exact HK9.out.far (p:=⟨g5,f * 12 + 2,none⟩) h59 _)
        clear hW3 hlu k2 z2 f0 f1 f2 f3 f4 f5 f6 f7 f8 f9 f10 u2 dv5
        obtain ⟨g5',c5',hv5,-,-,-,-,hz5,hr5⟩:=HO4.out.row (by rw [List.length_set,HOL.out];omega)
        obtain ⟨h9,-,h8⟩:=Value.slice.inj hv5
        have h9:=congrArg Addr.block (Option.some.inj h9)
        simp only at h9
        subst h9 h8
        clear hv5 hz5
        obtain ⟨dv5,hd5,b0,hc5⟩:=hr5 f (by rw [List.length_set,HOL.out];exact hfl)
        rw [List.getElem_set_self,HLK.out] at hd5 b0 hc5
        obtain ⟨Ad5,cd5,hde,-⟩:=id hd5
        simp only [setSame] at hde hd5
        subst hde
        have b1:=hc5 1 (by omega)
        have b2:=hc5 2 (by omega)
        have b3:=hc5 3 (by omega)
        have b4:=hc5 4 (by omega)
        have b5:=hc5 5 (by omega)
        have b6:=hc5 6 (by omega)
        have b7:=hc5 7 (by omega)
        have b8:=hc5 8 (by omega)
        have b9:=hc5 9 (by omega)
        have b10:=hc5 10 (by omega)
        have b11:=hc5 11 (by omega)
        simp only [nodeC,setSame,List.getElem?_cons_zero,List.getElem?_cons_succ] at b0 b1 b2 b3 b4 b5 b6 b7 b8 b9 b10 b11
        clear hr5 hc5
        obtain ⟨m0,m1,m2,m3,m4,m5,m6,m7,m8,m9,m10,m11⟩:=HK49.out.node
        have z0:=HK49.out.frozen 0
        have z1:=HK49.out.frozen 1
        have z2:=HK49.out.frozen 2
        have z3:=HK49.out.frozen 3
        have z4:=HK49.out.frozen 4
        have z5:=HK49.out.frozen 5
        have z6:=HK49.out.frozen 6
        have z7:=HK49.out.frozen 7
        have z8:=HK49.out.frozen 8
        have z9:=HK49.out.frozen 9
        have z10:=HK49.out.frozen 10
        have z11:=HK49.out.frozen 11
        have hb59 : HasBlk W3 g9 29 12:=⟨_,rfl,HK49.out⟩
        have HK58:=Lib.hid (Blk.far_setAll hg89 [.string (bs yp),.int .i64 nk,.int .i64 ((f : Int) + 1),.string (bs nt),.int .i64 o1,.int .i64 o2,.int .i64 o3,.string (bs o4),.string (bs o5),.int .i64 o6,.int .i64 o7,.slice Ad5 nd.length cd5] 0 HK48.out)
        have HK59 : Hid (Blk (setAll W3 g9 0 [.string (bs yp),.int .i64 nk,.int .i64 ((f : Int) + 1),.string (bs nt),.int .i64 o1,.int .i64 o2,.int .i64 o3,.string (bs o4),.string (bs o5),.int .i64 o6,.int .i64 o7,.slice Ad5 nd.length cd5]) g9 29 (nodeC (⟨yp,nk,(f : Int) + 1,nt,⟨o1,o2,o3,o4,o5,o6,o7⟩,nd⟩,.slice Ad5 nd.length cd5)).toArray):=Lib.hid (hb59.fill [.string (bs yp),.int .i64 nk,.int .i64 ((f : Int) + 1),.string (bs nt),.int .i64 o1,.int .i64 o2,.int .i64 o3,.string (bs o4),.string (bs o5),.int .i64 o6,.int .i64 o7,.slice Ad5 nd.length cd5] rfl)
        have HM5:=Lib.hid (SMap.setAll hb9 [.string (bs yp),.int .i64 nk,.int .i64 ((f : Int) + 1),.string (bs nt),.int .i64 o1,.int .i64 o2,.int .i64 o3,.string (bs o4),.string (bs o5),.int .i64 o6,.int .i64 o7,.slice Ad5 nd.length cd5] 0 HM4.out)
        have HB5:=Lib.hid (Below.setAll (Nat.le_trans HB.out.size hg9l) [.string (bs yp),.int .i64 nk,.int .i64 ((f : Int) + 1),.string (bs nt),.int .i64 o1,.int .i64 o2,.int .i64 o3,.string (bs o4),.string (bs o5),.int .i64 o6,.int .i64 o7,.slice Ad5 nd.length cd5] 0 HB4.out)
        have HO5:=Lib.hid (HO4.out.farAll (g:=g9) (by intro e;exact h59 (Option.some.inj (show some g5=some g9 from e)).symm) [.string (bs yp),.int .i64 nk,.int .i64 ((f : Int) + 1),.string (bs nt),.int .i64 o1,.int .i64 o2,.int .i64 o3,.string (bs o4),.string (bs o5),.int .i64 o6,.int .i64 o7,.slice Ad5 nd.length cd5] 0 hb59)
        have HD5:=Lib.hid (hd5.kept (U8Kept.setAll (by decide) [.string (bs yp),.int .i64 nk,.int .i64 ((f : Int) + 1),.string (bs nt),.int .i64 o1,.int .i64 o2,.int .i64 o3,.string (bs o4),.string (bs o5),.int .i64 o6,.int .i64 o7,.slice Ad5 nd.length cd5] 0 hb59))
        obtain ⟨W4,hW4⟩ : ∃ W4,W4=(((((((((((((((((((((((W3.setCell ⟨g9,0,none⟩ (.string (bs yp)))).setCell ⟨g9,1,none⟩ (.int .i64 nk))).setCell ⟨g9,2,none⟩ (.int .i64 ((f : Int) + 1)))).setCell ⟨g9,3,none⟩ (.string (bs nt)))).setCell ⟨g9,4,none⟩ (.int .i64 o1))).setCell ⟨g9,5,none⟩ (.int .i64 o2))).setCell ⟨g9,6,none⟩ (.int .i64 o3))).setCell ⟨g9,7,none⟩ (.string (bs o4)))).setCell ⟨g9,8,none⟩ (.string (bs o5)))).setCell ⟨g9,9,none⟩ (.int .i64 o6))).setCell ⟨g9,10,none⟩ (.int .i64 o7))).setCell ⟨g9,11,none⟩ (.slice Ad5 nd.length cd5)):=⟨_,rfl⟩
        have hW4' : W4=setAll W3 g9 0 [.string (bs yp),.int .i64 nk,.int .i64 ((f : Int) + 1),.string (bs nt),.int .i64 o1,.int .i64 o2,.int .i64 o3,.string (bs o4),.string (bs o5),.int .i64 o6,.int .i64 o7,.slice Ad5 nd.length cd5]:=hW4
        rw [← hW4'] at HK58 HK59 HM5 HB5 HO5 HD5
        clear hW4' hb59 hd5
        go_upto_region 14 with fail
        rw [← hW4]
        clear hW4 b0 b1 b2 b3 b4 b5 b6 b7 b8 b9 b10 b11 m0 m1 m2 m3 m4 m5 m6 m7 m8 m9 m10 m11 z0 z1 z2 z3 z4 z5 z6 z7 z8 z9 z10 z11
        have f0:=HK58.out.ent.1
        have m0:=HK59.out.node.1
        have z0:=HK59.out.frozen 0
        simp only at f0
        obtain ⟨Wz,hWz⟩ : ∃ Wz,Wz=W4.setCell ⟨g9,0,none⟩ (.string (bs np)):=⟨_,rfl⟩
        have HZB : Hid (Below w.heap.size w Wz):=Lib.hid (by rw [hWz];exact HB5.out.setCell (p:=⟨g9,0,none⟩) (Nat.le_trans HB.out.size hg9l) _)
        have HZM : Hid (SMap Wz b M):=Lib.hid (by rw [hWz];exact HM5.out.set_ hb9 _ _)
        have HZO : Hid (NodesOwn Wz 0 (.slice (some ⟨g5,0,none⟩) k c5) ((anewP (t.take k)).set f (setSame y ((f : Int) + 1)))):=Lib.hid (by rw [hWz];exact HO5.out.far_ (g:=g9) (by intro e;exact h59 (Option.some.inj (show some g5=some g9 from e)).symm) ⟨_,rfl,HK59.out⟩ _ _)
        have HZK : Hid (Blk Wz g9 29 (nodeC (⟨np,nk,(f : Int) + 1,nt,⟨o1,o2,o3,o4,o5,o6,o7⟩,nd⟩,.slice Ad5 nd.length cd5)).toArray):=Lib.hid (by rw [hWz];exact HK59.out.set_ 0 (.string (bs np)))
        have HD0 : Hid (DataAt Wz 0 (.slice Ad5 nd.length cd5) nd):=Lib.hid (by rw [hWz];exact HD5.out.kept (U8Kept.set_ (g:=g9) HK59.out (by decide) 0 (.string (bs np))))
        have f0z : Wz.cell? ⟨g8,0,none⟩=some (.string (bs np)):=by rw [hWz,World.cell?_setCell_other _ _ _ _ (fun e => hg89 (congrArg Addr.block e).symm)];exact f0
        go_upto_region 15 with fail
        rw [← hWz]
        clear hWz f0 m0 z0
        obtain ⟨zs,hzs,hzo,hzd⟩:=HZO.out
        rw [List.length_set,HOL.out] at hzo
        have HZS:=Lib.hid hzs
        have HZW:=Lib.hid hzo
        have HZD:=Lib.hid hzd
        have hMlt:=HZM.out.lt
        have hsz9:=HZB.out.size
        clear hzs hzo hzd
        go_wp2_with (first
          | ((with_reducible refine wpList_put_sm _ rfl (.tmp 55) (.tmp 57) (.tmp 58) 223 rfl _ _ Tryz.underlying223 Tryz.underlying9 b M rfl HZM.out np _ rfl rfl ?_);intro w7 hM7 hg7;have HM7:=Lib.hid hM7;have HG7:=Lib.hid hg7;have HK7:=Lib.hid (HZK.out.grown hg7 (by intro e;injection e with e;exact by have:=HM.out.lt;omega));obtain ⟨m0,m1,m2,m3,m4,m5,m6,m7,m8,m9,m10,m11⟩:=HK7.out.node;have HO7:=Lib.hid (ownsRow_off_smap HZW.out HZM.out hg7);clear hM7 hg7)
          | (at_builtin;refine wpList_append_any _ rfl (.tmp 59) (.tmp 61) _ rfl 0 29 i9 _ 12 144 Tryz.underlying23 hi9 hy0 hy1 hy2 rfl (by omega) _ k (zs.flatMap nodeC) rfl (ownsRow_below HO7.out ((Below.refl _ _).alloc (Nat.le_refl _) _)) (w7.heap.size + 1) (some ⟨w7.heap.size,0,none⟩) 1 1 (nodeC (⟨np,nk,(f : Int) + 1,nt,⟨o1,o2,o3,o4,o5,o6,o7⟩,nd⟩,.slice Ad5 nd.length cd5)) rfl (new_row w7 29 (nodeC (⟨np,nk,(f : Int) + 1,nt,⟨o1,o2,o3,o4,o5,o6,o7⟩,nd⟩,.slice Ad5 nd.length cd5)) 1 12 rfl) (one_node _ rfl) (by simp only [maxLen];omega) (by omega) (Nat.zero_le _) ?_;intro v9 w9 hown9 hg9 hat9;obtain ⟨A9,c9,hv9,-⟩:=ownsRow_read hown9;subst hv9;have HO9:=Lib.hid hown9;have HG9:=Lib.hid hg9;have HAT:=Lib.hid hat9;clear hown9 hg9 hat9))
        go_roundg (t.length - (k + 1))
        case measure => omega
        case rel =>
          refine ⟨k + 1,by omega,by omega,by go_num,Lib.hid (PtSt.snoc (OUT:=(anewP (t.take k)).set f (setSame y ((f : Int) + 1))) (N:=⟨np,nk,(f : Int) + 1,nt,⟨o1,o2,o3,o4,o5,o6,o7⟩,nd⟩) HZB.out HG.out hbb HZM.out (by rw [HGK.out];exact HM7.out) HG7.out HP.out HTO.out hlt HZS.out (by rw [List.length_set,HOL.out];exact HZW.out) HZD.out HD0.out rfl HG9.out HAT.out (by rw [List.length_set,HOL.out];exact HO9.out) HNX.out)⟩
    · obtain rfl : k=t.length:=by omega
      have hO:=HS.out.2.1
      rw [List.take_length] at hO
      obtain ⟨_,A5,c5,-,h5e,-⟩:=hO.at_
      rw [anewP_length] at h5e
      subst h5e
      have HCP:=Lib.hid (Copy_any _ (anewP t) wr hO.at_ (by rw [anewP_length];omega) (fun x hx => by
        unfold anewP at hx
        obtain ⟨i,hi,rfl⟩:=List.mem_map.1 hx
        have hi : i < t.length:=by simpa using hi
        have:=(HTO.out.node t[i] (List.getElem_mem _)).data.1
        unfold anewAt
        rw [getD_at hi]
        show t[i].data.length≤100000
        omega))
      have HBW:=Lib.hid HS.out.1
      clear hO
      go_wp2_with fail
      refine HCP.out.mono ?_
      rintro e w7 ⟨cv,rfl,hcv,b7⟩
      have HCV:=Lib.hid (hcv.mono HBW.out.size)
      have B7:=Lib.hid (HBW.out.trans (b7.mono HBW.out.size))
      obtain ⟨_,A7,c7,-,h7e,-⟩:=hcv.at_
      subst h7e
      clear hcv b7
      go_wp2_with fail
      go_ret2
      exact ⟨_,rfl,HCV.out,B7.out⟩
end
end Go.Proofs.YtphmhmdcaafmdaaGreatDoor
