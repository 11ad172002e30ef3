import Derived.Test.YtphmhmdcaafmdaaGreatDoorTreeV
import Derived.Test.YtphmhmdcaafmdaaGreatDoorMapsT
import Derived.Test.YtphmhmdcaafmdaaGreatDoorTCheck
import Derived.Test.YtphmhmdcaafmdaaGreatDoorCopyS
import Derived.StillTailTactics
namespace Go.Proofs.YtphmhmdcaafmdaaGreatDoor
set_option linter.all false
section
open Go.RowKit
def sameAt (s : Int) (x : NodeP) : Bool:=x.same == s
def firstAt (t : List NodeP) (i : Nat) : Nat:=if (t.getD i default).same=0 then i else (t.findIdx? (sameAt (t.getD i default).same)).getD i
def firstsP (t : List NodeP) : List Int:=(List.range t.length).map fun i => (firstAt t i : Int)
theorem firstsP_length (t : List NodeP) : (firstsP t).length=t.length:=by simp [firstsP]
theorem firstsP_take {t : List NodeP} {k : Nat} (hk : k < t.length) : (firstsP t).take (k + 1)=(firstsP t).take k ++ [(firstAt t k : Int)]:=by
  rw [List.take_succ_eq_append_getElem (by rw [firstsP_length];exact hk)]
  congr 1
  simp [firstsP]
def FirstM (t : List NodeP) (k : Nat) (M : List (Int × Value)) : Prop:=∀ s : Int,s≠0→mapGet M s=((t.take k).findIdx? (sameAt s)).map fun i => Value.int .i64 (i : Int)
theorem FirstM.start (t : List NodeP) : FirstM t 0 []:=fun _ _ => rfl
theorem take_idx {t : List NodeP} {k : Nat} (hk : k < t.length) (s : Int) : (t.take (k + 1)).findIdx? (sameAt s)=((t.take k).findIdx? (sameAt s)).or (if t[k].same=s then some k else none):=by
  rw [List.take_succ_eq_append_getElem hk,List.findIdx?_append,List.length_take,Nat.min_eq_left (Nat.le_of_lt hk)]
  congr 1
  by_cases h : t[k].same=s
  · rw [if_pos h];simp [sameAt,h]
  · rw [if_neg h];simp [sameAt,h]
theorem take_some {t : List NodeP} {k j : Nat} {s : Int} (h : (t.take k).findIdx? (sameAt s)=some j) : t.findIdx? (sameAt s)=some j:=by
  rw [← List.take_append_drop k t,List.findIdx?_append,h];rfl
theorem FirstM.none_ {t : List NodeP} {k : Nat} {M : List (Int × Value)} (h : FirstM t k M) (hk : k < t.length) (h0 : t[k].same=0) : FirstM t (k + 1) M∧firstAt t k=k:=by
  refine ⟨fun s hs => ?_,?_⟩
  · rw [take_idx hk,if_neg (by rw [h0];exact fun e => hs e.symm),Option.or_none]
    exact h s hs
  · unfold firstAt;rw [getD_at hk,if_pos h0]
theorem FirstM.old {t : List NodeP} {k : Nat} {M : List (Int × Value)} {v : Value} (h : FirstM t k M) (hk : k < t.length) (h0 : t[k].same≠0) (hv : mapGet M t[k].same=some v) : FirstM t (k + 1) M∧v=.int .i64 (firstAt t k : Int):=by
  have h1:=h _ h0
  rw [hv] at h1
  cases hq : (t.take k).findIdx? (sameAt t[k].same) with
  | none => rw [hq] at h1;cases h1
  | some j =>
    refine ⟨fun s hs => ?_,?_⟩
    · rw [take_idx hk]
      by_cases e : t[k].same=s
      · rw [← e,hq,Option.some_or,← hq];exact h _ h0
      · rw [if_neg e,Option.or_none];exact h s hs
    · rw [hq] at h1
      unfold firstAt
      rw [getD_at hk,if_neg h0,take_some hq]
      injection h1
theorem FirstM.fresh {t : List NodeP} {k : Nat} {M : List (Int × Value)} (h : FirstM t k M) (hk : k < t.length) (h0 : t[k].same≠0) (hv : mapGet M t[k].same=none) : FirstM t (k + 1) (mapPut M t[k].same (.int .i64 (k : Int)))∧firstAt t k=k:=by
  have h1:=h _ h0
  rw [hv] at h1
  have hq : (t.take k).findIdx? (sameAt t[k].same)=none:=by
    cases hq : (t.take k).findIdx? (sameAt t[k].same) with
    | none => rfl
    | some j => rw [hq] at h1;cases h1
  have hf : (t.take (k + 1)).findIdx? (sameAt t[k].same)=some k:=by rw [take_idx hk,hq,if_pos rfl];rfl
  refine ⟨fun s hs => ?_,?_⟩
  · rw [mapGet_put]
    by_cases e : s=t[k].same
    · rw [if_pos e,e,hf];rfl
    · rw [if_neg e,take_idx hk,if_neg (fun a => e a.symm),Option.or_none];exact h s hs
  · unfold firstAt
    rw [getD_at hk,if_neg h0,take_some hf];rfl
theorem firstAt_spec {t : List NodeP} {i : Nat} (hi : i < t.length) : firstAt t i≤i∧firstAt t (firstAt t i)=firstAt t i ∧
    (firstAt t i≠i→∃ h : firstAt t i < t.length,t[firstAt t i].same=t[i].same∧t[i].same≠0):=by
  by_cases h0 : t[i].same=0
  · have e : firstAt t i=i:=by unfold firstAt;rw [getD_at hi,if_pos h0]
    rw [e]
    exact ⟨Nat.le_refl _,e,fun h => absurd rfl h⟩
  · cases hq : t.findIdx? (sameAt t[i].same) with
    | none =>
      rw [List.findIdx?_eq_none_iff] at hq
      have:=hq t[i] (List.getElem_mem _)
      simp [sameAt] at this
    | some k =>
      have e : firstAt t i=k:=by unfold firstAt;rw [getD_at hi,if_neg h0,hq];rfl
      rw [List.findIdx?_eq_some_iff_getElem] at hq
      obtain ⟨hk,h1,h2⟩:=hq
      have h1 : t[k].same=t[i].same:=by simpa [sameAt] using h1
      have hki : k≤i:=by
        rcases Nat.lt_or_ge i k with a | a
        · exact absurd (by simp [sameAt]) (h2 i a)
        · exact a
      rw [e]
      refine ⟨hki,?_,fun _ => ⟨hk,h1,h0⟩⟩
      unfold firstAt
      rw [getD_at hk,h1,if_neg h0]
      have : t.findIdx? (sameAt t[i].same)=some k:=by
        rw [List.findIdx?_eq_some_iff_getElem]
        exact ⟨hk,by simpa [sameAt] using h1,h2⟩
      rw [this];rfl
end
section
open Go.RowKit
theorem zeroI (w : World) : (zeroValue 3).run Tryz.prog w=.ok (.int .i64 0) w:=by kernel_rfl
theorem IMap.drewN {w : World} {b : Nat} {M : List (Int × Value)} (h : IMap w b M) (n : Nat) : IMap (w.drewN n) b M:=h
theorem IMap.look_i {w : World} {b : Nat} {M : List (Int × Value)} (h : IMap w b M) (s : Int) (n : Nat) :
    (Instr.lookup 218 (.map (some b)) (.int .i64 s) true).run Tryz.prog (w.drewN n)=.ok (.tuple #[(mapGet M s).getD (.int .i64 0),.bool (mapGet M s).isSome]) (w.drewN n) :=
  (h.drewN n).look Tryz.underlying218 Tryz.underlying3 (zeroI _) s
section
variable {G b : Nat} {M : List (Int × Value)} {w : World}
set_option maxRecDepth 100000 in
set_option maxHeartbeats 1000000 in
theorem Meet_zero (x : NodeV) (k : Int) (hs : x.1.same=0) :
    Calls Tryz.prog 134 #[.pointer (some ⟨G,0,none⟩),.agg (nodeC x).toArray,.int .i64 k] w fun e w' => e=.returned (.int .i64 k)∧Below w.heap.size w w':=by
  obtain ⟨⟨np,nk,ns,nt,⟨o1,o2,o3,o4,o5,o6,o7⟩,nd⟩,dv⟩:=x
  simp only at hs
  subst hs
  unfold nodeC
  simp only
  go_enter Tryz.func134,Tryz.ntmps134
  go_wp2_with fail
  go_ret
  exact ⟨rfl,(Below.refl _ _).alloc (Nat.le_refl _) _⟩
set_option maxRecDepth 100000 in
set_option maxHeartbeats 1000000 in
theorem Meet_old (x : NodeV) (k j : Int) (hs : x.1.same≠0) (hT : Blk w G 220 #[.map (some b)]) (hM : IMap w b M) (hq : mapGet M x.1.same=some (.int .i64 j)) :
    Calls Tryz.prog 134 #[.pointer (some ⟨G,0,none⟩),.agg (nodeC x).toArray,.int .i64 k] w fun e w' => e=.returned (.int .i64 j)∧Below w.heap.size w w':=by
  obtain ⟨⟨np,nk,ns,nt,⟨o1,o2,o3,o4,o5,o6,o7⟩,nd⟩,dv⟩:=x
  simp only at hs hq
  have q1 : (ns == 0)=false:=by simp [hs]
  obtain ⟨W2,hW2⟩ : ∃ W2,W2=w.alloc (.cells #[.string (bs np),.int .i64 nk,.int .i64 ns,.string (bs nt),.int .i64 o1,.int .i64 o2,.int .i64 o3,.string (bs o4),.string (bs o5),.int .i64 o6,.int .i64 o7,dv] 29):=⟨_,rfl⟩
  have b2 : Below w.heap.size w W2:=by rw [hW2];exact (Below.refl _ _).alloc (Nat.le_refl _) _
  have c0 : W2.cell? ⟨G,0,none⟩=some (.map (some b)):=(hT.below b2 hT.lt).cell 0
  have c2 : W2.cell? ⟨w.heap.size,2,none⟩=some (.int .i64 ns):=by rw [hW2];exact (Blk.new w 29 _).cell 2
  have hlk:=(hM.below b2).look_i ns
  rw [hq] at hlk
  simp only [Option.getD_some,Option.isSome_some] at hlk
  have B2:=Lib.hid b2
  clear hs hq b2 hM hT
  unfold nodeC
  simp only
  go_enter Tryz.func134,Tryz.ntmps134
  go_upto_region 1 with fail
  rw [← hW2]
  clear hW2
  go_wp2_with fail
  go_quiet (fail)
  clear hlk
  go_wp2_with fail
  go_ret
  exact ⟨rfl,below_drewN B2.out _⟩
def MeetPost (b : Nat) (M : List (Int × Value)) (W w' : World) : Prop:=∃ W1,Below W.heap.size W W1∧W1.grownBy w' (some b)∧IMap w' b M
set_option maxRecDepth 100000 in
set_option maxHeartbeats 1000000 in
theorem Meet_fresh (x : NodeV) (k : Int) (hs : x.1.same≠0) (hT : Blk w G 220 #[.map (some b)]) (hM : IMap w b M) (hq : mapGet M x.1.same=none) :
    Calls Tryz.prog 134 #[.pointer (some ⟨G,0,none⟩),.agg (nodeC x).toArray,.int .i64 k] w fun e w' => e=.returned (.int .i64 k)∧MeetPost b (mapPut M x.1.same (.int .i64 k)) w w':=by
  obtain ⟨⟨np,nk,ns,nt,⟨o1,o2,o3,o4,o5,o6,o7⟩,nd⟩,dv⟩:=x
  simp only at hs hq
  have q1 : (ns == 0)=false:=by simp [hs]
  obtain ⟨W2,hW2⟩ : ∃ W2,W2=w.alloc (.cells #[.string (bs np),.int .i64 nk,.int .i64 ns,.string (bs nt),.int .i64 o1,.int .i64 o2,.int .i64 o3,.string (bs o4),.string (bs o5),.int .i64 o6,.int .i64 o7,dv] 29):=⟨_,rfl⟩
  have b2 : Below w.heap.size w W2:=by rw [hW2];exact (Below.refl _ _).alloc (Nat.le_refl _) _
  have c0 : W2.cell? ⟨G,0,none⟩=some (.map (some b)):=(hT.below b2 hT.lt).cell 0
  have c2 : W2.cell? ⟨w.heap.size,2,none⟩=some (.int .i64 ns):=by rw [hW2];exact (Blk.new w 29 _).cell 2
  have hlk:=(hM.below b2).look_i ns
  rw [hq] at hlk
  simp only [Option.getD_none,Option.isSome_none] at hlk
  have B2:=Lib.hid b2
  have HM:=Lib.hid (hM.below b2)
  clear hs hq b2 hM hT
  unfold nodeC
  simp only
  go_enter Tryz.func134,Tryz.ntmps134
  go_upto_region 1 with fail
  rw [← hW2]
  clear hW2
  go_wp2_with fail
  go_quiet (fail)
  clear hlk
  have B3:=Lib.hid (below_drewN B2.out nq)
  have HM3:=Lib.hid (HM.out.drewN nq)
  have d0 : (W2.drewN nq).cell? ⟨G,0,none⟩=some (.map (some b)):=c0
  have d2 : (W2.drewN nq).cell? ⟨w.heap.size,2,none⟩=some (.int .i64 ns):=c2
  clear c0 c2
  generalize W2.drewN nq=W3 at *
  go_wp2_with fail
  go_still_tail 7,(by kernel_rfl)
  change wpList _ _ _ _ _ W3.drew
  have B4 : Hid (Below w.heap.size w W3.drew):=Lib.hid B3.out.drew
  have HM4 : Hid (IMap W3.drew b M):=Lib.hid HM3.out
  have e0 : W3.drew.cell? ⟨G,0,none⟩=some (.map (some b)):=d0
  have e2 : W3.drew.cell? ⟨w.heap.size,2,none⟩=some (.int .i64 ns):=d2
  generalize W3.drew=W4 at *
  go_wp2_with (with_reducible refine wpList_put_im _ rfl (.tmp 28) (.tmp 30) (.tmp 31) 218 rfl _ _ Tryz.underlying218 Tryz.underlying3 b M rfl HM4.out ns _ rfl rfl ?_;intro w7 hM7 hg7;have HM7:=Lib.hid hM7;have HG7:=Lib.hid hg7;clear hM7 hg7)
  go_ret
  exact ⟨rfl,W4,B4.out,HG7.out,HM7.out⟩
end
theorem int_info : (Tryz.prog.info? 3).map (fun i => (i.zero,i.size,i.bytes))=some (some (.int .i64 0),1,8):=by kernel_rfl
def IntsOwn (w : World) (base : Nat) (v : Value) (l : List Int) : Prop:=w.ownsRow base 3 1 v l.length (l.map (.int .i64))
theorem IntsOwn.below {w w' : World} {base : Nat} {v : Value} {l : List Int} (h : IntsOwn w base v l) (hb : Below w.heap.size w w') : IntsOwn w' base v l:=ownsRow_below h hb
theorem IntsOwn.mono {w : World} {base base' : Nat} {v : Value} {l : List Int} (h : IntsOwn w base v l) (hb : base'≤base) : IntsOwn w base' v l:=ownsRow_mono h hb
theorem IntsOwn.nil (w : World) (base : Nat) : IntsOwn w base (.slice none 0 0) []:=World.ownsRow_nil _ _ _ _
theorem ownsRow_off_map {w w' : World} {base : Nat} {e : TypeId} {size n : Nat} {v : Value} {xs : List Value} {b : Nat} {M : List (Int × Value)} (h : w.ownsRow base e size v n xs) (hM : IMap w b M) (hb : w.grownBy w' (some b)) : w'.ownsRow base e size v n xs:=by
  obtain ⟨h1,h2⟩:=h
  refine ⟨h1,?_⟩
  rcases h2 with h | ⟨g,cap,cur,hv,hb',hg,r⟩
  · exact .inl h
  · refine .inr ⟨g,cap,cur,hv,hb',(hb.block g (heap_lt hg) ?_).trans hg,r⟩
    rintro e
    injection e with e
    subst e
    obtain ⟨es,clock,hc,_⟩:=hM
    rw [hg] at hc
    cases hc
theorem own_map_ne {w : World} {base : Nat} {e : TypeId} {size n : Nat} {v : Value} {xs : List Value} {b : Nat} {M : List (Int × Value)} (h : w.ownsRow base e size v n xs) (hM : IMap w b M) : some b≠v.ownBlock:=by
  intro hv
  obtain ⟨_,C,fr,hC⟩:=own_typed h hv.symm
  obtain ⟨es,clock,hc,_⟩:=hM
  rw [hC] at hc
  cases hc
def FSt (w : World) (l : List NodeP) (b G : Nat) (km kv : Nat) (v : Value) (W : World) : Prop :=
  Below w.heap.size w W∧w.heap.size≤b∧G≠b∧Blk W G 220 #[.map (some b)]∧(∃ M,IMap W b M∧FirstM l km M)∧IntsOwn W w.heap.size v ((firstsP l).take kv)
theorem FSt.below {w W W' : World} {l : List NodeP} {b G km kv : Nat} {v : Value} (h : FSt w l b G km kv v W) (hb : Below W.heap.size W W') : FSt w l b G km kv v W':=by
  obtain ⟨h1,h2,h3,h4,⟨M,h5,h6⟩,h7⟩:=h
  exact ⟨h1.trans (hb.mono h1.size),h2,h3,h4.below hb h4.lt,⟨M,h5.below hb,h6⟩,h7.below hb⟩
theorem Meet_any {w W : World} {l : List NodeP} {b G k kv : Nat} {v : Value} (hk : k < l.length) (x : NodeV) (hx : x.1=l[k]) (h : FSt w l b G k kv v W) :
    Calls Tryz.prog 134 #[.pointer (some ⟨G,0,none⟩),.agg (nodeC x).toArray,.int .i64 k] W fun e w' => e=.returned (.int .i64 (firstAt l k : Int))∧FSt w l b G (k + 1) kv v w':=by
  obtain ⟨h1,h2,h3,h4,⟨M,h5,h6⟩,h7⟩:=id h
  by_cases hs : x.1.same=0
  · obtain ⟨a1,a2⟩:=h6.none_ hk (by rw [← hx];exact hs)
    rw [a2]
    refine (Meet_zero x k hs).mono ?_
    rintro e w' ⟨rfl,hb⟩
    obtain ⟨g1,g2,g3,g4,_,g7⟩:=h.below hb
    exact ⟨rfl,g1,g2,g3,g4,⟨M,h5.below hb,a1⟩,g7⟩
  · have hs' : l[k].same≠0:=by rw [← hx];exact hs
    cases hq : mapGet M x.1.same with
    | some u =>
      rw [hx] at hq
      obtain ⟨a1,rfl⟩:=h6.old hk hs' hq
      refine (Meet_old x k (firstAt l k) hs h4 h5 (by rw [hx];exact hq)).mono ?_
      rintro e w' ⟨rfl,hb⟩
      obtain ⟨g1,g2,g3,g4,_,g7⟩:=h.below hb
      exact ⟨rfl,g1,g2,g3,g4,⟨M,h5.below hb,a1⟩,g7⟩
    | none =>
      obtain ⟨a1,a2⟩:=h6.fresh hk hs' (by rw [← hx];exact hq)
      rw [a2]
      refine (Meet_fresh x k hs h4 h5 hq).mono ?_
      rintro e w' ⟨rfl,W1,hb,hg,hM⟩
      obtain ⟨g1,g2,g3,g4,_,g7⟩:=h.below hb
      have hM1:=h5.below hb
      refine ⟨rfl,g1.grown hg (Nat.le_trans h1.size hb.size) (fun j e => by cases e;exact h2),g2,g3,g4.grown hg (fun e => by injection e with e;exact h3 e),⟨_,hM,by rw [← hx] at a1;exact a1⟩,ownsRow_off_map g7 hM1 hg⟩
set_option maxRecDepth 100000 in
set_option maxHeartbeats 4000000 in
theorem Firsts_any (v : Value) (l : List NodeP) (w : World) (hm : ML w) (hl : NodesAt w v l) (hok : ∀ x∈l,NodeOk x) (hch : chkT l=0) :
    Calls Tryz.prog 69 #[v] w fun e w' => ∃ fv,e=.returned (.tuple #[fv,.int .i64 0])∧IntsOwn w' w.heap.size fv (firstsP l)∧Below w.heap.size w w':=by
  have hlen:=(chkT_all hch).1
  have HT:=Lib.hid (TCheck_any v l w hm hl hok)
  rw [hch] at HT
  have HN:=Lib.hid hl
  obtain ⟨xs,A,c,hx,rfl,hlc,hc,hA,hr,hdat⟩:=hl
  have hxl : xs.length=l.length:=by rw [← hx,List.length_map]
  unfold maxLen at hc
  obtain ⟨i9,hi9,hy0,hy1,hy2⟩:=info_parts int_info
  have HX:=Lib.hid hx
  have HR:=Lib.hid hr
  have HDT:=Lib.hid hdat
  clear hm hx hr hdat hA hok hch
  have hmm:=@run_makeMap Tryz.prog
  go_enter Tryz.func69,Tryz.ntmps69
  go_wp2_with fail
  refine HT.out.mono ?_
  rintro e w1 ⟨rfl,b1⟩
  have B1:=Lib.hid b1
  have H0 : Hid (FSt w l w1.heap.size (w1.heap.size + 1) 0 0 (.slice none 0 0) ((w1.alloc (.map #[] 0)).alloc (.cells #[.map (some w1.heap.size)] 220))):=Lib.hid (by
    have c1:=(Below.refl w1.heap.size w1).alloc (Nat.le_refl _) (.map #[] 0)
    have c2:=(Below.refl (w1.alloc (.map #[] 0)).heap.size (w1.alloc (.map #[] 0))).alloc (Nat.le_refl _) (.cells #[.map (some w1.heap.size)] 220)
    refine ⟨((b1.alloc b1.size _).alloc (by have:=b1.size;simp;omega) _),b1.size,by omega,?_,⟨[],(IMap.new w1).below c2,FirstM.start l⟩,IntsOwn.nil _ _⟩
    have:=Blk.new (w1.alloc (.map #[] 0)) 220 #[.map (some w1.heap.size)]
    simpa using this)
  clear b1
  go_wp2_with fail
  clear hmm
  go_loopg [6,19] l.length (fun gg s6 s19 wr => ∃ k : Nat,k≤l.length∧l.length - k≤gg∧s19=.int .i64 k∧Hid (FSt w l w1.heap.size (w1.heap.size + 1) k k s6 wr))
  case atStart => exact ⟨0,Nat.zero_le _,by omega,rfl,H0⟩
  case round =>
    obtain ⟨k,hk,hg,rfl,HS⟩:=hrel
    by_cases hlt : k < l.length
    · have hltz : (k : Int) < (l.length : Int):=by omega
      obtain ⟨ad,rfl,hb,e0,e1,e2,e3,e4,e5,e6,e7,e8,e9,e10,e11⟩:=load_node (HR.out.below HS.out.1) (by omega) hlt
      have hxk : xs[k].1=l[k]:=by
        have:=HX.out
        subst this
        simp
      obtain ⟨Ad,cd,hde,-⟩:=HDT.out xs[k] (List.getElem_mem _)
      have HMT:=Lib.hid (fun W (h : FSt w l w1.heap.size (w1.heap.size + 1) k k u6 W) => Meet_any hlt xs[k] hxk h)
      have HTK:=Lib.hid (firstsP_take hlt)
      obtain ⟨At,ct,htv,-⟩:=ownsRow_read HS.out.2.2.2.2.2
      have hfl : ((firstsP l).take k).length=k:=by rw [List.length_take,firstsP_length];omega
      rw [hfl] at htv
      subst htv
      have hsz:=HS.out.1.size
      have HFL:=Lib.hid hfl
      clear hxk hfl
      generalize xs[k]=x at *
      obtain ⟨⟨np,nk,ns,nt,⟨o1,o2,o3,o4,o5,o6,o7⟩,nd⟩,dv⟩:=x
      simp only at hde e0 e1 e2 e3 e4 e5 e6 e7 e8 e9 e10 e11
      subst hde
      unfold nodeC at HMT
      simp only at HMT
      have HS2:=Lib.hid (HS.out.below ((Below.refl wr.heap.size wr).alloc (Nat.le_refl _) (.cells #[.string (bs np),.int .i64 nk,.int .i64 ns,.string (bs nt),.int .i64 o1,.int .i64 o2,.int .i64 o3,.string (bs o4),.string (bs o5),.int .i64 o6,.int .i64 o7,.slice Ad nd.length cd] 29)))
      go_wp2_with fail
      refine (HMT.out _ HS2.out).mono ?_
      rintro e w5 ⟨rfl,hS5⟩
      have HS5:=Lib.hid hS5
      clear hS5 e0 e1 e2 e3 e4 e5 e6 e7 e8 e9 e10 e11
      have HO5:=Lib.hid HS5.out.2.2.2.2.2
      have hO5 : Hid (w5.ownsRow w.heap.size 3 1 (.slice At k ct) k (((firstsP l).take k).map (.int .i64))):=Lib.hid (by have:=HO5.out;unfold IntsOwn at this;rw [HFL.out] at this;exact this)
      have hle5 : w.heap.size≤w5.heap.size:=HS5.out.1.size
      generalize (firstAt l k : Int)=fk at *
      go_wp2_with (at_builtin;refine wpList_append_any _ rfl (.tmp 24) (.tmp 29) _ rfl w.heap.size 3 i9 _ 1 8 Tryz.underlying143 hi9 hy0 hy1 hy2 rfl (by omega) _ k (((firstsP l).take k).map (.int .i64)) rfl (ownsRow_below hO5.out ((Below.refl _ _).alloc (Nat.le_refl _) _)) (w5.heap.size + 1) (some ⟨w5.heap.size,0,none⟩) 1 1 [.int .i64 fk] rfl (new_row w5 3 [.int .i64 fk] 1 1 rfl) (by simp [Value.oneCell']) (by simp only [maxLen];omega) (by omega) (by simp;omega) ?_;intro v9 w9 hown9 hg9 hat9;obtain ⟨A9,c9,hv9,-⟩:=ownsRow_read hown9;subst hv9;have HO9:=Lib.hid hown9;have HG9:=Lib.hid hg9;clear hown9 hg9 hat9)
      go_roundg (l.length - (k + 1))
      case measure => omega
      case rel =>
        have bA:=(Below.refl w5.heap.size w5).alloc (Nat.le_refl _) (.cells #[.int .i64 fk] 3)
        obtain ⟨g1,g2,g3,g4,⟨M,g5,g6⟩,g7⟩:=HS5.out.below bA
        have hO6 : (w5.alloc (.cells #[.int .i64 fk] 3)).ownsRow w.heap.size 3 1 (.slice At k ct) k (((firstsP l).take k).map (.int .i64)):=ownsRow_below hO5.out bA
        refine ⟨k + 1,by omega,by omega,by go_num,Lib.hid ⟨g1.grown HG9.out (Nat.le_trans hle5 bA.size) (fun g hg => (own_typed hO6 hg).1),g2,g3,g4.grown HG9.out (fun e => own_blk_ne hO6 g4 (by decide) e.symm),⟨M,g5.grown HG9.out (own_map_ne hO6 g5),g6⟩,?_⟩⟩
        unfold IntsOwn
        rw [HTK.out,List.length_append,HFL.out,List.map_append]
        exact HO9.out
    · obtain rfl : k=l.length:=by omega
      obtain ⟨At,ct,htv,-⟩:=ownsRow_read HS.out.2.2.2.2.2
      subst htv
      have HF : Hid ((firstsP l).take l.length=firstsP l):=Lib.hid (by rw [List.take_of_length_le (by rw [firstsP_length];omega)])
      go_wp2_with fail
      go_ret2
      refine ⟨_,rfl,?_,HS.out.1⟩
      have h:=HS.out.2.2.2.2.2
      rw [HF.out] at h
      rw [HF.out]
      exact h
end
section
open Go.RowKit
def CntM (L : List Int) (k : Nat) (M : List (Int × Value)) : Prop:=∀ s,(mapGet M s).getD (.int .i64 0)=.int .i64 ((L.take k).count s : Int)
theorem CntM.start (L : List Int) : CntM L 0 []:=fun s => by simp [mapGet]
theorem CntM.step {L : List Int} {k : Nat} {M : List (Int × Value)} (h : CntM L k M) (hk : k < L.length) : CntM L (k + 1) (mapPut M L[k] (.int .i64 (((L.take k).count L[k] : Int) + 1))):=fun s => by
  rw [mapGet_put,List.take_succ_eq_append_getElem hk,List.count_append]
  by_cases e : s=L[k]
  · rw [if_pos e,e];simp
  · rw [if_neg e,h s,List.count_singleton]
    have : (L[k] == s)=false:=by simp;exact fun a => e a.symm
    simp [this]
theorem IntsOwn.load {w : World} {base : Nat} {A : Option Addr} {n c : Nat} {l : List Int} (h : IntsOwn w base (.slice A n c) l) {k : Nat} (hk : k < l.length) :
    ∃ ad,A=some ad∧w.cell? (ad.add k)=some (.int .i64 l[k]):=by
  obtain ⟨A',c',e,_,_,_,hr⟩:=ownsRow_read h
  injection e with e1 e2 e3
  subst e1
  obtain ⟨ad,u,e,_,hu,hc⟩:=hr.at_ hk
  rw [List.getElem?_map,List.getElem?_eq_getElem hk] at hu
  injection hu with hu
  exact ⟨ad,e,by rw [hc,← hu]⟩
theorem IntsOwn.slice_ {w : World} {base : Nat} {v : Value} {l : List Int} (h : IntsOwn w base v l) : ∃ A c,v=.slice A l.length c∧l.length≤c∧c≤maxLen:=by
  obtain ⟨A,c,e,h1,h2,_⟩:=ownsRow_read h
  exact ⟨A,c,e,h1,h2⟩
end
end Go.Proofs.YtphmhmdcaafmdaaGreatDoor
