import Derived.Test.YtphmhmdcaafmdaaGreatDoorWords
import Derived.Maps.AppendAt
import Derived.IntWalk
import Derived.Test.YtphmhmdcaafmdaaGreatDoorPathW
import Derived.Test.YtphmhmdcaafmdaaGreatDoorOctalB
import Derived.Deep.RegionLaw
import Derived.Test.YtphmhmdcaafmdaaGreatDoorSum
import Derived.Test.YtphmhmdcaafmdaaGreatDoorFields
namespace Go.Proofs.YtphmhmdcaafmdaaGreatDoor
set_option linter.all false
section
section
open Go.RowKit
section
variable {P : Program} (w : World)
theorem zeroCells_one (z : Value) (hz : z.cells=#[z]) (n : Nat) : Builtin.zeroCells z.cells n=(List.replicate n z).toArray:=by
  apply Array.ext'
  unfold Builtin.zeroCells
  rw [hz]
  apply List.ext_getElem
  · simp
  · intro i h1 h2
    simp [Nat.mod_one]
theorem run_zeros_room (t ti ty e : TypeId) (i : TypeInfo) (z : Value) (ht : P.underlying t=some (.slice e)) (hti : P.underlying ti=some (.int .i64)) (hi : P.info? e=some i) (hz : i.zero=some z) (hzc : z.cells=#[z]) (h1z : z.oneCell'=true) (hs1 : i.size=1)
    (g sLen sCap : Nat) (cur : Array Value) (hg : w.heap[g]?=some (.cells cur e (0,0)))
    (m : Nat) (hm63 : m≤maxLen) (hm48 : m * i.bytes≤140737488355328) (h0 : 0 < m)
    (hroom : sLen + m≤sCap) (hfit : sLen * i.size + m≤cur.size) :
    (Builtin.append_ #[t,ti] ty #[.slice (some ⟨g,0,none⟩) sLen sCap,.int .i64 m]).run P w =
      .ok (.slice (some ⟨g,0,none⟩) (sLen + m) sCap) (w.setRow g (cur.toList.take (sLen * i.size) ++ List.replicate m z ++ cur.toList.drop (sLen * i.size + m)).toArray):=by
  have hw : IntKind.i64.wrap (m : Int)=m:=IntWalk.i64_in _ (by unfold maxLen at hm63;exact ⟨by omega,by omega⟩)
  have h48 : ¬ (281474976710656 < (m : Int) * i.bytes):=by
    have : (m : Int) * i.bytes=((m * i.bytes : Nat) : Int):=by simp
    omega
  have hst:=run_storeCells_at P g (sLen * i.size) e (List.replicate m z) 0 cur w hg (by simpa using hfit) (fun u hu => by rw [List.eq_of_mem_replicate hu];exact h1z)
  simp only [Nat.add_zero,List.length_replicate] at hst
  have hm0 : m≠0:=by omega
  have hneg : ¬ ((m : Int) < 0):=by omega
  rw [hs1,Nat.mul_one] at hst
  simp [Builtin.append_,run_underlying ht,run_underlying hti,sizeOf,typeInfo,zeroValue,hi,hz,asInt,asIntOf,hw,h48,hneg,hs1,hm0,hroom,zeroCells_one z hzc,Addr.add_lit,hst]
theorem run_zeros_grow (t ti ty e : TypeId) (i : TypeInfo) (z : Value) (ht : P.underlying t=some (.slice e)) (hti : P.underlying ti=some (.int .i64)) (hi : P.info? e=some i) (hz : i.zero=some z) (hzc : z.cells=#[z]) (hs1 : i.size=1)
    (b : Addr) (sLen sCap : Nat) (olds : List Value) (hlo : olds.length=sLen * i.size) (holds : ∀ j v,olds[j]?=some v→w.cell? (b.add j)=some v)
    (m : Nat) (hm63 : m≤maxLen) (hm48 : m * i.bytes≤140737488355328) (h0 : 0 < m)
    (hg : sCap < sLen + m) (h63 : ((sLen + m : Nat) : Int)≤9223372036854775807) (hfit : Builtin.nextslicecap (sLen + m) sCap * i.bytes≤281474976710656) :
    (Builtin.append_ #[t,ti] ty #[.slice (some b) sLen sCap,.int .i64 m]).run P w =
      .ok (.slice (some ⟨w.heap.size,0,none⟩) (sLen + m) (grownCap w (sLen + m) sCap e))
        (w.drew.alloc (.cells (olds.toArray ++ (List.replicate m z).toArray ++ Builtin.zeroCells z.cells (grownCap w (sLen + m) sCap e - (sLen + m))) e)):=by
  have hw : IntKind.i64.wrap (m : Int)=m:=IntWalk.i64_in _ (by unfold maxLen at hm63;exact ⟨by omega,by omega⟩)
  have h48 : ¬ (281474976710656 < (m : Int) * i.bytes):=by
    have : (m : Int) * i.bytes=((m * i.bytes : Nat) : Int):=by simp
    omega
  have hn : ¬ (sLen + m≤sCap):=by omega
  have h63' : ¬ (9223372036854775807 < ((sLen : Int) + (m : Int))):=by omega
  have h48' : ¬ (281474976710656 < Builtin.nextslicecap (sLen + m) sCap * i.bytes):=by omega
  have hfo:=run_firstCells_some (P:=P) w.drew i.size sLen b sLen sCap olds hlo (by simpa using holds)
  have hm0 : m≠0:=by omega
  have hneg : ¬ ((m : Int) < 0):=by omega
  rw [hs1] at hfo
  simp [Builtin.append_,run_underlying ht,run_underlying hti,sizeOf,typeInfo,zeroValue,hi,hz,asInt,asIntOf,hw,h48,hneg,hs1,hm0,hn,h63',h48',Question.forced,hfo,newRow,grownCap,zeroCells_one z hzc]
theorem run_zeros_nil (t ti ty e : TypeId) (i : TypeInfo) (z : Value) (ht : P.underlying t=some (.slice e)) (hti : P.underlying ti=some (.int .i64)) (hi : P.info? e=some i) (hz : i.zero=some z) (hzc : z.cells=#[z]) (hs1 : i.size=1)
    (m : Nat) (hm63 : m≤maxLen) (hm48 : m * i.bytes≤140737488355328) (h0 : 0 < m) :
    (Builtin.append_ #[t,ti] ty #[.slice none 0 0,.int .i64 m]).run P w =
      .ok (.slice (some ⟨w.heap.size,0,none⟩) m (grownCap w m 0 e))
        (w.drew.alloc (.cells ((List.replicate m z).toArray ++ Builtin.zeroCells z.cells (grownCap w m 0 e - m)) e)):=by
  have hw : IntKind.i64.wrap (m : Int)=m:=IntWalk.i64_in _ (by unfold maxLen at hm63;exact ⟨by omega,by omega⟩)
  have h48 : ¬ (281474976710656 < (m : Int) * i.bytes):=by
    have : (m : Int) * i.bytes=((m * i.bytes : Nat) : Int):=by simp
    omega
  have h63' : ¬ (9223372036854775807 < (m : Int)):=by unfold maxLen at hm63;omega
  have h48' : ¬ (281474976710656 < Builtin.nextslicecap m 0 * i.bytes):=by rw [nextslicecap_zero h0];omega
  have hm0 : m≠0:=by omega
  have hneg : ¬ ((m : Int) < 0):=by omega
  simp [Builtin.append_,Builtin.firstCells,run_underlying ht,run_underlying hti,sizeOf,typeInfo,zeroValue,hi,hz,asInt,asIntOf,hw,h48,hneg,hs1,hm0,h63',h48',Question.forced,newRow,grownCap,zeroCells_one z hzc]
theorem run_zeros_none (t ti ty e : TypeId) (i : TypeInfo) (ht : P.underlying t=some (.slice e)) (hti : P.underlying ti=some (.int .i64)) (hi : P.info? e=some i) (base : Nat) (v : Value) (n : Nat) (xs : List Value) (hown : w.ownsRow base e i.size v n xs) :
    (Builtin.append_ #[t,ti] ty #[v,.int .i64 0]).run P w=.ok v w:=by
  have hw : IntKind.i64.wrap (0 : Int)=0:=by decide
  rcases hown.2 with ⟨rfl,h0⟩ | ⟨g,cap,cur,rfl,_,_,hn,_⟩
  · simp [Builtin.append_,run_underlying ht,run_underlying hti,sizeOf,typeInfo,hi,asInt,asIntOf,hw]
  · simp [Builtin.append_,run_underlying ht,run_underlying hti,sizeOf,typeInfo,hi,asInt,asIntOf,hw,hn,storeCells]
theorem run_append_zeros (base : Nat) (t ti ty e : TypeId) (i : TypeInfo) (z : Value) (bytes : Nat) (ht : P.underlying t=some (.slice e)) (hti : P.underlying ti=some (.int .i64)) (hi : P.info? e=some i) (hz : i.zero=some z) (hzc : z.cells=#[z]) (h1z : z.oneCell'=true) (hs1 : i.size=1) (hby : i.bytes=bytes)
    (v : Value) (n : Nat) (xs : List Value) (hown : w.ownsRow base e 1 v n xs) (m : Nat)
    (h63 : n + m≤maxLen) (hbytes : (n + m) * bytes≤140737488355328) (hbase : base≤w.heap.size) :
    ∃ v' w',(Builtin.append_ #[t,ti] ty #[v,.int .i64 m]).run P w=.ok v' w'∧w'.ownsRow base e 1 v' (n + m) (xs ++ List.replicate m z)∧w.grownBy w' v.ownBlock:=by
  subst hby
  have hm48 : m * i.bytes≤140737488355328:=Nat.le_trans (Nat.mul_le_mul_right _ (by omega)) hbytes
  have hlen : (xs ++ List.replicate m z).length=(n + m) * 1:=by rw [List.length_append,hown.1,List.length_replicate];omega
  have hzs : z.cells.size=1:=by rw [hzc];rfl
  rcases Nat.eq_zero_or_pos m with rfl | h0
  · refine ⟨v,w,run_zeros_none w t ti ty e i ht hti hi base v n xs (by rw [hs1];exact hown),by simpa using hown,⟨rfl,rfl,rfl,Nat.le_refl _,fun _ _ _ => rfl⟩⟩
  have grown : ∀ (old : Nat),old < n + m→∀ (row : Option Nat),
      (w.drew.alloc (.cells (xs.toArray ++ (List.replicate m z).toArray ++ Builtin.zeroCells z.cells (grownCap w (n + m) old e - (n + m))) e)).ownsRow base e 1
        (.slice (some ⟨w.heap.size,0,none⟩) (n + m) (grownCap w (n + m) old e)) (n + m) (xs ++ List.replicate m z) ∧
      w.grownBy (w.drew.alloc (.cells (xs.toArray ++ (List.replicate m z).toArray ++ Builtin.zeroCells z.cells (grownCap w (n + m) old e - (n + m))) e)) row:=by
    intro old ho row
    have hge:=grownCap_ge w (n + m) old e
    have hcm : grownCap w (n + m) old e≤maxLen:=grownCap_le_maxLen w (n + m) old e h63
    refine ⟨⟨hlen,.inr ⟨w.heap.size,_,_,rfl,hbase,heap_alloc_new w.drew _,hge,hcm,?_,?_⟩⟩,⟨rfl,rfl,rfl,by simp,fun k hk _ => heap_alloc_old w.drew _ hk⟩⟩
    · simp only [Array.size_append,List.size_toArray,size_zeroCells,hzs,hown.1,List.length_replicate]
      omega
    · simp only [Array.toList_append,List.append_assoc]
      rw [← List.append_assoc,← hlen]
      exact List.take_left
  rcases hown.2 with ⟨rfl,rfl⟩ | ⟨g,cap,cur,rfl,hbg,hg,hnc,hcm,hcs,htake⟩
  · have hx : xs=[]:=List.eq_nil_of_length_eq_zero (by simpa using hown.1)
    subst hx
    have hr:=run_zeros_nil (P:=P) w t ti ty e i z ht hti hi hz hzc hs1 m (by omega) hm48 h0
    have hgr:=grown 0 (by omega) (Value.ownBlock (.slice none 0 0))
    simp only [Nat.zero_add,List.nil_append,Array.empty_append] at hgr ⊢
    exact ⟨_,_,hr,hgr.1,hgr.2⟩
  · by_cases hroom : n + m≤cap
    · have hfit : n * i.size + m≤cur.size:=by rw [hcs,hs1];omega
      have hr:=run_zeros_room (P:=P) w t ti ty e i z ht hti hi hz hzc h1z hs1 g n cap cur hg m (by omega) hm48 h0 hroom hfit
      rw [hs1] at hr
      refine ⟨_,_,hr,⟨hlen,.inr ⟨g,cap,_,rfl,hbg,setRow_heap w g cur _ e _ hg,hroom,hcm,?_,?_⟩⟩,⟨rfl,rfl,rfl,by simp,fun k _ hk => setRow_other w g k _ (fun e => hk (by simp [Value.ownBlock,e]))⟩⟩
      · simp only [List.size_toArray,List.length_append,List.length_take,List.length_drop,Array.length_toList,List.length_replicate]
        omega
      · rw [htake,← hlen]
        exact List.take_left
    · have holds : ∀ j u,xs[j]?=some u→w.cell? ((⟨g,0,none⟩ : Addr).add j)=some u:=hown.cells (g:=g) rfl
      have hr:=run_zeros_grow (P:=P) w t ti ty e i z ht hti hi hz hzc hs1 ⟨g,0,none⟩ n cap xs (by rw [hs1];exact hown.1) holds m (by omega) hm48 h0 (by omega) (by unfold maxLen at h63;omega) (growslice_fits (by omega) hbytes)
      have hgr:=grown cap (by omega) (Value.ownBlock (.slice (some ⟨g,0,none⟩) n cap))
      exact ⟨_,_,hr,hgr.1,hgr.2⟩
theorem wpList_append_zeros {ops : Array Oper} {rest : List Oper} {o : Oper} {a : Act} {Q : Exit→Act→World→Prop} (hgd : o.guard=none) (s x : Operand) (t ti : TypeId)
    (ho : o.op=.call { callee:=.builtin .append,args:=#[s,x],argTypes:=#[t,ti] })
    (base : Nat) (e : TypeId) (i : TypeInfo) (z : Value) (bytes : Nat) (ht : P.underlying t=some (.slice e)) (hti : P.underlying ti=some (.int .i64)) (hi : P.info? e=some i) (hz : i.zero=some z) (hzc : z.cells=#[z]) (h1z : z.oneCell'=true) (hs1 : i.size=1) (hby : i.bytes=bytes)
    (v : Value) (n : Nat) (xs : List Value) (hs : a.eval s=v) (hown : w.ownsRow base e 1 v n xs) (m : Nat) (hx : a.eval x=.int .i64 m)
    (h63 : n + m≤maxLen) (hbytes : (n + m) * bytes≤140737488355328) (hbase : base≤w.heap.size)
    (h : ∀ v' w',w'.ownsRow base e 1 v' (n + m) (xs ++ List.replicate m z)→w.grownBy w' v.ownBlock→wpList P ops Q rest (a.put o.dst v') w') : wpList P ops Q (o :: rest) a w:=by
  refine wpList_plain hgd fun _ hK => ?_
  obtain ⟨v',w',hrun,h2,h3⟩:=run_append_zeros (P:=P) w base t ti o.type e i z bytes ht hti hi hz hzc h1z hs1 hby v n xs hown m h63 hbytes hbase
  unfold Oper.wp execOp
  simp only [ho,resolve,invoke,builtin,Sem.run_bind,Sem.run_pure,Result.andThen_ok,List.map_toArray,List.map_cons,List.map_nil,hs,hx,hrun]
  exact hK _ _ (h v' w' h2 h3)
end
end
section
open Go.RowKit
def lackN (n : Nat) : Nat:=(512 - n % 512) % 512
def fillL (l : List Int) : List Int:=l ++ List.replicate (lackN l.length) 0
theorem map_rep0 (m : Nat) : List.replicate m (Value.int .u8 0)=(List.replicate m (0 : Int)).map (.int .u8):=by rw [List.map_replicate]
set_option maxRecDepth 100000 in
set_option maxHeartbeats 400000 in
theorem Fill_any (v : Value) (l : List Int) (B : Nat) (w : World) (hl : IntsAt .u8 w B v l) (hB : B≤w.heap.size) (hn : l.length≤1000000000) :
    Calls Tryz.prog 50 #[v] w fun e w' => ∃ v',e=.returned v'∧w'.ownsRow w.heap.size 5 1 v' (fillL l).length ((fillL l).map (.int .u8))∧Below w.heap.size w w':=by
  obtain ⟨A,c,rfl,hlc,hc,hA,hr⟩:=hl
  unfold maxLen at hc
  have h1:=one_u8 l
  have hr2:=hr.more hB
  obtain ⟨m,hm,hm2⟩ : ∃ m : Nat,(512 - (l.length : Int) % 512) % 512=m∧m=lackN l.length:=⟨lackN l.length,by unfold lackN;omega,rfl⟩
  have hm3 : m≤511:=by unfold lackN at hm2;omega
  have fin : Hid (l.map (Value.int .u8) ++ List.replicate m (Value.int .u8 0)=(fillL l).map (.int .u8)):=Lib.hid (by unfold fillL;rw [map_rep0,hm2,List.map_append])
  have finn : Hid (l.length + m=(fillL l).length):=Lib.hid (by unfold fillL;rw [hm2];simp)
  clear hm2
  generalize hln : l.length=n at *
  have Hn:=Lib.hid hln
  clear hln
  obtain ⟨i0,hi0,hz0,hz1,hz2⟩:=info_parts u8_info
  go_enter Tryz.func50,Tryz.ntmps50
  go_wp2_with (first
    | (at_builtin
       refine wpList_append_any _ rfl (.const (.slice none 0 0)) (.tmp 9) _ rfl w.heap.size 5 i0 _ 1 1 Tryz.underlying27 hi0 hz0 hz1 hz2 rfl (by omega) (.slice none 0 0) 0 [] rfl
         (World.ownsRow_nil _ _ _ _) w.heap.size A n c (l.map (.int .u8)) rfl hr2 h1 (by simp only [maxLen];omega) (by omega) (Nat.le_refl _) ?_
       intro v1 w1 hown1 hg1 hat1)
    | (at_builtin
       refine wpList_append_zeros _ rfl (.tmp 10) (.tmp 11) _ _ rfl w.heap.size 5 i0 _ 1 Tryz.underlying27 Tryz.underlying3 hi0 hz0 rfl rfl hz1 hz2 v1 (0 + n) _ rfl hown1 m rfl
         (by simp only [maxLen];omega) (by omega) hg1.size ?_
       intro v2 w2 hown2 hg2))
  go_ret
  refine ⟨v2,rfl,?_,((Below.refl _ _).grown hg1 (Nat.le_refl _) (fun k hk => by cases hk)).grown hg2 hg1.size (fun k hk => ?_)⟩
  · rw [Nat.zero_add,List.nil_append,fin.out,finn.out] at hown2
    exact hown2
  · rcases hat1 with h | h
    · rw [h] at hk;cases hk
    · rw [h] at hk;cases hk;exact Nat.le_refl _
end
section
open Go.RowKit
def kN (n : Nat) : Nat:=(n + 511) / 512
theorem blocks_nat (n : Nat) : blocks (n : Int)=(kN n : Int):=by unfold blocks kN;omega
theorem Blocks_nat (n : Nat) (h : n≤1000000000) (w : World) :
    Calls Tryz.prog 154 #[.int .i64 n] w fun e w' => e=.returned (.tuple #[.int .i64 (kN n),.int .i64 0])∧w=w' :=
  (Blocks_ok n (by omega) (by omega) w).mono fun e w' ⟨h1,h2⟩ => ⟨by rw [h1,blocks_nat],h2⟩
theorem BytesAt.part {w : World} {B c : Nat} {ad : Addr} {l : List UInt8} (h : BytesAt w B (.slice (some ad) l.length c) l) (a b : Nat) (hab : a≤b) (hb : b≤l.length) :
    BytesAt w B (.slice (some (if c=a then ad else ad.add a)) (b - a) (c - a)) ((l.drop a).take (b - a)):=by
  obtain ⟨A,c2,e,h1,h2,h3,hr⟩:=h
  rw [List.length_map] at e h1 hr
  cases e
  have hl : (((l.drop a).take (b - a)).map ofB).length=b - a:=by rw [List.length_map,List.length_take,List.length_drop];omega
  refine ⟨_,_,by rw [hl],by rw [hl];omega,by unfold maxLen at *;omega,(fun h => by cases h),by rw [hl,List.length_map,hl,Nat.mul_one],fun h0 => ?_⟩
  rw [hl] at h0
  obtain ⟨ad',e,hb',hc⟩:=hr.2 (by omega)
  cases e
  have hca : c≠a:=by omega
  refine ⟨_,rfl,by rw [if_neg hca,block_of_add];exact hb',fun j u hu => ?_⟩
  rw [if_neg hca,add_of_add]
  refine hc _ u ?_
  rw [← hu]
  simp only [List.getElem?_map]
  rw [List.getElem?_take,List.getElem?_drop]
  by_cases hj : j < b - a
  · rw [if_pos hj]
  · exfalso
    rw [List.getElem?_map,List.getElem?_map,List.getElem?_take,if_neg hj] at hu
    cases hu
theorem BytesAt.front {w : World} {B c : Nat} {ad : Addr} {l : List UInt8} (h : BytesAt w B (.slice (some ad) l.length c) l) (b : Nat) (hb : b≤l.length) :
    BytesAt w B (.slice (some ad) b c) (l.take b):=by
  have h2:=h.part 0 b (Nat.zero_le _) hb
  rw [Nat.sub_zero,Nat.sub_zero,List.drop_zero] at h2
  by_cases hc : c=0
  · rw [if_pos hc] at h2;exact h2
  · rw [if_neg hc] at h2
    have : ad.add 0=ad:=rfl
    rw [this] at h2
    exact h2
theorem own_at {w : World} {base n : Nat} {v : Value} {l : List UInt8} (h : w.ownsRow base 5 1 v n ((l.map ofB).map (.int .u8))) (hn : n=l.length) : BytesAt w w.heap.size v l:=by
  subst hn
  refine IntsAt.of_own (base:=base) (e:=5) ?_
  rw [List.length_map];exact h
theorem own_below_ {w w' : World} {base : Nat} {e : TypeId} {size n : Nat} {v : Value} {xs : List Value} (h : w.ownsRow base e size v n xs) (hb : Below w.heap.size w w') : w'.ownsRow base e size v n xs:=by
  obtain ⟨h1,h2⟩:=h
  refine ⟨h1,?_⟩
  rcases h2 with h | ⟨g,cap,cur,hv,hb',hg,r⟩
  · exact .inl h
  · exact .inr ⟨g,cap,cur,hv,hb',(hb.block g (Array.getElem?_eq_some_iff.1 hg).1).trans hg,r⟩
theorem own_len {w : World} {base n : Nat} {v : Value} {l : List UInt8} (h : w.ownsRow base 5 1 v n ((l.map ofB).map (.int .u8))) (hn : n=l.length) : w.ownsRow base 5 1 v l.length ((l.map ofB).map (.int .u8)):=by
  subst hn;exact h
set_option maxRecDepth 100000 in
set_option maxHeartbeats 400000 in
theorem PCut_own (ad : Addr) (l : List UInt8) (n c : Nat) (w : World) (hl : BytesAt w w.heap.size (.slice (some ad) l.length c) l) (hn : n≤10000000) (hlen : kN n * 512≤l.length) (hl2 : l.length≤1000000000) (hz : ∀ b∈(l.drop n).take (kN n * 512 - n),b=0) :
    Calls Tryz.prog 104 #[.slice (some ad) l.length c,.int .i64 n] w fun e w' => ∃ v1 v2,e=.returned (.tuple #[v1,v2,.int .i64 0])∧w'.ownsRow w.heap.size 5 1 v1 (l.take n).length (((l.take n).map ofB).map (.int .u8))∧w'.ownsRow w.heap.size 5 1 v2 (l.drop (kN n * 512)).length (((l.drop (kN n * 512)).map ofB).map (.int .u8))∧Below w.heap.size w w':=by
  have hk : kN n≤100000:=by unfold kN;omega
  have hkn : n≤kN n * 512:=by unfold kN;omega
  have hB:=Lib.hid (fun w => Blocks_nat n (by omega) w)
  have hcv:=conv_str (hl.part n (kN n * 512) hkn hlen)
  have hp1:=hl.part 0 n (Nat.zero_le _) (by omega)
  have hp2:=hl.part (kN n * 512) l.length hlen (Nat.le_refl _)
  have hcl : l.length≤c∧c≤9223372036854775807:=by
    obtain ⟨A,c2,e,h1,h2,_⟩:=hl
    rw [List.length_map] at e h1
    cases e
    unfold maxLen at h2
    exact ⟨h1,by omega⟩
  obtain ⟨hc1,hc2⟩:=hcl
  generalize hseg : (l.drop n).take (kN n * 512 - n)=seg at *
  have hsl : seg.length≤1000000000:=by rw [← hseg,List.length_take,List.length_drop];omega
  have hT:=Lib.hid (fun w => Trim_nul seg w (by omega))
  have t0 : (bs (Lib.trimB seg 0)).toList=[]:=by rw [bs_toList,trimB_nil];exact hz
  generalize bs (Lib.trimB seg 0)=tr at *
  clear hseg hz
  have hp1:=hl.front n (by omega)
  have hp3 : (l.drop (kN n * 512)).take (l.length - kN n * 512)=l.drop (kN n * 512):=List.take_of_length_le (by rw [List.length_drop];exact Nat.le_refl _)
  rw [hp3] at hp2
  clear hp3 hl
  have hq1 : (l.take n).length=n:=by rw [List.length_take];omega
  have hq2 : (l.drop (kN n * 512)).length=l.length - kN n * 512:=List.length_drop ..
  generalize l.take n=l1 at *
  generalize l.drop (kN n * 512)=l2 at *
  generalize hK : kN n * 512=K at *
  generalize hll : l.length=L at *
  clear hll
  generalize kN n=k at *
  have hK' : (k : Int) * 512=(K : Int):=by omega
  clear hK
  have d1 : decide ((L : Int) < K)=false:=decide_eq_false (by omega)
  have d2 : decide (L < K)=false:=decide_eq_false (by omega)
  obtain ⟨A1,c1,e1,_,_,_,hr1⟩:=hp1
  rw [List.length_map,hq1] at e1
  cases e1
  rw [List.length_map,hq1] at hr1
  obtain ⟨A2,c2,e2,_,_,_,hr2⟩:=hp2
  rw [List.length_map,hq2] at e2
  cases e2
  rw [List.length_map,hq2] at hr2
  have o1:=one_u8 (l1.map ofB)
  have o2:=one_u8 (l2.map ofB)
  have Hq1:=Lib.hid hq1;have Hq2:=Lib.hid hq2
  clear hq1 hq2
  obtain ⟨i0,hi0,hz0,hz1,hz2⟩:=info_parts u8_info
  generalize hm1 : (l1.map ofB).map (Value.int .u8)=m1 at *
  generalize hm2 : (l2.map ofB).map (Value.int .u8)=m2 at *
  have Hm1:=Lib.hid hm1;have Hm2:=Lib.hid hm2
  clear hm1 hm2
  have hno : ∀ B k,(Value.slice none 0 0).ownBlock=some k→B≤k:=fun B k hk => by cases hk
  have HN:=Lib.hid hno
  clear hno
  have hcK : ((K : Int)).toNat=K:=by omega
  have hnc : n≤c:=by omega
  have hKc : K≤c:=by omega
  have hwK : IntKind.i64.wrap (K : Int)=K:=IntWalk.i64_in _ ⟨by omega,by omega⟩
  by_cases hcn : c=n
  · subst hcn
    obtain rfl : K=c:=by omega
    obtain rfl : L=K:=by omega
    rw [if_pos rfl] at hr2 hcv
    rw [Nat.sub_self] at hr2 hcv
    go_enter Tryz.func104,Tryz.ntmps104
    go_wp2_with fail
    refine (hB.out _).mono ?_
    rintro e w' ⟨rfl,rfl⟩
    go_wp2_with fail
    refine (hT.out _).mono ?_
    rintro e w1 ⟨rfl,hb1⟩
    have hb1s:=hb1.size
    have hr11:=hr1.below hb1
    have hr21:=hr2.below hb1
    go_wp2_with fail
    go_region_law (first | (refine step_append_any _ rfl (.const (.slice none 0 0)) (.tmp 32) _ rfl w.heap.size 5 i0 _ 1 1 Tryz.underlying27 hi0 hz0 hz1 hz2 rfl (by omega) (.slice none 0 0) 0 [] (by simp [Act.eval]) (World.ownsRow_nil _ _ _ _) w.heap.size (some ad) L L m1 (by simp [Act.eval,Act.put]) hr11 o1 (by simp only [maxLen];omega) (by omega) hb1s ?_;intro v2 w2 hown2 hg2 hat2) | (refine step_append_any _ rfl (.const (.slice none 0 0)) (.tmp 37) _ rfl w.heap.size 5 i0 _ 1 1 Tryz.underlying27 hi0 hz0 hz1 hz2 rfl (by omega) (.slice none 0 0) 0 [] (by simp [Act.eval]) (World.ownsRow_nil _ _ _ _) w.heap.size (some ad) 0 0 m2 (by simp [Act.eval,Act.put]) (Reads.grown hr21.drew hg2 hb1s (HN.out _)) o2 (by simp only [maxLen];omega) (by omega) (Nat.le_trans hb1s hg2.size) ?_;intro v3 w3 hown3 hg3 hat3))
    go_wp2
    go_ret3
    rw [← Hm1.out] at hown2 ⊢
    rw [← Hm2.out] at hown3 ⊢
    exact ⟨v2,v3,rfl,own_below_ (own_len hown2 (by rw [Hq1.out];omega)) ((Below.refl _ _).grown hg3 (Nat.le_refl _) (HN.out _)),own_len hown3 (by rw [Hq2.out];omega),(hb1.drew.grown hg2 hb1s (HN.out _)).grown hg3 (Nat.le_trans hb1s hg2.size) (HN.out _)⟩
  · rw [if_neg hcn] at hcv
    by_cases hck : c=K
    · subst hck
      obtain rfl : L=c:=by omega
      rw [if_pos rfl,Nat.sub_self] at hr2
      go_enter Tryz.func104,Tryz.ntmps104
      go_wp2_with fail
      refine (hB.out _).mono ?_
      rintro e w' ⟨rfl,rfl⟩
      go_wp2_with fail
      refine (hT.out _).mono ?_
      rintro e w1 ⟨rfl,hb1⟩
      have hb1s:=hb1.size
      have hr11:=hr1.below hb1
      have hr21:=hr2.below hb1
      go_wp2_with fail
      go_region_law (first | (refine step_append_any _ rfl (.const (.slice none 0 0)) (.tmp 32) _ rfl w.heap.size 5 i0 _ 1 1 Tryz.underlying27 hi0 hz0 hz1 hz2 rfl (by omega) (.slice none 0 0) 0 [] (by simp [Act.eval]) (World.ownsRow_nil _ _ _ _) w.heap.size (some ad) n L m1 (by simp [Act.eval,Act.put]) hr11 o1 (by simp only [maxLen];omega) (by omega) hb1s ?_;intro v2 w2 hown2 hg2 hat2) | (refine step_append_any _ rfl (.const (.slice none 0 0)) (.tmp 37) _ rfl w.heap.size 5 i0 _ 1 1 Tryz.underlying27 hi0 hz0 hz1 hz2 rfl (by omega) (.slice none 0 0) 0 [] (by simp [Act.eval]) (World.ownsRow_nil _ _ _ _) w.heap.size (some ad) 0 0 m2 (by simp [Act.eval,Act.put]) (Reads.grown hr21.drew hg2 hb1s (HN.out _)) o2 (by simp only [maxLen];omega) (by omega) (Nat.le_trans hb1s hg2.size) ?_;intro v3 w3 hown3 hg3 hat3))
      go_wp2
      go_ret3
      rw [← Hm1.out] at hown2 ⊢
      rw [← Hm2.out] at hown3 ⊢
      exact ⟨v2,v3,rfl,own_below_ (own_len hown2 (by rw [Hq1.out];omega)) ((Below.refl _ _).grown hg3 (Nat.le_refl _) (HN.out _)),own_len hown3 (by rw [Hq2.out];omega),(hb1.drew.grown hg2 hb1s (HN.out _)).grown hg3 (Nat.le_trans hb1s hg2.size) (HN.out _)⟩
    · rw [if_neg hck] at hr2
      go_enter Tryz.func104,Tryz.ntmps104
      go_wp2_with fail
      refine (hB.out _).mono ?_
      rintro e w' ⟨rfl,rfl⟩
      go_wp2_with fail
      refine (hT.out _).mono ?_
      rintro e w1 ⟨rfl,hb1⟩
      have hb1s:=hb1.size
      have hr11:=hr1.below hb1
      have hr21:=hr2.below hb1
      go_wp2_with fail
      go_region_law (first | (refine step_append_any _ rfl (.const (.slice none 0 0)) (.tmp 32) _ rfl w.heap.size 5 i0 _ 1 1 Tryz.underlying27 hi0 hz0 hz1 hz2 rfl (by omega) (.slice none 0 0) 0 [] (by simp [Act.eval]) (World.ownsRow_nil _ _ _ _) w.heap.size (some ad) n c m1 (by simp [Act.eval,Act.put]) hr11 o1 (by simp only [maxLen];omega) (by omega) hb1s ?_;intro v2 w2 hown2 hg2 hat2) | (refine step_append_any _ rfl (.const (.slice none 0 0)) (.tmp 37) _ rfl w.heap.size 5 i0 _ 1 1 Tryz.underlying27 hi0 hz0 hz1 hz2 rfl (by omega) (.slice none 0 0) 0 [] (by simp [Act.eval]) (World.ownsRow_nil _ _ _ _) w.heap.size (some (ad.add K)) (L - K) (c - K) m2 (by simp [Act.eval,Act.put]) (Reads.grown hr21.drew hg2 hb1s (HN.out _)) o2 (by simp only [maxLen];omega) (by omega) (Nat.le_trans hb1s hg2.size) ?_;intro v3 w3 hown3 hg3 hat3))
      go_wp2
      go_ret3
      rw [← Hm1.out] at hown2 ⊢
      rw [← Hm2.out] at hown3 ⊢
      exact ⟨v2,v3,rfl,own_below_ (own_len hown2 (by rw [Hq1.out];omega)) ((Below.refl _ _).grown hg3 (Nat.le_refl _) (HN.out _)),own_len hown3 (by rw [Hq2.out];omega),(hb1.drew.grown hg2 hb1s (HN.out _)).grown hg3 (Nat.le_trans hb1s hg2.size) (HN.out _)⟩
set_option maxRecDepth 100000 in
set_option maxHeartbeats 400000 in
theorem PCut_form (ad : Addr) (l : List UInt8) (n c : Nat) (w : World) (hl : BytesAt w w.heap.size (.slice (some ad) l.length c) l) (hn : n≤10000000) (hlen : kN n * 512≤l.length) (hl2 : l.length≤1000000000) (hz : ¬ ∀ b∈(l.drop n).take (kN n * 512 - n),b=0) :
    Calls Tryz.prog 104 #[.slice (some ad) l.length c,.int .i64 n] w fun e w' => e=.returned (.tuple #[.slice none 0 0,.slice none 0 0,.int .i64 3])∧Below w.heap.size w w':=by
  have hk : kN n≤100000:=by unfold kN;omega
  have hkn : n≤kN n * 512:=by unfold kN;omega
  have hB:=Lib.hid (fun w => Blocks_nat n (by omega) w)
  have hcv:=conv_str (hl.part n (kN n * 512) hkn hlen)
  have hcl : l.length≤c∧c≤9223372036854775807:=by
    obtain ⟨A,c2,e,h1,h2,_⟩:=hl
    rw [List.length_map] at e h1
    cases e
    unfold maxLen at h2
    exact ⟨h1,by omega⟩
  obtain ⟨hc1,hc2⟩:=hcl
  generalize hseg : (l.drop n).take (kN n * 512 - n)=seg at *
  have hsl : seg.length≤1000000000:=by rw [← hseg,List.length_take,List.length_drop];omega
  have hT:=Lib.hid (fun w => Trim_nul seg w (by omega))
  have t0 : ¬ (bs (Lib.trimB seg 0)).toList=[]:=by rw [bs_toList,trimB_nil];exact hz
  have t1 : (bs (Lib.trimB seg 0)).toList.isEmpty=false:=by simpa using t0
  generalize bs (Lib.trimB seg 0)=tr at *
  have hcn : ¬ c=n:=by
    intro e
    have hle : n≤l.length:=by omega
    have : seg=[]:=by
      rw [← hseg]
      have : kN n * 512 - n=0:=by omega
      rw [this];rfl
    rw [this] at hz
    exact hz (fun b hb => by cases hb)
  rw [if_neg hcn] at hcv
  clear hseg hz hl
  generalize hK : kN n * 512=K at *
  generalize hll : l.length=L at *
  clear hll
  generalize kN n=k at *
  have hK' : (k : Int) * 512=(K : Int):=by omega
  clear hK
  have d1 : decide ((L : Int) < K)=false:=decide_eq_false (by omega)
  have d2 : decide (L < K)=false:=decide_eq_false (by omega)
  have hnc : n≤c:=by omega
  have hKc : K≤c:=by omega
  have hwK : IntKind.i64.wrap (K : Int)=K:=IntWalk.i64_in _ ⟨by omega,by omega⟩
  go_enter Tryz.func104,Tryz.ntmps104
  go_wp2_with fail
  refine (hB.out _).mono ?_
  rintro e w' ⟨rfl,rfl⟩
  go_wp2_with fail
  refine (hT.out _).mono ?_
  rintro e w1 ⟨rfl,hb1⟩
  go_wp2_with fail
  go_ret3
  exact ⟨rfl,hb1⟩
set_option maxRecDepth 100000 in
set_option maxHeartbeats 400000 in
theorem PCut_nil (w : World) :
    Calls Tryz.prog 104 #[.slice none 0 0,.int .i64 0] w fun e w' => e=.returned (.tuple #[.slice none 0 0,.slice none 0 0,.int .i64 0])∧Below w.heap.size w w':=by
  have hB:=Lib.hid (fun w => Blocks_nat 0 (by omega) w)
  rw [show kN 0=0 from rfl] at hB
  have hcv:=conv_str (show BytesAt w w.heap.size (.slice none 0 0) [] from IntsAt.nil .u8 w w.heap.size)
  have hT:=Lib.hid (fun w => Trim_nul [] w (by simp))
  rw [show Lib.trimB [] (0 : UInt8)=[] from rfl] at hT
  have t0 : (bs []).toList=[]:=bs_toList []
  rw [show ((0 : Nat) : Int)=0 from rfl] at hB
  go_enter Tryz.func104,Tryz.ntmps104
  go_wp2_with fail
  refine (hB.out _).mono ?_
  rintro e w' ⟨rfl,rfl⟩
  go_wp2_with fail
  refine (hT.out _).mono ?_
  rintro e w1 ⟨rfl,hb1⟩
  go_wp2_with fail
  go_region
  go_wp2
  go_ret3
  exact ⟨rfl,hb1.drew⟩
set_option maxHeartbeats 400000 in
theorem End_any (w : World) :
    Calls Tryz.prog 36 #[] w fun e w' => ∃ v',e=.returned v'∧w'.ownsRow w.heap.size 5 1 v' 1024 (List.replicate 1024 (.int .u8 0))∧Below w.heap.size w w':=by
  obtain ⟨i0,hi0,hz0,hz1,hz2⟩:=info_parts u8_info
  go_enter Tryz.func36,Tryz.ntmps36
  go_wp2_with (at_make;refine wpList_make_full _ rfl _ _ _ rfl w.heap.size 5 i0 _ 1 Tryz.underlying27 hi0 hz0 hz1 .i64 .i64 1024 1024 1024 rfl rfl rfl rfl (by rw [hz2];omega) (by simp only [maxLen];omega) (Nat.le_refl _) ?_;intro w1 hown1 hg1)
  go_ret
  refine ⟨_,rfl,?_,(Below.refl _ _).grown hg1 (Nat.le_refl _) (fun k hk => by cases hk)⟩
  have e:=toList_madeCells_one (Value.int .u8 0) (1024 * 1)
  rw [Nat.mul_one] at e
  rw [← e]
  exact hown1
end
end
section
open Go.RowKit
def padB (l : List UInt8) : List UInt8:=l ++ List.replicate (lackN l.length) 0
theorem fillL_map (l : List UInt8) : fillL (l.map ofB)=(padB l).map ofB:=by
  unfold fillL padB
  rw [List.map_append,List.map_replicate,List.length_map];rfl
theorem padB_length (l : List UInt8) : (padB l).length=kN l.length * 512:=by
  unfold padB lackN kN;simp;omega
theorem ownL {w : World} {base : Nat} {v : Value} {l : List UInt8} (h : w.ownsRow base 5 1 v l.length ((l.map ofB).map (.int .u8))) : BytesAt w w.heap.size v l:=own_at h rfl
theorem Fill_bytes (v : Value) (l : List UInt8) (B : Nat) (w : World) (hl : BytesAt w B v l) (hB : B≤w.heap.size) (hn : l.length≤1000000000) :
    Calls Tryz.prog 50 #[v] w fun e w' => ∃ v',e=.returned v'∧w'.ownsRow w.heap.size 5 1 v' (padB l).length (((padB l).map ofB).map (.int .u8))∧Below w.heap.size w w':=by
  refine (Fill_any v (l.map ofB) B w hl hB (by rw [List.length_map];exact hn)).mono fun e w' ⟨v',h1,h2,h3⟩ => ⟨v',h1,?_,h3⟩
  rw [fillL_map,List.length_map] at h2
  exact h2
end
end Go.Proofs.YtphmhmdcaafmdaaGreatDoor
