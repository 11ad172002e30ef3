import Derived.Test.YtphmhmdcaafmdaaGreatDoorMembers
import Derived.Test.YtphmhmdcaafmdaaGreatDoorTreeV
import Derived.Test.YtphmhmdcaafmdaaGreatDoorHeadQ
import Derived.Test.YtphmhmdcaafmdaaGreatDoorMapsT
import Derived.Test.YtphmhmdcaafmdaaGreatDoorNodesG
import Derived.Deep.QuietTactic
namespace Go.Proofs.YtphmhmdcaafmdaaGreatDoor
set_option linter.all false
open Go.RowKit
def one (b : Bool) : Nat:=if b then 1 else 0
theorem recT_len1 (r : RecS) : 1≤(recT r).length:=by
  have h : 1≤(restR r).length:=by unfold restR;simp
  unfold recT
  rw [List.length_append]
  omega
theorem paxT_len1 : ∀ {l : List RecS},l≠[]→1≤(paxT l).length
  | [],h => absurd rfl h
  | r :: l,_ => by
    have:=recT_len1 r
    unfold paxT
    rw [List.map_cons,List.flatten_cons,List.length_append]
    omega
theorem memB_blocks {x : EntP} (h : EntOk x) : (packR x=[]→(memB x).length=(1 + kN x.data.length) * 512)∧(packR x≠[]→(kN x.data.length + 3) * 512≤(memB x).length)∧(memB x).length % 512=0∧(memB x).length≤100000:=by
  have h1:=padB_length x.data
  have h2:=headW_length (packH_ok h)
  have h3:=padB_length (paxT (packR x))
  have h5:=paxT_len (packR_ok h)
  have h6 : (packR x).length * 703≤7 * 703:=Nat.mul_le_mul_right _ (packR_len x)
  have h4:=headW_length (paxH_ok (paxT (packR x)).length (by omega))
  have hd:=h.data.1
  have e1 : (memB x).length=(memR (packR x)).length + (512 + kN x.data.length * 512):=by
    unfold memB
    rw [List.length_append,List.length_append,h2,h1]
  rw [e1]
  unfold kN at *
  clear h2 h1 e1
  by_cases he : packR x=[]
  · have e2 : (memR (packR x)).length=0:=by unfold memR;rw [if_pos he];rfl
    rw [e2]
    generalize x.data.length=d at *
    clear h3 h4 h5 h6
    exact ⟨fun _ => by omega,fun h => absurd he h,by omega,by omega⟩
  · have h7:=paxT_len1 he
    have e2 : (memR (packR x)).length=512 + (padB (paxT (packR x))).length:=by unfold memR;rw [if_neg he,List.length_append,h4]
    rw [e2,h3]
    clear h3 h4 e2
    generalize (paxT (packR x)).length=p at *
    generalize x.data.length=d at *
    obtain ⟨q,hq⟩ : ∃ q,q=(p + 511) / 512:=⟨_,rfl⟩
    obtain ⟨f,hf⟩ : ∃ f,f=(d + 511) / 512:=⟨_,rfl⟩
    have q1 : 1≤q:=by omega
    have q2 : q≤12:=by omega
    have q3 : f≤5:=by omega
    rw [← hq,← hf]
    clear hq hf h7 h5 h6 hd
    exact ⟨fun h => absurd h he,fun _ => by omega,by omega,by omega⟩
end Go.Proofs.YtphmhmdcaafmdaaGreatDoor
namespace Go.Proofs.YtphmhmdcaafmdaaGreatDoor
set_option linter.all false
section
open Go.RowKit
theorem memB_whole {x : EntP} : packR x=[]∧memB x=headW (packH x) ++ padB x.data∨packR x≠[]∧memB x=headW (paxH (paxT (packR x)).length) ++ (padB (paxT (packR x)) ++ (headW (packH x) ++ padB x.data)):=by
  by_cases hR : packR x=[]
  · left
    exact ⟨hR,by unfold memB memR;rw [if_pos hR,List.nil_append]⟩
  · right
    exact ⟨hR,by unfold memB memR;rw [if_neg hR,List.append_assoc]⟩
end
section
open Go.RowKit
def noH : PHead:=⟨[],[],[],0,0,0,0,0,0,[],[]⟩
theorem headZ_blk (w : World) : Blk (w.alloc (.cells headNone 107)) w.heap.size 107 headNone∧Below w.heap.size w (w.alloc (.cells headNone 107)):=⟨Blk.new _ _ _,(Below.refl _ _).alloc (Nat.le_refl _) _⟩
set_option maxRecDepth 100000 in
set_option maxHeartbeats 2000000 in
theorem Block_low (v : Value) (l : List UInt8) (w : World) (hl : BytesAt w w.heap.size v l) (hn : l.length < 512) :
    Calls Tryz.prog 52 #[v] w fun e w' => e=.returned (.tuple #[headV noH,.slice none 0 0,.slice none 0 0,.int .i64 7])∧Below w.heap.size w w':=by
  obtain ⟨A,c,rfl,-⟩:=hl
  rw [List.length_map]
  have hlt : (l.length : Int) < 512:=by omega
  have hS:=Lib.hid (headZ_blk w)
  have hk:=hS.out.1
  have c0 : (w.alloc (.cells headNone 107)).cell? ⟨w.heap.size,0,none⟩=some (.string ⟨#[]⟩):=hk.cell 0
  have c1 : (w.alloc (.cells headNone 107)).cell? ⟨w.heap.size,1,none⟩=some (.string ⟨#[]⟩):=hk.cell 1
  have c2 : (w.alloc (.cells headNone 107)).cell? ⟨w.heap.size,2,none⟩=some (.string ⟨#[]⟩):=hk.cell 2
  have c3 : (w.alloc (.cells headNone 107)).cell? ⟨w.heap.size,3,none⟩=some (.int .i64 0):=hk.cell 3
  have c4 : (w.alloc (.cells headNone 107)).cell? ⟨w.heap.size,4,none⟩=some (.int .i64 0):=hk.cell 4
  have c5 : (w.alloc (.cells headNone 107)).cell? ⟨w.heap.size,5,none⟩=some (.int .i64 0):=hk.cell 5
  have c6 : (w.alloc (.cells headNone 107)).cell? ⟨w.heap.size,6,none⟩=some (.int .i64 0):=hk.cell 6
  have c7 : (w.alloc (.cells headNone 107)).cell? ⟨w.heap.size,7,none⟩=some (.int .i64 0):=hk.cell 7
  have c8 : (w.alloc (.cells headNone 107)).cell? ⟨w.heap.size,8,none⟩=some (.int .u8 0):=hk.cell 8
  have c9 : (w.alloc (.cells headNone 107)).cell? ⟨w.heap.size,9,none⟩=some (.string ⟨#[]⟩):=hk.cell 9
  have c10 : (w.alloc (.cells headNone 107)).cell? ⟨w.heap.size,10,none⟩=some (.string ⟨#[]⟩):=hk.cell 10
  clear hk
  unfold headNone at *
  go_enter Tryz.func52,Tryz.ntmps52
  go_wp2_with fail
  exact bodyPost_ret (v:=.tuple #[headV noH,.slice none 0 0,.slice none 0 0,.int .i64 7]) (by simp [results,Tryz.results52,go_sem,c0,c1,c2,c3,c4,c5,c6,c7,c8,c9,c10,noH,headV,headCells];try rfl) rfl ⟨rfl,hS.out.2⟩
end
section
open Go.RowKit
theorem zeroI_ (w : World) : (zeroValue 3).run Tryz.prog w=.ok (.int .i64 0) w:=by kernel_rfl
def kindM : List (Int × Value):=mapPut (mapPut (mapPut (mapPut [] 48 (.int .i64 1)) 53 (.int .i64 2)) 50 (.int .i64 3)) 49 (.int .i64 4)
theorem kindM_get (c : UInt8) : (mapGet kindM (c.toNat : Int)).getD (.int .i64 0)=.int .i64 (kindT c):=by
  have e : kindM=[(48,.int .i64 1),(53,.int .i64 2),(50,.int .i64 3),(49,.int .i64 4)]:=by simp [kindM,mapPut]
  have key : ∀ d : UInt8,c≠d→((d.toNat : Int) == (c.toNat : Int))=false:=fun d h => by
    rw [beq_eq_false_iff_ne]
    intro h2
    exact h (UInt8.toNat_inj.1 (by omega))
  rw [e]
  unfold kindT mapGet
  by_cases h1 : c=48
  · subst h1;rfl
  by_cases h2 : c=53
  · subst h2;rfl
  by_cases h3 : c=50
  · subst h3;rfl
  by_cases h4 : c=49
  · subst h4;rfl
  have k1:=key 48 h1
  have k2:=key 53 h2
  have k3:=key 50 h3
  have k4:=key 49 h4
  rw [if_neg h1,if_neg h2,if_neg h3,if_neg h4]
  have e1 : (((48 : UInt8).toNat : Int))=48:=rfl
  have e2 : (((53 : UInt8).toNat : Int))=53:=rfl
  have e3 : (((50 : UInt8).toNat : Int))=50:=rfl
  have e4 : (((49 : UInt8).toNat : Int))=49:=rfl
  rw [e1] at k1;rw [e2] at k2;rw [e3] at k3;rw [e4] at k4
  simp [List.find?_cons,k1,k2,k3,k4]
set_option maxRecDepth 100000 in
theorem Say_any (g : Nat) (lv : Value) (l : List RecS) (key s : List UInt8) (w : World) (hc : w.cell? ⟨g,0,none⟩=some lv) (hl : RecsAt w lv l) (hn : l.length≤100) :
    Calls Tryz.prog 106 #[.string (bs key),.string (bs s),.pointer (some ⟨g,0,none⟩)] w fun e w' => e=.returned (.string (bs ((findK l key).getD s)))∧Below w.heap.size w w':=by
  have HF:=Lib.hid (PxFind_any lv l key w hl hn)
  obtain ⟨A,c,rfl,-⟩:=hl
  cases hf : findK l key with
  | none =>
    rw [hf] at HF
    simp only [Option.getD_none,Option.isSome_none] at HF ⊢
    clear hf
    go_enter Tryz.func106,Tryz.ntmps106
    go_wp2_with fail
    refine HF.out.mono ?_
    rintro e w1 ⟨rfl,b1⟩
    go_wp2_with fail
    go_ret
    exact ⟨rfl,b1⟩
  | some v =>
    rw [hf] at HF
    simp only [Option.getD_some,Option.isSome_some] at HF ⊢
    clear hf
    go_enter Tryz.func106,Tryz.ntmps106
    go_wp2_with fail
    refine HF.out.mono ?_
    rintro e w1 ⟨rfl,b1⟩
    go_wp2_with fail
    go_ret
    exact ⟨rfl,b1⟩
theorem unpack_start (w : World) (hc : Array Value) (lv : Value) : Blk (((w.alloc (.cells hc 107)).alloc (.cells #[lv] 108)).alloc (.cells #[(.string ⟨#[]⟩),(.int .i64 0),(.string ⟨#[]⟩),(.int .i64 0),(.int .i64 0),(.int .i64 0),(.string ⟨#[]⟩),(.string ⟨#[]⟩),(.int .i64 0),(.int .i64 0),(.slice none 0 0)] 58)) w.heap.size 107 hc∧Blk (((w.alloc (.cells hc 107)).alloc (.cells #[lv] 108)).alloc (.cells #[(.string ⟨#[]⟩),(.int .i64 0),(.string ⟨#[]⟩),(.int .i64 0),(.int .i64 0),(.int .i64 0),(.string ⟨#[]⟩),(.string ⟨#[]⟩),(.int .i64 0),(.int .i64 0),(.slice none 0 0)] 58)) (w.heap.size + 1) 108 #[lv]∧Blk (((w.alloc (.cells hc 107)).alloc (.cells #[lv] 108)).alloc (.cells #[(.string ⟨#[]⟩),(.int .i64 0),(.string ⟨#[]⟩),(.int .i64 0),(.int .i64 0),(.int .i64 0),(.string ⟨#[]⟩),(.string ⟨#[]⟩),(.int .i64 0),(.int .i64 0),(.slice none 0 0)] 58)) (w.heap.size + 2) 58 #[(.string ⟨#[]⟩),(.int .i64 0),(.string ⟨#[]⟩),(.int .i64 0),(.int .i64 0),(.int .i64 0),(.string ⟨#[]⟩),(.string ⟨#[]⟩),(.int .i64 0),(.int .i64 0),(.slice none 0 0)]∧Below w.heap.size w (((w.alloc (.cells hc 107)).alloc (.cells #[lv] 108)).alloc (.cells #[(.string ⟨#[]⟩),(.int .i64 0),(.string ⟨#[]⟩),(.int .i64 0),(.int .i64 0),(.int .i64 0),(.string ⟨#[]⟩),(.string ⟨#[]⟩),(.int .i64 0),(.int .i64 0),(.slice none 0 0)] 58))∧(((w.alloc (.cells hc 107)).alloc (.cells #[lv] 108)).alloc (.cells #[(.string ⟨#[]⟩),(.int .i64 0),(.string ⟨#[]⟩),(.int .i64 0),(.int .i64 0),(.int .i64 0),(.string ⟨#[]⟩),(.string ⟨#[]⟩),(.int .i64 0),(.int .i64 0),(.slice none 0 0)] 58)).heap.size=w.heap.size + 3:=by
  refine ⟨((Blk.new w _ _).alloc _).alloc _,?_,?_,(((Below.refl _ _).alloc (Nat.le_refl _) _).alloc (by simp) _).alloc (by simp;omega) _,by simp⟩
  · have h:=(Blk.new (w.alloc (.cells hc 107)) 108 #[lv]).alloc (.cells #[(.string ⟨#[]⟩),(.int .i64 0),(.string ⟨#[]⟩),(.int .i64 0),(.int .i64 0),(.int .i64 0),(.string ⟨#[]⟩),(.string ⟨#[]⟩),(.int .i64 0),(.int .i64 0),(.slice none 0 0)] 58)
    simpa using h
  · have h:=Blk.new ((w.alloc (.cells hc 107)).alloc (.cells #[lv] 108)) 58 #[(.string ⟨#[]⟩),(.int .i64 0),(.string ⟨#[]⟩),(.int .i64 0),(.int .i64 0),(.int .i64 0),(.string ⟨#[]⟩),(.string ⟨#[]⟩),(.int .i64 0),(.int .i64 0),(.slice none 0 0)]
    simpa using h
def UpSt (w0 : World) (g9 : Nat) (hc ls ms : Array Value) (W : World) : Prop:=Below w0.heap.size w0 W∧Blk W w0.heap.size 107 hc∧Blk W (w0.heap.size + 1) 108 ls∧Blk W g9 26 ms∧HasBlk W (w0.heap.size + 2) 58 11∧w0.heap.size + 2 < g9
theorem UpSt.below {w0 W W' : World} {g9 : Nat} {hc ls ms : Array Value} (h : UpSt w0 g9 hc ls ms W) (hb : Below W.heap.size W W') : UpSt w0 g9 hc ls ms W' :=
  ⟨h.1.trans (hb.mono h.1.size),h.2.1.below hb h.2.1.lt,h.2.2.1.below hb h.2.2.1.lt,h.2.2.2.1.below hb h.2.2.2.1.lt,h.2.2.2.2.1.below hb,h.2.2.2.2.2⟩
theorem UpSt.fill {w0 W : World} {g9 : Nat} {hc ls ms : Array Value} (h : UpSt w0 g9 hc ls ms W) (vs : List Value) : UpSt w0 g9 hc ls ms (setAll W (w0.heap.size + 2) 0 vs) :=
  ⟨Below.setAll (by omega) vs 0 h.1,Blk.far_setAll (by omega) vs 0 h.2.1,Blk.far_setAll (by omega) vs 0 h.2.2.1,Blk.far_setAll (by have:=h.2.2.2.2.2;omega) vs 0 h.2.2.2.1,h.2.2.2.2.1.setAll vs 0,h.2.2.2.2.2⟩
end
section
open Go.RowKit
theorem memB_first {x : EntP} (h : EntOk x) (m : List UInt8) : ∃ (H0 : PHead) (d0 r0 : List UInt8),HeadOk H0∧d0.length=H0.size∧H0.size≤5000∧memB x ++ m=headW H0 ++ (padB d0 ++ r0)∧r0.length≤100000 + m.length ∧
    ((((H0.type.toNat : Int) == 120)=false∧H0=packH x∧d0=x.data∧r0=m∧packR x=[])∨(((H0.type.toNat : Int) == 120)=true∧d0=paxT (packR x)∧packR x≠[]∧r0=headW (packH x) ++ (padB x.data ++ m))):=by
  have hd:=h.data.1
  have hl:=(memB_blocks h).2.2.2
  rcases memB_whole (x:=x) with ⟨hR,e⟩ | ⟨hR,e⟩
  · refine ⟨packH x,x.data,m,packH_ok h,rfl,by show x.data.length≤5000;omega,by rw [e,List.append_assoc],by omega,.inl ⟨?_,rfl,rfl,rfl,hR⟩⟩
    show (((typeK x.kind).toNat : Int) == 120)=false
    rcases h.kind with k | k | k | k <;> rw [k] <;> decide
  · have h1:=paxT_len (packR_ok h)
    have h2:=packR_len x
    have h3 : (packR x).length * 703≤7 * 703:=Nat.mul_le_mul_right _ h2
    refine ⟨paxH (paxT (packR x)).length,paxT (packR x),headW (packH x) ++ (padB x.data ++ m),paxH_ok _ (by omega),rfl,by show (paxT (packR x)).length≤5000;omega,by rw [e];simp only [List.append_assoc],?_,.inr ⟨by rfl,rfl,hR,rfl⟩⟩
    rw [e] at hl
    simp only [List.length_append] at hl ⊢
    omega
theorem entZ_blk (w : World) : Blk (w.alloc (.cells #[(.string ⟨#[]⟩),(.int .i64 0),(.string ⟨#[]⟩),(.int .i64 0),(.int .i64 0),(.int .i64 0),(.string ⟨#[]⟩),(.string ⟨#[]⟩),(.int .i64 0),(.int .i64 0),(.slice none 0 0)] 58)) w.heap.size 58 #[(.string ⟨#[]⟩),(.int .i64 0),(.string ⟨#[]⟩),(.int .i64 0),(.int .i64 0),(.int .i64 0),(.string ⟨#[]⟩),(.string ⟨#[]⟩),(.int .i64 0),(.int .i64 0),(.slice none 0 0)]∧Below w.heap.size w (w.alloc (.cells #[(.string ⟨#[]⟩),(.int .i64 0),(.string ⟨#[]⟩),(.int .i64 0),(.int .i64 0),(.int .i64 0),(.string ⟨#[]⟩),(.string ⟨#[]⟩),(.int .i64 0),(.int .i64 0),(.slice none 0 0)] 58)):=⟨Blk.new _ _ _,(Below.refl _ _).alloc (Nat.le_refl _) _⟩
def RdSt (w0 : World) (g5 : Nat) (hc : Array Value) (W : World) : Prop:=Blk W w0.heap.size 58 #[(.string ⟨#[]⟩),(.int .i64 0),(.string ⟨#[]⟩),(.int .i64 0),(.int .i64 0),(.int .i64 0),(.string ⟨#[]⟩),(.string ⟨#[]⟩),(.int .i64 0),(.int .i64 0),(.slice none 0 0)]∧Blk W g5 107 hc∧Below w0.heap.size w0 W
theorem RdSt.below {w0 W W' : World} {g5 : Nat} {hc : Array Value} (h : RdSt w0 g5 hc W) (hb : Below W.heap.size W W') : RdSt w0 g5 hc W':=⟨h.1.below hb h.1.lt,h.2.1.below hb h.2.1.lt,h.2.2.trans (hb.mono h.2.2.size)⟩
theorem heap_setAll_ {g k : Nat} (hk : k≠g) : ∀ (vs : List Value) (i : Nat) {W : World},(setAll W g i vs).heap[k]?=W.heap[k]?
  | [],_,_ => rfl
  | v :: vs,i,W => (heap_setAll_ hk vs (i + 1)).trans (Below.heap_setCell W ⟨g,i,none⟩ v k hk)
theorem ownsRow_setAll {w : World} {base : Nat} {e : TypeId} {size n : Nat} {v : Value} {xs : List Value} (h : w.ownsRow base e size v n xs) {g : Nat} {t : TypeId} {cs : Array Value} (hb : Blk w g t cs) (hne : e≠t) (vs : List Value) (i : Nat) : (setAll w g i vs).ownsRow base e size v n xs:=by
  obtain ⟨h1,h2⟩:=h
  refine ⟨h1,?_⟩
  rcases h2 with h | ⟨g',cap,cur,hv,hb',hg,r⟩
  · exact .inl h
  · refine .inr ⟨g',cap,cur,hv,hb',(heap_setAll_ ?_ vs i).trans hg,r⟩
    intro e2
    subst e2
    have hb:=hb.symm.trans hg
    injection hb with hb
    injection hb with _ ht
    exact hne ht.symm
end
section
open Go.RowKit
end
end Go.Proofs.YtphmhmdcaafmdaaGreatDoor
