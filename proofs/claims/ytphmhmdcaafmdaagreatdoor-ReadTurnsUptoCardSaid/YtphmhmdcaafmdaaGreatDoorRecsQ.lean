import Derived.Test.YtphmhmdcaafmdaaGreatDoorRecd
import Derived.Test.YtphmhmdcaafmdaaGreatDoorRawW
import Derived.Test.YtphmhmdcaafmdaaGreatDoorNodesG
import Derived.Test.YtphmhmdcaafmdaaGreatDoorSortN
import Derived.Test.YtphmhmdcaafmdaaGreatDoorFields
import Derived.Lib.Builder
import Derived.Lib.AppendStr
import Derived.Lib.UnsafeStr
import Derived.Shelf.RegionOpenPlain
import Derived.Deep.QuietTactic
import Derived.BigQuiet
import Derived.Test.YtphmhmdcaafmdaaGreatDoorTreeE
import Derived.IntWalk
namespace Go.Proofs.YtphmhmdcaafmdaaGreatDoor
set_option linter.all false
section
open Go.RowKit
def recC (r : RecS) : List Value:=[.string (bs r.key),.string (bs r.value)]
theorem recC_length (r : RecS) : (recC r).length=2:=rfl
def RecsAt (w : World) (v : Value) (l : List RecS) : Prop :=
  ∃ A c,v=.slice A l.length c∧l.length≤c∧c≤maxLen∧(A=none→c=0)∧Reads w w.heap.size 2 A l.length (l.flatMap recC)
theorem RecsAt.below {w w' : World} {v : Value} {l : List RecS} (h : RecsAt w v l) (hb : Below w.heap.size w w') : RecsAt w' v l:=by
  obtain ⟨A,c,h1,h2,h3,h4,h5⟩:=h
  exact ⟨A,c,h1,h2,h3,h4,(h5.below hb).more hb.size⟩
theorem RecsAt.nil (w : World) : RecsAt w (.slice none 0 0) []:=⟨none,0,rfl,by simp,by simp,fun _ => rfl,Reads.none_⟩
theorem Reads.rec_at {w : World} {B : Nat} {A : Option Addr} {l : List RecS} (h : Reads w B 2 A l.length (l.flatMap recC)) {k : Nat} (hk : k < l.length) :
    ∃ ad,A=some ad∧ad.block < B∧w.cell? (ad.add (k * 2))=some (.string (bs l[k].key))∧w.cell? ⟨(ad.add (k * 2)).block,(ad.add (k * 2)).off + 1,none⟩=some (.string (bs l[k].value)):=by
  obtain ⟨ad,e,hb,hc⟩:=h.2 (by omega)
  have key : ∀ j,j < 2→(l.flatMap recC)[k * 2 + j]?=(recC l[k])[j]?:=fun j hj => by
    rw [flat_get recC_length l k j hj,List.getElem?_eq_getElem hk];rfl
  have h0:=hc (k * 2) _ (by have:=key 0 (by omega);exact this)
  have h1:=hc _ _ (key 1 (by omega))
  have hs:=spot_of h0
  refine ⟨ad,e,hb,h0,?_⟩
  rw [← add_step hs,add_of_add];exact h1
def RecsOwn (w : World) (base : Nat) (v : Value) (l : List RecS) : Prop:=w.ownsRow base 174 2 v l.length (l.flatMap recC)
theorem RecsOwn.below {w w' : World} {base : Nat} {v : Value} {l : List RecS} (h : RecsOwn w base v l) (hb : Below w.heap.size w w') : RecsOwn w' base v l:=ownsRow_below h hb
theorem RecsOwn.at_ {w : World} {base : Nat} {v : Value} {l : List RecS} (h : RecsOwn w base v l) : RecsAt w v l:=by
  obtain ⟨A,c,rfl,h1,h2,h3,h4⟩:=ownsRow_read h
  exact ⟨A,c,rfl,h1,h2,h3,h4⟩
theorem recinfo : (Tryz.prog.info? 174).map (fun i => (i.zero,i.size,i.bytes))=some (some (.agg #[.string ⟨#[]⟩,.string ⟨#[]⟩]),2,32):=by kernel_rfl
def leK (a b : List UInt8) : Bool:=Op.bytesLess a b || a == b
def Asc (l : List RecS) : Prop:=∀ i (h : i + 1 < l.length),leK l[i + 1].key l[i].key=false
theorem leK_walk (a b : List UInt8) : (Op.bytesLess (bs a).toList (bs b).toList || (bs a).toList == (bs b).toList)=leK a b:=by
  have e : ∀ x : List UInt8,(bs x).toList=x:=fun x => by rw [ByteArray.toList_eq,bs_data]
  rw [e,e];rfl
theorem asc_of_keys {l : List RecS} {ks : List (List UInt8)} (h : (l.map (·.key)).Sublist ks) (hp : ks.Pairwise (fun a b => leK b a=false)) : Asc l:=fun i hi => by
  have:=List.pairwise_iff_getElem.1 (hp.sublist h) i (i + 1) (by rw [List.length_map];omega) (by rw [List.length_map];omega) (by omega)
  simpa using this
def findK (l : List RecS) (k : List UInt8) : Option (List UInt8):=(l.find? (fun r => r.key == k)).map (·.value)
end
section
open Go.RowKit
theorem bld_lies : liesAt Tryz.prog Tryz.prog.depth 129 (2 / Tryz.prog.cellsOf 129) 0 129 1=true:=by kernel_rfl
theorem bld_size : (Tryz.prog.info? 129).map (·.size)=some 2:=by kernel_rfl
set_option maxRecDepth 100000 in
set_option maxHeartbeats 400000 in
theorem bldCheck_used (g : Nat) (s : Value) (w : World) (h : Blk w g 129 #[.pointer (some ⟨g,0,none⟩),s]) :
    Calls Tryz.prog 117 #[.pointer (some ⟨g,0,none⟩)] w fun x w' => x=.returned (.tuple #[])∧w'=w:=by
  obtain ⟨j,hj,hjs⟩:=Option.map_eq_some_iff.1 bld_size
  have c0:=h.cell 0
  have t0:=Tryz.underlying127
  have u0:=run_underlying Tryz.underlying127
  go_enter Tryz.func117,Tryz.ntmps117
  go_wp2
  rw [Lib.run_neq_ptr_same w _ t0 hj]
  simp only [Result.andThen]
  try rw [Oper.upon_value]
  go_wp2
  go_end0
  exact ⟨rfl,rfl⟩
set_option maxRecDepth 100000 in
set_option maxHeartbeats 1000000 in
theorem bldCheck_fresh (g : Nat) (s : Value) (w : World) (h : Blk w g 129 #[.pointer none,s]) :
    Calls Tryz.prog 117 #[.pointer (some ⟨g,0,none⟩)] w fun x w' => x=.returned (.tuple #[])∧w'=w.setCell ⟨g,0,none⟩ (.pointer (some ⟨g,0,none⟩)):=by
  obtain ⟨j,hj,hjs⟩:=Option.map_eq_some_iff.1 bld_size
  have c0:=h.cell 0
  have z0:=h.frozen 0
  have hsh : w.shape? g=some (129,2):=by unfold Blk at h;simp [World.shape?,h]
  have t0:=Tryz.underlying127
  have u0:=run_underlying Tryz.underlying127
  go_enter Tryz.func117,Tryz.ntmps117
  go_wp2
  rw [Lib.run_to_unsafe w ⟨g,0,none⟩ t0 Tryz.underlying265 hj (by rw [hjs];decide) hsh (Nat.zero_lt_succ 1)]
  simp only [Result.andThen]
  rw [Oper.upon_value]
  go_wp2
  rw [run_callFunc_extern Tryz.func168 (by kernel_rfl) (by kernel_rfl) (e:=Extern.AbiNoEscape.same) (by kernel_rfl)]
  rw [Lib.run_noEscape]
  simp only [Result.andThen]
  rw [Oper.upon_value]
  go_wp2
  rw [Lib.run_from_unsafe w ⟨g,0,none⟩ Tryz.underlying265 t0 hj hsh bld_lies]
  simp only [Result.andThen]
  rw [Oper.upon_value]
  go_wp2
  go_end0
  exact ⟨rfl,rfl⟩
  all_goals kernel_rfl
def BldAt (w : World) (base g : Nat) (l : List UInt8) : Prop :=
  base≤g∧∃ p v,Blk w g 129 #[.pointer p,v]∧(p=none∨p=some ⟨g,0,none⟩)∧w.ownsRow base 5 1 v l.length (Lib.byteCells l)
theorem BldAt.below {w w' : World} {base g : Nat} {l : List UInt8} (h : BldAt w base g l) (hb : Below w.heap.size w w') : BldAt w' base g l:=by
  obtain ⟨h1,p,v,h2,h3,h4⟩:=h
  refine ⟨h1,p,v,h2.below hb h2.lt,h3,?_⟩
  refine h4.kept (row:=none) ⟨hb.os,hb.tape,hb.output,hb.size,fun k hk _ => hb.block k hk⟩ ?_
  rcases hv : v.ownBlock with _ | b
  · exact .inl rfl
  · exact .inr (by simp)
theorem bld_ne : 5≠129:=by decide
theorem BldAt.lt {w : World} {base g : Nat} {l : List UInt8} (h : BldAt w base g l) : base≤w.heap.size:=by
  obtain ⟨h1,p,v,h2,_⟩:=h
  have:=h2.lt
  omega
theorem bld_kept {w : World} {base g : Nat} {v : Value} {n : Nat} {xs : List Value} {cs : Array Value} (hown : w.ownsRow base 5 1 v n xs) (hg : Blk w g 129 cs) (i : Nat) (u : Value) : (w.setCell ⟨g,i,none⟩ u).ownsRow base 5 1 v n xs :=
  hown.kept (row:=some g) ⟨rfl,rfl,rfl,by simp [World.setCell],fun k _ hk => Below.heap_setCell _ _ _ _ (fun e => hk (by simp [e]))⟩ (.inr (own_blk_ne hown hg bld_ne))
set_option maxRecDepth 100000 in
theorem bldCheck_any (base g : Nat) (l : List UInt8) (w : World) (h : BldAt w base g l) :
    Calls Tryz.prog 117 #[.pointer (some ⟨g,0,none⟩)] w fun x w' => x=.returned (.tuple #[])∧(∃ v,Blk w' g 129 #[.pointer (some ⟨g,0,none⟩),v]∧w'.ownsRow base 5 1 v l.length (Lib.byteCells l))∧Below base w w':=by
  obtain ⟨h1,p,v,h2,h3,h4⟩:=h
  rcases h3 with rfl | rfl
  · refine (bldCheck_fresh g v w h2).mono ?_
    rintro x w' ⟨rfl,rfl⟩
    refine ⟨rfl,⟨v,?_,bld_kept h4 h2 0 _⟩,(Below.refl _ _).setCell (p:=⟨g,0,none⟩) h1 _⟩
    have:=Blk.set_ h2 0 (.pointer (some ⟨g,0,none⟩))
    simpa using this
  · refine (bldCheck_used g v w h2).mono ?_
    rintro x w' ⟨rfl,rfl⟩
    exact ⟨rfl,⟨v,h2,h4⟩,Below.refl _ _⟩
set_option maxRecDepth 100000 in
set_option maxHeartbeats 1000000 in
theorem bldWrite_any (base g : Nat) (l s : List UInt8) (w : World) (h : BldAt w base g l) (hlen : l.length + s.length≤1000000) :
    Calls Tryz.prog 60 #[.pointer (some ⟨g,0,none⟩),.string (bs s)] w fun x w' => x=.returned (.tuple #[.int .i64 s.length,.nilIface])∧BldAt w' base g (l ++ s)∧Below base w w':=by
  obtain ⟨i0,hi,hz0,hz1,hz2⟩:=info_parts u8_info
  have hz:=bs_size s
  have hbl:=h.lt
  have hbg:=h.1
  have hC:=Lib.hid (bldCheck_any base g l w h)
  have hbc:=Lib.hid (show Lib.strCells (bs s)=Lib.byteCells s by rw [Lib.strCells_eq,bs_data])
  generalize bs s=S at *
  clear h
  go_enter Tryz.func60,Tryz.ntmps60
  go_wp2_with fail
  refine hC.out.mono ?_
  rintro x w1 ⟨rfl,⟨v,hbk,hown⟩,hb1⟩
  have c0:=hbk.cell 0
  have c1:=hbk.cell 1
  go_wp2_with (at_builtin;refine Lib.wpList_append_own_string _ rfl _ _ 27 9 rfl base 5 i0 Tryz.underlying27 Tryz.underlying9 hi hz0 hz1 hz2 _ _ _ rfl hown S rfl ?c3 ?c4 ?c5 ?_)
  case c3 => unfold maxLen;omega
  case c4 => omega
  case c5 => have:=hb1.size;omega
  intro v' w2 hown' hgrow _
  have hne : v.ownBlock≠some g:=own_blk_ne hown hbk bld_ne
  have hb2 : Blk w2 g 129 #[.pointer (some ⟨g,0,none⟩),v]:=hbk.grown hgrow (fun e => hne e.symm)
  have d0:=hb2.cell 0
  have d1:=hb2.cell 1
  have f1:=hb2.frozen 1
  obtain ⟨ao,n',cap,rfl⟩ : ∃ ao n' cap,v'=.slice ao n' cap:=by
    rcases hown'.2 with ⟨hv,_⟩ | ⟨g,cap,cur,hv,_⟩
    · exact ⟨_,_,_,hv⟩
    · exact ⟨_,_,_,hv⟩
  go_wp2
  go_ret2
  refine ⟨rfl,⟨hbg,some ⟨g,0,none⟩,.slice ao n' cap,?_,.inr rfl,?_⟩,?_⟩
  · have:=Blk.set_ hb2 1 (.slice ao n' cap)
    simpa using this
  · have:=bld_kept hown' hb2 1 (.slice ao n' cap)
    rw [hbc.out] at this
    rw [Lib.byteCells_append,List.length_append]
    exact this
  · exact (hb1.grown hgrow (by have:=hb1.size;omega) (fun k hk => (hown.lt k hk).1)).setCell (p:=⟨g,1,none⟩) hbg _
set_option maxRecDepth 100000 in
set_option maxHeartbeats 1000000 in
theorem bld_string (base g : Nat) (l : List UInt8) (h0 : l≠[]) (hl : l.length≤1000000) (w : World) (h : BldAt w base g l) :
    Calls Tryz.prog 62 #[.pointer (some ⟨g,0,none⟩)] w fun e w' => e=.returned (.string (bs l))∧Below base w w':=by
  obtain ⟨h1,p,v,hbk,_,hown⟩:=h
  have hl0 : l.length≠0:=by simpa using h0
  obtain ⟨r,cap,cur,rfl,hbg,hg,hnc,hcm,hcs,htake⟩ : ∃ r cap cur,v=.slice (some ⟨r,0,none⟩) l.length cap∧base≤r∧w.heap[r]?=some (.cells cur 5 (0,0))∧l.length≤cap∧cap≤maxLen∧cur.size=cap * 1∧cur.toList.take (l.length * 1)=Lib.byteCells l:=by
    rcases hown.2 with ⟨_,hz⟩ | ⟨g,cap,cur,hv,q⟩
    · exact absurd hz hl0
    · exact ⟨g,cap,cur,hv,q⟩
  have c1:=hbk.cell 1
  have c1':=hbk.drew.cell 1
  have hSD : (Builtin.unsafeSliceData_ #[27] 203 #[.slice (some ⟨r,0,none⟩) l.length cap]).run Tryz.prog w.drew=.ok (.pointer (some ⟨r,0,none⟩)) w.drew :=
    Lib.run_unsafeSliceData_row _ _ _ _ _ _ (by omega)
  have hUS : (Builtin.unsafeString_ #[203,3] 9 #[.pointer (some ⟨r,0,none⟩),.int .i64 l.length]).run Tryz.prog w.drew=.ok (.string (bs l)) (w.drew.freeze ⟨r,0,none⟩ l.length):=by
    refine Lib.run_unsafeString_row w.drew 203 3 9 5 Tryz.underlying203 (by kernel_rfl) r cur.size (by have hg' : w.drew.heap[r]?=some (.cells cur 5 (0,0)):=hg;simp [World.shape?,hg']) l h0 (by omega) (by unfold maxLen at hcm;omega) ?_
    intro j x hx
    have:=hown.cells (g:=r) rfl j (.int .u8 x.toNat) (by simp [Lib.byteCells,hx])
    exact this
  have HF:=Lib.hid (Lib.below_freeze (Below.drew (Below.refl base w)) (p:=⟨r,0,none⟩) hbg l.length)
  clear hown htake hg
  generalize bs l=L at *
  go_enter Tryz.func62,Tryz.ntmps62
  go_wp2_with fail
  go_region
  all_goals (go_wp2;go_ret;exact ⟨rfl,HF.out⟩)
theorem BldAt.new (w : World) (B : Nat) (hB : B≤w.heap.size) : BldAt (w.alloc (.cells #[.pointer none,.slice none 0 0] 129)) B w.heap.size [] :=
  ⟨hB,none,.slice none 0 0,Blk.new _ _ _,.inl rfl,World.ownsRow_nil _ _ _ _⟩
end
section
open Go.RowKit
set_option maxRecDepth 100000 in
set_option maxHeartbeats 4000000 in
theorem PxCheck_any (v : Value) (l : List RecS) (w : World) (hl : RecsAt w v l) (hok : ∀ r∈l,RecOk r) (hn : l.length≤12) :
    Calls Tryz.prog 96 #[v] w fun e w' => ∃ c : Int,e=.returned (.int .i64 c)∧((c=0∧Asc l)∨(c=6∧¬ Asc l))∧Below w.heap.size w w':=by
  obtain ⟨A,c,rfl,hc1,hc2,hA,hr⟩:=hl
  unfold maxLen at hc2
  have HR:=Lib.hid hr
  have HOK:=Lib.hid hok
  have H0 : Hid (Asc (l.take 0)):=Lib.hid (fun i hi => by simp at hi)
  clear hr hok hA
  go_enter Tryz.func96,Tryz.ntmps96
  go_wp2_with fail
  go_loopg [11] l.length (fun gg s11 wr => ∃ k : Nat,k≤l.length∧l.length - k≤gg∧s11=.int .i64 k∧Hid (Asc (l.take k))∧Hid (Below w.heap.size w wr))
  case atStart => exact ⟨0,Nat.zero_le _,by omega,rfl,H0,Lib.hid (Below.refl _ _)⟩
  case round =>
    obtain ⟨k,hk,hg,rfl,HA,HW⟩:=hrel
    by_cases hlt : k < l.length
    · have hltz : (k : Int) < (l.length : Int):=by omega
      obtain ⟨ad,rfl,had,e0,e1⟩:=(HR.out.below HW.out).rec_at hlt
      have HC:=Lib.hid (fun W => RCheck_ok l[k] (HOK.out _ (List.getElem_mem hlt)) W)
      obtain ⟨W1,hW1⟩ : ∃ W1,W1=wr.alloc (.cells #[.string (bs l[k].key),.string (bs l[k].value)] 174):=⟨_,rfl⟩
      obtain ⟨g,hg1⟩ : ∃ g,g=wr.heap.size:=⟨_,rfl⟩
      have HK1 : Hid (Blk W1 g 174 #[.string (bs l[k].key),.string (bs l[k].value)]):=Lib.hid (by rw [hW1,hg1];exact Blk.new _ _ _)
      have HB1 : Hid (Below wr.heap.size wr W1):=Lib.hid (by rw [hW1];exact (Below.refl _ _).alloc (Nat.le_refl _) _)
      have c0:=HK1.out.cell 0
      have c1:=HK1.out.cell 1
      unfold recV at HC
      obtain ⟨q,hq⟩ : ∃ q : Bool,∀ m (h : m + 1=k),q=leK l[k].key (l[m]'(by omega)).key:=by
        rcases k with _ | m
        · exact ⟨false,fun m h => absurd h (by omega)⟩
        · exact ⟨leK l[m + 1].key l[m].key, fun m' h => by obtain rfl : m' = m := by omega
                                                           rfl⟩
      have HAn : Hid (q=false→Asc (l.take (k + 1))):=Lib.hid (fun hqf i hi => by
        rw [List.length_take] at hi
        by_cases hi2 : i + 1 < k
        · have:=HA.out i (by rw [List.length_take];omega)
          rw [List.getElem_take,List.getElem_take] at this ⊢
          exact this
        · obtain rfl : i + 1=k:=by omega
          rw [List.getElem_take,List.getElem_take,← hq i rfl];exact hqf)
      have HAy : Hid (q=true→0 < k→¬ Asc l):=Lib.hid (fun hqt h0 h => by
        obtain ⟨m,rfl⟩ : ∃ m,k=m + 1:=⟨k - 1,by omega⟩
        have:=h m hlt
        rw [← hq m rfl,hqt] at this
        cases this)
      have HWK : Hid (∀ m (h : m + 1=k),(Op.bytesLess (bs l[k].key).toList (bs (l[m]'(by omega)).key).toList || (bs l[k].key).toList == (bs (l[m]'(by omega)).key).toList)=q):=Lib.hid (fun m h => by rw [hq m h];exact leK_walk _ _)
      clear hq
      have HE2 : Hid (∀ m (h : m + 1=k) W,Below wr.heap.size wr W→W.cell? (ad.add (m * 2))=some (.string (bs (l[m]'(by omega)).key))):=Lib.hid (fun m h W hb2 => by
        obtain ⟨ad',e',_,e2,_⟩:=(HR.out.below HW.out).rec_at (show m < l.length by omega)
        obtain rfl:=Option.some.inj e'
        exact (hb2.cell (p:=ad.add (m * 2)) (by rw [block_of_add];exact Nat.lt_of_lt_of_le had HW.out.size)).trans e2)
      generalize l[k]=r at *
      generalize bs r.key=bk at *
      generalize bs r.value=bv at *
      go_upto_region 6 with fail
      rw [← hW1,← hg1]
      clear hW1 hg1 e0 e1
      go_wp2_with fail
      refine (HC.out _).mono ?_
      rintro e w2 ⟨rfl,b2⟩
      have HB2:=Lib.hid (HW.out.trans ((HB1.out.trans (b2.mono HB1.out.size)).mono HW.out.size))
      have HB3:=Lib.hid (HB1.out.trans (b2.mono HB1.out.size))
      have d0:=(HK1.out.below b2 HK1.out.lt).cell 0
      clear b2 c0 c1
      rcases k with _ | m
      · have HN : Hid (Asc (l.take (0 + 1))):=Lib.hid (fun i hi => by rw [List.length_take] at hi;omega)
        go_wp2_with fail
        go_quiet (fail)
        go_wp2_with fail
        go_roundg (l.length - (0 + 1))
        case measure => omega
        case rel => exact ⟨0 + 1,by omega,by omega,by go_num,HN,Lib.hid (below_drewN HB2.out _)⟩
      · have d2:=HE2.out m rfl w2 HB3.out
        have hwk:=HWK.out m rfl
        generalize bs l[m].key=bk2 at *
        have g1 : decide (((m + 1 : Nat) : Int) > 0)=true:=decide_eq_true (by omega)
        have g2 : IntKind.i64.wrap (m : Int)=(m : Int):=IntWalk.i64_in _ ⟨by omega,by omega⟩
        have g3 : (m : Int) < (l.length : Int):=by omega
        have g4 : (0 : Int)≤(m : Int):=by omega
        have g5 : (0 : Int) < (m : Int) + 1:=by omega
        cases q with
        | false =>
          have HN:=Lib.hid (HAn.out rfl)
          clear HAn HAy HWK HE2
          go_wp2_with fail
          go_quiet (fail)
          go_wp2_with fail
          go_roundg (l.length - (m + 1 + 1))
          case measure => omega
          case rel => exact ⟨m + 1 + 1,by omega,by omega,by go_num,HN,Lib.hid (below_drewN HB2.out _)⟩
        | true =>
          have HN:=Lib.hid (HAy.out rfl (by omega))
          clear HAn HAy HWK HE2
          go_wp2_with fail
          go_quiet (fail)
          go_wp2_with fail
          go_ret
          exact ⟨_,rfl,.inr ⟨rfl,HN.out⟩,below_drewN HB2.out _⟩
    · obtain rfl : k=l.length:=by omega
      go_wp2_with fail
      go_ret
      exact ⟨_,rfl,.inl ⟨rfl,by have:=HA.out;rwa [List.take_length] at this⟩,HW.out⟩
set_option maxRecDepth 100000 in
set_option maxHeartbeats 4000000 in
theorem PxFind_any (v : Value) (l : List RecS) (key : List UInt8) (w : World) (hl : RecsAt w v l) (hn : l.length≤100) :
    Calls Tryz.prog 107 #[v,.string (bs key)] w fun e w' => e=.returned (.tuple #[.string (bs ((findK l key).getD [])),.bool (findK l key).isSome])∧Below w.heap.size w w':=by
  obtain ⟨A,c,rfl,hc1,hc2,hA,hr⟩:=hl
  unfold maxLen at hc2
  have HR:=Lib.hid hr
  have H0 : Hid (∀ j (hj : j < l.length),j < 0→(l[j].key == key)=false):=Lib.hid (fun j _ h => absurd h (Nat.not_lt_zero _))
  clear hr hA
  go_enter Tryz.func107,Tryz.ntmps107
  go_wp2_with fail
  go_loopg [10] l.length (fun gg s10 wr => ∃ k : Nat,k≤l.length∧l.length - k≤gg∧s10=.int .i64 k∧Hid (∀ j (hj : j < l.length),j < k→(l[j].key == key)=false)∧Hid (Below w.heap.size w wr))
  case atStart => exact ⟨0,Nat.zero_le _,by omega,rfl,H0,Lib.hid (Below.refl _ _)⟩
  case round =>
    obtain ⟨k,hk,hg,rfl,HA,HW⟩:=hrel
    by_cases hlt : k < l.length
    · have hltz : (k : Int) < (l.length : Int):=by omega
      obtain ⟨ad,rfl,had,e0,e1⟩:=(HR.out.below HW.out).rec_at hlt
      obtain ⟨W1,hW1⟩ : ∃ W1,W1=wr.alloc (.cells #[.string (bs l[k].key),.string (bs l[k].value)] 174):=⟨_,rfl⟩
      obtain ⟨g,hg1⟩ : ∃ g,g=wr.heap.size:=⟨_,rfl⟩
      have HK1 : Hid (Blk W1 g 174 #[.string (bs l[k].key),.string (bs l[k].value)]):=Lib.hid (by rw [hW1,hg1];exact Blk.new _ _ _)
      have HB1 : Hid (Below w.heap.size w W1):=Lib.hid (by rw [hW1];exact HW.out.alloc HW.out.size _)
      have c0:=HK1.out.cell 0
      have c1:=HK1.out.cell 1
      have hb:=bs_beq l[k].key key
      cases hq : (l[k].key == key) with
      | true =>
        rw [hq] at hb
        have HF : Hid (bs ((findK l key).getD [])=bs l[k].value∧(findK l key).isSome=true):=Lib.hid (by
          unfold findK
          have : l.find? (fun r => r.key == key)=some l[k]:=List.find?_eq_some_iff_getElem.2 ⟨hq,k,hlt,rfl,fun j hj => by rw [HA.out j (by omega) hj];rfl⟩
          rw [this];exact ⟨rfl,rfl⟩)
        clear hq
        generalize l[k]=r at *
        generalize bs r.key=bk at *
        generalize bs r.value=bv at *
        generalize bs key=bq at *
        go_upto_region 4 with fail
        rw [← hW1,← hg1]
        clear hW1 hg1 e0 e1
        go_wp2_with fail
        go_ret2
        exact ⟨by rw [HF.out.1,HF.out.2];rfl,HB1.out⟩
      | false =>
        rw [hq] at hb
        have HN : Hid (∀ j (hj : j < l.length),j < k + 1→(l[j].key == key)=false):=Lib.hid (fun j hj h => by
          by_cases hjk : j < k
          · exact HA.out j hj hjk
          · obtain rfl : j=k:=by omega
            exact hq)
        clear hq
        generalize l[k]=r at *
        generalize bs r.key=bk at *
        generalize bs r.value=bv at *
        generalize bs key=bq at *
        go_upto_region 4 with fail
        rw [← hW1,← hg1]
        clear hW1 hg1 e0 e1
        go_wp2_with fail
        go_roundg (l.length - (k + 1))
        case measure => omega
        case rel => exact ⟨k + 1,by omega,by omega,by go_num,HN,HB1⟩
    · obtain rfl : k=l.length:=by omega
      have HF : Hid (findK l key=none):=Lib.hid (by
        unfold findK
        rw [Option.map_eq_none_iff,List.find?_eq_none]
        intro x hx
        obtain ⟨j,hj,rfl⟩:=List.mem_iff_getElem.1 hx
        rw [HA.out j hj hj];simp)
      go_wp2_with fail
      go_ret2
      exact ⟨by rw [HF.out];rfl,HW.out⟩
def paxT (l : List RecS) : List UInt8:=(l.map recT).flatten
theorem paxT_take {l : List RecS} {k : Nat} (hk : k < l.length) : paxT (l.take (k + 1))=paxT (l.take k) ++ recT l[k]:=by
  unfold paxT
  rw [List.take_succ_eq_append_getElem hk,List.map_append,List.flatten_append]
  simp
theorem paxT_len {l : List RecS} (h : ∀ r∈l,RecOk r) : (paxT l).length≤l.length * 703:=by
  unfold paxT
  induction l with
  | nil => simp
  | cons r l ih =>
    have h1:=(recT_len (h r (by simp))).2
    have h2:=ih (fun x hx => h x (by simp [hx]))
    simp only [List.map_cons,List.flatten_cons,List.length_append,List.length_cons]
    omega
theorem recT_ne (r : RecS) : recT r≠[]:=by
  unfold recT
  intro h
  exact dec_ne _ (List.append_eq_nil_iff.1 h).1
def PwSt (w0 : World) (g : Nat) (t : List UInt8) (w : World) : Prop:=Below w0.heap.size w0 w∧BldAt w g g t∧w0.heap.size=g
theorem PwSt.below {w0 w w' : World} {g : Nat} {t : List UInt8} (h : PwSt w0 g t w) (hb : Below w.heap.size w w') : PwSt w0 g t w':=⟨h.1.trans (hb.mono h.1.size),h.2.1.below hb,h.2.2⟩
set_option maxRecDepth 100000 in
set_option maxHeartbeats 4000000 in
theorem PxWrite_any (v : Value) (l : List RecS) (w : World) (h10 : P10 w) (hl : RecsAt w v l) (hok : ∀ r∈l,RecOk r) (hn : l.length≤12) (ha : Asc l) (hne : l≠[]) :
    Calls Tryz.prog 48 #[v] w fun e w' => e=.returned (.tuple #[.string (bs (paxT l)),.int .i64 0])∧Below w.heap.size w w':=by
  have HC:=Lib.hid (PxCheck_any v l w hl hok hn)
  have hlp : 0 < l.length:=List.length_pos_iff.2 hne
  have HNE : Hid (paxT l≠[]):=Lib.hid (by
    intro h
    unfold paxT at h
    have:=List.flatten_eq_nil_iff.1 h (recT l[0]) (List.mem_map_of_mem (List.getElem_mem hlp))
    exact recT_ne _ this)
  have HPL:=Lib.hid (paxT_len hok)
  have HPK : Hid (∀ k,(paxT (l.take k)).length≤12 * 703):=Lib.hid (fun k => by
    have:=paxT_len (l:=l.take k) (fun r hr => hok r (List.mem_of_mem_take hr))
    rw [List.length_take] at this
    have : min k l.length * 703≤12 * 703:=Nat.mul_le_mul_right _ (by omega)
    omega)
  have HLL:=Lib.hid hl
  obtain ⟨A,c,rfl,hc1,hc2,hA,hr⟩:=hl
  unfold maxLen at hc2
  have HOK:=Lib.hid hok
  have HAS:=Lib.hid ha
  have HP10 : Hid (∀ W,Below w.heap.size w W→P10 W):=Lib.hid (fun W hb => h10.below hb)
  clear hr hok hA ha hne h10 hlp
  go_enter Tryz.func48,Tryz.ntmps48
  go_wp2_with fail
  refine HC.out.mono ?_
  rintro e w1 ⟨c1,rfl,hc,b1⟩
  obtain rfl : c1=0:=by
    rcases hc with ⟨h,_⟩ | ⟨_,h⟩
    · exact h
    · exact absurd HAS.out h
  have HL1:=Lib.hid (HLL.out.below b1)
  have HB1:=Lib.hid b1
  clear hc b1 HC HLL
  obtain ⟨W2,hW2⟩ : ∃ W2,W2=w1.alloc (.cells #[.pointer none,.slice none 0 0] 129):=⟨_,rfl⟩
  obtain ⟨g,hg⟩ : ∃ g,g=w1.heap.size:=⟨_,rfl⟩
  have H0 : Hid (PwSt w1 g (paxT (l.take 0)) W2):=Lib.hid ⟨by rw [hW2];exact (Below.refl _ _).alloc (Nat.le_refl _) _,by rw [hW2,hg];exact BldAt.new w1 _ (Nat.le_refl _),hg.symm⟩
  go_upto_region 5 with fail
  rw [← hW2,← hg]
  clear hW2 hg
  go_wp2_with fail
  go_loopg [17] l.length (fun gg s17 wr => ∃ k : Nat,k≤l.length∧l.length - k≤gg∧s17=.int .i64 k∧Hid (PwSt w1 g (paxT (l.take k)) wr))
  case atStart => exact ⟨0,Nat.zero_le _,by omega,rfl,H0⟩
  case round =>
    obtain ⟨k,hk,hg,rfl,HS⟩:=hrel
    by_cases hlt : k < l.length
    · have hltz : (k : Int) < (l.length : Int):=by omega
      obtain ⟨A',c',hve,-,-,-,hr⟩:=HL1.out.below HS.out.1
      obtain ⟨rfl,-,rfl⟩:=Value.slice.inj hve
      obtain ⟨ad,rfl,had,e0,e1⟩:=hr.rec_at hlt
      have HT:=Lib.hid (paxT_take hlt)
      have HKK:=Lib.hid (HPK.out k)
      have hrk:=recT_len (HOK.out _ (List.getElem_mem hlt))
      have HW:=Lib.hid (fun W (hb : Below w1.heap.size w1 W) => RWrite_ok l[k] (HOK.out _ (List.getElem_mem hlt)) W (HP10.out W (HB1.out.trans (hb.mono HB1.out.size))))
      have HWS:=Lib.hid (fun W (hb : PwSt w1 g (paxT (l.take k)) W) => bldWrite_any g g (paxT (l.take k)) (recT l[k]) W hb.2.1 (by have:=HPK.out k;omega))
      generalize l[k]=r at *
      obtain ⟨W3,hW3⟩ : ∃ W3,W3=wr.alloc (.cells #[.string (bs r.key),.string (bs r.value)] 174):=⟨_,rfl⟩
      obtain ⟨g3,hg3⟩ : ∃ g3,g3=wr.heap.size:=⟨_,rfl⟩
      have HK1 : Hid (Blk W3 g3 174 #[.string (bs r.key),.string (bs r.value)]):=Lib.hid (by rw [hW3,hg3];exact Blk.new _ _ _)
      have HS3 : Hid (PwSt w1 g (paxT (l.take k)) W3):=Lib.hid (HS.out.below (by rw [hW3];exact (Below.refl _ _).alloc (Nat.le_refl _) _))
      have c0:=HK1.out.cell 0
      have c1:=HK1.out.cell 1
      clear hr hve hrk
      unfold recV at HW
      generalize bs r.key=bk at *
      generalize bs r.value=bv at *
      generalize bs (recT r)=bt at *
      go_upto_region 8 with fail
      rw [← hW3,← hg3]
      clear hW3 hg3 e0 e1
      go_wp2_with fail
      refine (HW.out _ HS3.out.1).mono ?_
      rintro e w4 ⟨rfl,b4⟩
      have HS4:=Lib.hid (HS3.out.below b4)
      clear b4 c0 c1
      go_wp2_with fail
      refine (HWS.out _ HS4.out).mono ?_
      rintro e w5 ⟨rfl,h5,b5⟩
      have HS5 : Hid (PwSt w1 g (paxT (l.take (k + 1))) w5):=Lib.hid ⟨HS4.out.1.trans (b5.mono (by rw [HS4.out.2.2];exact Nat.le_refl _)),by rw [HT.out];exact h5,HS4.out.2.2⟩
      clear h5 b5
      go_wp2_with fail
      go_roundg (l.length - (k + 1))
      case measure => omega
      case rel => exact ⟨k + 1,by omega,by omega,by go_num,HS5⟩
    · obtain rfl : k=l.length:=by omega
      have hS:=HS.out
      rw [List.take_length] at hS
      have HST:=Lib.hid (bld_string g g (paxT l) HNE.out (by have:=HPL.out;have : l.length * 703≤12 * 703:=Nat.mul_le_mul_right _ hn;omega) wr hS.2.1)
      have HF:=Lib.hid (fun W (hb : Below g wr W) => HB1.out.trans ((hS.1.trans (hb.mono (by rw [hS.2.2];exact Nat.le_refl _))).mono HB1.out.size))
      clear hS
      go_wp2_with fail
      refine HST.out.mono ?_
      rintro e w6 ⟨rfl,b6⟩
      go_wp2_with fail
      go_ret2
      exact ⟨rfl,HF.out _ b6⟩
end
end Go.Proofs.YtphmhmdcaafmdaaGreatDoor
