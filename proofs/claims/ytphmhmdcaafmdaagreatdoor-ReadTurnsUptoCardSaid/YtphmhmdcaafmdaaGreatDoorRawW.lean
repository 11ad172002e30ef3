import Derived.Test.YtphmhmdcaafmdaaGreatDoorWords
import Derived.Leaving
import Derived.ClaimOpenTies
import Derived.SevenTiedAt
import Derived.Lib.SmallJoins
namespace Go.Proofs.YtphmhmdcaafmdaaGreatDoor
set_option linter.all false
theorem leaving_of_alone {p : Pinned} {s : OpenSpec} {c : OpenClaim} (hstart : c.start=.entering) (hst : c.stops=[]) (hl : c.leaving=true) (hag : c.again=false) (h : ({ c with leaving:=false } : OpenClaim).holds p s) : c.holds p s:=by
  obtain ⟨a1,a2,a3,a4,a5,a6,a7,a8,f,fn,b1,b2,b3,b4,b5,b6,b7,b8,b9,b10,b11,b12,b13,b14,b15,b16,b17,b18,b19,b20,hos,L,hL,hall⟩:=h
  have hw : c.wf s=true:=by
    clear hall hL hos a2 a3 a4 a5 a6 a7 a8 b1 b2 b3 b4 b5 b6 b7 b8 b9 b10 b11 b12 b13 b14 b15 b16 b17 b18 b19 b20 hstart hst hl
    cases c
    simp only at hag
    subst hag
    exact a1
  refine ⟨hw,a2,a3,a4,a5,a6,a7,a8,f,fn,b1,b2,b3,b4,b5,b6,b7,b8,b9,b10,b11,b12,b13,b14,b15,b16,b17,b18,b19,b20,hos,L,hL,fun os hw hq H enc inj => ?_⟩
  have F:=hall os hw hq H enc inj
  unfold OpenClaim.form at F ⊢
  dsimp only at F ⊢
  rw [hstart,hst] at F ⊢
  refine fun Fi => ReturnsInOpen.mono (fun m w t q => ?_) (fun _ x => x) (F Fi)
  unfold OpenClaim.atReturn at q ⊢
  rw [hl]
  exact ⟨q.2.1,onlyLeaving_of_quiet q.1,q.2.2⟩
theorem tied_goes (Lk : Looks) {p : Pinned} {s : OpenSpec} {c : OpenClaim} (kinds : List LaidKind) (tests : Bool) (har : Bool × String) (lk goes : Bool) (hc : c.holds p s) (hw : c.wfByText s=true) (htie : c.laidByTextAt Lk p kinds tests)
    (hst : c.start=.entering) (hnb : c.noBlocks=false∧c.again=false) (hm : p.checked.prog.mainIs=some (har.1,har.2.toList)) (hn : (!har.1 && har.2.isEmpty && !lk)=false)
    (hl : ∀ f fn,p.checked.prog.funcNamed c.func=some f→p.checked.prog.funcs[f]?=some fn→lk=p.checked.prog.looks []∧∀ (j : Nat) t,fn.params[j]?=some t→p.checked.prog.wantsStandIn t=false)
    (hg : goes=c.goesBy p.checked.prog) :
    Claim7.holds p (.plain s) { stood:={ row:=c,standIns:=[],harness:=har,looks:=lk },kinds:=[],alts:=[],laidByText:=true,laidKinds:=kinds,laidTests:=tests,laidLooks:=Lk,goes:=goes }:=by
  have h6 : Claim7.isSixth { stood:={ row:=c,standIns:=[],harness:=har,looks:=lk },kinds:=[] }=false:=by simpa [Claim7.isSixth] using hn
  exact ⟨Claim7.tied_new_at Lk kinds tests (Claim7.new_of_sixth hc har lk hst hnb hm h6 hl) hw,(fun D hD => by cases hD),htie,(fun h => by cases h),hg⟩
end Go.Proofs.YtphmhmdcaafmdaaGreatDoor
namespace Go.Proofs.YtphmhmdcaafmdaaGreatDoor
set_option linter.all false
section
open Go.Joins Go.ChangeShapes Go.WideShapes Go.RowKit
structure RawS where
  kind : Int
  a : Int
  b : Int
  text : List UInt8
def rawV (r : RawS) : Value:=.agg #[.int .i64 r.kind,.int .i64 r.a,.int .i64 r.b,.string (bs r.text)]
structure RawOk (r : RawS) : Prop where
  kind : I64 r.kind
  a : I64 r.a
  b : I64 r.b
  text : r.text.length≤1048576
section
variable {H : Type} {enc : TypeId × Value→H}
end
end
section
open Go.Joins Go.ChangeShapes Go.WideShapes Go.RowKit Go.Deep
def rawCells (r : RawS) : List Value:=[.int .i64 r.kind,.int .i64 r.a,.int .i64 r.b,.string (bs r.text)]
theorem rawCells_length (r : RawS) : (rawCells r).length=4:=rfl
def RawsAt (w : World) (B : Nat) (v : Value) (l : List RawS) : Prop :=
  ∃ A c,v=.slice A l.length c∧l.length≤c∧c≤maxLen∧(A=none→c=0)∧Reads w B 4 A l.length (l.flatMap rawCells)
theorem RawsAt.below {w w' : World} {B : Nat} {v : Value} {l : List RawS} (h : RawsAt w B v l) (hb : Below B w w') : RawsAt w' B v l:=by
  obtain ⟨A,c,h1,h2,h3,h4,h5⟩:=h
  exact ⟨A,c,h1,h2,h3,h4,h5.below hb⟩
theorem RawsAt.more {w : World} {B B' : Nat} {v : Value} {l : List RawS} (h : RawsAt w B v l) (hb : B≤B') : RawsAt w B' v l:=by
  obtain ⟨A,c,h1,h2,h3,h4,h5⟩:=h
  exact ⟨A,c,h1,h2,h3,h4,h5.more hb⟩
theorem Reads.raw_at {w : World} {B : Nat} {A : Option Addr} {l : List RawS} (h : Reads w B 4 A l.length (l.flatMap rawCells)) {k : Nat} (hk : k < l.length) :
    ∃ ad,A=some ad∧ad.block < B∧w.cell? (ad.add (k * 4))=some (.int .i64 l[k].kind)∧w.cell? (ad.add (k * 4 + 1))=some (.int .i64 l[k].a)∧w.cell? (ad.add (k * 4 + 2))=some (.int .i64 l[k].b)∧w.cell? (ad.add (k * 4 + 3))=some (.string (bs l[k].text)):=by
  obtain ⟨ad,e,hb,hc⟩:=h.2 (by omega)
  have key : ∀ j,j < 4→(l.flatMap rawCells)[k * 4 + j]?=(rawCells l[k])[j]?:=fun j hj => by
    rw [flat_get rawCells_length l k j hj,List.getElem?_eq_getElem hk];rfl
  exact ⟨ad,e,hb,hc (k * 4) _ (by have:=key 0 (by omega);exact this),hc _ _ (key 1 (by omega)),hc _ _ (key 2 (by omega)),hc _ _ (key 3 (by omega))⟩
section
variable {H : Type} {enc : TypeId × Value→H}
set_option maxRecDepth 100000 in
theorem open_raws {r : Reach} {b0 : Nat} {v : Value} {d : DataW H} {ps : List MemPlace} {w : World} {L : List (DataW H)} (hval : Value.okWide Tryz.prog w r b0 22 v) (hd : DataW.Trod enc Tryz.prog w 0 (fun _ => true) true 22 v d ps)
    (hk : Rows.uptoSmall H L=true) (hm : d∈L) : ∃ l : List RawS,RawsAt w w.heap.size v l∧(∀ x∈l,RawOk x)∧l.length≤1048576:=by
  obtain ⟨a0,len,cap,rfl⟩:=okWide_slice Tryz.underlying22 hval
  obtain ⟨fuel,hf⟩:=hd
  rcases open_slice_fields Tryz.underlying22 Tryz.underlying55 (by kernel_rfl) (by kernel_rfl) hf with ⟨hcs,hx⟩ | ⟨a,len',cap',m,D,Pl,hcs,_,hl,hmx,hmm,hx,hi⟩
  · simp only [Value.cells,List.cons.injEq,Value.slice.injEq,and_true] at hcs
    obtain ⟨rfl,rfl,rfl⟩:=hcs
    exact ⟨[],⟨none,0,rfl,by simp,by simp,fun _ => rfl,Reads.none_⟩,by simp,by simp⟩
  · simp only [Value.cells,List.cons.injEq,Value.slice.injEq,and_true] at hcs
    obtain ⟨rfl,rfl,rfl⟩:=hcs
    simp only [if_pos] at hmm
    simp only [Prod.mk.injEq] at hx
    obtain ⟨hx1,_⟩:=hx
    have hb:=bulks.part_le hm
    have hB:=bulks.bound hk
    rw [hx1] at hb
    simp only [Rows.uptoBulk] at hb
    have hall : ∀ i,∃ x : RawS,i < len→(RawOk x∧∀ j,j < 4→w.cell? (a.add (i * 4 + j))=(rawCells x)[j]?):=by
      intro i
      by_cases hlt : i < len
      · obtain ⟨ys,n,hD,_,hyl,hfl⟩:=hi i (by omega)
        obtain ⟨v0,y0,c0,e0,t0⟩:=hfl 0 _ rfl
        obtain ⟨v1,y1,c1,e1,t1⟩:=hfl 1 _ rfl
        obtain ⟨v2,y2,c2,e2,t2⟩:=hfl 2 _ rfl
        obtain ⟨v3,y3,c3,e3,t3⟩:=hfl 3 _ rfl
        obtain ⟨n0,q0,rfl,w0⟩:=DataW.trod_int Tryz.underlying3 t0
        obtain ⟨n1,q1,rfl,w1⟩:=DataW.trod_int Tryz.underlying3 t1
        obtain ⟨n2,q2,rfl,w2⟩:=DataW.trod_int Tryz.underlying3 t2
        obtain ⟨s,q3,rfl,w3⟩:=DataW.trod_string Tryz.underlying9 t3
        simp only [List.cons.injEq,and_true] at q0 q1 q2 q3
        subst q0 q1 q2 q3
        match ys,hyl with
        | [z0,z1,z2,z3],_ =>
          simp only [List.getElem?_cons_zero,List.getElem?_cons_succ,Option.some.injEq] at e0 e1 e2 e3
          subst e0 e1 e2 e3
          have hmem : D i∈(List.range len).map D:=List.mem_map.2 ⟨i,List.mem_range.2 hlt,rfl⟩
          have hp:=bulks.part_le hmem
          rw [hD] at hp
          simp only [List.map_cons,List.map_nil,Rows.uptoBulk,Rows.uptoBulkAll] at hp
          have hlen : s.data.toList.length≤1048576:=by omega
          refine ⟨⟨n0,n1,n2,s.data.toList⟩,fun _ => ⟨⟨i64_of_wf w0,i64_of_wf w1,i64_of_wf w2,hlen⟩,fun j hj => ?_⟩⟩
          rcases (show j=0∨j=1∨j=2∨j=3 by omega) with rfl | rfl | rfl | rfl
          · exact c0
          · exact c1
          · exact c2
          · exact c3
      · exact ⟨⟨0,0,0,[]⟩,fun h => absurd h hlt⟩
    obtain ⟨f,hf2⟩:=Classical.skolem.1 hall
    have hln : ((List.range len).map f).length=len:=by simp
    have hget : ∀ i,i < len→((List.range len).map f)[i]?=some (f i):=fun i h => by simp [h]
    have hbig : len≤1048576:=by
      have:=bulks.length_le ((List.range len).map D)
      simp only [List.length_map,List.length_range] at this
      omega
    refine ⟨(List.range len).map f,⟨some a,cap,by rw [hln],by omega,hmx,(fun h => by cases h),?_⟩,?_,by omega⟩
    · rw [hln]
      refine ⟨by rw [flat_length rawCells_length,hln],fun h0 => ⟨a,rfl,?_,fun t u hu => ?_⟩⟩
      · have h1:=(hf2 0 h0).2 0 (by omega)
        rcases Nat.lt_or_ge a.block w.heap.size with h2 | h2
        · exact h2
        · have h3 : (a.add (0 * 4 + 0)).block=a.block:=block_of_add _ _
          simp only [World.cell?,h3,Array.getElem?_eq_none h2,rawCells] at h1
          cases h1
      · obtain ⟨i,j,x,rfl,hj,hx,hu2⟩:=flat_some rawCells_length hu
        have hil : i < len:=by have:=(List.getElem?_eq_some_iff.1 hx).1;omega
        rw [hget i hil] at hx
        obtain rfl : f i=x:=by simpa using hx
        rw [(hf2 i hil).2 j hj,hu2]
    · intro x hx
      obtain ⟨i,hi,rfl⟩:=List.mem_map.1 hx
      exact (hf2 i (List.mem_range.1 hi)).1
end
end
end Go.Proofs.YtphmhmdcaafmdaaGreatDoor
