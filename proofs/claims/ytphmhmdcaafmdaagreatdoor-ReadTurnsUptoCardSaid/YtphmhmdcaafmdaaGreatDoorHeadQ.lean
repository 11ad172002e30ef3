import Derived.Test.YtphmhmdcaafmdaaGreatDoorHeadWrite
import Derived.Test.YtphmhmdcaafmdaaGreatDoorRawW
import Derived.Test.YtphmhmdcaafmdaaGreatDoorFields
import Derived.Deep.RegionHeld3
import Derived.Test.YtphmhmdcaafmdaaGreatDoorOctalB
import Derived.Test.YtphmhmdcaafmdaaGreatDoorHeadP
import Derived.Test.YtphmhmdcaafmdaaGreatDoorSum
namespace Go.Proofs.YtphmhmdcaafmdaaGreatDoor
set_option linter.all false
section
open Go.RowKit
def HdCore (G : Nat) (kd a b : Int) (bt : ByteArray) (W0 w' : World) : Prop:=Blk w' G 55 #[.int .i64 kd,.int .i64 a,.int .i64 b,.string bt]∧HasBlk w' (G + 1) 107 11∧Below (G + 1) W0 w'
abbrev SHd (G : Nat) (kd a b : Int) (bt : ByteArray) (W0 w' : World) : Prop:=w'.cell? ⟨G,0,none⟩=some (.int .i64 kd)∧w'.cell? ⟨G,1,none⟩=some (.int .i64 a)∧w'.cell? ⟨G,2,none⟩=some (.int .i64 b)∧w'.cell? ⟨G,3,none⟩=some (.string bt)∧w'.cell? ⟨G + 1,0,none⟩=some (peek w' ⟨G + 1,0,none⟩)∧w'.cell? ⟨G + 1,1,none⟩=some (peek w' ⟨G + 1,1,none⟩)∧w'.cell? ⟨G + 1,2,none⟩=some (peek w' ⟨G + 1,2,none⟩)∧w'.cell? ⟨G + 1,3,none⟩=some (peek w' ⟨G + 1,3,none⟩)∧w'.cell? ⟨G + 1,4,none⟩=some (peek w' ⟨G + 1,4,none⟩)∧w'.cell? ⟨G + 1,5,none⟩=some (peek w' ⟨G + 1,5,none⟩)∧w'.cell? ⟨G + 1,6,none⟩=some (peek w' ⟨G + 1,6,none⟩)∧w'.cell? ⟨G + 1,7,none⟩=some (peek w' ⟨G + 1,7,none⟩)∧w'.cell? ⟨G + 1,8,none⟩=some (peek w' ⟨G + 1,8,none⟩)∧w'.cell? ⟨G + 1,9,none⟩=some (peek w' ⟨G + 1,9,none⟩)∧w'.cell? ⟨G + 1,10,none⟩=some (peek w' ⟨G + 1,10,none⟩)∧w'.frozen? ⟨G + 1,0,none⟩=false∧w'.frozen? ⟨G + 1,1,none⟩=false∧w'.frozen? ⟨G + 1,2,none⟩=false∧w'.frozen? ⟨G + 1,3,none⟩=false∧w'.frozen? ⟨G + 1,4,none⟩=false∧w'.frozen? ⟨G + 1,5,none⟩=false∧w'.frozen? ⟨G + 1,6,none⟩=false∧w'.frozen? ⟨G + 1,7,none⟩=false∧w'.frozen? ⟨G + 1,8,none⟩=false∧w'.frozen? ⟨G + 1,9,none⟩=false∧w'.frozen? ⟨G + 1,10,none⟩=false∧HdCore G kd a b bt W0 w'
theorem HdCore.flat {G : Nat} {kd a b : Int} {bt : ByteArray} {W0 w' : World} (h : HdCore G kd a b bt W0 w') : SHd G kd a b bt W0 w':=by
  obtain ⟨h1,h2,h3⟩:=id h
  exact ⟨h1.cell 0,h1.cell 1,h1.cell 2,h1.cell 3,h2.peek_ (by omega),h2.peek_ (by omega),h2.peek_ (by omega),h2.peek_ (by omega),h2.peek_ (by omega),h2.peek_ (by omega),h2.peek_ (by omega),h2.peek_ (by omega),h2.peek_ (by omega),h2.peek_ (by omega),h2.peek_ (by omega),h2.frozen 0,h2.frozen 1,h2.frozen 2,h2.frozen 3,h2.frozen 4,h2.frozen 5,h2.frozen 6,h2.frozen 7,h2.frozen 8,h2.frozen 9,h2.frozen 10,h⟩
theorem SHd.core {G : Nat} {kd a b : Int} {bt : ByteArray} {W0 w' : World} (h : SHd G kd a b bt W0 w') : HdCore G kd a b bt W0 w':=by
  obtain ⟨_,_,_,_,_,_,_,_,_,_,_,_,_,_,_,_,_,_,_,_,_,_,_,_,_,_,h⟩:=h
  exact h
theorem SHd.below {G : Nat} {kd a b : Int} {bt : ByteArray} {W0 w1 w2 : World} (h : SHd G kd a b bt W0 w1) (hb : Below w1.heap.size w1 w2) : SHd G kd a b bt W0 w2:=by
  obtain ⟨h1,h2,h3⟩:=h.core
  exact HdCore.flat ⟨h1.below hb h1.lt,h2.below hb,h3.trans (hb.mono (by have:=h2.lt;omega))⟩
theorem HdCore.set_ {G : Nat} {kd a b : Int} {bt : ByteArray} {W0 w1 : World} (h : HdCore G kd a b bt W0 w1) (i : Nat) (u : Value) : HdCore G kd a b bt W0 (w1.setCell ⟨G + 1,i,none⟩ u):=by
  obtain ⟨h1,h2,h3⟩:=h
  exact ⟨h1.far (p:=⟨G + 1,i,none⟩) (by show G≠G + 1;omega) u,h2.set_ i u,h3.setCell (p:=⟨G + 1,i,none⟩) (Nat.le_refl _) u⟩
theorem SHd.stored {G : Nat} {kd a b : Int} {bt : ByteArray} {W0 w1 : World} (u0 u1 u2 u3 u4 u5 u6 u7 u8 u9 u10 : Value) (h : SHd G kd a b bt W0 w1) : SHd G kd a b bt W0 (((((((((((w1.setCell ⟨G + 1,0,none⟩ u0).setCell ⟨G + 1,1,none⟩ u1).setCell ⟨G + 1,2,none⟩ u2).setCell ⟨G + 1,3,none⟩ u3).setCell ⟨G + 1,4,none⟩ u4).setCell ⟨G + 1,5,none⟩ u5).setCell ⟨G + 1,6,none⟩ u6).setCell ⟨G + 1,7,none⟩ u7).setCell ⟨G + 1,8,none⟩ u8).setCell ⟨G + 1,9,none⟩ u9).setCell ⟨G + 1,10,none⟩ u10) :=
  HdCore.flat (((((((((((h.core.set_ 0 u0).set_ 1 u1).set_ 2 u2).set_ 3 u3).set_ 4 u4).set_ 5 u5).set_ 6 u6).set_ 7 u7).set_ 8 u8).set_ 9 u9).set_ 10 u10)
end
section
open Go.RowKit
end
section
section
open Go.RowKit
abbrev Eye (w : World) (g : Nat) (l : List UInt8) (e : Int) : Prop:=Blk w g 247 #[.string (bs l),.int .i64 e]
set_option maxRecDepth 100000 in
set_option maxHeartbeats 400000 in
theorem take_any (g : Nat) (a b : List UInt8) (e : Int) (n : Nat) (hn : n=a.length) (w : World) (h : Eye w g (a ++ b) e) :
    Calls Tryz.prog 151 #[.pointer (some ⟨g,0,none⟩),.int .i64 n] w fun x w' => x=.returned (.string (bs a))∧w'=w.setCell ⟨g,0,none⟩ (.string (bs b)):=by
  subst hn
  have hz:=bs_size (a ++ b)
  rw [List.length_append] at hz
  have x1 : (bs (a ++ b)).extract 0 a.length=bs a:=by rw [bs_extract];simp
  have x2 : (bs (a ++ b)).extract a.length (a.length + b.length)=bs b:=by
    rw [bs_extract];simp
  have c0:=h.cell 0
  have z0:=h.frozen 0
  have t1 : a.length≤(bs (a ++ b)).size:=by omega
  generalize bs (a ++ b)=bl at *
  generalize a.length=n at *
  generalize bs a=ba at *
  generalize bs b=bb at *
  go_enter Tryz.func151,Tryz.ntmps151
  go_wp2_with fail
  go_ret
  exact ⟨rfl,rfl⟩
set_option maxRecDepth 100000 in
theorem note_ok (g : Nat) (l : List UInt8) (c : Int) (w : World) (h : Eye w g l 0) :
    Calls Tryz.prog 152 #[.pointer (some ⟨g,0,none⟩),.int .i64 c] w fun x w' => x=.returned (.tuple #[])∧w'=w.setCell ⟨g,1,none⟩ (.int .i64 c):=by
  have c0:=h.cell 1
  have z0:=h.frozen 1
  go_enter Tryz.func152,Tryz.ntmps152
  go_wp2_with fail
  refine bodyPost_end (results_none rfl _ _ _) rfl ?_
  exact ⟨rfl,rfl⟩
set_option maxRecDepth 100000 in
theorem note_bad (g : Nat) (l : List UInt8) (e : Int) (he : e≠0) (c : Int) (w : World) (h : Eye w g l e) :
    Calls Tryz.prog 152 #[.pointer (some ⟨g,0,none⟩),.int .i64 c] w fun x w' => x=.returned (.tuple #[])∧w'=w:=by
  have c0:=h.cell 1
  have e1 : (e == 0)=false:=beq_eq_false_iff_ne.2 he
  go_enter Tryz.func152,Tryz.ntmps152
  go_wp2_with fail
  refine bodyPost_end (results_none rfl _ _ _) rfl ?_
  exact ⟨rfl,rfl⟩
theorem Eye.set0 {w : World} {g : Nat} {l : List UInt8} {e : Int} (h : Eye w g l e) (b : List UInt8) : Eye (w.setCell ⟨g,0,none⟩ (.string (bs b))) g b e:=by
  have:=Blk.set_ h 0 (.string (bs b))
  simpa using this
theorem Eye.set1 {w : World} {g : Nat} {l : List UInt8} {e : Int} (h : Eye w g l e) (c : Int) : Eye (w.setCell ⟨g,1,none⟩ (.int .i64 c)) g l c:=by
  have:=Blk.set_ h 1 (.int .i64 c)
  simpa using this
structure Only (g : Nat) (w w' : World) : Prop where
  os : w'.os=w.os
  tape : w'.tape=w.tape
  output : w'.output=w.output
  size : w.heap.size≤w'.heap.size
  block : ∀ k,k < w.heap.size→k≠g→w'.heap[k]?=w.heap[k]?
theorem Only.refl (g : Nat) (w : World) : Only g w w:=⟨rfl,rfl,rfl,Nat.le_refl _,fun _ _ _ => rfl⟩
theorem Only.trans {g : Nat} {a b c : World} (h : Only g a b) (k : Only g b c) : Only g a c :=
  ⟨k.os.trans h.os,k.tape.trans h.tape,k.output.trans h.output,Nat.le_trans h.size k.size,fun i hi hn => (k.block i (Nat.lt_of_lt_of_le hi h.size) hn).trans (h.block i hi hn)⟩
theorem Only.set_ {g : Nat} {a w : World} (h : Only g a w) (i : Nat) (u : Value) : Only g a (w.setCell ⟨g,i,none⟩ u) :=
  h.trans ⟨rfl,rfl,rfl,by simp [World.setCell],fun k _ hn => Below.heap_setCell _ _ _ _ hn⟩
theorem Only.quiet {g : Nat} {a w w' : World} (h : Only g a w) (hb : Below w.heap.size w w') : Only g a w' :=
  h.trans ⟨hb.os,hb.tape,hb.output,hb.size,fun k hk _ => hb.block k hk⟩
theorem Only.below {g B : Nat} {w w' : World} (h : Only g w w') (hB : B≤g) (hs : B≤w.heap.size) : Below B w w' :=
  ⟨h.os,h.tape,h.output,h.size,fun k hk => h.block k (by omega) (by omega)⟩
theorem Only.blk {g b : Nat} {w w' : World} {t : TypeId} {cs : Array Value} (h : Only g w w') (hb : Blk w b t cs) (hn : b≠g) : Blk w' b t cs:=(h.block b hb.lt hn).trans hb
theorem Only.hasBlk {g b n : Nat} {w w' : World} {t : TypeId} (h : Only g w w') (hb : HasBlk w b t n) (hn : b≠g) : HasBlk w' b t n:=by
  obtain ⟨cs,hs,hb⟩:=hb
  exact ⟨cs,hs,h.blk hb hn⟩
end
section
open Go.RowKit
end
end
section
open Go.RowKit
structure HRd (w0 w : World) (R g b : Nat) (l : List UInt8) (cs : Array Value) : Prop where
  eye : Eye w g l 0
  res : HasBlk w R 107 11
  head : Blk w b 107 cs
  below : Below w0.heap.size w0 w
  base : w0.heap.size≤g∧w0.heap.size≤b∧w0.heap.size≤R∧b≠g∧R≠g∧R≠b
theorem HRd.set_ {w0 w : World} {R g b : Nat} {l : List UInt8} {cs : Array Value} (h : HRd w0 w R g b l cs) (i : Nat) (u : Value) (cs' : Array Value) (hcs : cs.setIfInBounds i u=cs') : HRd w0 (w.setCell ⟨b,i,none⟩ u) R g b l cs':=by
  obtain ⟨h1,⟨c2,n2,h2⟩,h3,h4,h5⟩:=h
  subst hcs
  refine ⟨Blk.far h1 (p:=⟨b,i,none⟩) (by show g≠b;omega) u,⟨c2,n2,h2.far (p:=⟨b,i,none⟩) (by show R≠b;omega) u⟩,h3.set_ i u,h4.setCell (p:=⟨b,i,none⟩) h5.2.1 u,h5⟩
theorem HRd.quiet {w0 w w' : World} {R g b : Nat} {l : List UInt8} {cs : Array Value} (h : HRd w0 w R g b l cs) (hb : Below w.heap.size w w') : HRd w0 w' R g b l cs:=by
  obtain ⟨h1,h2,h3,h4,h5⟩:=h
  exact ⟨h1.below hb h1.lt,h2.below hb,h3.below hb h3.lt,h4.trans (hb.mono h4.size),h5⟩
theorem HRd.step {w0 w w' : World} {R g b : Nat} {l m : List UInt8} {cs : Array Value} (h : HRd w0 w R g b l cs) (he : Eye w' g m 0) (ho : Only g w w') : HRd w0 w' R g b m cs:=by
  obtain ⟨h1,h2,h3,h4,h5⟩:=h
  exact ⟨he,ho.hasBlk h2 h5.2.2.2.2.1,ho.blk h3 h5.2.2.2.1,h4.trans (ho.below h5.1 h4.size),h5⟩
theorem HRd.take {w0 w : World} {R g b : Nat} {l m : List UInt8} {cs : Array Value} (h : HRd w0 w R g b l cs) : HRd w0 (w.setCell ⟨g,0,none⟩ (.string (bs m))) R g b m cs :=
  h.step (Eye.set0 h.eye m) ((Only.refl _ _).set_ 0 _)
end
section
open Go.RowKit
def headNone : Array Value:=#[.string ⟨#[]⟩,.string ⟨#[]⟩,.string ⟨#[]⟩,.int .i64 0,.int .i64 0,.int .i64 0,.int .i64 0,.int .i64 0,.int .u8 0,.string ⟨#[]⟩,.string ⟨#[]⟩]
set_option maxRecDepth 100000 in
set_option maxHeartbeats 2000000 in
theorem HRead_bad (l : List UInt8) (hl : l.length=512) (hbad : ¬ sumOk l) (w : World) :
    Calls Tryz.prog 103 #[.string (bs l)] w fun e w' => e=.returned (.tuple #[.agg headNone,.int .i64 8])∧Below w.heap.size w w':=by
  have hS:=Lib.hid (fun w => HSum_any l hl w)
  have hF:=Lib.hid (fun w => ORead_any (bs (sumF l)) (by rw [bs_size,sumF_length hl];omega) w)
  rw [bs_data] at hF
  have x1 : (bs l).extract 148 155=bs (sumF l):=by rw [bs_extract];rfl
  have zW:=bs_size l
  rw [hl] at zW
  have hbd:=hsum_bd l 512
  have x2 : ∀ hh : 155 < (bs l).size,(((bs l)[155]'hh).toNat : Int)=((l.getD 155 0).toNat : Int):=by
    intro hh
    rw [bs_get l 155 hh]
  have hb : (octRead (sumF l)).2≠0∨((octRead (sumF l)).2=0∧(octRead (sumF l)).1≠(hsum l 512 : Int))∨((octRead (sumF l)).2=0∧(octRead (sumF l)).1=(hsum l 512 : Int)∧((l.getD 155 0).toNat : Int)≠32):=by
    by_cases h1 : (octRead (sumF l)).2=0
    · by_cases h2 : (octRead (sumF l)).1=(hsum l 512 : Int)
      · refine .inr (.inr ⟨h1,h2,fun h3 => hbad ⟨Prod.ext h2 h1,?_⟩⟩)
        rw [List.getElem?_eq_getElem (by omega)]
        have h4 : l.getD 155 0=l[155]'(by omega):=by rw [List.getD_eq_getElem?_getD,List.getElem?_eq_getElem (by omega)];rfl
        rw [h4] at h3
        congr 1
        exact UInt8.toNat.inj (by have : (32 : UInt8).toNat=32:=rfl;omega)
      · exact .inr (.inl ⟨h1,h2⟩)
    · exact .inl h1
  generalize octRead (sumF l)=on at *
  obtain ⟨n,e⟩:=on
  simp only at hb hF
  generalize hsum l 512=S at *
  generalize ((l.getD 155 0).toNat : Int)=q at *
  clear hbad hl
  generalize bs (sumF l)=bF at *
  generalize bs l=BW at *
  replace x2:=x2 (by omega)
  have BA:=Lib.hid ((Below.refl w.heap.size w).alloc (Nat.le_refl _) (.cells headNone 107))
  have fin : ∀ W : World,W=w.alloc (.cells headNone 107)→∀ i,i < 11→W.cell? ⟨w.heap.size,i,none⟩=headNone[i]?:=fun W h i _ => by rw [h];exact (Blk.new w 107 headNone).cell i
  have FIN:=Lib.hid fin
  clear fin
  have hb' : ((e != 0)=true)∨(((e != 0)=false)∧((n != (S : Int))=true))∨(((e != 0)=false)∧((n != (S : Int))=false)∧((q != 32)=true)):=by
    rcases hb with h | ⟨h1,h⟩ | ⟨h1,h2,h⟩
    · exact .inl (by simpa using h)
    · exact .inr (.inl ⟨by simp [h1],by simpa using h⟩)
    · exact .inr (.inr ⟨by simp [h1],by simp [h2],by simpa using h⟩)
  clear hb hbd
  rcases hb' with t1 | ⟨t1,t2⟩ | ⟨t1,t2,t3⟩
  all_goals
    go_enter Tryz.func103,Tryz.ntmps103
    go_wp2_with fail
    refine (hS.out _).mono ?_
    rintro e' w' ⟨rfl,rfl⟩
    go_wp2_with fail
    refine (hF.out _).mono ?_
    rintro e' w' ⟨rfl,rfl⟩
    go_wp2_with fail
    exact bodyPost_ret (v:=.tuple #[.agg headNone,.int .i64 8]) (by simp [results,Tryz.results103,go_sem,headNone]) rfl ⟨rfl,BA.out⟩
end
end Go.Proofs.YtphmhmdcaafmdaaGreatDoor
