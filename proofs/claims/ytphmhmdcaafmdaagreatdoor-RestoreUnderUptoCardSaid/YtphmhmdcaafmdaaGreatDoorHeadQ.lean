import Derived.Test.YtphmhmdcaafmdaaGreatDoorHeadWrite
import Derived.Test.YtphmhmdcaafmdaaGreatDoorFields
import Derived.Deep.RegionHeld3
import Derived.Test.YtphmhmdcaafmdaaGreatDoorOctalB
import Derived.Test.YtphmhmdcaafmdaaGreatDoorEnts
import Derived.Test.YtphmhmdcaafmdaaGreatDoorTreeE
namespace Go.Proofs.YtphmhmdcaafmdaaGreatDoor
set_option linter.all false
section
open Go.RowKit
def HdCore (G : Nat) (kd a b : Int) (bt : ByteArray) (W0 w' : World) : Prop:=Blk w' G 55 #[.int .i64 kd,.int .i64 a,.int .i64 b,.string bt]∧HasBlk w' (G + 1) 107 11∧Below (G + 1) W0 w'
abbrev SHd (G : Nat) (kd a b : Int) (bt : ByteArray) (W0 w' : World) : Prop:=w'.cell? ⟨G,0,none⟩=some (.int .i64 kd)∧w'.cell? ⟨G,1,none⟩=some (.int .i64 a)∧w'.cell? ⟨G,2,none⟩=some (.int .i64 b)∧w'.cell? ⟨G,3,none⟩=some (.string bt)∧w'.cell? ⟨G + 1,0,none⟩=some (peek w' ⟨G + 1,0,none⟩)∧w'.cell? ⟨G + 1,1,none⟩=some (peek w' ⟨G + 1,1,none⟩)∧w'.cell? ⟨G + 1,2,none⟩=some (peek w' ⟨G + 1,2,none⟩)∧w'.cell? ⟨G + 1,3,none⟩=some (peek w' ⟨G + 1,3,none⟩)∧w'.cell? ⟨G + 1,4,none⟩=some (peek w' ⟨G + 1,4,none⟩)∧w'.cell? ⟨G + 1,5,none⟩=some (peek w' ⟨G + 1,5,none⟩)∧w'.cell? ⟨G + 1,6,none⟩=some (peek w' ⟨G + 1,6,none⟩)∧w'.cell? ⟨G + 1,7,none⟩=some (peek w' ⟨G + 1,7,none⟩)∧w'.cell? ⟨G + 1,8,none⟩=some (peek w' ⟨G + 1,8,none⟩)∧w'.cell? ⟨G + 1,9,none⟩=some (peek w' ⟨G + 1,9,none⟩)∧w'.cell? ⟨G + 1,10,none⟩=some (peek w' ⟨G + 1,10,none⟩)∧w'.frozen? ⟨G + 1,0,none⟩=false∧w'.frozen? ⟨G + 1,1,none⟩=false∧w'.frozen? ⟨G + 1,2,none⟩=false∧w'.frozen? ⟨G + 1,3,none⟩=false∧w'.frozen? ⟨G + 1,4,none⟩=false∧w'.frozen? ⟨G + 1,5,none⟩=false∧w'.frozen? ⟨G + 1,6,none⟩=false∧w'.frozen? ⟨G + 1,7,none⟩=false∧w'.frozen? ⟨G + 1,8,none⟩=false∧w'.frozen? ⟨G + 1,9,none⟩=false∧w'.frozen? ⟨G + 1,10,none⟩=false∧HdCore G kd a b bt W0 w'
theorem HdCore.flat {G : Nat} {kd a b : Int} {bt : ByteArray} {W0 w' : World} (h : HdCore G kd a b bt W0 w') : SHd G kd a b bt W0 w':=by
  obtain ⟨h1,h2,h3⟩:=id h
  exact ⟨h1.cell 0,h1.cell 1,h1.cell 2,h1.cell 3,h2.peek_ (by omega),h2.peek_ (by omega),h2.peek_ (by omega),h2.peek_ (by omega),h2.peek_ (by omega),h2.peek_ (by omega),h2.peek_ (by omega),h2.peek_ (by omega),h2.peek_ (by omega),h2.peek_ (by omega),h2.peek_ (by omega),h2.frozen 0,h2.frozen 1,h2.frozen 2,h2.frozen 3,h2.frozen 4,h2.frozen 5,h2.frozen 6,h2.frozen 7,h2.frozen 8,h2.frozen 9,h2.frozen 10,h⟩
theorem SHd.core {G : Nat} {kd a b : Int} {bt : ByteArray} {W0 w' : World} (h : SHd G kd a b bt W0 w') : HdCore G kd a b bt W0 w':=by
  obtain ⟨_,_,_,_,_,_,_,_,_,_,_,_,_,_,_,_,_,_,_,_,_,_,_,_,_,_,h⟩:=h
  exact h
theorem SHd.below {G : Nat} {kd a b : Int} {bt : ByteArray} {W0 w1 w2 : World} (h : SHd G kd a b bt W0 w1) (hb : Below w1.heap.size w1 w2) : SHd G kd a b bt W0 w2:=by
  obtain ⟨h1,h2,h3⟩:=h.core
  exact HdCore.flat ⟨h1.below hb h1.lt,h2.below hb,h3.trans (hb.mono (by have:=h2.lt;omega))⟩
theorem HdCore.set_ {G : Nat} {kd a b : Int} {bt : ByteArray} {W0 w1 : World} (h : HdCore G kd a b bt W0 w1) (i : Nat) (u : Value) : HdCore G kd a b bt W0 (w1.setCell ⟨G + 1,i,none⟩ u):=by
  obtain ⟨h1,h2,h3⟩:=h
  exact ⟨h1.far (p:=⟨G + 1,i,none⟩) (by show G≠G + 1;omega) u,h2.set_ i u,h3.setCell (p:=⟨G + 1,i,none⟩) (Nat.le_refl _) u⟩
theorem SHd.stored {G : Nat} {kd a b : Int} {bt : ByteArray} {W0 w1 : World} (u0 u1 u2 u3 u4 u5 u6 u7 u8 u9 u10 : Value) (h : SHd G kd a b bt W0 w1) : SHd G kd a b bt W0 (((((((((((w1.setCell ⟨G + 1,0,none⟩ u0).setCell ⟨G + 1,1,none⟩ u1).setCell ⟨G + 1,2,none⟩ u2).setCell ⟨G + 1,3,none⟩ u3).setCell ⟨G + 1,4,none⟩ u4).setCell ⟨G + 1,5,none⟩ u5).setCell ⟨G + 1,6,none⟩ u6).setCell ⟨G + 1,7,none⟩ u7).setCell ⟨G + 1,8,none⟩ u8).setCell ⟨G + 1,9,none⟩ u9).setCell ⟨G + 1,10,none⟩ u10) :=
  HdCore.flat (((((((((((h.core.set_ 0 u0).set_ 1 u1).set_ 2 u2).set_ 3 u3).set_ 4 u4).set_ 5 u5).set_ 6 u6).set_ 7 u7).set_ 8 u8).set_ 9 u9).set_ 10 u10)
end
section
open Go.RowKit
end
section
section
open Go.RowKit
abbrev Eye (w : World) (g : Nat) (l : List UInt8) (e : Int) : Prop:=Blk w g 247 #[.string (bs l),.int .i64 e]
set_option maxRecDepth 100000 in
set_option maxHeartbeats 400000 in
theorem take_any (g : Nat) (a b : List UInt8) (e : Int) (n : Nat) (hn : n=a.length) (w : World) (h : Eye w g (a ++ b) e) :
    Calls Tryz.prog 151 #[.pointer (some ⟨g,0,none⟩),.int .i64 n] w fun x w' => x=.returned (.string (bs a))∧w'=w.setCell ⟨g,0,none⟩ (.string (bs b)):=by
  subst hn
  have hz:=bs_size (a ++ b)
  rw [List.length_append] at hz
  have x1 : (bs (a ++ b)).extract 0 a.length=bs a:=by rw [bs_extract];simp
  have x2 : (bs (a ++ b)).extract a.length (a.length + b.length)=bs b:=by
    rw [bs_extract];simp
  have c0:=h.cell 0
  have z0:=h.frozen 0
  have t1 : a.length≤(bs (a ++ b)).size:=by omega
  generalize bs (a ++ b)=bl at *
  generalize a.length=n at *
  generalize bs a=ba at *
  generalize bs b=bb at *
  go_enter Tryz.func151,Tryz.ntmps151
  go_wp2_with fail
  go_ret
  exact ⟨rfl,rfl⟩
set_option maxRecDepth 100000 in
theorem note_ok (g : Nat) (l : List UInt8) (c : Int) (w : World) (h : Eye w g l 0) :
    Calls Tryz.prog 152 #[.pointer (some ⟨g,0,none⟩),.int .i64 c] w fun x w' => x=.returned (.tuple #[])∧w'=w.setCell ⟨g,1,none⟩ (.int .i64 c):=by
  have c0:=h.cell 1
  have z0:=h.frozen 1
  go_enter Tryz.func152,Tryz.ntmps152
  go_wp2_with fail
  refine bodyPost_end (results_none rfl _ _ _) rfl ?_
  exact ⟨rfl,rfl⟩
theorem Eye.set0 {w : World} {g : Nat} {l : List UInt8} {e : Int} (h : Eye w g l e) (b : List UInt8) : Eye (w.setCell ⟨g,0,none⟩ (.string (bs b))) g b e:=by
  have:=Blk.set_ h 0 (.string (bs b))
  simpa using this
theorem Eye.set1 {w : World} {g : Nat} {l : List UInt8} {e : Int} (h : Eye w g l e) (c : Int) : Eye (w.setCell ⟨g,1,none⟩ (.int .i64 c)) g l c:=by
  have:=Blk.set_ h 1 (.int .i64 c)
  simpa using this
structure Only (g : Nat) (w w' : World) : Prop where
  os : w'.os=w.os
  tape : w'.tape=w.tape
  output : w'.output=w.output
  size : w.heap.size≤w'.heap.size
  block : ∀ k,k < w.heap.size→k≠g→w'.heap[k]?=w.heap[k]?
theorem Only.refl (g : Nat) (w : World) : Only g w w:=⟨rfl,rfl,rfl,Nat.le_refl _,fun _ _ _ => rfl⟩
theorem Only.trans {g : Nat} {a b c : World} (h : Only g a b) (k : Only g b c) : Only g a c :=
  ⟨k.os.trans h.os,k.tape.trans h.tape,k.output.trans h.output,Nat.le_trans h.size k.size,fun i hi hn => (k.block i (Nat.lt_of_lt_of_le hi h.size) hn).trans (h.block i hi hn)⟩
theorem Only.set_ {g : Nat} {a w : World} (h : Only g a w) (i : Nat) (u : Value) : Only g a (w.setCell ⟨g,i,none⟩ u) :=
  h.trans ⟨rfl,rfl,rfl,by simp [World.setCell],fun k _ hn => Below.heap_setCell _ _ _ _ hn⟩
theorem Only.quiet {g : Nat} {a w w' : World} (h : Only g a w) (hb : Below w.heap.size w w') : Only g a w' :=
  h.trans ⟨hb.os,hb.tape,hb.output,hb.size,fun k hk _ => hb.block k hk⟩
theorem Only.below {g B : Nat} {w w' : World} (h : Only g w w') (hB : B≤g) (hs : B≤w.heap.size) : Below B w w' :=
  ⟨h.os,h.tape,h.output,h.size,fun k hk => h.block k (by omega) (by omega)⟩
theorem Only.blk {g b : Nat} {w w' : World} {t : TypeId} {cs : Array Value} (h : Only g w w') (hb : Blk w b t cs) (hn : b≠g) : Blk w' b t cs:=(h.block b hb.lt hn).trans hb
theorem Only.hasBlk {g b n : Nat} {w w' : World} {t : TypeId} (h : Only g w w') (hb : HasBlk w b t n) (hn : b≠g) : HasBlk w' b t n:=by
  obtain ⟨cs,hs,hb⟩:=hb
  exact ⟨cs,hs,h.blk hb hn⟩
end
section
open Go.RowKit
set_option maxRecDepth 100000 in
set_option maxHeartbeats 400000 in
theorem number_good (g : Nat) (a b : List UInt8) (n : Nat) (hn : n=a.length) (v : Int) (w : World) (h : Eye w g (a ++ b) 0)
    (hf : ∀ w,Calls Tryz.prog 148 #[.string (bs a)] w fun x w' => x=.returned (.tuple #[.int .i64 v,.int .i64 0])∧Below w.heap.size w w') :
    Calls Tryz.prog 150 #[.pointer (some ⟨g,0,none⟩),.int .i64 n] w fun x w' => x=.returned (.int .i64 v)∧Eye w' g b 0∧Only g w w':=by
  have HT:=Lib.hid (take_any g a b 0 n hn w h)
  have HF:=Lib.hid hf
  have H1:=Lib.hid (show Eye (w.setCell ⟨g,0,none⟩ (.string (bs b))) g b 0 from Eye.set0 h b)
  have HB:=Lib.hid ((Only.refl g w).set_ 0 (.string (bs b)))
  have hlt:=Lib.hid h.lt
  clear hf h hn
  generalize bs a=ba at *
  go_enter Tryz.func150,Tryz.ntmps150
  go_wp2_with fail
  refine HT.out.mono ?_
  rintro e w1 ⟨rfl,hw1⟩
  rw [← hw1] at H1 HB
  clear hw1
  go_wp2_with fail
  refine (HF.out _).mono ?_
  rintro e w2 ⟨rfl,b2⟩
  have H2:=Lib.hid (show Eye w2 g b 0 from H1.out.below b2 H1.out.lt)
  have HB2:=Lib.hid (HB.out.quiet b2)
  clear b2
  go_wp2_with fail
  refine (note_ok g b 0 w2 H2.out).mono ?_
  rintro e w3 ⟨rfl,hw3⟩
  have H3:=Lib.hid (show Eye w3 g b 0∧Only g w w3 from by rw [hw3];exact ⟨Eye.set1 H2.out 0,HB2.out.set_ 1 _⟩)
  clear hw3
  go_wp2_with fail
  go_ret
  exact ⟨rfl,H3.out.1,H3.out.2⟩
set_option maxRecDepth 100000 in
set_option maxHeartbeats 400000 in
theorem text_good (g : Nat) (a b : List UInt8) (n : Nat) (hn : n=a.length) (whole : Bool) (v : List UInt8) (w : World) (h : Eye w g (a ++ b) 0)
    (hf : ∀ w,Calls Tryz.prog 202 #[.string (bs a),.bool whole] w fun x w' => x=.returned (.tuple #[.string (bs v),.int .i64 0])∧Below w.heap.size w w') :
    Calls Tryz.prog 149 #[.pointer (some ⟨g,0,none⟩),.int .i64 n,.bool whole] w fun x w' => x=.returned (.string (bs v))∧Eye w' g b 0∧Only g w w':=by
  have HT:=Lib.hid (take_any g a b 0 n hn w h)
  have HF:=Lib.hid hf
  have H1:=Lib.hid (show Eye (w.setCell ⟨g,0,none⟩ (.string (bs b))) g b 0 from Eye.set0 h b)
  have HB:=Lib.hid ((Only.refl g w).set_ 0 (.string (bs b)))
  have hlt:=Lib.hid h.lt
  clear hf h hn
  generalize bs a=ba at *
  generalize bs v=bv at *
  go_enter Tryz.func149,Tryz.ntmps149
  go_wp2_with fail
  refine HT.out.mono ?_
  rintro e w1 ⟨rfl,hw1⟩
  rw [← hw1] at H1 HB
  clear hw1
  go_wp2_with fail
  refine (HF.out _).mono ?_
  rintro e w2 ⟨rfl,b2⟩
  have H2:=Lib.hid (show Eye w2 g b 0 from H1.out.below b2 H1.out.lt)
  have HB2:=Lib.hid (HB.out.quiet b2)
  clear b2
  go_wp2_with fail
  refine (note_ok g b 0 w2 H2.out).mono ?_
  rintro e w3 ⟨rfl,hw3⟩
  have H3:=Lib.hid (show Eye w3 g b 0∧Only g w w3 from by rw [hw3];exact ⟨Eye.set1 H2.out 0,HB2.out.set_ 1 _⟩)
  clear hw3
  go_wp2_with fail
  go_ret
  exact ⟨rfl,H3.out.1,H3.out.2⟩
set_option maxRecDepth 100000 in
set_option maxHeartbeats 400000 in
theorem just_good (g : Nat) (a b : List UInt8) (w : World) (h : Eye w g (a ++ b) 0) :
    Calls Tryz.prog 153 #[.pointer (some ⟨g,0,none⟩),.string (bs a)] w fun x w' => x=.returned (.tuple #[])∧Eye w' g b 0∧Only g w w':=by
  have HT:=Lib.hid (take_any g a b 0 a.length rfl w h)
  have H1:=Lib.hid (Eye.set0 h b)
  have HB:=Lib.hid ((Only.refl g w).set_ 0 (.string (bs b)))
  have hz:=bs_size a
  clear h
  generalize bs a=ba at *
  go_enter Tryz.func153,Tryz.ntmps153
  go_wp2_with fail
  refine HT.out.mono ?_
  rintro e w1 ⟨rfl,hw1⟩
  rw [← hw1] at H1 HB
  clear hw1
  go_wp2_with fail
  refine bodyPost_end (results_none rfl _ _ _) rfl ?_
  exact ⟨rfl,H1.out,HB.out⟩
end
end
section
open Go.RowKit
theorem ORead_bs (N W : Nat) (h1 : 2≤W) (h2 : W≤12) (h3 : N < 8 ^ (W - 1)) (w : World) :
    Calls Tryz.prog 148 #[.string (bs (octS N W))] w fun e w' => e=.returned (.tuple #[.int .i64 N,.int .i64 0])∧Below w.heap.size w w':=by
  refine (ORead_any (bs (octS N W)) (by rw [bs_size,octS_length _ _ (by omega)];omega) w).mono ?_
  rintro e w' ⟨rfl,rfl⟩
  rw [bs_data,octRead_octS N W h1 h2 h3]
  exact ⟨rfl,Below.refl _ _⟩
theorem FRead_fld (l : List UInt8) (W : Nat) (whole : Bool) (h1 : 1≤W) (h2 : W≤512) (h3 : l.length≤fmost W whole) (h4 : (0 : UInt8) ∉ l) (w : World) :
    Calls Tryz.prog 202 #[.string (bs (fld l W)),.bool whole] w fun e w' => e=.returned (.tuple #[.string (bs l),.int .i64 0])∧Below w.heap.size w w':=FRead_written l W whole h1 h2 h3 h4 w
structure HRd (w0 w : World) (R g b : Nat) (l : List UInt8) (cs : Array Value) : Prop where
  eye : Eye w g l 0
  res : HasBlk w R 107 11
  head : Blk w b 107 cs
  below : Below w0.heap.size w0 w
  base : w0.heap.size≤g∧w0.heap.size≤b∧w0.heap.size≤R∧b≠g∧R≠g∧R≠b
theorem HRd.set_ {w0 w : World} {R g b : Nat} {l : List UInt8} {cs : Array Value} (h : HRd w0 w R g b l cs) (i : Nat) (u : Value) (cs' : Array Value) (hcs : cs.setIfInBounds i u=cs') : HRd w0 (w.setCell ⟨b,i,none⟩ u) R g b l cs':=by
  obtain ⟨h1,⟨c2,n2,h2⟩,h3,h4,h5⟩:=h
  subst hcs
  refine ⟨Blk.far h1 (p:=⟨b,i,none⟩) (by show g≠b;omega) u,⟨c2,n2,h2.far (p:=⟨b,i,none⟩) (by show R≠b;omega) u⟩,h3.set_ i u,h4.setCell (p:=⟨b,i,none⟩) h5.2.1 u,h5⟩
theorem HRd.quiet {w0 w w' : World} {R g b : Nat} {l : List UInt8} {cs : Array Value} (h : HRd w0 w R g b l cs) (hb : Below w.heap.size w w') : HRd w0 w' R g b l cs:=by
  obtain ⟨h1,h2,h3,h4,h5⟩:=h
  exact ⟨h1.below hb h1.lt,h2.below hb,h3.below hb h3.lt,h4.trans (hb.mono h4.size),h5⟩
theorem HRd.step {w0 w w' : World} {R g b : Nat} {l m : List UInt8} {cs : Array Value} (h : HRd w0 w R g b l cs) (he : Eye w' g m 0) (ho : Only g w w') : HRd w0 w' R g b m cs:=by
  obtain ⟨h1,h2,h3,h4,h5⟩:=h
  exact ⟨he,ho.hasBlk h2 h5.2.2.2.2.1,ho.blk h3 h5.2.2.2.1,h4.trans (ho.below h5.1 h4.size),h5⟩
theorem HRd.take {w0 w : World} {R g b : Nat} {l m : List UInt8} {cs : Array Value} (h : HRd w0 w R g b l cs) : HRd w0 (w.setCell ⟨g,0,none⟩ (.string (bs m))) R g b m cs :=
  h.step (Eye.set0 h.eye m) ((Only.refl _ _).set_ 0 _)
set_option maxRecDepth 100000 in
set_option maxHeartbeats 4000000 in
theorem HRead_good (h : PHead) (hok : HeadOk h) (w : World) :
    Calls Tryz.prog 103 #[.string (bs (headW h))] w fun e w' => e=.returned (.tuple #[headV h,.int .i64 0])∧Below w.heap.size w w':=by
  have hT:=Lib.hid (fun w => Type_in h.type hok.type w)
  have hN:=Lib.hid (fun w => FRead_fld h.name 100 true (by omega) (by omega) hok.name hok.name0 w)
  have hL:=Lib.hid (fun w => FRead_fld h.link 100 true (by omega) (by omega) hok.link hok.link0 w)
  have hU:=Lib.hid (fun w => FRead_fld h.user 32 false (by omega) (by omega) hok.user hok.user0 w)
  have hG:=Lib.hid (fun w => FRead_fld h.group 32 false (by omega) (by omega) hok.group hok.group0 w)
  have hP:=Lib.hid (fun w => FRead_fld h.pre 155 true (by omega) (by omega) hok.pre hok.pre0 w)
  have o1:=Lib.hid (fun w => ORead_bs h.mode 8 (by omega) (by omega) hok.mode w)
  have o2:=Lib.hid (fun w => ORead_bs h.uid 8 (by omega) (by omega) hok.uid w)
  have o3:=Lib.hid (fun w => ORead_bs h.gid 8 (by omega) (by omega) hok.gid w)
  have o4:=Lib.hid (fun w => ORead_bs h.size 12 (by omega) (by omega) hok.size w)
  have o5:=Lib.hid (fun w => ORead_bs h.time 12 (by omega) (by omega) hok.time w)
  have o6:=Lib.hid (fun w => ORead_bs (headSum h) 7 (by omega) (by omega) (headSum_lt h) w)
  have hZ:=Lib.hid (fun w => Repeat_byte 0 12 w (by omega))
  have lN:=Lib.hid (fld_length hok.name).symm
  have lL:=Lib.hid (fld_length hok.link).symm
  have lU:=Lib.hid (fld_length (W:=32) (show h.user.length≤32 by have:=hok.user;omega)).symm
  have lG:=Lib.hid (fld_length (W:=32) (show h.group.length≤32 by have:=hok.group;omega)).symm
  have lP:=Lib.hid (fld_length hok.pre).symm
  have l1:=Lib.hid (octS_length h.mode 8 (by omega)).symm
  have l2:=Lib.hid (octS_length h.uid 8 (by omega)).symm
  have l3:=Lib.hid (octS_length h.gid 8 (by omega)).symm
  have l4:=Lib.hid (octS_length h.size 12 (by omega)).symm
  have l5:=Lib.hid (octS_length h.time 12 (by omega)).symm
  have l6:=Lib.hid (headSumS_length h).symm
  have hlW:=headW_length hok
  have hS:=Lib.hid (fun w => HSum_any (headW h) hlW w)
  rw [hsum_headW hok] at hS
  have x1 : (bs (headW h)).extract 148 155=bs (octS (headSum h) 7):=by
    have e : headW h=headA h ++ (octS (headSum h) 7 ++ (32 :: headB h)):=by simp [headW,headSumS]
    rw [bs_extract,e,List.drop_append_of_le_length (by have:=headA_length hok;omega),List.drop_of_length_le (by rw [headA_length hok];omega),List.nil_append,List.take_append_of_le_length (by have:=octS_length (headSum h) 7 (by omega);omega),List.take_of_length_le (by rw [octS_length _ _ (by omega)];omega)]
  have zW:=bs_size (headW h)
  rw [hlW] at zW
  have x2 : ∀ hh : 155 < (bs (headW h)).size,(((bs (headW h))[155]'hh).toNat : Int)=32:=by
    intro hh
    rw [bs_get (headW h) 155 hh]
    have e : headW h=(headA h ++ octS (headSum h) 7) ++ (32 :: headB h):=by simp [headW,headSumS]
    have hl : (headA h ++ octS (headSum h) 7).length=155:=by rw [List.length_append,headA_length hok,octS_length _ _ (by omega)]
    rw [e,List.getD_eq_getElem?_getD,List.getElem?_append_right (by omega),hl]
    rfl
  have it : ∀ w,(Instr.index 9 (.string (bs [h.type])) (.int .i64 0)).run Tryz.prog w=.ok (.int .u8 h.type.toNat) w:=fun _ => by kernel_rfl
  have eR : Hid (headW h=(fld h.name 100 ++ (octS h.mode 8 ++ (octS h.uid 8 ++ (octS h.gid 8 ++ (octS h.size 12 ++ (octS h.time 12 ++ (headSumS h ++ ([h.type] ++ (fld h.link 100 ++ (ustarS ++ (fld h.user 32 ++ (fld h.group 32 ++ (devS ++ (fld h.pre 155 ++ (List.replicate 12 0 ++ [])))))))))))))))):=Lib.hid (by
    simp only [headW,headA,headB,List.append_assoc,List.cons_append,List.nil_append,List.append_nil])
  have zt:=bs_size [h.type]
  clear hlW
  unfold headV headCells
  obtain ⟨name,pre,link,mode,uid,gid,size,time,type,user,group⟩:=h
  simp only at *
  clear hok
  generalize hhs : headSum ⟨name,pre,link,mode,uid,gid,size,time,type,user,group⟩=hsm at *
  generalize hss : headSumS ⟨name,pre,link,mode,uid,gid,size,time,type,user,group⟩=SUM at *
  generalize headW ⟨name,pre,link,mode,uid,gid,size,time,type,user,group⟩=HW at *
  clear hhs hss
  have eB : Hid (bs HW=bs (fld name 100 ++ (octS mode 8 ++ (octS uid 8 ++ (octS gid 8 ++ (octS size 12 ++ (octS time 12 ++ (SUM ++ ([type] ++ (fld link 100 ++ (ustarS ++ (fld user 32 ++ (fld group 32 ++ (devS ++ (fld pre 155 ++ (List.replicate 12 0 ++ [])))))))))))))))):=Lib.hid (by rw [eR.out])
  clear eR
  generalize bs HW=BW at *
  replace x2:=x2 (by omega)
  obtain ⟨W0,hW0⟩ : ∃ W0,W0=w.alloc (.cells #[.string ⟨#[]⟩,.string ⟨#[]⟩,.string ⟨#[]⟩,.int .i64 0,.int .i64 0,.int .i64 0,.int .i64 0,.int .i64 0,.int .u8 0,.string ⟨#[]⟩,.string ⟨#[]⟩] 107):=⟨_,rfl⟩
  have hR0:=Blk.new w 107 #[.string ⟨#[]⟩,.string ⟨#[]⟩,.string ⟨#[]⟩,.int .i64 0,.int .i64 0,.int .i64 0,.int .i64 0,.int .i64 0,.int .u8 0,.string ⟨#[]⟩,.string ⟨#[]⟩]
  have b0 : Below w.heap.size w W0:=by rw [hW0];exact (Below.refl _ w).alloc (Nat.le_refl _) _
  rw [← hW0] at hR0
  have HR0:=Lib.hid (show HasBlk W0 w.heap.size 107 11 from ⟨_,rfl,hR0⟩)
  have B0:=Lib.hid b0
  clear hR0 b0
  go_enter Tryz.func103,Tryz.ntmps103
  go_wp2_with fail
  rw [← hW0]
  have HW0:=Lib.hid hW0
  clear hW0
  refine (hS.out _).mono ?_
  rintro e w' ⟨rfl,rfl⟩
  go_wp2_with fail
  refine (o6.out _).mono ?_
  rintro e w1 ⟨rfl,b1⟩
  have R1:=Lib.hid (HR0.out.below b1)
  have B1:=Lib.hid (B0.out.trans (b1.mono B0.out.size))
  have hsz:=Lib.hid (show w.heap.size < w1.heap.size from R1.out.lt)
  clear b1
  go_wp2_with fail
  have E2:=Lib.hid (show Eye (w1.alloc (.cells #[.string BW,.int .i64 0] 247)) w1.heap.size (fld name 100 ++ (octS mode 8 ++ (octS uid 8 ++ (octS gid 8 ++ (octS size 12 ++ (octS time 12 ++ (SUM ++ ([type] ++ (fld link 100 ++ (ustarS ++ (fld user 32 ++ (fld group 32 ++ (devS ++ (fld pre 155 ++ (List.replicate 12 0 ++ []))))))))))))))) 0 from by rw [eB.out];exact Blk.new _ _ _)
  refine (text_good w1.heap.size (fld name 100) (octS mode 8 ++ (octS uid 8 ++ (octS gid 8 ++ (octS size 12 ++ (octS time 12 ++ (SUM ++ ([type] ++ (fld link 100 ++ (ustarS ++ (fld user 32 ++ (fld group 32 ++ (devS ++ (fld pre 155 ++ (List.replicate 12 0 ++ [])))))))))))))) 100 lN.out true name _ E2.out hN.out).mono ?_
  rintro e w2 ⟨rfl,he2,ho2⟩
  have R2:=Lib.hid (ho2.hasBlk (R1.out.below ((Below.refl _ _).alloc (Nat.le_refl _) (.cells #[.string BW,.int .i64 0] 247))) (by have:=hsz.out;omega))
  have B2:=Lib.hid (B1.out.trans ((Below.refl _ _).alloc B1.out.size (.cells #[.string BW,.int .i64 0] 247)) |>.trans (ho2.below B1.out.size (by have:=B1.out.size;simp;omega)))
  have hs2:=Lib.hid (show w1.heap.size < w2.heap.size from he2.lt)
  have E3:=Lib.hid he2
  clear he2 ho2
  obtain ⟨W3,hW3⟩ : ∃ W3,W3=w2.alloc (.cells #[(.string (bs name)),.string ⟨#[]⟩,.string ⟨#[]⟩,.int .i64 0,.int .i64 0,.int .i64 0,.int .i64 0,.int .i64 0,.int .u8 0,.string ⟨#[]⟩,.string ⟨#[]⟩] 107):=⟨_,rfl⟩
  have K0 : Hid (HRd w W3 w.heap.size w1.heap.size w2.heap.size (octS mode 8 ++ (octS uid 8 ++ (octS gid 8 ++ (octS size 12 ++ (octS time 12 ++ (SUM ++ ([type] ++ (fld link 100 ++ (ustarS ++ (fld user 32 ++ (fld group 32 ++ (devS ++ (fld pre 155 ++ (List.replicate 12 0 ++ [])))))))))))))) #[(.string (bs name)),.string ⟨#[]⟩,.string ⟨#[]⟩,.int .i64 0,.int .i64 0,.int .i64 0,.int .i64 0,.int .i64 0,.int .u8 0,.string ⟨#[]⟩,.string ⟨#[]⟩]):=Lib.hid (by
    have hb:=(Below.refl w2.heap.size w2).alloc (Nat.le_refl _) (.cells #[(.string (bs name)),.string ⟨#[]⟩,.string ⟨#[]⟩,.int .i64 0,.int .i64 0,.int .i64 0,.int .i64 0,.int .i64 0,.int .u8 0,.string ⟨#[]⟩,.string ⟨#[]⟩] 107)
    rw [hW3]
    refine ⟨E3.out.below hb E3.out.lt,R2.out.below hb,Blk.new _ _ _,B2.out.trans (hb.mono B2.out.size),B1.out.size,B2.out.size,Nat.le_refl _,?_,?_,?_⟩
    · have:=hs2.out;omega
    · have:=hsz.out;omega
    · have:=hs2.out;have:=hsz.out;omega)
  go_wp2_with fail
  rw [← hW3]
  have HW3:=Lib.hid hW3
  clear hW3
  refine (number_good w1.heap.size (octS mode 8) (octS uid 8 ++ (octS gid 8 ++ (octS size 12 ++ (octS time 12 ++ (SUM ++ ([type] ++ (fld link 100 ++ (ustarS ++ (fld user 32 ++ (fld group 32 ++ (devS ++ (fld pre 155 ++ (List.replicate 12 0 ++ []))))))))))))) 8 l1.out mode _ K0.out.eye o1.out).mono ?_
  rintro e w4 ⟨rfl,he,ho⟩
  have K4:=Lib.hid (K0.out.step he ho)
  clear he ho
  go_wp2_with fail
  refine (number_good w1.heap.size (octS uid 8) (octS gid 8 ++ (octS size 12 ++ (octS time 12 ++ (SUM ++ ([type] ++ (fld link 100 ++ (ustarS ++ (fld user 32 ++ (fld group 32 ++ (devS ++ (fld pre 155 ++ (List.replicate 12 0 ++ [])))))))))))) 8 l2.out uid _ K4.out.eye o2.out).mono ?_
  rintro e w5 ⟨rfl,he,ho⟩
  have K5:=Lib.hid (K4.out.step he ho)
  clear he ho
  go_wp2_with fail
  refine (number_good w1.heap.size (octS gid 8) (octS size 12 ++ (octS time 12 ++ (SUM ++ ([type] ++ (fld link 100 ++ (ustarS ++ (fld user 32 ++ (fld group 32 ++ (devS ++ (fld pre 155 ++ (List.replicate 12 0 ++ []))))))))))) 8 l3.out gid _ K5.out.eye o3.out).mono ?_
  rintro e w6 ⟨rfl,he,ho⟩
  have K6:=Lib.hid (K5.out.step he ho)
  clear he ho
  have z7_3:=K6.out.head.frozen 3
  have e7_3:=(K6.out.head.cell 3).trans (show _=some (.int .i64 0) from rfl)
  have z7_4:=K6.out.head.frozen 4
  have e7_4:=(K6.out.head.cell 4).trans (show _=some (.int .i64 0) from rfl)
  have z7_5:=K6.out.head.frozen 5
  have e7_5:=(K6.out.head.cell 5).trans (show _=some (.int .i64 0) from rfl)
  have K7:=Lib.hid (((K6.out.set_ 3 (.int .i64 mode) #[(.string (bs name)),(.string ⟨#[]⟩),(.string ⟨#[]⟩),(.int .i64 mode),(.int .i64 0),(.int .i64 0),(.int .i64 0),(.int .i64 0),(.int .u8 0),(.string ⟨#[]⟩),(.string ⟨#[]⟩)] rfl).set_ 4 (.int .i64 uid) #[(.string (bs name)),(.string ⟨#[]⟩),(.string ⟨#[]⟩),(.int .i64 mode),(.int .i64 uid),(.int .i64 0),(.int .i64 0),(.int .i64 0),(.int .u8 0),(.string ⟨#[]⟩),(.string ⟨#[]⟩)] rfl).set_ 5 (.int .i64 gid) #[(.string (bs name)),(.string ⟨#[]⟩),(.string ⟨#[]⟩),(.int .i64 mode),(.int .i64 uid),(.int .i64 gid),(.int .i64 0),(.int .i64 0),(.int .u8 0),(.string ⟨#[]⟩),(.string ⟨#[]⟩)] rfl)
  go_wp2_with fail
  refine (number_good w1.heap.size (octS size 12) (octS time 12 ++ (SUM ++ ([type] ++ (fld link 100 ++ (ustarS ++ (fld user 32 ++ (fld group 32 ++ (devS ++ (fld pre 155 ++ (List.replicate 12 0 ++ [])))))))))) 12 l4.out size _ K7.out.eye o4.out).mono ?_
  rintro e w8 ⟨rfl,he,ho⟩
  have K8:=Lib.hid (K7.out.step he ho)
  clear he ho
  go_wp2_with fail
  refine (number_good w1.heap.size (octS time 12) (SUM ++ ([type] ++ (fld link 100 ++ (ustarS ++ (fld user 32 ++ (fld group 32 ++ (devS ++ (fld pre 155 ++ (List.replicate 12 0 ++ []))))))))) 12 l5.out time _ K8.out.eye o5.out).mono ?_
  rintro e w9 ⟨rfl,he,ho⟩
  have K9:=Lib.hid (K8.out.step he ho)
  clear he ho
  have z10_6:=K9.out.head.frozen 6
  have e10_6:=(K9.out.head.cell 6).trans (show _=some (.int .i64 0) from rfl)
  have z10_7:=K9.out.head.frozen 7
  have e10_7:=(K9.out.head.cell 7).trans (show _=some (.int .i64 0) from rfl)
  have K10:=Lib.hid ((K9.out.set_ 6 (.int .i64 size) #[(.string (bs name)),(.string ⟨#[]⟩),(.string ⟨#[]⟩),(.int .i64 mode),(.int .i64 uid),(.int .i64 gid),(.int .i64 size),(.int .i64 0),(.int .u8 0),(.string ⟨#[]⟩),(.string ⟨#[]⟩)] rfl).set_ 7 (.int .i64 time) #[(.string (bs name)),(.string ⟨#[]⟩),(.string ⟨#[]⟩),(.int .i64 mode),(.int .i64 uid),(.int .i64 gid),(.int .i64 size),(.int .i64 time),(.int .u8 0),(.string ⟨#[]⟩),(.string ⟨#[]⟩)] rfl)
  go_wp2_with fail
  refine (take_any w1.heap.size (SUM) ([type] ++ (fld link 100 ++ (ustarS ++ (fld user 32 ++ (fld group 32 ++ (devS ++ (fld pre 155 ++ (List.replicate 12 0 ++ [])))))))) 0 8 l6.out _ K10.out.eye).mono ?_
  rintro e w11 ⟨rfl,hw⟩
  have K11:=Lib.hid (show HRd w w11 w.heap.size w1.heap.size w2.heap.size ([type] ++ (fld link 100 ++ (ustarS ++ (fld user 32 ++ (fld group 32 ++ (devS ++ (fld pre 155 ++ (List.replicate 12 0 ++ [])))))))) #[(.string (bs name)),(.string ⟨#[]⟩),(.string ⟨#[]⟩),(.int .i64 mode),(.int .i64 uid),(.int .i64 gid),(.int .i64 size),(.int .i64 time),(.int .u8 0),(.string ⟨#[]⟩),(.string ⟨#[]⟩)] from by rw [hw];exact K10.out.take)
  clear hw
  go_wp2_with fail
  refine (take_any w1.heap.size ([type]) (fld link 100 ++ (ustarS ++ (fld user 32 ++ (fld group 32 ++ (devS ++ (fld pre 155 ++ (List.replicate 12 0 ++ []))))))) 0 1 rfl _ K11.out.eye).mono ?_
  rintro e w12 ⟨rfl,hw⟩
  have K12:=Lib.hid (show HRd w w12 w.heap.size w1.heap.size w2.heap.size (fld link 100 ++ (ustarS ++ (fld user 32 ++ (fld group 32 ++ (devS ++ (fld pre 155 ++ (List.replicate 12 0 ++ []))))))) #[(.string (bs name)),(.string ⟨#[]⟩),(.string ⟨#[]⟩),(.int .i64 mode),(.int .i64 uid),(.int .i64 gid),(.int .i64 size),(.int .i64 time),(.int .u8 0),(.string ⟨#[]⟩),(.string ⟨#[]⟩)] from by rw [hw];exact K11.out.take)
  clear hw
  generalize bs [type]=bT at *
  have z13_8:=K12.out.head.frozen 8
  have e13_8:=(K12.out.head.cell 8).trans (show _=some (.int .u8 0) from rfl)
  have K13:=Lib.hid (K12.out.set_ 8 (.int .u8 type.toNat) #[(.string (bs name)),(.string ⟨#[]⟩),(.string ⟨#[]⟩),(.int .i64 mode),(.int .i64 uid),(.int .i64 gid),(.int .i64 size),(.int .i64 time),(.int .u8 type.toNat),(.string ⟨#[]⟩),(.string ⟨#[]⟩)] rfl)
  go_wp2_with fail
  refine (hT.out _).mono ?_
  rintro e w' ⟨i,hi0,rfl,rfl⟩
  have d0 : decide (i < (0 : Int))=false:=decide_eq_false (by omega)
  go_wp2_with fail
  refine (text_good w1.heap.size (fld link 100) (ustarS ++ (fld user 32 ++ (fld group 32 ++ (devS ++ (fld pre 155 ++ (List.replicate 12 0 ++ [])))))) 100 lL.out true link _ K13.out.eye hL.out).mono ?_
  rintro e w14 ⟨rfl,he,ho⟩
  have K14:=Lib.hid (K13.out.step he ho)
  clear he ho
  have z15_2:=K14.out.head.frozen 2
  have e15_2:=(K14.out.head.cell 2).trans (show _=some (.string ⟨#[]⟩) from rfl)
  have K15:=Lib.hid (K14.out.set_ 2 (.string (bs link)) #[(.string (bs name)),(.string ⟨#[]⟩),(.string (bs link)),(.int .i64 mode),(.int .i64 uid),(.int .i64 gid),(.int .i64 size),(.int .i64 time),(.int .u8 type.toNat),(.string ⟨#[]⟩),(.string ⟨#[]⟩)] rfl)
  go_wp2_with fail
  refine (just_good w1.heap.size (ustarS) (fld user 32 ++ (fld group 32 ++ (devS ++ (fld pre 155 ++ (List.replicate 12 0 ++ []))))) _ K15.out.eye).mono ?_
  rintro e w16 ⟨rfl,he,ho⟩
  have K16:=Lib.hid (K15.out.step he ho)
  clear he ho
  go_wp2_with fail
  refine (text_good w1.heap.size (fld user 32) (fld group 32 ++ (devS ++ (fld pre 155 ++ (List.replicate 12 0 ++ [])))) 32 lU.out false user _ K16.out.eye hU.out).mono ?_
  rintro e w17 ⟨rfl,he,ho⟩
  have K17:=Lib.hid (K16.out.step he ho)
  clear he ho
  go_wp2_with fail
  refine (text_good w1.heap.size (fld group 32) (devS ++ (fld pre 155 ++ (List.replicate 12 0 ++ []))) 32 lG.out false group _ K17.out.eye hG.out).mono ?_
  rintro e w18 ⟨rfl,he,ho⟩
  have K18:=Lib.hid (K17.out.step he ho)
  clear he ho
  have z19_9:=K18.out.head.frozen 9
  have e19_9:=(K18.out.head.cell 9).trans (show _=some (.string ⟨#[]⟩) from rfl)
  have z19_10:=K18.out.head.frozen 10
  have e19_10:=(K18.out.head.cell 10).trans (show _=some (.string ⟨#[]⟩) from rfl)
  have K19:=Lib.hid ((K18.out.set_ 9 (.string (bs user)) #[(.string (bs name)),(.string ⟨#[]⟩),(.string (bs link)),(.int .i64 mode),(.int .i64 uid),(.int .i64 gid),(.int .i64 size),(.int .i64 time),(.int .u8 type.toNat),(.string (bs user)),(.string ⟨#[]⟩)] rfl).set_ 10 (.string (bs group)) #[(.string (bs name)),(.string ⟨#[]⟩),(.string (bs link)),(.int .i64 mode),(.int .i64 uid),(.int .i64 gid),(.int .i64 size),(.int .i64 time),(.int .u8 type.toNat),(.string (bs user)),(.string (bs group))] rfl)
  go_wp2_with fail
  refine (just_good w1.heap.size (devS) (fld pre 155 ++ (List.replicate 12 0 ++ [])) _ K19.out.eye).mono ?_
  rintro e w20 ⟨rfl,he,ho⟩
  have K20:=Lib.hid (K19.out.step he ho)
  clear he ho
  go_wp2_with fail
  refine (text_good w1.heap.size (fld pre 155) (List.replicate 12 0 ++ []) 155 lP.out true pre _ K20.out.eye hP.out).mono ?_
  rintro e w21 ⟨rfl,he,ho⟩
  have K21:=Lib.hid (K20.out.step he ho)
  clear he ho
  have z22_1:=K21.out.head.frozen 1
  have e22_1:=(K21.out.head.cell 1).trans (show _=some (.string ⟨#[]⟩) from rfl)
  have K22:=Lib.hid (K21.out.set_ 1 (.string (bs pre)) #[(.string (bs name)),(.string (bs pre)),(.string (bs link)),(.int .i64 mode),(.int .i64 uid),(.int .i64 gid),(.int .i64 size),(.int .i64 time),(.int .u8 type.toNat),(.string (bs user)),(.string (bs group))] rfl)
  go_wp2_with fail
  refine (hZ.out _).mono ?_
  rintro e w50 ⟨rfl,b50⟩
  have K50:=Lib.hid (K22.out.quiet b50)
  clear b50
  go_wp2_with fail
  refine (just_good w1.heap.size (List.replicate 12 0) [] _ K50.out.eye).mono ?_
  rintro e w23 ⟨rfl,he,ho⟩
  have K23:=Lib.hid (K50.out.step he ho)
  clear he ho
  have ce:=K23.out.eye.cell 1
  have e0:=(K23.out.head.cell 0).trans (show _=some (.string (bs name)) from rfl)
  have e1:=(K23.out.head.cell 1).trans (show _=some (.string (bs pre)) from rfl)
  have e2:=(K23.out.head.cell 2).trans (show _=some (.string (bs link)) from rfl)
  have e3:=(K23.out.head.cell 3).trans (show _=some (.int .i64 mode) from rfl)
  have e4:=(K23.out.head.cell 4).trans (show _=some (.int .i64 uid) from rfl)
  have e5:=(K23.out.head.cell 5).trans (show _=some (.int .i64 gid) from rfl)
  have e6:=(K23.out.head.cell 6).trans (show _=some (.int .i64 size) from rfl)
  have e7:=(K23.out.head.cell 7).trans (show _=some (.int .i64 time) from rfl)
  have e8:=(K23.out.head.cell 8).trans (show _=some (.int .u8 type.toNat) from rfl)
  have e9:=(K23.out.head.cell 9).trans (show _=some (.string (bs user)) from rfl)
  have e10:=(K23.out.head.cell 10).trans (show _=some (.string (bs group)) from rfl)
  have y0:=K23.out.res.peek_ (i:=0) (by omega)
  have y1:=K23.out.res.peek_ (i:=1) (by omega)
  have y2:=K23.out.res.peek_ (i:=2) (by omega)
  have y3:=K23.out.res.peek_ (i:=3) (by omega)
  have y4:=K23.out.res.peek_ (i:=4) (by omega)
  have y5:=K23.out.res.peek_ (i:=5) (by omega)
  have y6:=K23.out.res.peek_ (i:=6) (by omega)
  have y7:=K23.out.res.peek_ (i:=7) (by omega)
  have y8:=K23.out.res.peek_ (i:=8) (by omega)
  have y9:=K23.out.res.peek_ (i:=9) (by omega)
  have y10:=K23.out.res.peek_ (i:=10) (by omega)
  have x0:=K23.out.res.frozen 0
  have x1:=K23.out.res.frozen 1
  have x2:=K23.out.res.frozen 2
  have x3:=K23.out.res.frozen 3
  have x4:=K23.out.res.frozen 4
  have x5:=K23.out.res.frozen 5
  have x6:=K23.out.res.frozen 6
  have x7:=K23.out.res.frozen 7
  have x8:=K23.out.res.frozen 8
  have x9:=K23.out.res.frozen 9
  have x10:=K23.out.res.frozen 10
  go_wp2_with fail
  have hF : Blk (((((((((((w23.setCell ⟨w.heap.size,0,none⟩ (.string (bs name))).setCell ⟨w.heap.size,1,none⟩ (.string (bs pre))).setCell ⟨w.heap.size,2,none⟩ (.string (bs link))).setCell ⟨w.heap.size,3,none⟩ (.int .i64 mode)).setCell ⟨w.heap.size,4,none⟩ (.int .i64 uid)).setCell ⟨w.heap.size,5,none⟩ (.int .i64 gid)).setCell ⟨w.heap.size,6,none⟩ (.int .i64 size)).setCell ⟨w.heap.size,7,none⟩ (.int .i64 time)).setCell ⟨w.heap.size,8,none⟩ (.int .u8 type.toNat)).setCell ⟨w.heap.size,9,none⟩ (.string (bs user))).setCell ⟨w.heap.size,10,none⟩ (.string (bs group))) w.heap.size 107 #[(.string (bs name)),(.string (bs pre)),(.string (bs link)),(.int .i64 mode),(.int .i64 uid),(.int .i64 gid),(.int .i64 size),(.int .i64 time),(.int .u8 type.toNat),(.string (bs user)),(.string (bs group))]:=K23.out.res.fill [(.string (bs name)),(.string (bs pre)),(.string (bs link)),(.int .i64 mode),(.int .i64 uid),(.int .i64 gid),(.int .i64 size),(.int .i64 time),(.int .u8 type.toNat),(.string (bs user)),(.string (bs group))] rfl
  have bF : Below w.heap.size w (((((((((((w23.setCell ⟨w.heap.size,0,none⟩ (.string (bs name))).setCell ⟨w.heap.size,1,none⟩ (.string (bs pre))).setCell ⟨w.heap.size,2,none⟩ (.string (bs link))).setCell ⟨w.heap.size,3,none⟩ (.int .i64 mode)).setCell ⟨w.heap.size,4,none⟩ (.int .i64 uid)).setCell ⟨w.heap.size,5,none⟩ (.int .i64 gid)).setCell ⟨w.heap.size,6,none⟩ (.int .i64 size)).setCell ⟨w.heap.size,7,none⟩ (.int .i64 time)).setCell ⟨w.heap.size,8,none⟩ (.int .u8 type.toNat)).setCell ⟨w.heap.size,9,none⟩ (.string (bs user))).setCell ⟨w.heap.size,10,none⟩ (.string (bs group))):=Below.setAll (g:=w.heap.size) (Nat.le_refl _) [(.string (bs name)),(.string (bs pre)),(.string (bs link)),(.int .i64 mode),(.int .i64 uid),(.int .i64 gid),(.int .i64 size),(.int .i64 time),(.int .u8 type.toNat),(.string (bs user)),(.string (bs group))] 0 K23.out.below
  obtain ⟨wz,hwz⟩ : ∃ wz,wz=(((((((((((w23.setCell ⟨w.heap.size,0,none⟩ (.string (bs name))).setCell ⟨w.heap.size,1,none⟩ (.string (bs pre))).setCell ⟨w.heap.size,2,none⟩ (.string (bs link))).setCell ⟨w.heap.size,3,none⟩ (.int .i64 mode)).setCell ⟨w.heap.size,4,none⟩ (.int .i64 uid)).setCell ⟨w.heap.size,5,none⟩ (.int .i64 gid)).setCell ⟨w.heap.size,6,none⟩ (.int .i64 size)).setCell ⟨w.heap.size,7,none⟩ (.int .i64 time)).setCell ⟨w.heap.size,8,none⟩ (.int .u8 type.toNat)).setCell ⟨w.heap.size,9,none⟩ (.string (bs user))).setCell ⟨w.heap.size,10,none⟩ (.string (bs group))):=⟨_,rfl⟩
  rw [← hwz] at hF bF ⊢
  have BF:=Lib.hid bF
  clear bF hwz e0 e1 e2 e3 e4 e5 e6 e7 e8 e9 e10 y0 y1 y2 y3 y4 y5 y6 y7 y8 y9 y10 x0 x1 x2 x3 x4 x5 x6 x7 x8 x9 x10
  have c0:=hF.cell 0
  have c1:=hF.cell 1
  have c2:=hF.cell 2
  have c3:=hF.cell 3
  have c4:=hF.cell 4
  have c5:=hF.cell 5
  have c6:=hF.cell 6
  have c7:=hF.cell 7
  have c8:=hF.cell 8
  have c9:=hF.cell 9
  have c10:=hF.cell 10
  simp only [List.getElem?_toArray,List.getElem?_cons_zero,List.getElem?_cons_succ] at c0 c1 c2 c3 c4 c5 c6 c7 c8 c9 c10
  exact bodyPost_ret (v:=.tuple #[.agg #[(.string (bs name)),(.string (bs pre)),(.string (bs link)),(.int .i64 mode),(.int .i64 uid),(.int .i64 gid),(.int .i64 size),(.int .i64 time),(.int .u8 type.toNat),(.string (bs user)),(.string (bs group))],.int .i64 0]) (by simp [results,Tryz.results103,go_sem,c0,c1,c2,c3,c4,c5,c6,c7,c8,c9,c10]) rfl ⟨rfl,BF.out⟩
end
section
open Go.RowKit
def headNone : Array Value:=#[.string ⟨#[]⟩,.string ⟨#[]⟩,.string ⟨#[]⟩,.int .i64 0,.int .i64 0,.int .i64 0,.int .i64 0,.int .i64 0,.int .u8 0,.string ⟨#[]⟩,.string ⟨#[]⟩]
end
end Go.Proofs.YtphmhmdcaafmdaaGreatDoor
