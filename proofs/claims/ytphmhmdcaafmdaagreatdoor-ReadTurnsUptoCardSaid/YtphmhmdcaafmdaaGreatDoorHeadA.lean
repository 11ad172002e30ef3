import Derived.Test.YtphmhmdcaafmdaaGreatDoorHeadQ
import Derived.Test.YtphmhmdcaafmdaaGreatDoorMapsT
namespace Go.Proofs.YtphmhmdcaafmdaaGreatDoor
set_option linter.all false
open Go.RowKit
theorem oct_range (l : List UInt8) (h : l.length≤12) : 0≤(octRead l).1∧(octRead l).1 < 8589934592:=by
  unfold octRead
  split
  · exact ⟨by decide,by decide⟩
  · split
    · next h1 h2 =>
      rw [Bool.and_eq_true] at h2
      have hh:=octVal_from (l.take (l.length - 1)) h2.1 0 0 (by omega) (by simp)
      have hl : (l.take (l.length - 1)).length≤11:=by rw [List.length_take];omega
      have hp : (8 : Int) ^ (0 + (l.take (l.length - 1)).length)≤8 ^ 11:=by
        rw [Nat.zero_add]
        exact_mod_cast Nat.pow_le_pow_right (by omega : 0 < 8) hl
      have h8 : (8 : Int) ^ 11=8589934592:=by decide
      rw [h8] at hp
      exact ⟨hh.1,Int.lt_of_lt_of_le hh.2 hp⟩
    · exact ⟨by decide,by decide⟩
theorem ORead_all (l : List UInt8) (h : l.length≤12) (w : World) :
    Calls Tryz.prog 148 #[.string (bs l)] w fun e w' => ∃ (v : Nat) (c : Int),e=.returned (.tuple #[.int .i64 v,.int .i64 c])∧v < 8589934592∧Below w.heap.size w w':=by
  refine (ORead_any (bs l) (by rw [bs_size];omega) w).mono ?_
  rintro e w' ⟨rfl,rfl⟩
  rw [bs_data]
  obtain ⟨h1,h2⟩:=oct_range l h
  refine ⟨(octRead l).1.toNat,(octRead l).2,?_,by omega,Below.refl _ _⟩
  rw [Int.toNat_of_nonneg h1]
theorem FRead_all (l : List UInt8) (whole : Bool) (h1 : 1≤l.length) (h2 : l.length≤512) (w : World) :
    Calls Tryz.prog 202 #[.string (bs l),.bool whole] w fun e w' => ∃ (v : List UInt8) (c : Int),e=.returned (.tuple #[.string (bs v),.int .i64 c])∧v.length≤l.length∧Below w.heap.size w w':=by
  by_cases h0 : (0 : UInt8)∈l
  · obtain ⟨a,r,e,hn⟩:=List.eq_append_cons_of_mem h0
    subst e
    refine (FRead_part a r whole h2 hn w).mono fun e w' ⟨q1,q2⟩ => ⟨_,_,q1,?_,q2⟩
    split
    · simp
    · simp
  · refine (FRead_full l whole h1 h2 h0 w).mono fun e w' ⟨q1,q2⟩ => ⟨_,_,q1,?_,q2⟩
    split
    · exact Nat.le_refl _
    · simp
theorem note_all (g : Nat) (l : List UInt8) (e c : Int) (w : World) (h : Eye w g l e) :
    Calls Tryz.prog 152 #[.pointer (some ⟨g,0,none⟩),.int .i64 c] w fun x w' => x=.returned (.tuple #[])∧(∃ e',Eye w' g l e')∧Only g w w':=by
  by_cases he : e=0
  · subst he
    exact (note_ok g l c w h).mono fun x w' ⟨h1,h2⟩ => ⟨h1,⟨c,by rw [h2];exact Eye.set1 h c⟩,by rw [h2];exact (Only.refl g w).set_ 1 _⟩
  · exact (note_bad g l e he c w h).mono fun x w' ⟨h1,h2⟩ => ⟨h1,⟨e,by rw [h2];exact h⟩,by rw [h2];exact Only.refl g w⟩
set_option maxRecDepth 100000 in
set_option maxHeartbeats 400000 in
theorem number_all (g : Nat) (a b : List UInt8) (n : Nat) (hn : n=a.length) (h12 : a.length≤12) (e : Int) (w : World) (h : Eye w g (a ++ b) e) :
    Calls Tryz.prog 150 #[.pointer (some ⟨g,0,none⟩),.int .i64 n] w fun x w' => ∃ (v : Nat) (e' : Int),x=.returned (.int .i64 v)∧v < 8589934592∧Eye w' g b e'∧Only g w w':=by
  have HT:=Lib.hid (take_any g a b e n hn w h)
  have HF:=Lib.hid (fun w => ORead_all a h12 w)
  have H1:=Lib.hid (show Eye (w.setCell ⟨g,0,none⟩ (.string (bs b))) g b e from Eye.set0 h b)
  have HB:=Lib.hid ((Only.refl g w).set_ 0 (.string (bs b)))
  clear h hn h12
  generalize bs a=ba at *
  go_enter Tryz.func150,Tryz.ntmps150
  go_wp2_with fail
  refine HT.out.mono ?_
  rintro e1 w1 ⟨rfl,hw1⟩
  rw [← hw1] at H1 HB
  clear hw1
  go_wp2_with fail
  refine (HF.out _).mono ?_
  rintro e2 w2 ⟨v,c,rfl,hv,b2⟩
  have H2:=Lib.hid (show Eye w2 g b e from H1.out.below b2 H1.out.lt)
  have HB2:=Lib.hid (HB.out.quiet b2)
  have HV:=Lib.hid hv
  clear b2 hv
  go_wp2_with fail
  refine (note_all g b e c w2 H2.out).mono ?_
  rintro e3 w3 ⟨rfl,⟨e',he'⟩,ho⟩
  have H3:=Lib.hid he'
  have H4:=Lib.hid (HB2.out.trans ho)
  clear he' ho
  go_wp2_with fail
  go_ret
  exact ⟨v,e',rfl,HV.out,H3.out,H4.out⟩
set_option maxRecDepth 100000 in
set_option maxHeartbeats 400000 in
theorem text_all (g : Nat) (a b : List UInt8) (n : Nat) (hn : n=a.length) (h1 : 1≤a.length) (h2 : a.length≤512) (whole : Bool) (e : Int) (w : World) (h : Eye w g (a ++ b) e) :
    Calls Tryz.prog 149 #[.pointer (some ⟨g,0,none⟩),.int .i64 n,.bool whole] w fun x w' => ∃ (v : List UInt8) (e' : Int),x=.returned (.string (bs v))∧v.length≤n∧Eye w' g b e'∧Only g w w':=by
  have HT:=Lib.hid (take_any g a b e n hn w h)
  have HF:=Lib.hid (fun w => FRead_all a whole h1 h2 w)
  have H1:=Lib.hid (show Eye (w.setCell ⟨g,0,none⟩ (.string (bs b))) g b e from Eye.set0 h b)
  have HB:=Lib.hid ((Only.refl g w).set_ 0 (.string (bs b)))
  rw [← hn] at HF
  clear h hn h1 h2
  generalize bs a=ba at *
  go_enter Tryz.func149,Tryz.ntmps149
  go_wp2_with fail
  refine HT.out.mono ?_
  rintro e1 w1 ⟨rfl,hw1⟩
  rw [← hw1] at H1 HB
  clear hw1
  go_wp2_with fail
  refine (HF.out _).mono ?_
  rintro e2 w2 ⟨v,c,rfl,hv,b2⟩
  have H2:=Lib.hid (show Eye w2 g b e from H1.out.below b2 H1.out.lt)
  have HB2:=Lib.hid (HB.out.quiet b2)
  have HV:=Lib.hid hv
  clear b2 hv
  go_wp2_with fail
  refine (note_all g b e c w2 H2.out).mono ?_
  rintro e3 w3 ⟨rfl,⟨e',he'⟩,ho⟩
  have H3:=Lib.hid he'
  have H4:=Lib.hid (HB2.out.trans ho)
  clear he' ho
  go_wp2_with fail
  go_ret
  exact ⟨v,e',rfl,HV.out,H3.out,H4.out⟩
set_option maxRecDepth 100000 in
set_option maxHeartbeats 400000 in
theorem just_all (g : Nat) (s a b : List UInt8) (hl : s.length=a.length) (e : Int) (w : World) (h : Eye w g (a ++ b) e) :
    Calls Tryz.prog 153 #[.pointer (some ⟨g,0,none⟩),.string (bs s)] w fun x w' => ∃ e' : Int,x=.returned (.tuple #[])∧Eye w' g b e'∧Only g w w':=by
  have HT:=Lib.hid (take_any g a b e a.length rfl w h)
  have H1:=Lib.hid (Eye.set0 h b)
  have HB:=Lib.hid ((Only.refl g w).set_ 0 (.string (bs b)))
  have hz:=bs_size s
  rw [hl] at hz
  clear h hl
  obtain ⟨q,hq⟩ : ∃ q,q=((bs a).toList == (bs s).toList):=⟨_,rfl⟩
  generalize bs a=ba at *
  generalize bs s=bss at *
  go_enter Tryz.func153,Tryz.ntmps153
  go_wp2_with fail
  refine HT.out.mono ?_
  rintro e1 w1 ⟨rfl,hw1⟩
  rw [← hw1] at H1 HB
  clear hw1
  cases q with
  | true =>
    replace hq:=hq.symm
    go_wp2_with fail
    refine bodyPost_end (results_none rfl _ _ _) rfl ?_
    exact ⟨e,rfl,H1.out,HB.out⟩
  | false =>
    replace hq:=hq.symm
    go_wp2_with fail
    refine (note_all g b e 3 w1 H1.out).mono ?_
    rintro e3 w3 ⟨rfl,⟨e',he'⟩,ho⟩
    have H3:=Lib.hid he'
    have H4:=Lib.hid (HB.out.trans ho)
    clear he' ho
    go_wp2_with fail
    refine bodyPost_end (results_none rfl _ _ _) rfl ?_
    exact ⟨e',rfl,H3.out,H4.out⟩
structure HeadIn (h : PHead) : Prop where
  name : h.name.length≤100
  pre : h.pre.length≤155
  link : h.link.length≤100
  mode : h.mode < 8589934592
  uid : h.uid < 8589934592
  gid : h.gid < 8589934592
  size : h.size < 8589934592
  time : h.time < 8589934592
  user : h.user.length≤32
  group : h.group.length≤32
structure HRa (w0 w : World) (R g b : Nat) (l : List UInt8) (e : Int) (cs : Array Value) : Prop where
  eye : Eye w g l e
  res : HasBlk w R 107 11
  head : Blk w b 107 cs
  below : Below w0.heap.size w0 w
  base : w0.heap.size≤g∧w0.heap.size≤b∧w0.heap.size≤R∧b≠g∧R≠g∧R≠b
theorem HRa.set_ {w0 w : World} {R g b : Nat} {l : List UInt8} {e : Int} {cs : Array Value} (h : HRa w0 w R g b l e cs) (i : Nat) (u : Value) (cs' : Array Value) (hcs : cs.setIfInBounds i u=cs') : HRa w0 (w.setCell ⟨b,i,none⟩ u) R g b l e cs':=by
  obtain ⟨h1,⟨c2,n2,h2⟩,h3,h4,h5⟩:=h
  subst hcs
  refine ⟨Blk.far h1 (p:=⟨b,i,none⟩) (by show g≠b;omega) u,⟨c2,n2,h2.far (p:=⟨b,i,none⟩) (by show R≠b;omega) u⟩,h3.set_ i u,h4.setCell (p:=⟨b,i,none⟩) h5.2.1 u,h5⟩
theorem HRa.quiet {w0 w w' : World} {R g b : Nat} {l : List UInt8} {e : Int} {cs : Array Value} (h : HRa w0 w R g b l e cs) (hb : Below w.heap.size w w') : HRa w0 w' R g b l e cs:=by
  obtain ⟨h1,h2,h3,h4,h5⟩:=h
  exact ⟨h1.below hb h1.lt,h2.below hb,h3.below hb h3.lt,h4.trans (hb.mono h4.size),h5⟩
theorem HRa.step {w0 w w' : World} {R g b : Nat} {l m : List UInt8} {e e' : Int} {cs : Array Value} (h : HRa w0 w R g b l e cs) (he : Eye w' g m e') (ho : Only g w w') : HRa w0 w' R g b m e' cs:=by
  obtain ⟨h1,h2,h3,h4,h5⟩:=h
  exact ⟨he,ho.hasBlk h2 h5.2.2.2.2.1,ho.blk h3 h5.2.2.2.1,h4.trans (ho.below h5.1 h4.size),h5⟩
theorem HRa.take {w0 w : World} {R g b : Nat} {l m : List UInt8} {e : Int} {cs : Array Value} (h : HRa w0 w R g b l e cs) : HRa w0 (w.setCell ⟨g,0,none⟩ (.string (bs m))) R g b m e cs :=
  h.step (Eye.set0 h.eye m) ((Only.refl _ _).set_ 0 _)
theorem cut_front (l : List UInt8) (n : Nat) (h : n≤l.length) : ∃ a b,l=a ++ b∧a.length=n∧b.length=l.length - n:=⟨l.take n,l.drop n,(List.take_append_drop n l).symm,by rw [List.length_take];omega,by rw [List.length_drop]⟩
theorem Type_out (c : UInt8) (h : c ∉ typeB) (w : World) :
    Calls Tryz.prog 89 #[.string ⟨#[48,49,50,53,120]⟩,.int .u8 c.toNat] w fun e w' => ∃ i : Int,i < 0∧e=.returned (.int .i64 i)∧w=w' :=
  (IndexByte_of typeB c w).mono fun _ _ ⟨h1,h2⟩ => ⟨_,by rw [indexByte_not h];decide,h1,h2⟩
set_option maxRecDepth 100000 in
set_option maxHeartbeats 8000000 in
theorem HRead_all (l : List UInt8) (hlW : l.length=512) (w : World) :
    Calls Tryz.prog 103 #[.string (bs l)] w fun e w' => ((∃ h : PHead,HeadIn h∧e=.returned (.tuple #[headV h,.int .i64 0]))∨(∃ c : Int,c≠0∧e=.returned (.tuple #[.agg headNone,.int .i64 c])))∧Below w.heap.size w w':=by
  by_cases hok : sumOk l
  case neg => exact (HRead_bad l hlW hok w).mono fun e w' ⟨h1,h2⟩ => ⟨.inr ⟨8,by decide,h1⟩,h2⟩
  obtain ⟨hso,h155⟩:=hok
  have hS:=Lib.hid (fun w => HSum_any l hlW w)
  have hF:=Lib.hid (fun w => ORead_any (bs (sumF l)) (by rw [bs_size,sumF_length hlW];omega) w)
  rw [bs_data,hso] at hF
  have hbd:=hsum_bd l 512
  generalize hsum l 512=hsm at *
  have x1 : (bs l).extract 148 155=bs (sumF l):=by rw [bs_extract];rfl
  have zW:=bs_size l
  rw [hlW] at zW
  have x2 : ∀ hh : 155 < (bs l).size,(((bs l)[155]'hh).toNat : Int)=32:=by
    intro hh
    rw [bs_get l 155 hh,List.getD_eq_getElem?_getD,h155]
    rfl
  have hZ:=Lib.hid (fun w => Repeat_byte 0 12 w (by omega))
  generalize bs (sumF l)=bF at *
  clear hso h155
  obtain ⟨a0,r0,e0,l0,m0⟩:=cut_front l 100 (by omega)
  obtain ⟨a1,r1,e1,l1,m1⟩:=cut_front r0 8 (by omega)
  obtain ⟨a2,r2,e2,l2,m2⟩:=cut_front r1 8 (by omega)
  obtain ⟨a3,r3,e3,l3,m3⟩:=cut_front r2 8 (by omega)
  obtain ⟨a4,r4,e4,l4,m4⟩:=cut_front r3 12 (by omega)
  obtain ⟨a5,r5,e5,l5,m5⟩:=cut_front r4 12 (by omega)
  obtain ⟨a6,r6,e6,l6,m6⟩:=cut_front r5 8 (by omega)
  obtain ⟨a7,r7,e7,l7,m7⟩:=cut_front r6 1 (by omega)
  obtain ⟨a8,r8,e8,l8,m8⟩:=cut_front r7 100 (by omega)
  obtain ⟨a9,r9,e9,l9,m9⟩:=cut_front r8 8 (by omega)
  obtain ⟨a10,r10,e10,l10,m10⟩:=cut_front r9 32 (by omega)
  obtain ⟨a11,r11,e11,l11,m11⟩:=cut_front r10 32 (by omega)
  obtain ⟨a12,r12,e12,l12,m12⟩:=cut_front r11 16 (by omega)
  obtain ⟨a13,r13,e13,l13,m13⟩:=cut_front r12 155 (by omega)
  obtain ⟨a14,r14,e14,l14,m14⟩:=cut_front r13 12 (by omega)
  obtain rfl : r14=[]:=List.eq_nil_of_length_eq_zero (by omega)
  obtain ⟨type,rfl⟩ : ∃ t,a7=[t]:=by
    match a7,l7 with
    | [t],_ => exact ⟨t,rfl⟩
  subst e14 e13 e12 e11 e10 e9 e8 e7 e6 e5 e4 e3 e2 e1
  have eB : Hid (bs l=bs (a0 ++ (a1 ++ (a2 ++ (a3 ++ (a4 ++ (a5 ++ (a6 ++ ([type] ++ (a8 ++ (a9 ++ (a10 ++ (a11 ++ (a12 ++ (a13 ++ (a14 ++ [])))))))))))))))):=Lib.hid (by rw [e0])
  clear e0 m0 m1 m2 m3 m4 m5 m6 m7 m8 m9 m10 m11 m12 m13 m14 hlW
  have L0:=Lib.hid l0
  have L1:=Lib.hid l1
  have L2:=Lib.hid l2
  have L3:=Lib.hid l3
  have L4:=Lib.hid l4
  have L5:=Lib.hid l5
  have L6:=Lib.hid l6
  have L8:=Lib.hid l8
  have L9:=Lib.hid l9
  have L10:=Lib.hid l10
  have L11:=Lib.hid l11
  have L12:=Lib.hid l12
  have L13:=Lib.hid l13
  have L14:=Lib.hid l14
  clear l0 l1 l2 l3 l4 l5 l6 l7 l8 l9 l10 l11 l12 l13 l14
  have it : ∀ w,(Instr.index 9 (.string (bs [type])) (.int .i64 0)).run Tryz.prog w=.ok (.int .u8 type.toNat) w:=fun _ => by kernel_rfl
  have zt:=bs_size [type]
  unfold headV headCells headNone
  generalize bs l=BW at *
  replace x2:=x2 (by omega)
  obtain ⟨W0,hW0⟩ : ∃ W0,W0=w.alloc (.cells #[.string ⟨#[]⟩,.string ⟨#[]⟩,.string ⟨#[]⟩,.int .i64 0,.int .i64 0,.int .i64 0,.int .i64 0,.int .i64 0,.int .u8 0,.string ⟨#[]⟩,.string ⟨#[]⟩] 107):=⟨_,rfl⟩
  have hR0:=Blk.new w 107 #[.string ⟨#[]⟩,.string ⟨#[]⟩,.string ⟨#[]⟩,.int .i64 0,.int .i64 0,.int .i64 0,.int .i64 0,.int .i64 0,.int .u8 0,.string ⟨#[]⟩,.string ⟨#[]⟩]
  have b0 : Below w.heap.size w W0:=by rw [hW0];exact (Below.refl _ w).alloc (Nat.le_refl _) _
  rw [← hW0] at hR0
  have HR0:=Lib.hid (show HasBlk W0 w.heap.size 107 11 from ⟨_,rfl,hR0⟩)
  have B0:=Lib.hid b0
  clear hR0 b0
  go_enter Tryz.func103,Tryz.ntmps103
  go_wp2_with fail
  rw [← hW0]
  have HW0:=Lib.hid hW0
  clear hW0
  refine (hS.out _).mono ?_
  rintro e w' ⟨rfl,rfl⟩
  go_wp2_with fail
  refine (hF.out _).mono ?_
  rintro e w1 ⟨rfl,rfl⟩
  have R1:=Lib.hid HR0.out
  have B1:=Lib.hid B0.out
  have hsz:=Lib.hid (show w.heap.size < W0.heap.size from R1.out.lt)
  go_wp2_with fail
  have E2:=Lib.hid (show Eye (W0.alloc (.cells #[.string BW,.int .i64 0] 247)) W0.heap.size (a0 ++ (a1 ++ (a2 ++ (a3 ++ (a4 ++ (a5 ++ (a6 ++ ([type] ++ (a8 ++ (a9 ++ (a10 ++ (a11 ++ (a12 ++ (a13 ++ (a14 ++ []))))))))))))))) 0 from by rw [eB.out];exact Blk.new _ _ _)
  refine (text_all W0.heap.size a0 (a1 ++ (a2 ++ (a3 ++ (a4 ++ (a5 ++ (a6 ++ ([type] ++ (a8 ++ (a9 ++ (a10 ++ (a11 ++ (a12 ++ (a13 ++ (a14 ++ [])))))))))))))) 100 L0.out.symm (by rw [L0.out];omega) (by rw [L0.out];omega) true 0 _ E2.out).mono ?_
  rintro e w2 ⟨name,q2,rfl,hvn,he2,ho2⟩
  have HVn:=Lib.hid hvn
  have R2:=Lib.hid (ho2.hasBlk (R1.out.below ((Below.refl _ _).alloc (Nat.le_refl _) (.cells #[.string BW,.int .i64 0] 247))) (by have:=hsz.out;omega))
  have B2:=Lib.hid (B1.out.trans ((Below.refl _ _).alloc B1.out.size (.cells #[.string BW,.int .i64 0] 247)) |>.trans (ho2.below B1.out.size (by have:=B1.out.size;simp;omega)))
  have hs2:=Lib.hid (show W0.heap.size < w2.heap.size from he2.lt)
  have E3:=Lib.hid he2
  clear he2 ho2 hvn
  obtain ⟨W3,hW3⟩ : ∃ W3,W3=w2.alloc (.cells #[(.string (bs name)),.string ⟨#[]⟩,.string ⟨#[]⟩,.int .i64 0,.int .i64 0,.int .i64 0,.int .i64 0,.int .i64 0,.int .u8 0,.string ⟨#[]⟩,.string ⟨#[]⟩] 107):=⟨_,rfl⟩
  have K0 : Hid (HRa w W3 w.heap.size W0.heap.size w2.heap.size (a1 ++ (a2 ++ (a3 ++ (a4 ++ (a5 ++ (a6 ++ ([type] ++ (a8 ++ (a9 ++ (a10 ++ (a11 ++ (a12 ++ (a13 ++ (a14 ++ [])))))))))))))) q2 #[(.string (bs name)),.string ⟨#[]⟩,.string ⟨#[]⟩,.int .i64 0,.int .i64 0,.int .i64 0,.int .i64 0,.int .i64 0,.int .u8 0,.string ⟨#[]⟩,.string ⟨#[]⟩]):=Lib.hid (by
    have hb:=(Below.refl w2.heap.size w2).alloc (Nat.le_refl _) (.cells #[(.string (bs name)),.string ⟨#[]⟩,.string ⟨#[]⟩,.int .i64 0,.int .i64 0,.int .i64 0,.int .i64 0,.int .i64 0,.int .u8 0,.string ⟨#[]⟩,.string ⟨#[]⟩] 107)
    rw [hW3]
    refine ⟨E3.out.below hb E3.out.lt,R2.out.below hb,Blk.new _ _ _,B2.out.trans (hb.mono B2.out.size),B1.out.size,B2.out.size,Nat.le_refl _,?_,?_,?_⟩
    · have:=hs2.out;omega
    · have:=hsz.out;omega
    · have:=hs2.out;have:=hsz.out;omega)
  go_wp2_with fail
  rw [← hW3]
  have HW3:=Lib.hid hW3
  clear hW3
  refine (number_all W0.heap.size a1 (a2 ++ (a3 ++ (a4 ++ (a5 ++ (a6 ++ ([type] ++ (a8 ++ (a9 ++ (a10 ++ (a11 ++ (a12 ++ (a13 ++ (a14 ++ []))))))))))))) 8 L1.out.symm (by rw [L1.out];omega) _ _ K0.out.eye).mono ?_
  rintro e w4 ⟨mode,q4,rfl,hv,he,ho⟩
  have K4:=Lib.hid (K0.out.step he ho)
  have HVmode:=Lib.hid hv
  clear he ho hv
  go_wp2_with fail
  refine (number_all W0.heap.size a2 (a3 ++ (a4 ++ (a5 ++ (a6 ++ ([type] ++ (a8 ++ (a9 ++ (a10 ++ (a11 ++ (a12 ++ (a13 ++ (a14 ++ [])))))))))))) 8 L2.out.symm (by rw [L2.out];omega) _ _ K4.out.eye).mono ?_
  rintro e w5 ⟨uid,q5,rfl,hv,he,ho⟩
  have K5:=Lib.hid (K4.out.step he ho)
  have HVuid:=Lib.hid hv
  clear he ho hv
  go_wp2_with fail
  refine (number_all W0.heap.size a3 (a4 ++ (a5 ++ (a6 ++ ([type] ++ (a8 ++ (a9 ++ (a10 ++ (a11 ++ (a12 ++ (a13 ++ (a14 ++ []))))))))))) 8 L3.out.symm (by rw [L3.out];omega) _ _ K5.out.eye).mono ?_
  rintro e w6 ⟨gid,q6,rfl,hv,he,ho⟩
  have K6:=Lib.hid (K5.out.step he ho)
  have HVgid:=Lib.hid hv
  clear he ho hv
  have z7_3:=K6.out.head.frozen 3
  have e7_3:=(K6.out.head.cell 3).trans (show _=some (.int .i64 0) from rfl)
  have z7_4:=K6.out.head.frozen 4
  have e7_4:=(K6.out.head.cell 4).trans (show _=some (.int .i64 0) from rfl)
  have z7_5:=K6.out.head.frozen 5
  have e7_5:=(K6.out.head.cell 5).trans (show _=some (.int .i64 0) from rfl)
  have K7:=Lib.hid (((K6.out.set_ 3 (.int .i64 mode) #[(.string (bs name)),(.string ⟨#[]⟩),(.string ⟨#[]⟩),(.int .i64 mode),(.int .i64 0),(.int .i64 0),(.int .i64 0),(.int .i64 0),(.int .u8 0),(.string ⟨#[]⟩),(.string ⟨#[]⟩)] rfl).set_ 4 (.int .i64 uid) #[(.string (bs name)),(.string ⟨#[]⟩),(.string ⟨#[]⟩),(.int .i64 mode),(.int .i64 uid),(.int .i64 0),(.int .i64 0),(.int .i64 0),(.int .u8 0),(.string ⟨#[]⟩),(.string ⟨#[]⟩)] rfl).set_ 5 (.int .i64 gid) #[(.string (bs name)),(.string ⟨#[]⟩),(.string ⟨#[]⟩),(.int .i64 mode),(.int .i64 uid),(.int .i64 gid),(.int .i64 0),(.int .i64 0),(.int .u8 0),(.string ⟨#[]⟩),(.string ⟨#[]⟩)] rfl)
  go_wp2_with fail
  refine (number_all W0.heap.size a4 (a5 ++ (a6 ++ ([type] ++ (a8 ++ (a9 ++ (a10 ++ (a11 ++ (a12 ++ (a13 ++ (a14 ++ [])))))))))) 12 L4.out.symm (by rw [L4.out];omega) _ _ K7.out.eye).mono ?_
  rintro e w8 ⟨size,q8,rfl,hv,he,ho⟩
  have K8:=Lib.hid (K7.out.step he ho)
  have HVsize:=Lib.hid hv
  clear he ho hv
  go_wp2_with fail
  refine (number_all W0.heap.size a5 (a6 ++ ([type] ++ (a8 ++ (a9 ++ (a10 ++ (a11 ++ (a12 ++ (a13 ++ (a14 ++ []))))))))) 12 L5.out.symm (by rw [L5.out];omega) _ _ K8.out.eye).mono ?_
  rintro e w9 ⟨time,q9,rfl,hv,he,ho⟩
  have K9:=Lib.hid (K8.out.step he ho)
  have HVtime:=Lib.hid hv
  clear he ho hv
  have z10_6:=K9.out.head.frozen 6
  have e10_6:=(K9.out.head.cell 6).trans (show _=some (.int .i64 0) from rfl)
  have z10_7:=K9.out.head.frozen 7
  have e10_7:=(K9.out.head.cell 7).trans (show _=some (.int .i64 0) from rfl)
  have K10:=Lib.hid ((K9.out.set_ 6 (.int .i64 size) #[(.string (bs name)),(.string ⟨#[]⟩),(.string ⟨#[]⟩),(.int .i64 mode),(.int .i64 uid),(.int .i64 gid),(.int .i64 size),(.int .i64 0),(.int .u8 0),(.string ⟨#[]⟩),(.string ⟨#[]⟩)] rfl).set_ 7 (.int .i64 time) #[(.string (bs name)),(.string ⟨#[]⟩),(.string ⟨#[]⟩),(.int .i64 mode),(.int .i64 uid),(.int .i64 gid),(.int .i64 size),(.int .i64 time),(.int .u8 0),(.string ⟨#[]⟩),(.string ⟨#[]⟩)] rfl)
  go_wp2_with fail
  refine (take_any W0.heap.size (a6) ([type] ++ (a8 ++ (a9 ++ (a10 ++ (a11 ++ (a12 ++ (a13 ++ (a14 ++ [])))))))) _ 8 L6.out.symm _ K10.out.eye).mono ?_
  rintro e w11 ⟨rfl,hw⟩
  have K11:=Lib.hid (show HRa w w11 w.heap.size W0.heap.size w2.heap.size ([type] ++ (a8 ++ (a9 ++ (a10 ++ (a11 ++ (a12 ++ (a13 ++ (a14 ++ [])))))))) q9 #[(.string (bs name)),(.string ⟨#[]⟩),(.string ⟨#[]⟩),(.int .i64 mode),(.int .i64 uid),(.int .i64 gid),(.int .i64 size),(.int .i64 time),(.int .u8 0),(.string ⟨#[]⟩),(.string ⟨#[]⟩)] from by rw [hw];exact K10.out.take)
  clear hw
  go_wp2_with fail
  refine (take_any W0.heap.size ([type]) (a8 ++ (a9 ++ (a10 ++ (a11 ++ (a12 ++ (a13 ++ (a14 ++ []))))))) _ 1 rfl _ K11.out.eye).mono ?_
  rintro e w12 ⟨rfl,hw⟩
  have K12:=Lib.hid (show HRa w w12 w.heap.size W0.heap.size w2.heap.size (a8 ++ (a9 ++ (a10 ++ (a11 ++ (a12 ++ (a13 ++ (a14 ++ []))))))) q9 #[(.string (bs name)),(.string ⟨#[]⟩),(.string ⟨#[]⟩),(.int .i64 mode),(.int .i64 uid),(.int .i64 gid),(.int .i64 size),(.int .i64 time),(.int .u8 0),(.string ⟨#[]⟩),(.string ⟨#[]⟩)] from by rw [hw];exact K11.out.take)
  clear hw
  generalize bs [type]=bT at *
  have z13_8:=K12.out.head.frozen 8
  have e13_8:=(K12.out.head.cell 8).trans (show _=some (.int .u8 0) from rfl)
  have K13:=Lib.hid (K12.out.set_ 8 (.int .u8 type.toNat) #[(.string (bs name)),(.string ⟨#[]⟩),(.string ⟨#[]⟩),(.int .i64 mode),(.int .i64 uid),(.int .i64 gid),(.int .i64 size),(.int .i64 time),(.int .u8 type.toNat),(.string ⟨#[]⟩),(.string ⟨#[]⟩)] rfl)
  go_wp2_with fail
  by_cases hty : type∈typeB
  · refine (Type_in type hty _).mono ?_
    rintro e w' ⟨i,hi0,rfl,rfl⟩
    have d0 : decide (i < (0 : Int))=false:=decide_eq_false (by omega)
    clear hty
    go_wp2_with fail
    refine (text_all W0.heap.size a8 (a9 ++ (a10 ++ (a11 ++ (a12 ++ (a13 ++ (a14 ++ [])))))) 100 L8.out.symm (by rw [L8.out];omega) (by rw [L8.out];omega) true _ _ K13.out.eye).mono ?_
    rintro e w14 ⟨link,q14,rfl,hv,he,ho⟩
    have K14:=Lib.hid (K13.out.step he ho)
    have HVlink:=Lib.hid hv
    clear he ho hv
    have z15_2:=K14.out.head.frozen 2
    have e15_2:=(K14.out.head.cell 2).trans (show _=some (.string ⟨#[]⟩) from rfl)
    have K15:=Lib.hid (K14.out.set_ 2 (.string (bs link)) #[(.string (bs name)),(.string ⟨#[]⟩),(.string (bs link)),(.int .i64 mode),(.int .i64 uid),(.int .i64 gid),(.int .i64 size),(.int .i64 time),(.int .u8 type.toNat),(.string ⟨#[]⟩),(.string ⟨#[]⟩)] rfl)
    go_wp2_with fail
    refine (just_all W0.heap.size (ustarS) a9 (a10 ++ (a11 ++ (a12 ++ (a13 ++ (a14 ++ []))))) (by rw [L9.out];first | rfl | simp) _ _ K15.out.eye).mono ?_
    rintro e w16 ⟨q16,rfl,he,ho⟩
    have K16:=Lib.hid (K15.out.step he ho)
    clear he ho
    go_wp2_with fail
    refine (text_all W0.heap.size a10 (a11 ++ (a12 ++ (a13 ++ (a14 ++ [])))) 32 L10.out.symm (by rw [L10.out];omega) (by rw [L10.out];omega) false _ _ K16.out.eye).mono ?_
    rintro e w17 ⟨user,q17,rfl,hv,he,ho⟩
    have K17:=Lib.hid (K16.out.step he ho)
    have HVuser:=Lib.hid hv
    clear he ho hv
    go_wp2_with fail
    refine (text_all W0.heap.size a11 (a12 ++ (a13 ++ (a14 ++ []))) 32 L11.out.symm (by rw [L11.out];omega) (by rw [L11.out];omega) false _ _ K17.out.eye).mono ?_
    rintro e w18 ⟨group,q18,rfl,hv,he,ho⟩
    have K18:=Lib.hid (K17.out.step he ho)
    have HVgroup:=Lib.hid hv
    clear he ho hv
    have z19_9:=K18.out.head.frozen 9
    have e19_9:=(K18.out.head.cell 9).trans (show _=some (.string ⟨#[]⟩) from rfl)
    have z19_10:=K18.out.head.frozen 10
    have e19_10:=(K18.out.head.cell 10).trans (show _=some (.string ⟨#[]⟩) from rfl)
    have K19:=Lib.hid ((K18.out.set_ 9 (.string (bs user)) #[(.string (bs name)),(.string ⟨#[]⟩),(.string (bs link)),(.int .i64 mode),(.int .i64 uid),(.int .i64 gid),(.int .i64 size),(.int .i64 time),(.int .u8 type.toNat),(.string (bs user)),(.string ⟨#[]⟩)] rfl).set_ 10 (.string (bs group)) #[(.string (bs name)),(.string ⟨#[]⟩),(.string (bs link)),(.int .i64 mode),(.int .i64 uid),(.int .i64 gid),(.int .i64 size),(.int .i64 time),(.int .u8 type.toNat),(.string (bs user)),(.string (bs group))] rfl)
    go_wp2_with fail
    refine (just_all W0.heap.size (devS) a12 (a13 ++ (a14 ++ [])) (by rw [L12.out];first | rfl | simp) _ _ K19.out.eye).mono ?_
    rintro e w20 ⟨q20,rfl,he,ho⟩
    have K20:=Lib.hid (K19.out.step he ho)
    clear he ho
    go_wp2_with fail
    refine (text_all W0.heap.size a13 (a14 ++ []) 155 L13.out.symm (by rw [L13.out];omega) (by rw [L13.out];omega) true _ _ K20.out.eye).mono ?_
    rintro e w21 ⟨pre,q21,rfl,hv,he,ho⟩
    have K21:=Lib.hid (K20.out.step he ho)
    have HVpre:=Lib.hid hv
    clear he ho hv
    have z22_1:=K21.out.head.frozen 1
    have e22_1:=(K21.out.head.cell 1).trans (show _=some (.string ⟨#[]⟩) from rfl)
    have K22:=Lib.hid (K21.out.set_ 1 (.string (bs pre)) #[(.string (bs name)),(.string (bs pre)),(.string (bs link)),(.int .i64 mode),(.int .i64 uid),(.int .i64 gid),(.int .i64 size),(.int .i64 time),(.int .u8 type.toNat),(.string (bs user)),(.string (bs group))] rfl)
    go_wp2_with fail
    refine (hZ.out _).mono ?_
    rintro e w50 ⟨rfl,b50⟩
    have K50:=Lib.hid (K22.out.quiet b50)
    clear b50
    go_wp2_with fail
    refine (just_all W0.heap.size (List.replicate 12 0) a14 [] (by rw [L14.out];first | rfl | simp) _ _ K50.out.eye).mono ?_
    rintro e w23 ⟨q23,rfl,he,ho⟩
    have K23:=Lib.hid (K50.out.step he ho)
    clear he ho
    have ce:=K23.out.eye.cell 1
    have e0:=(K23.out.head.cell 0).trans (show _=some (.string (bs name)) from rfl)
    have e1:=(K23.out.head.cell 1).trans (show _=some (.string (bs pre)) from rfl)
    have e2:=(K23.out.head.cell 2).trans (show _=some (.string (bs link)) from rfl)
    have e3:=(K23.out.head.cell 3).trans (show _=some (.int .i64 mode) from rfl)
    have e4:=(K23.out.head.cell 4).trans (show _=some (.int .i64 uid) from rfl)
    have e5:=(K23.out.head.cell 5).trans (show _=some (.int .i64 gid) from rfl)
    have e6:=(K23.out.head.cell 6).trans (show _=some (.int .i64 size) from rfl)
    have e7:=(K23.out.head.cell 7).trans (show _=some (.int .i64 time) from rfl)
    have e8:=(K23.out.head.cell 8).trans (show _=some (.int .u8 type.toNat) from rfl)
    have e9:=(K23.out.head.cell 9).trans (show _=some (.string (bs user)) from rfl)
    have e10:=(K23.out.head.cell 10).trans (show _=some (.string (bs group)) from rfl)
    have y0:=K23.out.res.peek_ (i:=0) (by omega)
    have y1:=K23.out.res.peek_ (i:=1) (by omega)
    have y2:=K23.out.res.peek_ (i:=2) (by omega)
    have y3:=K23.out.res.peek_ (i:=3) (by omega)
    have y4:=K23.out.res.peek_ (i:=4) (by omega)
    have y5:=K23.out.res.peek_ (i:=5) (by omega)
    have y6:=K23.out.res.peek_ (i:=6) (by omega)
    have y7:=K23.out.res.peek_ (i:=7) (by omega)
    have y8:=K23.out.res.peek_ (i:=8) (by omega)
    have y9:=K23.out.res.peek_ (i:=9) (by omega)
    have y10:=K23.out.res.peek_ (i:=10) (by omega)
    have x0:=K23.out.res.frozen 0
    have x1:=K23.out.res.frozen 1
    have x2:=K23.out.res.frozen 2
    have x3:=K23.out.res.frozen 3
    have x4:=K23.out.res.frozen 4
    have x5:=K23.out.res.frozen 5
    have x6:=K23.out.res.frozen 6
    have x7:=K23.out.res.frozen 7
    have x8:=K23.out.res.frozen 8
    have x9:=K23.out.res.frozen 9
    have x10:=K23.out.res.frozen 10
    simp only [List.getElem?_toArray,List.getElem?_cons_zero,List.getElem?_cons_succ] at ce
    by_cases hq : q23=0
    · rw [hq] at ce
      clear hq
      go_wp2_with fail
      have hF : Blk (((((((((((w23.setCell ⟨w.heap.size,0,none⟩ (.string (bs name))).setCell ⟨w.heap.size,1,none⟩ (.string (bs pre))).setCell ⟨w.heap.size,2,none⟩ (.string (bs link))).setCell ⟨w.heap.size,3,none⟩ (.int .i64 mode)).setCell ⟨w.heap.size,4,none⟩ (.int .i64 uid)).setCell ⟨w.heap.size,5,none⟩ (.int .i64 gid)).setCell ⟨w.heap.size,6,none⟩ (.int .i64 size)).setCell ⟨w.heap.size,7,none⟩ (.int .i64 time)).setCell ⟨w.heap.size,8,none⟩ (.int .u8 type.toNat)).setCell ⟨w.heap.size,9,none⟩ (.string (bs user))).setCell ⟨w.heap.size,10,none⟩ (.string (bs group))) w.heap.size 107 #[(.string (bs name)),(.string (bs pre)),(.string (bs link)),(.int .i64 mode),(.int .i64 uid),(.int .i64 gid),(.int .i64 size),(.int .i64 time),(.int .u8 type.toNat),(.string (bs user)),(.string (bs group))]:=K23.out.res.fill [(.string (bs name)),(.string (bs pre)),(.string (bs link)),(.int .i64 mode),(.int .i64 uid),(.int .i64 gid),(.int .i64 size),(.int .i64 time),(.int .u8 type.toNat),(.string (bs user)),(.string (bs group))] rfl
      have bF : Below w.heap.size w (((((((((((w23.setCell ⟨w.heap.size,0,none⟩ (.string (bs name))).setCell ⟨w.heap.size,1,none⟩ (.string (bs pre))).setCell ⟨w.heap.size,2,none⟩ (.string (bs link))).setCell ⟨w.heap.size,3,none⟩ (.int .i64 mode)).setCell ⟨w.heap.size,4,none⟩ (.int .i64 uid)).setCell ⟨w.heap.size,5,none⟩ (.int .i64 gid)).setCell ⟨w.heap.size,6,none⟩ (.int .i64 size)).setCell ⟨w.heap.size,7,none⟩ (.int .i64 time)).setCell ⟨w.heap.size,8,none⟩ (.int .u8 type.toNat)).setCell ⟨w.heap.size,9,none⟩ (.string (bs user))).setCell ⟨w.heap.size,10,none⟩ (.string (bs group))):=Below.setAll (g:=w.heap.size) (Nat.le_refl _) [(.string (bs name)),(.string (bs pre)),(.string (bs link)),(.int .i64 mode),(.int .i64 uid),(.int .i64 gid),(.int .i64 size),(.int .i64 time),(.int .u8 type.toNat),(.string (bs user)),(.string (bs group))] 0 K23.out.below
      obtain ⟨wz,hwz⟩ : ∃ wz,wz=(((((((((((w23.setCell ⟨w.heap.size,0,none⟩ (.string (bs name))).setCell ⟨w.heap.size,1,none⟩ (.string (bs pre))).setCell ⟨w.heap.size,2,none⟩ (.string (bs link))).setCell ⟨w.heap.size,3,none⟩ (.int .i64 mode)).setCell ⟨w.heap.size,4,none⟩ (.int .i64 uid)).setCell ⟨w.heap.size,5,none⟩ (.int .i64 gid)).setCell ⟨w.heap.size,6,none⟩ (.int .i64 size)).setCell ⟨w.heap.size,7,none⟩ (.int .i64 time)).setCell ⟨w.heap.size,8,none⟩ (.int .u8 type.toNat)).setCell ⟨w.heap.size,9,none⟩ (.string (bs user))).setCell ⟨w.heap.size,10,none⟩ (.string (bs group))):=⟨_,rfl⟩
      rw [← hwz] at hF bF ⊢
      have BF:=Lib.hid bF
      clear bF hwz e0 e1 e2 e3 e4 e5 e6 e7 e8 e9 e10 y0 y1 y2 y3 y4 y5 y6 y7 y8 y9 y10 x0 x1 x2 x3 x4 x5 x6 x7 x8 x9 x10
      have c0:=hF.cell 0
      have c1:=hF.cell 1
      have c2:=hF.cell 2
      have c3:=hF.cell 3
      have c4:=hF.cell 4
      have c5:=hF.cell 5
      have c6:=hF.cell 6
      have c7:=hF.cell 7
      have c8:=hF.cell 8
      have c9:=hF.cell 9
      have c10:=hF.cell 10
      simp only [List.getElem?_toArray,List.getElem?_cons_zero,List.getElem?_cons_succ] at c0 c1 c2 c3 c4 c5 c6 c7 c8 c9 c10
      exact bodyPost_ret (v:=.tuple #[.agg #[(.string (bs name)),(.string (bs pre)),(.string (bs link)),(.int .i64 mode),(.int .i64 uid),(.int .i64 gid),(.int .i64 size),(.int .i64 time),(.int .u8 type.toNat),(.string (bs user)),(.string (bs group))],.int .i64 0]) (by simp [results,Tryz.results103,go_sem,c0,c1,c2,c3,c4,c5,c6,c7,c8,c9,c10]) rfl ⟨.inl ⟨⟨name,pre,link,mode,uid,gid,size,time,type,user,group⟩,⟨HVn.out,HVpre.out,HVlink.out,HVmode.out,HVuid.out,HVgid.out,HVsize.out,HVtime.out,HVuser.out,HVgroup.out⟩,rfl⟩,BF.out⟩
    · have hq1 : (q23 == 0)=false:=beq_eq_false_iff_ne.2 hq
      have hq2 : (q23 != 0)=true:=by simp [hq]
      have HQ:=Lib.hid hq
      clear hq
      go_wp2_with fail
      refine wp_region_G (S:=fun W => Eye W W0.heap.size [] q23∧HasBlk W w.heap.size 107 11∧Below w.heap.size w W) (by kernel_rfl) ⟨K23.out.eye,K23.out.res,K23.out.below.drew⟩ ?_
      refine wpG_take (i:=0) (v:=?vh231) rfl (by kernel_rfl) (by kernel_rfl) (by kernel_rfl) (fun _ _ _ h => h) (Or.inl ⟨by rfl,?hyh231⟩) ?resth231
      case hyh231 => (intro W hSw;left;(try dsimp only at hSw);go_simp;try with_reducible rfl)
      simp only [Act.put,List.setIfInBounds_toArray,List.set_cons_zero,List.set_cons_succ,List.getElem_toArray,List.getElem_cons_zero,List.getElem_cons_succ]
      refine wpG_take (i:=1) (v:=?vh232) rfl (by kernel_rfl) (by kernel_rfl) (by kernel_rfl) (fun _ _ _ h => h) (Or.inl ⟨by rfl,?hyh232⟩) ?resth232
      case hyh232 => (intro W hSw;left;(try dsimp only at hSw);go_simp;try with_reducible rfl)
      simp only [Act.put,List.setIfInBounds_toArray,List.set_cons_zero,List.set_cons_succ,List.getElem_toArray,List.getElem_cons_zero,List.getElem_cons_succ]
      refine wpG_take (i:=2) (v:=?vh233) rfl (by kernel_rfl) (by kernel_rfl) (by kernel_rfl) (fun _ _ _ h => h) (Or.inl ⟨by rfl,?hyh233⟩) ?resth233
      case hyh233 => (intro W hSw;left;(try dsimp only at hSw);go_simp;try with_reducible rfl)
      simp only [Act.put,List.setIfInBounds_toArray,List.set_cons_zero,List.set_cons_succ,List.getElem_toArray,List.getElem_cons_zero,List.getElem_cons_succ]
      refine wpG_take (i:=3) (v:=?vh234) rfl (by kernel_rfl) (by kernel_rfl) (by kernel_rfl) (fun _ _ _ h => h) (Or.inl ⟨by rfl,?hyh234⟩) ?resth234
      case hyh234 => (intro W hSw;left;(try dsimp only at hSw);go_simp;try with_reducible rfl)
      simp only [Act.put,List.setIfInBounds_toArray,List.set_cons_zero,List.set_cons_succ,List.getElem_toArray,List.getElem_cons_zero,List.getElem_cons_succ]
      refine wpG_take (i:=4) (v:=?vh235) rfl (by kernel_rfl) (by kernel_rfl) (by kernel_rfl) (fun _ _ _ h => h) (Or.inl ⟨by rfl,?hyh235⟩) ?resth235
      case hyh235 => (intro W hSw;left;(try dsimp only at hSw);have cw:=hSw.1.cell 1;simp only [List.getElem?_toArray,List.getElem?_cons_zero,List.getElem?_cons_succ] at cw;go_simp;try with_reducible rfl)
      simp only [Act.put,List.setIfInBounds_toArray,List.set_cons_zero,List.set_cons_succ,List.getElem_toArray,List.getElem_cons_zero,List.getElem_cons_succ]
      clear ce e0 e1 e2 e3 e4 e5 e6 e7 e8 e9 e10 y0 y1 y2 y3 y4 y5 y6 y7 y8 y9 y10 x0 x1 x2 x3 x4 x5 x6 x7 x8 x9 x10
      refine wpG_one (i:=5) (by kernel_rfl) rfl (fun Wb hb hS K hK => ?_)
      have y0:=hS.2.1.peek_ (i:=0) (by omega);have x0:=hS.2.1.frozen 0
      have y1:=hS.2.1.peek_ (i:=1) (by omega);have x1:=hS.2.1.frozen 1
      have y2:=hS.2.1.peek_ (i:=2) (by omega);have x2:=hS.2.1.frozen 2
      have y3:=hS.2.1.peek_ (i:=3) (by omega);have x3:=hS.2.1.frozen 3
      have y4:=hS.2.1.peek_ (i:=4) (by omega);have x4:=hS.2.1.frozen 4
      have y5:=hS.2.1.peek_ (i:=5) (by omega);have x5:=hS.2.1.frozen 5
      have y6:=hS.2.1.peek_ (i:=6) (by omega);have x6:=hS.2.1.frozen 6
      have y7:=hS.2.1.peek_ (i:=7) (by omega);have x7:=hS.2.1.frozen 7
      have y8:=hS.2.1.peek_ (i:=8) (by omega);have x8:=hS.2.1.frozen 8
      have y9:=hS.2.1.peek_ (i:=9) (by omega);have x9:=hS.2.1.frozen 9
      have y10:=hS.2.1.peek_ (i:=10) (by omega);have x10:=hS.2.1.frozen 10
      go_simp
      clear y0 y1 y2 y3 y4 y5 y6 y7 y8 y9 y10 x0 x1 x2 x3 x4 x5 x6 x7 x8 x9 x10
      obtain ⟨WE,hWE⟩ : ∃ WE,WE=setAll Wb w.heap.size 0 [(.string ⟨#[]⟩),(.string ⟨#[]⟩),(.string ⟨#[]⟩),(.int .i64 0),(.int .i64 0),(.int .i64 0),(.int .i64 0),(.int .i64 0),(.int .u8 0),(.string ⟨#[]⟩),(.string ⟨#[]⟩)]:=⟨_,rfl⟩
      have hF:=hS.2.1.fill [(.string ⟨#[]⟩),(.string ⟨#[]⟩),(.string ⟨#[]⟩),(.int .i64 0),(.int .i64 0),(.int .i64 0),(.int .i64 0),(.int .i64 0),(.int .u8 0),(.string ⟨#[]⟩),(.string ⟨#[]⟩)] rfl
      have hE:=Blk.far_setAll (show W0.heap.size≠w.heap.size by have:=hsz.out;omega) [(.string ⟨#[]⟩),(.string ⟨#[]⟩),(.string ⟨#[]⟩),(.int .i64 0),(.int .i64 0),(.int .i64 0),(.int .i64 0),(.int .i64 0),(.int .u8 0),(.string ⟨#[]⟩),(.string ⟨#[]⟩)] 0 hS.1
      have hB:=Below.setAll (g:=w.heap.size) (Nat.le_refl _) [(.string ⟨#[]⟩),(.string ⟨#[]⟩),(.string ⟨#[]⟩),(.int .i64 0),(.int .i64 0),(.int .i64 0),(.int .i64 0),(.int .i64 0),(.int .u8 0),(.string ⟨#[]⟩),(.string ⟨#[]⟩)] 0 hS.2.2
      rw [← hWE] at hF hE hB
      simp only [setAll,Nat.zero_add,Nat.reduceAdd] at hWE
      rw [← hWE]
      have HFF:=Lib.hid hF
      refine hK.out _ _ ⟨hE,⟨_,rfl,hF⟩,hB⟩ ?_
      clear hK K hS hb hE hB hWE hF
      try simp only [Act.put,List.setIfInBounds_toArray,List.set_cons_zero,List.set_cons_succ,List.getElem_toArray,List.getElem_cons_zero,List.getElem_cons_succ]
      refine wpG_take (i:=6) (v:=?vh236) rfl (by kernel_rfl) (by kernel_rfl) (by kernel_rfl) (fun _ _ _ h => h) (Or.inl ⟨by rfl,?hyh236⟩) ?resth236
      case hyh236 => (intro W hSw;left;(try dsimp only at hSw);go_simp;try with_reducible rfl)
      simp only [Act.put,List.setIfInBounds_toArray,List.set_cons_zero,List.set_cons_succ,List.getElem_toArray,List.getElem_cons_zero,List.getElem_cons_succ]
      refine wpG_done (by kernel_rfl) (fun w8 hb hS => ?_) _
      have hF:=HFF.out.below hb HFF.out.lt
      have BF:=Lib.hid hS.2.2
      clear hb hS HFF
      have c0:=hF.cell 0
      have c1:=hF.cell 1
      have c2:=hF.cell 2
      have c3:=hF.cell 3
      have c4:=hF.cell 4
      have c5:=hF.cell 5
      have c6:=hF.cell 6
      have c7:=hF.cell 7
      have c8:=hF.cell 8
      have c9:=hF.cell 9
      have c10:=hF.cell 10
      simp only [List.getElem?_toArray,List.getElem?_cons_zero,List.getElem?_cons_succ] at c0 c1 c2 c3 c4 c5 c6 c7 c8 c9 c10
      go_wp2_with fail
      exact bodyPost_ret (v:=.tuple #[.agg #[(.string ⟨#[]⟩),(.string ⟨#[]⟩),(.string ⟨#[]⟩),(.int .i64 0),(.int .i64 0),(.int .i64 0),(.int .i64 0),(.int .i64 0),(.int .u8 0),(.string ⟨#[]⟩),(.string ⟨#[]⟩)],.int .i64 q23]) (by simp [results,Tryz.results103,go_sem,c0,c1,c2,c3,c4,c5,c6,c7,c8,c9,c10]) rfl ⟨.inr ⟨q23,HQ.out,rfl⟩,BF.out⟩
  · refine (Type_out type hty _).mono ?_
    rintro e w' ⟨i,hi0,rfl,rfl⟩
    have d0 : decide (i < (0 : Int))=true:=decide_eq_true hi0
    clear hty
    go_wp2_with fail
    refine (note_all W0.heap.size (a8 ++ (a9 ++ (a10 ++ (a11 ++ (a12 ++ (a13 ++ (a14 ++ []))))))) _ 3 _ K13.out.eye).mono ?_
    rintro e w14 ⟨rfl,⟨q14,he⟩,ho⟩
    have K14:=Lib.hid (K13.out.step he ho)
    clear he ho
    go_wp2_with fail
    refine (text_all W0.heap.size a8 (a9 ++ (a10 ++ (a11 ++ (a12 ++ (a13 ++ (a14 ++ [])))))) 100 L8.out.symm (by rw [L8.out];omega) (by rw [L8.out];omega) true _ _ K14.out.eye).mono ?_
    rintro e w15 ⟨link,q15,rfl,hv,he,ho⟩
    have K15:=Lib.hid (K14.out.step he ho)
    have HVlink:=Lib.hid hv
    clear he ho hv
    have z16_2:=K15.out.head.frozen 2
    have e16_2:=(K15.out.head.cell 2).trans (show _=some (.string ⟨#[]⟩) from rfl)
    have K16:=Lib.hid (K15.out.set_ 2 (.string (bs link)) #[(.string (bs name)),(.string ⟨#[]⟩),(.string (bs link)),(.int .i64 mode),(.int .i64 uid),(.int .i64 gid),(.int .i64 size),(.int .i64 time),(.int .u8 type.toNat),(.string ⟨#[]⟩),(.string ⟨#[]⟩)] rfl)
    go_wp2_with fail
    refine (just_all W0.heap.size (ustarS) a9 (a10 ++ (a11 ++ (a12 ++ (a13 ++ (a14 ++ []))))) (by rw [L9.out];first | rfl | simp) _ _ K16.out.eye).mono ?_
    rintro e w17 ⟨q17,rfl,he,ho⟩
    have K17:=Lib.hid (K16.out.step he ho)
    clear he ho
    go_wp2_with fail
    refine (text_all W0.heap.size a10 (a11 ++ (a12 ++ (a13 ++ (a14 ++ [])))) 32 L10.out.symm (by rw [L10.out];omega) (by rw [L10.out];omega) false _ _ K17.out.eye).mono ?_
    rintro e w18 ⟨user,q18,rfl,hv,he,ho⟩
    have K18:=Lib.hid (K17.out.step he ho)
    have HVuser:=Lib.hid hv
    clear he ho hv
    go_wp2_with fail
    refine (text_all W0.heap.size a11 (a12 ++ (a13 ++ (a14 ++ []))) 32 L11.out.symm (by rw [L11.out];omega) (by rw [L11.out];omega) false _ _ K18.out.eye).mono ?_
    rintro e w19 ⟨group,q19,rfl,hv,he,ho⟩
    have K19:=Lib.hid (K18.out.step he ho)
    have HVgroup:=Lib.hid hv
    clear he ho hv
    have z20_9:=K19.out.head.frozen 9
    have e20_9:=(K19.out.head.cell 9).trans (show _=some (.string ⟨#[]⟩) from rfl)
    have z20_10:=K19.out.head.frozen 10
    have e20_10:=(K19.out.head.cell 10).trans (show _=some (.string ⟨#[]⟩) from rfl)
    have K20:=Lib.hid ((K19.out.set_ 9 (.string (bs user)) #[(.string (bs name)),(.string ⟨#[]⟩),(.string (bs link)),(.int .i64 mode),(.int .i64 uid),(.int .i64 gid),(.int .i64 size),(.int .i64 time),(.int .u8 type.toNat),(.string (bs user)),(.string ⟨#[]⟩)] rfl).set_ 10 (.string (bs group)) #[(.string (bs name)),(.string ⟨#[]⟩),(.string (bs link)),(.int .i64 mode),(.int .i64 uid),(.int .i64 gid),(.int .i64 size),(.int .i64 time),(.int .u8 type.toNat),(.string (bs user)),(.string (bs group))] rfl)
    go_wp2_with fail
    refine (just_all W0.heap.size (devS) a12 (a13 ++ (a14 ++ [])) (by rw [L12.out];first | rfl | simp) _ _ K20.out.eye).mono ?_
    rintro e w21 ⟨q21,rfl,he,ho⟩
    have K21:=Lib.hid (K20.out.step he ho)
    clear he ho
    go_wp2_with fail
    refine (text_all W0.heap.size a13 (a14 ++ []) 155 L13.out.symm (by rw [L13.out];omega) (by rw [L13.out];omega) true _ _ K21.out.eye).mono ?_
    rintro e w22 ⟨pre,q22,rfl,hv,he,ho⟩
    have K22:=Lib.hid (K21.out.step he ho)
    have HVpre:=Lib.hid hv
    clear he ho hv
    have z23_1:=K22.out.head.frozen 1
    have e23_1:=(K22.out.head.cell 1).trans (show _=some (.string ⟨#[]⟩) from rfl)
    have K23:=Lib.hid (K22.out.set_ 1 (.string (bs pre)) #[(.string (bs name)),(.string (bs pre)),(.string (bs link)),(.int .i64 mode),(.int .i64 uid),(.int .i64 gid),(.int .i64 size),(.int .i64 time),(.int .u8 type.toNat),(.string (bs user)),(.string (bs group))] rfl)
    go_wp2_with fail
    refine (hZ.out _).mono ?_
    rintro e w50 ⟨rfl,b50⟩
    have K50:=Lib.hid (K23.out.quiet b50)
    clear b50
    go_wp2_with fail
    refine (just_all W0.heap.size (List.replicate 12 0) a14 [] (by rw [L14.out];first | rfl | simp) _ _ K50.out.eye).mono ?_
    rintro e w24 ⟨q24,rfl,he,ho⟩
    have K24:=Lib.hid (K50.out.step he ho)
    clear he ho
    have ce:=K24.out.eye.cell 1
    have e0:=(K24.out.head.cell 0).trans (show _=some (.string (bs name)) from rfl)
    have e1:=(K24.out.head.cell 1).trans (show _=some (.string (bs pre)) from rfl)
    have e2:=(K24.out.head.cell 2).trans (show _=some (.string (bs link)) from rfl)
    have e3:=(K24.out.head.cell 3).trans (show _=some (.int .i64 mode) from rfl)
    have e4:=(K24.out.head.cell 4).trans (show _=some (.int .i64 uid) from rfl)
    have e5:=(K24.out.head.cell 5).trans (show _=some (.int .i64 gid) from rfl)
    have e6:=(K24.out.head.cell 6).trans (show _=some (.int .i64 size) from rfl)
    have e7:=(K24.out.head.cell 7).trans (show _=some (.int .i64 time) from rfl)
    have e8:=(K24.out.head.cell 8).trans (show _=some (.int .u8 type.toNat) from rfl)
    have e9:=(K24.out.head.cell 9).trans (show _=some (.string (bs user)) from rfl)
    have e10:=(K24.out.head.cell 10).trans (show _=some (.string (bs group)) from rfl)
    have y0:=K24.out.res.peek_ (i:=0) (by omega)
    have y1:=K24.out.res.peek_ (i:=1) (by omega)
    have y2:=K24.out.res.peek_ (i:=2) (by omega)
    have y3:=K24.out.res.peek_ (i:=3) (by omega)
    have y4:=K24.out.res.peek_ (i:=4) (by omega)
    have y5:=K24.out.res.peek_ (i:=5) (by omega)
    have y6:=K24.out.res.peek_ (i:=6) (by omega)
    have y7:=K24.out.res.peek_ (i:=7) (by omega)
    have y8:=K24.out.res.peek_ (i:=8) (by omega)
    have y9:=K24.out.res.peek_ (i:=9) (by omega)
    have y10:=K24.out.res.peek_ (i:=10) (by omega)
    have x0:=K24.out.res.frozen 0
    have x1:=K24.out.res.frozen 1
    have x2:=K24.out.res.frozen 2
    have x3:=K24.out.res.frozen 3
    have x4:=K24.out.res.frozen 4
    have x5:=K24.out.res.frozen 5
    have x6:=K24.out.res.frozen 6
    have x7:=K24.out.res.frozen 7
    have x8:=K24.out.res.frozen 8
    have x9:=K24.out.res.frozen 9
    have x10:=K24.out.res.frozen 10
    simp only [List.getElem?_toArray,List.getElem?_cons_zero,List.getElem?_cons_succ] at ce
    by_cases hq : q24=0
    · rw [hq] at ce
      clear hq
      go_wp2_with fail
      have hF : Blk (((((((((((w24.setCell ⟨w.heap.size,0,none⟩ (.string (bs name))).setCell ⟨w.heap.size,1,none⟩ (.string (bs pre))).setCell ⟨w.heap.size,2,none⟩ (.string (bs link))).setCell ⟨w.heap.size,3,none⟩ (.int .i64 mode)).setCell ⟨w.heap.size,4,none⟩ (.int .i64 uid)).setCell ⟨w.heap.size,5,none⟩ (.int .i64 gid)).setCell ⟨w.heap.size,6,none⟩ (.int .i64 size)).setCell ⟨w.heap.size,7,none⟩ (.int .i64 time)).setCell ⟨w.heap.size,8,none⟩ (.int .u8 type.toNat)).setCell ⟨w.heap.size,9,none⟩ (.string (bs user))).setCell ⟨w.heap.size,10,none⟩ (.string (bs group))) w.heap.size 107 #[(.string (bs name)),(.string (bs pre)),(.string (bs link)),(.int .i64 mode),(.int .i64 uid),(.int .i64 gid),(.int .i64 size),(.int .i64 time),(.int .u8 type.toNat),(.string (bs user)),(.string (bs group))]:=K24.out.res.fill [(.string (bs name)),(.string (bs pre)),(.string (bs link)),(.int .i64 mode),(.int .i64 uid),(.int .i64 gid),(.int .i64 size),(.int .i64 time),(.int .u8 type.toNat),(.string (bs user)),(.string (bs group))] rfl
      have bF : Below w.heap.size w (((((((((((w24.setCell ⟨w.heap.size,0,none⟩ (.string (bs name))).setCell ⟨w.heap.size,1,none⟩ (.string (bs pre))).setCell ⟨w.heap.size,2,none⟩ (.string (bs link))).setCell ⟨w.heap.size,3,none⟩ (.int .i64 mode)).setCell ⟨w.heap.size,4,none⟩ (.int .i64 uid)).setCell ⟨w.heap.size,5,none⟩ (.int .i64 gid)).setCell ⟨w.heap.size,6,none⟩ (.int .i64 size)).setCell ⟨w.heap.size,7,none⟩ (.int .i64 time)).setCell ⟨w.heap.size,8,none⟩ (.int .u8 type.toNat)).setCell ⟨w.heap.size,9,none⟩ (.string (bs user))).setCell ⟨w.heap.size,10,none⟩ (.string (bs group))):=Below.setAll (g:=w.heap.size) (Nat.le_refl _) [(.string (bs name)),(.string (bs pre)),(.string (bs link)),(.int .i64 mode),(.int .i64 uid),(.int .i64 gid),(.int .i64 size),(.int .i64 time),(.int .u8 type.toNat),(.string (bs user)),(.string (bs group))] 0 K24.out.below
      obtain ⟨wz,hwz⟩ : ∃ wz,wz=(((((((((((w24.setCell ⟨w.heap.size,0,none⟩ (.string (bs name))).setCell ⟨w.heap.size,1,none⟩ (.string (bs pre))).setCell ⟨w.heap.size,2,none⟩ (.string (bs link))).setCell ⟨w.heap.size,3,none⟩ (.int .i64 mode)).setCell ⟨w.heap.size,4,none⟩ (.int .i64 uid)).setCell ⟨w.heap.size,5,none⟩ (.int .i64 gid)).setCell ⟨w.heap.size,6,none⟩ (.int .i64 size)).setCell ⟨w.heap.size,7,none⟩ (.int .i64 time)).setCell ⟨w.heap.size,8,none⟩ (.int .u8 type.toNat)).setCell ⟨w.heap.size,9,none⟩ (.string (bs user))).setCell ⟨w.heap.size,10,none⟩ (.string (bs group))):=⟨_,rfl⟩
      rw [← hwz] at hF bF ⊢
      have BF:=Lib.hid bF
      clear bF hwz e0 e1 e2 e3 e4 e5 e6 e7 e8 e9 e10 y0 y1 y2 y3 y4 y5 y6 y7 y8 y9 y10 x0 x1 x2 x3 x4 x5 x6 x7 x8 x9 x10
      have c0:=hF.cell 0
      have c1:=hF.cell 1
      have c2:=hF.cell 2
      have c3:=hF.cell 3
      have c4:=hF.cell 4
      have c5:=hF.cell 5
      have c6:=hF.cell 6
      have c7:=hF.cell 7
      have c8:=hF.cell 8
      have c9:=hF.cell 9
      have c10:=hF.cell 10
      simp only [List.getElem?_toArray,List.getElem?_cons_zero,List.getElem?_cons_succ] at c0 c1 c2 c3 c4 c5 c6 c7 c8 c9 c10
      exact bodyPost_ret (v:=.tuple #[.agg #[(.string (bs name)),(.string (bs pre)),(.string (bs link)),(.int .i64 mode),(.int .i64 uid),(.int .i64 gid),(.int .i64 size),(.int .i64 time),(.int .u8 type.toNat),(.string (bs user)),(.string (bs group))],.int .i64 0]) (by simp [results,Tryz.results103,go_sem,c0,c1,c2,c3,c4,c5,c6,c7,c8,c9,c10]) rfl ⟨.inl ⟨⟨name,pre,link,mode,uid,gid,size,time,type,user,group⟩,⟨HVn.out,HVpre.out,HVlink.out,HVmode.out,HVuid.out,HVgid.out,HVsize.out,HVtime.out,HVuser.out,HVgroup.out⟩,rfl⟩,BF.out⟩
    · have hq1 : (q24 == 0)=false:=beq_eq_false_iff_ne.2 hq
      have hq2 : (q24 != 0)=true:=by simp [hq]
      have HQ:=Lib.hid hq
      clear hq
      go_wp2_with fail
      refine wp_region_G (S:=fun W => Eye W W0.heap.size [] q24∧HasBlk W w.heap.size 107 11∧Below w.heap.size w W) (by kernel_rfl) ⟨K24.out.eye,K24.out.res,K24.out.below.drew⟩ ?_
      refine wpG_take (i:=0) (v:=?vh241) rfl (by kernel_rfl) (by kernel_rfl) (by kernel_rfl) (fun _ _ _ h => h) (Or.inl ⟨by rfl,?hyh241⟩) ?resth241
      case hyh241 => (intro W hSw;left;(try dsimp only at hSw);go_simp;try with_reducible rfl)
      simp only [Act.put,List.setIfInBounds_toArray,List.set_cons_zero,List.set_cons_succ,List.getElem_toArray,List.getElem_cons_zero,List.getElem_cons_succ]
      refine wpG_take (i:=1) (v:=?vh242) rfl (by kernel_rfl) (by kernel_rfl) (by kernel_rfl) (fun _ _ _ h => h) (Or.inl ⟨by rfl,?hyh242⟩) ?resth242
      case hyh242 => (intro W hSw;left;(try dsimp only at hSw);go_simp;try with_reducible rfl)
      simp only [Act.put,List.setIfInBounds_toArray,List.set_cons_zero,List.set_cons_succ,List.getElem_toArray,List.getElem_cons_zero,List.getElem_cons_succ]
      refine wpG_take (i:=2) (v:=?vh243) rfl (by kernel_rfl) (by kernel_rfl) (by kernel_rfl) (fun _ _ _ h => h) (Or.inl ⟨by rfl,?hyh243⟩) ?resth243
      case hyh243 => (intro W hSw;left;(try dsimp only at hSw);go_simp;try with_reducible rfl)
      simp only [Act.put,List.setIfInBounds_toArray,List.set_cons_zero,List.set_cons_succ,List.getElem_toArray,List.getElem_cons_zero,List.getElem_cons_succ]
      refine wpG_take (i:=3) (v:=?vh244) rfl (by kernel_rfl) (by kernel_rfl) (by kernel_rfl) (fun _ _ _ h => h) (Or.inl ⟨by rfl,?hyh244⟩) ?resth244
      case hyh244 => (intro W hSw;left;(try dsimp only at hSw);go_simp;try with_reducible rfl)
      simp only [Act.put,List.setIfInBounds_toArray,List.set_cons_zero,List.set_cons_succ,List.getElem_toArray,List.getElem_cons_zero,List.getElem_cons_succ]
      refine wpG_take (i:=4) (v:=?vh245) rfl (by kernel_rfl) (by kernel_rfl) (by kernel_rfl) (fun _ _ _ h => h) (Or.inl ⟨by rfl,?hyh245⟩) ?resth245
      case hyh245 => (intro W hSw;left;(try dsimp only at hSw);have cw:=hSw.1.cell 1;simp only [List.getElem?_toArray,List.getElem?_cons_zero,List.getElem?_cons_succ] at cw;go_simp;try with_reducible rfl)
      simp only [Act.put,List.setIfInBounds_toArray,List.set_cons_zero,List.set_cons_succ,List.getElem_toArray,List.getElem_cons_zero,List.getElem_cons_succ]
      clear ce e0 e1 e2 e3 e4 e5 e6 e7 e8 e9 e10 y0 y1 y2 y3 y4 y5 y6 y7 y8 y9 y10 x0 x1 x2 x3 x4 x5 x6 x7 x8 x9 x10
      refine wpG_one (i:=5) (by kernel_rfl) rfl (fun Wb hb hS K hK => ?_)
      have y0:=hS.2.1.peek_ (i:=0) (by omega);have x0:=hS.2.1.frozen 0
      have y1:=hS.2.1.peek_ (i:=1) (by omega);have x1:=hS.2.1.frozen 1
      have y2:=hS.2.1.peek_ (i:=2) (by omega);have x2:=hS.2.1.frozen 2
      have y3:=hS.2.1.peek_ (i:=3) (by omega);have x3:=hS.2.1.frozen 3
      have y4:=hS.2.1.peek_ (i:=4) (by omega);have x4:=hS.2.1.frozen 4
      have y5:=hS.2.1.peek_ (i:=5) (by omega);have x5:=hS.2.1.frozen 5
      have y6:=hS.2.1.peek_ (i:=6) (by omega);have x6:=hS.2.1.frozen 6
      have y7:=hS.2.1.peek_ (i:=7) (by omega);have x7:=hS.2.1.frozen 7
      have y8:=hS.2.1.peek_ (i:=8) (by omega);have x8:=hS.2.1.frozen 8
      have y9:=hS.2.1.peek_ (i:=9) (by omega);have x9:=hS.2.1.frozen 9
      have y10:=hS.2.1.peek_ (i:=10) (by omega);have x10:=hS.2.1.frozen 10
      go_simp
      clear y0 y1 y2 y3 y4 y5 y6 y7 y8 y9 y10 x0 x1 x2 x3 x4 x5 x6 x7 x8 x9 x10
      obtain ⟨WE,hWE⟩ : ∃ WE,WE=setAll Wb w.heap.size 0 [(.string ⟨#[]⟩),(.string ⟨#[]⟩),(.string ⟨#[]⟩),(.int .i64 0),(.int .i64 0),(.int .i64 0),(.int .i64 0),(.int .i64 0),(.int .u8 0),(.string ⟨#[]⟩),(.string ⟨#[]⟩)]:=⟨_,rfl⟩
      have hF:=hS.2.1.fill [(.string ⟨#[]⟩),(.string ⟨#[]⟩),(.string ⟨#[]⟩),(.int .i64 0),(.int .i64 0),(.int .i64 0),(.int .i64 0),(.int .i64 0),(.int .u8 0),(.string ⟨#[]⟩),(.string ⟨#[]⟩)] rfl
      have hE:=Blk.far_setAll (show W0.heap.size≠w.heap.size by have:=hsz.out;omega) [(.string ⟨#[]⟩),(.string ⟨#[]⟩),(.string ⟨#[]⟩),(.int .i64 0),(.int .i64 0),(.int .i64 0),(.int .i64 0),(.int .i64 0),(.int .u8 0),(.string ⟨#[]⟩),(.string ⟨#[]⟩)] 0 hS.1
      have hB:=Below.setAll (g:=w.heap.size) (Nat.le_refl _) [(.string ⟨#[]⟩),(.string ⟨#[]⟩),(.string ⟨#[]⟩),(.int .i64 0),(.int .i64 0),(.int .i64 0),(.int .i64 0),(.int .i64 0),(.int .u8 0),(.string ⟨#[]⟩),(.string ⟨#[]⟩)] 0 hS.2.2
      rw [← hWE] at hF hE hB
      simp only [setAll,Nat.zero_add,Nat.reduceAdd] at hWE
      rw [← hWE]
      have HFF:=Lib.hid hF
      refine hK.out _ _ ⟨hE,⟨_,rfl,hF⟩,hB⟩ ?_
      clear hK K hS hb hE hB hWE hF
      try simp only [Act.put,List.setIfInBounds_toArray,List.set_cons_zero,List.set_cons_succ,List.getElem_toArray,List.getElem_cons_zero,List.getElem_cons_succ]
      refine wpG_take (i:=6) (v:=?vh246) rfl (by kernel_rfl) (by kernel_rfl) (by kernel_rfl) (fun _ _ _ h => h) (Or.inl ⟨by rfl,?hyh246⟩) ?resth246
      case hyh246 => (intro W hSw;left;(try dsimp only at hSw);go_simp;try with_reducible rfl)
      simp only [Act.put,List.setIfInBounds_toArray,List.set_cons_zero,List.set_cons_succ,List.getElem_toArray,List.getElem_cons_zero,List.getElem_cons_succ]
      refine wpG_done (by kernel_rfl) (fun w8 hb hS => ?_) _
      have hF:=HFF.out.below hb HFF.out.lt
      have BF:=Lib.hid hS.2.2
      clear hb hS HFF
      have c0:=hF.cell 0
      have c1:=hF.cell 1
      have c2:=hF.cell 2
      have c3:=hF.cell 3
      have c4:=hF.cell 4
      have c5:=hF.cell 5
      have c6:=hF.cell 6
      have c7:=hF.cell 7
      have c8:=hF.cell 8
      have c9:=hF.cell 9
      have c10:=hF.cell 10
      simp only [List.getElem?_toArray,List.getElem?_cons_zero,List.getElem?_cons_succ] at c0 c1 c2 c3 c4 c5 c6 c7 c8 c9 c10
      go_wp2_with fail
      exact bodyPost_ret (v:=.tuple #[.agg #[(.string ⟨#[]⟩),(.string ⟨#[]⟩),(.string ⟨#[]⟩),(.int .i64 0),(.int .i64 0),(.int .i64 0),(.int .i64 0),(.int .i64 0),(.int .u8 0),(.string ⟨#[]⟩),(.string ⟨#[]⟩)],.int .i64 q24]) (by simp [results,Tryz.results103,go_sem,c0,c1,c2,c3,c4,c5,c6,c7,c8,c9,c10]) rfl ⟨.inr ⟨q24,HQ.out,rfl⟩,BF.out⟩
end Go.Proofs.YtphmhmdcaafmdaaGreatDoor
