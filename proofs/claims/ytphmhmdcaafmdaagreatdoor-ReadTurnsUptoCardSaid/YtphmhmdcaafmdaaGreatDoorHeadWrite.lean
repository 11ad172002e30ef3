import Derived.Test.YtphmhmdcaafmdaaGreatDoorHeadP
import Derived.Deep.QuietTactic
import Derived.BigQuiet
namespace Go.Proofs.YtphmhmdcaafmdaaGreatDoor
set_option linter.all false
open Go.RowKit
set_option maxRecDepth 100000 in
set_option maxHeartbeats 1000000 in
theorem pen_string (base g : Nat) (l : List UInt8) (h0 : l≠[]) (hl : l.length≤1000000) (w : World) (h : PenAt w base g l) :
    Calls Tryz.prog 62 #[.pointer (some ⟨g,0,none⟩)] w fun e w' => e=.returned (.string (bs l))∧Below base w w':=by
  obtain ⟨h1,p,v,hbk,_,hown⟩:=h
  have hl0 : l.length≠0:=by simpa using h0
  obtain ⟨r,cap,cur,rfl,hbg,hg,hnc,hcm,hcs,htake⟩ : ∃ r cap cur,v=.slice (some ⟨r,0,none⟩) l.length cap∧base≤r∧w.heap[r]?=some (.cells cur 5 (0,0))∧l.length≤cap∧cap≤maxLen∧cur.size=cap * 1∧cur.toList.take (l.length * 1)=Lib.byteCells l:=by
    rcases hown.2 with ⟨_,hz⟩ | ⟨g,cap,cur,hv,q⟩
    · exact absurd hz hl0
    · exact ⟨g,cap,cur,hv,q⟩
  have c1:=hbk.cell 1
  have c1':=hbk.drew.cell 1
  have hSD : (Builtin.unsafeSliceData_ #[27] 203 #[.slice (some ⟨r,0,none⟩) l.length cap]).run Tryz.prog w.drew=.ok (.pointer (some ⟨r,0,none⟩)) w.drew :=
    Lib.run_unsafeSliceData_row _ _ _ _ _ _ (by omega)
  have hUS : (Builtin.unsafeString_ #[203,3] 9 #[.pointer (some ⟨r,0,none⟩),.int .i64 l.length]).run Tryz.prog w.drew=.ok (.string (bs l)) (w.drew.freeze ⟨r,0,none⟩ l.length):=by
    refine Lib.run_unsafeString_row w.drew 203 3 9 5 Tryz.underlying203 (by kernel_rfl) r cur.size (by have hg' : w.drew.heap[r]?=some (.cells cur 5 (0,0)):=hg;simp [World.shape?,hg']) l h0 (by omega) (by unfold maxLen at hcm;omega) ?_
    intro j x hx
    have:=hown.cells (g:=r) rfl j (.int .u8 x.toNat) (by simp [Lib.byteCells,hx])
    exact this
  have HF:=Lib.hid (Lib.below_freeze (Below.drew (Below.refl base w)) (p:=⟨r,0,none⟩) hbg l.length)
  clear hown htake hg
  generalize bs l=L at *
  go_enter Tryz.func62,Tryz.ntmps62
  go_wp2_with fail
  go_region
  all_goals (go_wp2;go_ret;exact ⟨rfl,HF.out⟩)
def headCells (h : PHead) : Array Value:=#[.string (bs h.name),.string (bs h.pre),.string (bs h.link),.int .i64 h.mode,.int .i64 h.uid,.int .i64 h.gid,.int .i64 h.size,.int .i64 h.time,.int .u8 h.type.toNat,.string (bs h.user),.string (bs h.group)]
def headV (h : PHead) : Value:=.agg (headCells h)
structure HWr (w0 w : World) (G : Nat) (cs : Array Value) (l : List UInt8) : Prop where
  pen : PenAt w G G l
  arg : Blk w w0.heap.size 107 cs
  below : Below w0.heap.size w0 w
  at_ : G=w0.heap.size + 1
theorem HWr.quiet {w0 w w' : World} {G : Nat} {cs : Array Value} {l : List UInt8} (h : HWr w0 w G cs l) (hb : Below w.heap.size w w') : HWr w0 w' G cs l :=
  ⟨h.pen.below hb,h.arg.below hb h.arg.lt,h.below.trans (hb.mono h.below.size),h.at_⟩
theorem HWr.put {w0 w w' : World} {G : Nat} {cs : Array Value} {l m : List UInt8} (h : HWr w0 w G cs l) (hp : PenAt w' G G m) (hb : Below G w w') : HWr w0 w' G cs m :=
  ⟨hp,h.arg.below hb (by have:=h.at_;omega),h.below.trans (hb.mono (by have:=h.at_;omega)),h.at_⟩
theorem conv_one (W : World) (c : UInt8) (g : Nat) (hg : g=W.heap.size) :
    (convert 27 9 (.slice (some ⟨g,0,none⟩) 1 1)).run Tryz.prog (W.alloc (.cells #[.int .u8 c.toNat] 5))=.ok (.string (bs [c])) (W.alloc (.cells #[.int .u8 c.toNat] 5)):=by
  subst hg
  refine run_convert_bytes_back (P:=Tryz.prog) _ 27 9 5 ⟨W.heap.size,0,none⟩ 1 [c] Tryz.underlying27 Tryz.underlying5 Tryz.underlying9 (fun j hj => ?_)
  have hB:=Blk.new W 5 #[.int .u8 c.toNat]
  obtain rfl : j=0:=by simp at hj;omega
  rw [show (⟨W.heap.size,0,none⟩ : Addr).add 0=⟨W.heap.size,0,none⟩ from rfl,hB.cell 0]
  rfl
def typeB : List UInt8:=[48,49,50,53,120]
theorem Type_in (c : UInt8) (h : c∈typeB) (w : World) :
    Calls Tryz.prog 89 #[.string ⟨#[48,49,50,53,120]⟩,.int .u8 c.toNat] w fun e w' => ∃ i : Int,0≤i∧e=.returned (.int .i64 i)∧w=w' :=
  (IndexByte_of typeB c w).mono fun _ _ ⟨h1,h2⟩ => ⟨_,indexByte_mem h,h1,h2⟩
theorem OWrite_bs (N W : Nat) (h1 : 2≤W) (h2 : W≤12) (h3 : N < 8 ^ (W - 1)) (w : World) :
    Calls Tryz.prog 100 #[.int .i64 N,.int .i64 W] w fun e w' => e=.returned (.tuple #[.string (bs (octS N W)),.int .i64 0])∧Below w.heap.size w w':=OWrite_ok N W h1 h2 h3 w
theorem FWrite_fld (l : List UInt8) (W : Nat) (whole : Bool) (h1 : 1≤W) (h2 : W≤512) (h3 : l.length≤fmost W whole) (h4 : (0 : UInt8) ∉ l) (w : World) :
    Calls Tryz.prog 99 #[.string (bs l),.int .i64 W,.bool whole] w fun e w' => e=.returned (.tuple #[.string (bs (fld l W)),.int .i64 0])∧Below w.heap.size w w':=FWrite_ok l W whole h1 h2 h3 h4 w
set_option maxRecDepth 100000 in
set_option maxHeartbeats 4000000 in
theorem HWrite_ok (h : PHead) (hok : HeadOk h) (w : World) :
    Calls Tryz.prog 49 #[headV h] w fun e w' => e=.returned (.tuple #[.string (bs (headW h)),.int .i64 0])∧Below w.heap.size w w':=by
  have hT:=Lib.hid (fun w => Type_in h.type hok.type w)
  have hN:=Lib.hid (fun w => FWrite_fld h.name 100 true (by omega) (by omega) hok.name hok.name0 w)
  have hL:=Lib.hid (fun w => FWrite_fld h.link 100 true (by omega) (by omega) hok.link hok.link0 w)
  have hU:=Lib.hid (fun w => FWrite_fld h.user 32 false (by omega) (by omega) hok.user hok.user0 w)
  have hG:=Lib.hid (fun w => FWrite_fld h.group 32 false (by omega) (by omega) hok.group hok.group0 w)
  have hP:=Lib.hid (fun w => FWrite_fld h.pre 155 true (by omega) (by omega) hok.pre hok.pre0 w)
  have o1:=Lib.hid (fun w => OWrite_bs h.mode 8 (by omega) (by omega) hok.mode w)
  have o2:=Lib.hid (fun w => OWrite_bs h.uid 8 (by omega) (by omega) hok.uid w)
  have o3:=Lib.hid (fun w => OWrite_bs h.gid 8 (by omega) (by omega) hok.gid w)
  have o4:=Lib.hid (fun w => OWrite_bs h.size 12 (by omega) (by omega) hok.size w)
  have o5:=Lib.hid (fun w => OWrite_bs h.time 12 (by omega) (by omega) hok.time w)
  have o6:=Lib.hid (fun w => OWrite_bs (headSum h) 7 (by omega) (by omega) (headSum_lt h) w)
  have hZ:=Lib.hid (fun w => Repeat_byte 0 12 w (by omega))
  have lN:=fld_length hok.name
  have lL:=fld_length hok.link
  have lU:=fld_length (W:=32) (show h.user.length≤32 by have:=hok.user;omega)
  have lG:=fld_length (W:=32) (show h.group.length≤32 by have:=hok.group;omega)
  have lP:=fld_length hok.pre
  have l1:=octS_length h.mode 8 (by omega)
  have l2:=octS_length h.uid 8 (by omega)
  have l3:=octS_length h.gid 8 (by omega)
  have l4:=octS_length h.size 12 (by omega)
  have l5:=octS_length h.time 12 (by omega)
  have l6:=octS_length (headSum h) 7 (by omega)
  have hlB:=headBlank_length hok
  have hS:=Lib.hid (fun w => HSum_any (headBlank h) hlB w)
  have eB : Hid (headBlank h=[] ++ fld h.name 100 ++ octS h.mode 8 ++ octS h.uid 8 ++ octS h.gid 8 ++ octS h.size 12 ++ octS h.time 12 ++ (List.replicate 8 32 ++ [h.type]) ++ fld h.link 100 ++ ustarS ++ fld h.user 32 ++ fld h.group 32 ++ devS ++ fld h.pre 155 ++ List.replicate 12 0):=Lib.hid (by
    simp only [headBlank,headA,headB,List.append_assoc,List.cons_append,List.nil_append])
  have x1 : (bs (headBlank h)).extract 0 148=bs (headA h):=by
    rw [bs_extract,List.drop_zero,headBlank,List.take_append_of_le_length (by rw [headA_length hok];omega),List.take_of_length_le (by rw [headA_length hok];omega)]
  have x2 : (bs (headBlank h)).extract 156 512=bs (headB h):=by
    rw [bs_extract,headBlank,← List.append_assoc,List.drop_append_of_le_length (by simp [headA_length hok]),List.drop_of_length_le (by simp [headA_length hok]),List.nil_append,List.take_of_length_le (by rw [headB_length hok];omega)]
  have fin : Hid (bs (headA h) ++ bs (octS (headSum h) 7) ++ ⟨#[32]⟩ ++ bs (headB h)=bs (headW h)):=Lib.hid (by
    rw [show (⟨#[32]⟩ : ByteArray)=bs [32] from rfl,bs_append,bs_append,bs_append,headW,headSumS]
    simp only [List.append_assoc])
  have zB:=bs_size (headBlank h)
  rw [hlB] at zB
  have zA:=bs_size (headA h)
  rw [headA_length hok] at zA
  have zC:=bs_size (headB h)
  rw [headB_length hok] at zC
  have z6:=bs_size (octS (headSum h) 7)
  rw [l6] at z6
  have hne : headBlank h≠[]:=by intro e;rw [e] at hlB;simp at hlB
  have HB:=Lib.hid (And.intro hlB hne)
  clear hlB hne
  have hcs:=headCells h
  have hS' : Hid (∀ w,Calls Tryz.prog 101 #[.string (bs (headBlank h))] w fun e w' => e=.returned (.tuple #[.int .i64 (headSum h),.int .i64 0])∧w=w'):=hS
  clear hS hcs
  have e8 : Hid ((⟨#[32,32,32,32,32,32,32,32]⟩ : ByteArray) ++ bs [h.type]=bs (List.replicate 8 32 ++ [h.type])):=Lib.hid (by
    rw [show (⟨#[32,32,32,32,32,32,32,32]⟩ : ByteArray)=bs (List.replicate 8 32) from rfl,bs_append])
  have zT:=bs_size [h.type]
  have ct:=conv_one
  unfold headV headCells
  obtain ⟨name,pre,link,mode,uid,gid,size,time,type,user,group⟩:=h
  simp only at *
  clear hok
  obtain ⟨G,hGe⟩ : ∃ G,G=w.heap.size + 1:=⟨_,rfl⟩
  obtain ⟨cs,hcs⟩ : ∃ cs : Array Value,cs=#[.string (bs name),.string (bs pre),.string (bs link),.int .i64 mode,.int .i64 uid,.int .i64 gid,.int .i64 size,.int .i64 time,.int .u8 type.toNat,.string (bs user),.string (bs group)]:=⟨_,rfl⟩
  have hGb : Hid (G=w.heap.size + 1):=Lib.hid hGe
  obtain ⟨W0,hW0⟩ : ∃ W0,W0=(w.alloc (.cells cs 107)).alloc (.cells #[.pointer none,.slice none 0 0,.int .i64 0] 178):=⟨_,rfl⟩
  have H0 : Hid (HWr w W0 G cs []):=Lib.hid (by
    have hA:=(Blk.new w 107 cs).alloc (.cells #[.pointer none,.slice none 0 0,.int .i64 0] 178)
    have hB:=Blk.new (w.alloc (.cells cs 107)) 178 #[.pointer none,.slice none 0 0,.int .i64 0]
    rw [show (w.alloc (.cells cs 107)).heap.size=w.heap.size + 1 by simp,← hGe] at hB
    rw [← hW0] at hA hB
    refine ⟨⟨Nat.le_refl _,none,_,hB,.inl rfl,World.ownsRow_nil _ _ _ _⟩,hA,?_,hGe⟩
    rw [hW0]
    exact ((Below.refl _ w).alloc (Nat.le_refl _) _).alloc (by simp) _)
  have HC:=Lib.hid hcs
  have cell : Hid (∀ (W : World) (l : List UInt8) (i : Nat),HWr w W G cs l→W.cell? ⟨w.heap.size,i,none⟩=cs[i]?):=Lib.hid (fun W l i h => h.arg.cell i)
  have i0 : ∀ w,(Instr.index 181 (.agg #[.int .i64 mode,.int .i64 uid,.int .i64 gid]) (.int .i64 0)).run Tryz.prog w=.ok (.int .i64 mode) w:=fun _ => by kernel_rfl
  have i1 : ∀ w,(Instr.index 181 (.agg #[.int .i64 mode,.int .i64 uid,.int .i64 gid]) (.int .i64 1)).run Tryz.prog w=.ok (.int .i64 uid) w:=fun _ => by kernel_rfl
  have i2 : ∀ w,(Instr.index 181 (.agg #[.int .i64 mode,.int .i64 uid,.int .i64 gid]) (.int .i64 2)).run Tryz.prog w=.ok (.int .i64 gid) w:=fun _ => by kernel_rfl
  have j0 : ∀ w,(Instr.index 182 (.agg #[.int .i64 size,.int .i64 time]) (.int .i64 0)).run Tryz.prog w=.ok (.int .i64 size) w:=fun _ => by kernel_rfl
  have j1 : ∀ w,(Instr.index 182 (.agg #[.int .i64 size,.int .i64 time]) (.int .i64 1)).run Tryz.prog w=.ok (.int .i64 time) w:=fun _ => by kernel_rfl
  rw [hcs] at hW0
  clear hGe
  go_enter Tryz.func49,Tryz.ntmps49
  go_wp2_with fail
  refine (hT.out _).mono ?_
  rintro e w' ⟨i,hi0,rfl,rfl⟩
  have d0 : decide (i < (0 : Int))=false:=decide_eq_false (by omega)
  go_wp2_with fail
  rw [← hGb.out,← hW0]
  have HW0:=Lib.hid hW0
  clear hW0
  refine (hN.out _).mono ?_
  rintro e w1 ⟨rfl,b1⟩
  have K1:=Lib.hid (H0.out.quiet b1)
  clear b1
  go_wp2_with fail
  refine (put_ok G G _ (fld name 100) _ K1.out.pen (by simp only [List.length_append,List.length_replicate,List.length_cons,List.length_nil,lN,lL,lU,lG,lP,l1,l2,l3,l4,l5,ustarS,devS];omega)).mono ?_
  rintro e w2 ⟨rfl,hp2,hb2⟩
  have K2:=Lib.hid (K1.out.put hp2 hb2)
  clear hp2 hb2
  have c3:=(cell.out _ _ 3 K2.out).trans (show cs[3]?=some _ by rw [HC.out];rfl)
  have c4:=(cell.out _ _ 4 K2.out).trans (show cs[4]?=some _ by rw [HC.out];rfl)
  have c5:=(cell.out _ _ 5 K2.out).trans (show cs[5]?=some _ by rw [HC.out];rfl)
  go_wp2_with fail
  refine wp_loop_rounds 4 ?_
  rw [rounds_succ]
  go_wp2_with fail
  refine (o1.out _).mono ?_
  rintro e w6 ⟨rfl,b6⟩
  have K6:=Lib.hid (K2.out.quiet b6)
  clear b6
  go_wp2_with fail
  refine (put_ok G G _ (octS mode 8) _ K6.out.pen (by simp only [List.length_append,List.length_replicate,List.length_cons,List.length_nil,lN,lL,lU,lG,lP,l1,l2,l3,l4,l5,ustarS,devS];omega)).mono ?_
  rintro e w7 ⟨rfl,hp7,hb7⟩
  have K7:=Lib.hid (K6.out.put hp7 hb7)
  clear hp7 hb7
  go_wp2_with fail
  rw [rounds_succ]
  go_wp2_with fail
  refine (o2.out _).mono ?_
  rintro e w8 ⟨rfl,b8⟩
  have K8:=Lib.hid (K7.out.quiet b8)
  clear b8
  go_wp2_with fail
  refine (put_ok G G _ (octS uid 8) _ K8.out.pen (by simp only [List.length_append,List.length_replicate,List.length_cons,List.length_nil,lN,lL,lU,lG,lP,l1,l2,l3,l4,l5,ustarS,devS];omega)).mono ?_
  rintro e w9 ⟨rfl,hp9,hb9⟩
  have K9:=Lib.hid (K8.out.put hp9 hb9)
  clear hp9 hb9
  go_wp2_with fail
  rw [rounds_succ]
  go_wp2_with fail
  refine (o3.out _).mono ?_
  rintro e w10 ⟨rfl,b10⟩
  have K10:=Lib.hid (K9.out.quiet b10)
  clear b10
  go_wp2_with fail
  refine (put_ok G G _ (octS gid 8) _ K10.out.pen (by simp only [List.length_append,List.length_replicate,List.length_cons,List.length_nil,lN,lL,lU,lG,lP,l1,l2,l3,l4,l5,ustarS,devS];omega)).mono ?_
  rintro e w11 ⟨rfl,hp11,hb11⟩
  have K11:=Lib.hid (K10.out.put hp11 hb11)
  clear hp11 hb11
  go_wp2_with fail
  rw [rounds_succ]
  have c12:=(cell.out _ _ 6 K11.out).trans (show cs[6]?=some _ by rw [HC.out];rfl)
  have c13:=(cell.out _ _ 7 K11.out).trans (show cs[7]?=some _ by rw [HC.out];rfl)
  go_wp2_with fail
  refine wp_loop_rounds 3 ?_
  rw [rounds_succ]
  go_wp2_with fail
  refine (o4.out _).mono ?_
  rintro e w14 ⟨rfl,b14⟩
  have K14:=Lib.hid (K11.out.quiet b14)
  clear b14
  go_wp2_with fail
  refine (put_ok G G _ (octS size 12) _ K14.out.pen (by simp only [List.length_append,List.length_replicate,List.length_cons,List.length_nil,lN,lL,lU,lG,lP,l1,l2,l3,l4,l5,ustarS,devS];omega)).mono ?_
  rintro e w15 ⟨rfl,hp15,hb15⟩
  have K15:=Lib.hid (K14.out.put hp15 hb15)
  clear hp15 hb15
  go_wp2_with fail
  rw [rounds_succ]
  go_wp2_with fail
  refine (o5.out _).mono ?_
  rintro e w16 ⟨rfl,b16⟩
  have K16:=Lib.hid (K15.out.quiet b16)
  clear b16
  go_wp2_with fail
  refine (put_ok G G _ (octS time 12) _ K16.out.pen (by simp only [List.length_append,List.length_replicate,List.length_cons,List.length_nil,lN,lL,lU,lG,lP,l1,l2,l3,l4,l5,ustarS,devS];omega)).mono ?_
  rintro e w17 ⟨rfl,hp17,hb17⟩
  have K17:=Lib.hid (K16.out.put hp17 hb17)
  clear hp17 hb17
  go_wp2_with fail
  rw [rounds_succ]
  have c18:=(cell.out _ _ 8 K17.out).trans (show cs[8]?=some _ by rw [HC.out];rfl)
  have ct1:=ct w17 type w17.heap.size rfl
  go_wp2_with fail
  have KA:=Lib.hid (K17.out.quiet ((Below.refl _ _).alloc (Nat.le_refl _) (.cells #[.int .u8 type.toNat] 5)))
  rw [e8.out]
  refine (put_ok G G _ (List.replicate 8 32 ++ [type]) _ KA.out.pen (by simp only [List.length_append,List.length_replicate,List.length_cons,List.length_nil,lN,lL,lU,lG,lP,l1,l2,l3,l4,l5,ustarS,devS];omega)).mono ?_
  rintro e w19 ⟨rfl,hp19,hb19⟩
  have K19:=Lib.hid (KA.out.put hp19 hb19)
  clear hp19 hb19
  have c20:=(cell.out _ _ 2 K19.out).trans (show cs[2]?=some _ by rw [HC.out];rfl)
  go_wp2_with fail
  refine (hL.out _).mono ?_
  rintro e w21 ⟨rfl,b21⟩
  have K21:=Lib.hid (K19.out.quiet b21)
  clear b21
  go_wp2_with fail
  refine (put_ok G G _ (fld link 100) _ K21.out.pen (by simp only [List.length_append,List.length_replicate,List.length_cons,List.length_nil,lN,lL,lU,lG,lP,l1,l2,l3,l4,l5,ustarS,devS];omega)).mono ?_
  rintro e w22 ⟨rfl,hp22,hb22⟩
  have K22:=Lib.hid (K21.out.put hp22 hb22)
  clear hp22 hb22
  go_wp2_with fail
  refine (put_ok G G _ (ustarS) _ K22.out.pen (by simp only [List.length_append,List.length_replicate,List.length_cons,List.length_nil,lN,lL,lU,lG,lP,l1,l2,l3,l4,l5,ustarS,devS];omega)).mono ?_
  rintro e w23 ⟨rfl,hp23,hb23⟩
  have K23:=Lib.hid (K22.out.put hp23 hb23)
  clear hp23 hb23
  have c24:=(cell.out _ _ 9 K23.out).trans (show cs[9]?=some _ by rw [HC.out];rfl)
  go_wp2_with fail
  refine (hU.out _).mono ?_
  rintro e w25 ⟨rfl,b25⟩
  have K25:=Lib.hid (K23.out.quiet b25)
  clear b25
  go_wp2_with fail
  refine (put_ok G G _ (fld user 32) _ K25.out.pen (by simp only [List.length_append,List.length_replicate,List.length_cons,List.length_nil,lN,lL,lU,lG,lP,l1,l2,l3,l4,l5,ustarS,devS];omega)).mono ?_
  rintro e w26 ⟨rfl,hp26,hb26⟩
  have K26:=Lib.hid (K25.out.put hp26 hb26)
  clear hp26 hb26
  have c27:=(cell.out _ _ 10 K26.out).trans (show cs[10]?=some _ by rw [HC.out];rfl)
  go_wp2_with fail
  refine (hG.out _).mono ?_
  rintro e w28 ⟨rfl,b28⟩
  have K28:=Lib.hid (K26.out.quiet b28)
  clear b28
  go_wp2_with fail
  refine (put_ok G G _ (fld group 32) _ K28.out.pen (by simp only [List.length_append,List.length_replicate,List.length_cons,List.length_nil,lN,lL,lU,lG,lP,l1,l2,l3,l4,l5,ustarS,devS];omega)).mono ?_
  rintro e w29 ⟨rfl,hp29,hb29⟩
  have K29:=Lib.hid (K28.out.put hp29 hb29)
  clear hp29 hb29
  go_wp2_with fail
  refine (put_ok G G _ (devS) _ K29.out.pen (by simp only [List.length_append,List.length_replicate,List.length_cons,List.length_nil,lN,lL,lU,lG,lP,l1,l2,l3,l4,l5,ustarS,devS];omega)).mono ?_
  rintro e w30 ⟨rfl,hp30,hb30⟩
  have K30:=Lib.hid (K29.out.put hp30 hb30)
  clear hp30 hb30
  have c31:=(cell.out _ _ 1 K30.out).trans (show cs[1]?=some _ by rw [HC.out];rfl)
  go_wp2_with fail
  refine (hP.out _).mono ?_
  rintro e w32 ⟨rfl,b32⟩
  have K32:=Lib.hid (K30.out.quiet b32)
  clear b32
  go_wp2_with fail
  refine (put_ok G G _ (fld pre 155) _ K32.out.pen (by simp only [List.length_append,List.length_replicate,List.length_cons,List.length_nil,lN,lL,lU,lG,lP,l1,l2,l3,l4,l5,ustarS,devS];omega)).mono ?_
  rintro e w33 ⟨rfl,hp33,hb33⟩
  have K33:=Lib.hid (K32.out.put hp33 hb33)
  clear hp33 hb33
  go_wp2_with fail
  refine (hZ.out _).mono ?_
  rintro e w34 ⟨rfl,b34⟩
  have K34:=Lib.hid (K33.out.quiet b34)
  clear b34
  go_wp2_with fail
  refine (put_ok G G _ (List.replicate 12 0) _ K34.out.pen (by simp only [List.length_append,List.length_replicate,List.length_cons,List.length_nil,lN,lL,lU,lG,lP,l1,l2,l3,l4,l5,ustarS,devS];omega)).mono ?_
  rintro e w35 ⟨rfl,hp35,hb35⟩
  have K35:=Lib.hid (K34.out.put hp35 hb35)
  clear hp35 hb35
  obtain ⟨pz,vz,hbz,_,_⟩:=K35.out.pen.2
  have cz:=hbz.cell 2
  have HZ:=Lib.hid hbz
  clear hbz
  go_wp2_with fail
  refine (pen_string G G _ ?_ ?_ _ K35.out.pen).mono ?_
  · intro e;exact HB.out.2 (eB.out.trans e)
  · have:=HB.out.1;rw [eB.out] at this;omega
  rintro e wy ⟨rfl,hy⟩
  have HY:=Lib.hid (K35.out.below.trans (hy.mono (by have:=K35.out.at_;omega)))
  clear hy
  rw [show _=headBlank ⟨name,pre,link,mode,uid,gid,size,time,type,user,group⟩ from eB.out.symm]
  go_wp2_with fail
  refine (hS'.out _).mono ?_
  rintro e w' ⟨rfl,rfl⟩
  go_wp2_with fail
  refine (o6.out _).mono ?_
  rintro e wv ⟨rfl,hv⟩
  have HV:=Lib.hid (HY.out.trans (hv.mono HY.out.size))
  clear hv
  go_wp2_with fail
  go_quiet (fail)
  go_wp2_with fail
  go_ret2
  exact ⟨ret_si fin.out rfl,below_drewN HV.out _⟩
end Go.Proofs.YtphmhmdcaafmdaaGreatDoor
