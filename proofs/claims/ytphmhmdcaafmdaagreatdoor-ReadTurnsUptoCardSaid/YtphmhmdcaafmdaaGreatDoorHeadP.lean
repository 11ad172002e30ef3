import Derived.Test.YtphmhmdcaafmdaaGreatDoorRecsQ
import Derived.Test.YtphmhmdcaafmdaaGreatDoorFields
import Derived.Lib.Builder
import Derived.Lib.AppendStr
import Derived.Lib.UnsafeStr
import Derived.Shelf.RegionOpenPlain
import Derived.Test.YtphmhmdcaafmdaaGreatDoorOctalB
namespace Go.Proofs.YtphmhmdcaafmdaaGreatDoor
set_option linter.all false
open Go.RowKit
theorem err_cells {P : Program} {w : World} {t : TypeId} {ms : Array (String × TypeId)} {cs : List Value} {s : String} {d : DataW Unit} {p : List MemPlace} {fuel : Nat} (ht : P.underlying t=some (.interface ms))
    (h : DataW.trod (fun _ => ()) P w 0 (fun _ => true) false fuel t cs=some (.iface s d,p)) : ∃ u v,cs=[.iface u v]:=by
  cases fuel with
  | zero => simp [DataW.trod] at h
  | succ fuel =>
    rcases cs with _ | ⟨c,_ | ⟨c2,r⟩⟩
    · simp [DataW.trod,ht] at h
    · cases c with
      | iface u v => exact ⟨u,v,rfl⟩
      | _ => simp [DataW.trod,ht] at h
    · cases c <;> simp [DataW.trod,ht] at h
def ErrIs (w : World) (g : Nat) : Prop:=∃ u v,w.cell? ⟨g,0,none⟩=some (.iface u v)
theorem ErrIs.below {w w' : World} {g : Nat} (h : ErrIs w g) (hb : Below w.heap.size w w') : ErrIs w' g:=by
  obtain ⟨u,v,hc⟩:=h
  have hl : g < w.heap.size:=by
    rcases Nat.lt_or_ge g w.heap.size with h | h
    · exact h
    · simp [World.cell?,Array.getElem?_eq_none h] at hc
  exact ⟨u,v,(hb.cell (p:=⟨g,0,none⟩) hl).trans hc⟩
def Sent (w : World) : Prop:=ErrIs w 1∧ErrIs w 2
theorem Sent.below {w w' : World} (h : Sent w) (hb : Below w.heap.size w w') : Sent w':=⟨h.1.below hb,h.2.below hb⟩
def isSyn (x : String × DataW Unit) : Bool := x.1 == "strconv.ErrSyntax"
def isRng (x : String × DataW Unit) : Bool := x.1 == "strconv.ErrRange"
theorem ErrIs.of_head {W : World} {name : String} {s : String} {d : DataW Unit} {g : Nat} {t : TypeId} {ms : Array (String × TypeId)} (hg : Tryz.prog.globalNamed name=some g) (hty : (Tryz.prog.globals[g]?).map (·.type)=some t) (ht : Tryz.prog.underlying t=some (.interface ms))
    (h : laidMet Tryz.prog [(name,.iface s d)] W) : ErrIs W g:=by
  obtain ⟨ps,⟨g',t',cs,fuel,p,q,hg',ht',hvar,hd,_,_⟩,_⟩:=h
  obtain rfl:=Option.some.inj (hg.symm.trans hg')
  obtain rfl:=Option.some.inj (hty.symm.trans ht')
  obtain ⟨u,v,e⟩:=err_cells ht hd
  have:=World.var?_cell hg hvar 0
  refine ⟨u,v,this.trans ?_⟩
  have e2 : cs=#[.iface u v]:=by rw [← Array.toArray_toList (xs:=cs),e]
  rw [e2]
  rfl
theorem Sent.of_laid {l : List (String × DataW Unit)} {W : World} {s1 s2 : String} {d1 d2 : DataW Unit} (h : laidMetH Tryz.prog l W) (hx : l.filter isSyn = [("strconv.ErrSyntax", .iface s1 d1)]) (hy : l.filter isRng = [("strconv.ErrRange", .iface s2 d2)])
    (n1 : (DataW.iface s1 d1 : DataW Unit).handleName?=none) (n2 : (DataW.iface s2 d2 : DataW Unit).handleName?=none) : Sent W:=by
  have h1:=h.filter isSyn
  have h2:=h.filter isRng
  rw [hx] at h1
  rw [hy] at h2
  refine ⟨ErrIs.of_head (name := "strconv.ErrSyntax") (by kernel_rfl) (t := 132) (by kernel_rfl) Tryz.underlying132 (s := s1) (d := d1) ?_, ErrIs.of_head (name := "strconv.ErrRange") (by kernel_rfl) (t := 132) (by kernel_rfl) Tryz.underlying132 (s := s2) (d := d2) ?_⟩
  · have:=(laidMetH_iff.1 h1).1
    simpa [n1] using this
  · have:=(laidMetH_iff.1 h2).1
    simpa [n2] using this
def atoiV (l : List UInt8) : Int:=match Lib.atoiAll l with | .ok v => v | .«syntax» => 0 | .range => Lib.atoiSat l
theorem Atoi_all (l : List UInt8) (hl : l.length≤200000) (w : World) (hs : Sent w) :
    Calls Tryz.prog 109 #[.string (bs l)] w fun e w' => ∃ ev : Value,e=.returned (.tuple #[.int .i64 (atoiV l),ev])∧Below w.heap.size w w':=by
  have hz:=bs_size l
  obtain ⟨⟨u1,v1,h1⟩,⟨u2,v2,h2⟩⟩:=hs
  unfold atoiV
  cases hc : Lib.atoiAll l with
  | ok v =>
    refine (Tryz.strconv_Atoi_ok (bs l) (by omega) v (by rw [bs_data];exact hc) w).mono fun e w' ⟨q1,q2⟩ => ⟨_,q1,?_⟩
    rcases q2 with rfl | ⟨t,rfl⟩
    · exact Below.refl _ _
    · exact Lib.bytesWorld_below _ _ _
  | «syntax» =>
    exact (Tryz.strconv_Atoi_syntax (bs l) (by omega) (by rw [bs_data];exact hc) _ w h1 (.inr ⟨_,_,rfl⟩)).mono fun e w' ⟨N,q1,_,_,q2⟩ => ⟨_,q1,q2⟩
  | range =>
    exact (Tryz.strconv_Atoi_range (bs l) (by omega) (by rw [bs_data];exact hc) _ w h2 (.inr ⟨_,_,rfl⟩)).mono fun e w' ⟨N,q1,_,_,q2⟩ => by
      rw [bs_data] at q1
      exact ⟨_,q1,q2⟩
end Go.Proofs.YtphmhmdcaafmdaaGreatDoor
namespace Go.Proofs.YtphmhmdcaafmdaaGreatDoor
set_option linter.all false
section
open Go.RowKit
theorem pen_lies : liesAt Tryz.prog Tryz.prog.depth 178 (3 / Tryz.prog.cellsOf 178) 0 129 1=true:=by kernel_rfl
theorem builder_size : (Tryz.prog.info? 129).map (·.size)=some 2:=by kernel_rfl
set_option maxRecDepth 100000 in
set_option maxHeartbeats 400000 in
theorem penCheck_used (g : Nat) (s e : Value) (w : World) (h : Blk w g 178 #[.pointer (some ⟨g,0,none⟩),s,e]) :
    Calls Tryz.prog 117 #[.pointer (some ⟨g,0,none⟩)] w fun x w' => x=.returned (.tuple #[])∧w'=w:=by
  obtain ⟨j,hj,hjs⟩:=Option.map_eq_some_iff.1 builder_size
  have c0:=h.cell 0
  have t0:=Tryz.underlying127
  have u0:=run_underlying Tryz.underlying127
  go_enter Tryz.func117,Tryz.ntmps117
  go_wp2
  rw [Lib.run_neq_ptr_same w _ t0 hj]
  simp only [Result.andThen]
  try rw [Oper.upon_value]
  go_wp2
  go_end0
  exact ⟨rfl,rfl⟩
set_option maxRecDepth 100000 in
set_option maxHeartbeats 1000000 in
theorem penCheck_fresh (g : Nat) (s e : Value) (w : World) (h : Blk w g 178 #[.pointer none,s,e]) :
    Calls Tryz.prog 117 #[.pointer (some ⟨g,0,none⟩)] w fun x w' => x=.returned (.tuple #[])∧w'=w.setCell ⟨g,0,none⟩ (.pointer (some ⟨g,0,none⟩)):=by
  obtain ⟨j,hj,hjs⟩:=Option.map_eq_some_iff.1 builder_size
  have c0:=h.cell 0
  have z0:=h.frozen 0
  have hsh : w.shape? g=some (178,3):=by unfold Blk at h;simp [World.shape?,h]
  have t0:=Tryz.underlying127
  have u0:=run_underlying Tryz.underlying127
  go_enter Tryz.func117,Tryz.ntmps117
  go_wp2
  rw [Lib.run_to_unsafe w ⟨g,0,none⟩ t0 Tryz.underlying265 hj (by rw [hjs];decide) hsh (Nat.zero_lt_succ 2)]
  simp only [Result.andThen]
  rw [Oper.upon_value]
  go_wp2
  rw [run_callFunc_extern Tryz.func168 (by kernel_rfl) (by kernel_rfl) (e:=Extern.AbiNoEscape.same) (by kernel_rfl)]
  rw [Lib.run_noEscape]
  simp only [Result.andThen]
  rw [Oper.upon_value]
  go_wp2
  rw [Lib.run_from_unsafe w ⟨g,0,none⟩ Tryz.underlying265 t0 hj hsh pen_lies]
  simp only [Result.andThen]
  rw [Oper.upon_value]
  go_wp2
  go_end0
  exact ⟨rfl,rfl⟩
  all_goals kernel_rfl
def PenAt (w : World) (base g : Nat) (l : List UInt8) : Prop :=
  base≤g∧∃ p v,Blk w g 178 #[.pointer p,v,.int .i64 0]∧(p=none∨p=some ⟨g,0,none⟩)∧w.ownsRow base 5 1 v l.length (Lib.byteCells l)
theorem PenAt.below {w w' : World} {base g : Nat} {l : List UInt8} (h : PenAt w base g l) (hb : Below w.heap.size w w') : PenAt w' base g l:=by
  obtain ⟨h1,p,v,h2,h3,h4⟩:=h
  refine ⟨h1,p,v,h2.below hb h2.lt,h3,?_⟩
  refine h4.kept (row:=none) ⟨hb.os,hb.tape,hb.output,hb.size,fun k hk _ => hb.block k hk⟩ ?_
  rcases hv : v.ownBlock with _ | b
  · exact .inl rfl
  · exact .inr (by simp)
theorem pen_ne : 5≠178:=by decide
theorem PenAt.lt {w : World} {base g : Nat} {l : List UInt8} (h : PenAt w base g l) : base≤w.heap.size:=by
  obtain ⟨h1,p,v,h2,_⟩:=h
  have:=h2.lt
  omega
theorem pen_kept {w : World} {base g : Nat} {v : Value} {n : Nat} {xs : List Value} {cs : Array Value} (hown : w.ownsRow base 5 1 v n xs) (hg : Blk w g 178 cs) (i : Nat) (u : Value) : (w.setCell ⟨g,i,none⟩ u).ownsRow base 5 1 v n xs :=
  hown.kept (row:=some g) ⟨rfl,rfl,rfl,by simp [World.setCell],fun k _ hk => Below.heap_setCell _ _ _ _ (fun e => hk (by simp [e]))⟩ (.inr (own_blk_ne hown hg pen_ne))
set_option maxRecDepth 100000 in
theorem penCheck_any (base g : Nat) (l : List UInt8) (w : World) (h : PenAt w base g l) :
    Calls Tryz.prog 117 #[.pointer (some ⟨g,0,none⟩)] w fun x w' => x=.returned (.tuple #[])∧(∃ v,Blk w' g 178 #[.pointer (some ⟨g,0,none⟩),v,.int .i64 0]∧w'.ownsRow base 5 1 v l.length (Lib.byteCells l))∧Below base w w':=by
  obtain ⟨h1,p,v,h2,h3,h4⟩:=h
  rcases h3 with rfl | rfl
  · refine (penCheck_fresh g v (.int .i64 0) w h2).mono ?_
    rintro x w' ⟨rfl,rfl⟩
    refine ⟨rfl,⟨v,?_,pen_kept h4 h2 0 _⟩,(Below.refl _ _).setCell (p:=⟨g,0,none⟩) h1 _⟩
    have:=Blk.set_ h2 0 (.pointer (some ⟨g,0,none⟩))
    simpa using this
  · refine (penCheck_used g v (.int .i64 0) w h2).mono ?_
    rintro x w' ⟨rfl,rfl⟩
    exact ⟨rfl,⟨v,h2,h4⟩,Below.refl _ _⟩
set_option maxRecDepth 100000 in
set_option maxHeartbeats 1000000 in
theorem penWrite_any (base g : Nat) (l s : List UInt8) (w : World) (h : PenAt w base g l) (hlen : l.length + s.length≤1000000) :
    Calls Tryz.prog 60 #[.pointer (some ⟨g,0,none⟩),.string (bs s)] w fun x w' => x=.returned (.tuple #[.int .i64 s.length,.nilIface])∧PenAt w' base g (l ++ s)∧Below base w w':=by
  obtain ⟨i0,hi,hz0,hz1,hz2⟩:=info_parts u8_info
  have hz:=bs_size s
  have hbl:=h.lt
  have hbg:=h.1
  have hC:=Lib.hid (penCheck_any base g l w h)
  have hbc:=Lib.hid (show Lib.strCells (bs s)=Lib.byteCells s by rw [Lib.strCells_eq,bs_data])
  generalize bs s=S at *
  clear h
  go_enter Tryz.func60,Tryz.ntmps60
  go_wp2_with fail
  refine hC.out.mono ?_
  rintro x w1 ⟨rfl,⟨v,hbk,hown⟩,hb1⟩
  have c0:=hbk.cell 0
  have c1:=hbk.cell 1
  go_wp2_with (at_builtin;refine Lib.wpList_append_own_string _ rfl _ _ 27 9 rfl base 5 i0 Tryz.underlying27 Tryz.underlying9 hi hz0 hz1 hz2 _ _ _ rfl hown S rfl ?c3 ?c4 ?c5 ?_)
  case c3 => unfold maxLen;omega
  case c4 => omega
  case c5 => have:=hb1.size;omega
  intro v' w2 hown' hgrow _
  have hne : v.ownBlock≠some g:=own_blk_ne hown hbk pen_ne
  have hb2 : Blk w2 g 178 #[.pointer (some ⟨g,0,none⟩),v,.int .i64 0]:=hbk.grown hgrow (fun e => hne e.symm)
  have d0:=hb2.cell 0
  have d1:=hb2.cell 1
  have f1:=hb2.frozen 1
  obtain ⟨ao,n',cap,rfl⟩ : ∃ ao n' cap,v'=.slice ao n' cap:=by
    rcases hown'.2 with ⟨hv,_⟩ | ⟨g,cap,cur,hv,_⟩
    · exact ⟨_,_,_,hv⟩
    · exact ⟨_,_,_,hv⟩
  go_wp2
  go_ret2
  refine ⟨rfl,⟨hbg,some ⟨g,0,none⟩,.slice ao n' cap,?_,.inr rfl,?_⟩,?_⟩
  · have:=Blk.set_ hb2 1 (.slice ao n' cap)
    simpa using this
  · have:=pen_kept hown' hb2 1 (.slice ao n' cap)
    rw [hbc.out] at this
    rw [Lib.byteCells_append,List.length_append]
    exact this
  · exact (hb1.grown hgrow (by have:=hb1.size;omega) (fun k hk => (hown.lt k hk).1)).setCell (p:=⟨g,1,none⟩) hbg _
set_option maxRecDepth 100000 in
set_option maxHeartbeats 400000 in
theorem put_ok (base g : Nat) (l s : List UInt8) (w : World) (h : PenAt w base g l) (hlen : l.length + s.length≤1000000) :
    Calls Tryz.prog 98 #[.pointer (some ⟨g,0,none⟩),.string (bs s),.int .i64 0] w fun x w' => x=.returned (.tuple #[])∧PenAt w' base g (l ++ s)∧Below base w w':=by
  have h':=h
  obtain ⟨h1,p,v,h2,h3,h4⟩:=h
  have c0:=h2.cell 0
  have c2:=h2.cell 2
  have f2:=h2.frozen 2
  have hP : PenAt (w.setCell ⟨g,2,none⟩ (.int .i64 0)) base g l:=⟨h1,p,v,by have:=Blk.set_ h2 2 (.int .i64 0);simpa using this,h3,pen_kept h4 h2 2 _⟩
  have hC:=Lib.hid (penWrite_any base g l s _ hP hlen)
  have hB:=Lib.hid ((Below.refl base w).setCell (p:=⟨g,2,none⟩) h1 (.int .i64 0))
  clear h2 h3 h4 hP h'
  generalize bs s=S at *
  go_enter Tryz.func98,Tryz.ntmps98
  go_wp2_with fail
  refine hC.out.mono ?_
  rintro x w1 ⟨rfl,hp,hb⟩
  go_wp2_with fail
  refine bodyPost_end (results_none rfl _ _ _) rfl ?_
  exact ⟨rfl,hp,hB.out.trans hb⟩
end
section
open Go.RowKit
def hsum (l : List UInt8) : Nat→Nat
  | 0 => 256
  | k + 1 => hsum l k + (if k < 148∨156≤k then (l.getD k 0).toNat else 0)
theorem hsum_bd (l : List UInt8) (k : Nat) : hsum l k≤256 + 255 * k:=by
  induction k with
  | zero => simp [hsum]
  | succ k ih =>
    have:=(l.getD k 0).toNat_lt
    rw [hsum]
    split <;> omega
set_option maxRecDepth 100000 in
set_option maxHeartbeats 400000 in
theorem HSum_any (l : List UInt8) (h : l.length=512) (w : World) :
    Calls Tryz.prog 101 #[.string (bs l)] w fun e w' => e=.returned (.tuple #[.int .i64 (hsum l 512),.int .i64 0])∧w=w':=by
  have hz:=bs_size l
  have hget:=Lib.hid (fun (k : Nat) (hk : k < (bs l).size) => bs_get l k hk)
  obtain ⟨N,hN⟩ : ∃ N,N=512:=⟨_,rfl⟩
  rw [h,← hN] at hz
  have e0 : ((N : Int) != 512)=false:=by rw [hN];rfl
  have e1 : (N : Int)=512:=by omega
  have HN:=Lib.hid hN
  have hN2 : N≤512:=by omega
  clear hN h
  generalize bs l=bl at *
  go_enter Tryz.func101,Tryz.ntmps101
  go_wp2
  go_loop [4,11] (fun t i => ∃ k : Nat,k≤N∧i=.int .i64 k∧t=.int .i64 (hsum l k)) (fun _ i => N - (intOf i).toNat)
  case atStart => exact ⟨0,Nat.zero_le _,rfl,rfl⟩
  case round =>
    obtain ⟨k,hk,rfl,rfl⟩:=hrel
    have hbd:=hsum_bd l k
    by_cases hlt : k < N
    · have hkl : k < bl.size:=by omega
      obtain ⟨c,hc,hc1,hc2⟩ : ∃ c : Nat,(bl[k].toNat : Int)=c∧c=(l.getD k 0).toNat∧c < 256:=⟨_,rfl,by rw [hget.out k hkl],bl[k].toNat_lt⟩
      by_cases hin : k < 148∨156≤k
      · have HS:=Lib.hid (show hsum l (k + 1)=hsum l k + c by rw [hsum,if_pos hin,hc1])
        clear hc1
        generalize hsum l k=q at *
        rcases hin with hin | hin
        · go_wp2
          go_round
          case rel => exact ⟨k + 1,by omega,by go_num,by rw [HS.out];go_num⟩
          case measure => simp [intOf];omega
        · have n1 : ¬ k < 148:=by omega
          go_wp2
          go_round
          case rel => exact ⟨k + 1,by omega,by go_num,by rw [HS.out];go_num⟩
          case measure => simp [intOf];omega
      · have HS:=Lib.hid (show hsum l (k + 1)=hsum l k by rw [hsum,if_neg hin];rfl)
        have n1 : ¬ k < 148:=by omega
        have n2 : ¬ 156≤k:=by omega
        clear hc1 hin
        generalize hsum l k=q at *
        go_wp2
        go_round
        case rel => exact ⟨k + 1,by omega,by go_num,by rw [HS.out]⟩
        case measure => simp [intOf];omega
    · obtain rfl : k=N:=by omega
      go_wp2
      go_ret2
      exact ⟨by rw [HN.out];rfl,rfl⟩
end
section
open Go.RowKit
structure PHead where
  name : List UInt8
  pre : List UInt8
  link : List UInt8
  mode : Nat
  uid : Nat
  gid : Nat
  size : Nat
  time : Nat
  type : UInt8
  user : List UInt8
  group : List UInt8
structure HeadOk (h : PHead) : Prop where
  name : h.name.length≤100
  name0 : (0 : UInt8) ∉ h.name
  pre : h.pre.length≤155
  pre0 : (0 : UInt8) ∉ h.pre
  link : h.link.length≤100
  link0 : (0 : UInt8) ∉ h.link
  mode : h.mode < 2097152
  uid : h.uid < 2097152
  gid : h.gid < 2097152
  size : h.size < 8589934592
  time : h.time < 8589934592
  type : h.type∈[48,49,50,53,(120 : UInt8)]
  user : h.user.length≤31
  user0 : (0 : UInt8) ∉ h.user
  group : h.group.length≤31
  group0 : (0 : UInt8) ∉ h.group
def fld (l : List UInt8) (W : Nat) : List UInt8:=l ++ List.replicate (W - l.length) 0
theorem fld_length {l : List UInt8} {W : Nat} (h : l.length≤W) : (fld l W).length=W:=by simp [fld];omega
theorem octS_length (N W : Nat) (h : 1≤W) : (octS N W).length=W:=by simp [octS,low_length];omega
def headA (h : PHead) : List UInt8:=fld h.name 100 ++ (octS h.mode 8 ++ (octS h.uid 8 ++ (octS h.gid 8 ++ (octS h.size 12 ++ octS h.time 12))))
def ustarS : List UInt8:=[117,115,116,97,114,0,48,48]
def devS : List UInt8:=[48,48,48,48,48,48,48,0,48,48,48,48,48,48,48,0]
def headB (h : PHead) : List UInt8:=h.type :: (fld h.link 100 ++ (ustarS ++ (fld h.user 32 ++ (fld h.group 32 ++ (devS ++ (fld h.pre 155 ++ List.replicate 12 0))))))
theorem headA_length {h : PHead} (hok : HeadOk h) : (headA h).length=148:=by
  simp [headA,fld_length hok.name,octS_length]
theorem headB_length {h : PHead} (hok : HeadOk h) : (headB h).length=356:=by
  simp [headB,fld_length hok.link,fld_length (show h.user.length≤32 by have:=hok.user;omega),fld_length (show h.group.length≤32 by have:=hok.group;omega),fld_length hok.pre,ustarS,devS]
def headBlank (h : PHead) : List UInt8:=headA h ++ (List.replicate 8 32 ++ headB h)
def headSum (h : PHead) : Nat:=hsum (headBlank h) 512
def headSumS (h : PHead) : List UInt8:=octS (headSum h) 7 ++ [32]
def headW (h : PHead) : List UInt8:=headA h ++ (headSumS h ++ headB h)
theorem headSum_lt (h : PHead) : headSum h < 262144:=by have:=hsum_bd (headBlank h) 512;unfold headSum;omega
theorem headSumS_length (h : PHead) : (headSumS h).length=8:=by simp [headSumS,octS_length]
theorem headBlank_length {h : PHead} (hok : HeadOk h) : (headBlank h).length=512:=by simp [headBlank,headA_length hok,headB_length hok]
theorem headW_length {h : PHead} (hok : HeadOk h) : (headW h).length=512:=by simp [headW,headA_length hok,headB_length hok,headSumS_length]
end
section
open Go.RowKit
def sumF (l : List UInt8) : List UInt8:=(l.drop 148).take 7
theorem sumF_length {l : List UInt8} (h : l.length=512) : (sumF l).length=7:=by simp [sumF,h]
def sumOk (l : List UInt8) : Prop:=octRead (sumF l)=((hsum l 512 : Int),0)∧l[155]?=some 32
end
end Go.Proofs.YtphmhmdcaafmdaaGreatDoor
