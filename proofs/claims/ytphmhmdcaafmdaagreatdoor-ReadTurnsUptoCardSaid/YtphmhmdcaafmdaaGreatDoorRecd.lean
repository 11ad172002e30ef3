import Derived.Test.YtphmhmdcaafmdaaGreatDoorRawW
import Derived.Test.YtphmhmdcaafmdaaGreatDoorFields
import Derived.Test.YtphmhmdcaafmdaaGreatDoorMetaS
import Derived.Deep.RegionHeld3
import Derived.Shelf.Strings.SlTrimAscii
namespace Go.Proofs.YtphmhmdcaafmdaaGreatDoor
set_option linter.all false
section
open Go.RowKit
structure RecS where
  key : List UInt8
  value : List UInt8
def recV (r : RecS) : Value:=.agg #[.string (bs r.key),.string (bs r.value)]
structure RecOk (r : RecS) : Prop where
  k1 : 1≤r.key.length
  k2 : r.key.length≤60
  v1 : r.value.length≤500
  eq : (61 : UInt8) ∉ r.key
  nl : (10 : UInt8) ∉ r.key
  ascii : ∀ b∈r.key,b.toNat < 128
  nul : (0 : UInt8) ∉ r.value
theorem ContainsAny_no (l : List UInt8) (h1 : (61 : UInt8) ∉ l) (h2 : (10 : UInt8) ∉ l) (ha : ∀ b∈l,b.toNat < 128) (hl : l.length≤1000) (w : World) :
    Calls Tryz.prog 201 #[.string (bs l),.string ⟨#[61,10]⟩] w fun e w' => e=.returned (.bool false)∧Below w.heap.size w w':=by
  refine (Tryz.strings_ContainsAny_laid (bs l) ⟨#[61,10]⟩ w (by rw [bs_size];omega) (by decide) (fun j b hb => ha b (by rw [bs_data] at hb;exact List.mem_of_getElem? hb)) (fun j b hb => ?_)).mono fun e w' ⟨h3,h4⟩ => ⟨?_,h4⟩
  · have : b∈[(61 : UInt8),10]:=List.mem_of_getElem? hb
    rcases List.mem_cons.1 this with rfl | h
    · decide
    · rw [List.mem_singleton] at h;subst h;decide
  · rw [h3,bs_data]
    have : Lib.containsAny l [61,10]=false:=by
      have hi : ∀ l : List UInt8,(61 : UInt8) ∉ l→(10 : UInt8) ∉ l→Lib.indexAny l [61,10]=-1:=by
        intro l
        induction l with
        | nil => intro _ _;rfl
        | cons b l ih =>
          intro h1 h2
          have e1 : b≠61:=fun e => h1 (by simp [e])
          have e2 : b≠10:=fun e => h2 (by simp [e])
          have e3 : ([61,10] : List UInt8).contains b=false:=by simp [e1,e2]
          rw [Lib.indexAny,e3,ih (fun h => h1 (by simp [h])) (fun h => h2 (by simp [h]))]
          rfl
      unfold Lib.containsAny
      rw [hi l h1 h2];rfl
    exact ret_bool this
set_option maxRecDepth 100000 in
set_option maxHeartbeats 400000 in
theorem RCheck_ok (r : RecS) (h : RecOk r) (w : World) :
    Calls Tryz.prog 146 #[recV r] w fun e w' => e=.returned (.int .i64 0)∧Below w.heap.size w w':=by
  obtain ⟨key,value⟩:=r
  obtain ⟨k1,k2,v1,h1,h2,h3,h4⟩:=h
  simp only at k1 k2 v1 h1 h2 h3 h4
  have z1:=bs_size key
  have z2:=bs_size value
  have hC:=Lib.hid (fun w => ContainsAny_no key h1 h2 h3 (by omega) w)
  have hix:=Lib.hid (indexByte_not h4)
  have hI:=Lib.hid (IndexByte_nul value)
  rw [hix.out] at hI
  have d1 : decide ((key.length : Int) < 1)=false:=decide_eq_false (by omega)
  have d2 : decide (60 < (key.length : Int))=false:=decide_eq_false (by omega)
  have d3 : decide (500 < (value.length : Int))=false:=decide_eq_false (by omega)
  clear h1 h2 h3 h4 hix
  unfold recV
  have hB0:=Blk.new w 174 #[.string (bs key),.string (bs value)]
  have hv0 : ∀ {w1 : World},Below (w.alloc (.cells #[.string (bs key),.string (bs value)] 174)).heap.size (w.alloc (.cells #[.string (bs key),.string (bs value)] 174)) w1→w1.cell? ⟨w.heap.size,1,none⟩=some (.string (bs value)):=fun hb => (hb.cell (p:=⟨w.heap.size,1,none⟩) (by simp)).trans (hB0.cell 1)
  have HV:=@hv0
  clear hv0 hB0
  go_enter Tryz.func146,Tryz.ntmps146
  go_wp2_with fail
  refine (hC.out _).mono ?_
  rintro e w1 ⟨rfl,b1⟩
  have hv:=HV b1
  have B1:=Lib.hid b1
  clear b1
  go_wp2_with fail
  refine (hI.out _).mono ?_
  rintro e w' ⟨rfl,rfl⟩
  go_wp2_with fail
  go_ret
  exact ⟨rfl,((Below.refl _ w).alloc (Nat.le_refl _) _).trans (B1.out.mono (by simp))⟩
def restR (r : RecS) : List UInt8:=32 :: (r.key ++ 61 :: (r.value ++ [10]))
def recN (R : Nat) : Nat:=if R≤8 then R + 1 else if R≤97 then R + 2 else R + 3
def recT (r : RecS) : List UInt8:=Lib.decDigits (recN (restR r).length) ++ restR r
theorem dlen1 (n : Nat) (h : n < 10) : (Lib.decDigits n).length=1:=by rw [dec_small h];rfl
theorem dlen2 (n : Nat) (h1 : 10≤n) (h2 : n < 100) : (Lib.decDigits n).length=2:=by rw [dec_big (by omega),List.length_append,dlen1 _ (by omega)];rfl
theorem dlen3 (n : Nat) (h1 : 100≤n) (h2 : n < 1000) : (Lib.decDigits n).length=3:=by rw [dec_big (by omega),List.length_append,dlen2 _ (by omega) (by omega)];rfl
theorem dlen_cases (n : Nat) (h2 : n < 1000) : (n < 10∧(Lib.decDigits n).length=1)∨(10≤n∧n < 100∧(Lib.decDigits n).length=2)∨(100≤n∧(Lib.decDigits n).length=3):=by
  by_cases h : n < 10
  · exact .inl ⟨h,dlen1 n h⟩
  · by_cases h' : n < 100
    · exact .inr (.inl ⟨by omega,h',dlen2 n (by omega) h'⟩)
    · exact .inr (.inr ⟨by omega,dlen3 n (by omega) h2⟩)
theorem recN_eq (R : Nat) (h : R≤700) : recN R=R + (Lib.decDigits (recN R)).length∧R + 1≤recN R∧recN R≤R + 3:=by
  have hle : recN R≤R + 3∧R + 1≤recN R:=by unfold recN;split;omega;split <;> omega
  have hc:=dlen_cases (recN R) (by omega)
  refine ⟨?_,hle.2,hle.1⟩
  generalize (Lib.decDigits (recN R)).length=d at *
  unfold recN at hc ⊢
  split at hc
  · rename_i h1;rw [if_pos h1];omega
  · rename_i h1
    rw [if_neg h1]
    split at hc
    · rename_i h2;rw [if_pos h2];omega
    · rename_i h2;rw [if_neg h2];omega
theorem recN_no (R n : Nat) (h : R≤700) (h1 : R + 1≤n) (h2 : n < recN R) : n≠R + (Lib.decDigits n).length:=by
  have hc:=dlen_cases n (by unfold recN at h2;split at h2;omega;split at h2 <;> omega)
  generalize (Lib.decDigits n).length=d at *
  unfold recN at h2
  split at h2
  · omega
  · split at h2 <;> omega
set_option maxRecDepth 100000 in
set_option maxHeartbeats 1000000 in
theorem RWrite_ok (r : RecS) (h : RecOk r) (w : World) (h10 : P10 w) :
    Calls Tryz.prog 97 #[recV r] w fun e w' => e=.returned (.tuple #[.string (bs (recT r)),.int .i64 0])∧Below w.heap.size w w':=by
  have hC:=Lib.hid (fun w => RCheck_ok r h w)
  obtain ⟨key,value⟩:=r
  obtain ⟨k1,k2,v1,_,_,_,_⟩:=h
  simp only at k1 k2 v1
  have z1:=bs_size key
  have z2:=bs_size value
  have hrest : (⟨#[32]⟩ : ByteArray) ++ bs key ++ ⟨#[61]⟩ ++ bs value ++ ⟨#[10]⟩=bs (restR ⟨key,value⟩):=by
    rw [show (⟨#[32]⟩ : ByteArray)=bs [32] from rfl,show (⟨#[61]⟩ : ByteArray)=bs [61] from rfl,show (⟨#[10]⟩ : ByteArray)=bs [10] from rfl,bs_append,bs_append,bs_append,bs_append]
    congr 1;simp [restR]
  have zr:=bs_size (restR ⟨key,value⟩)
  have hRl : (restR ⟨key,value⟩).length≤700:=by simp [restR];omega
  obtain ⟨n1,n2,n3⟩:=recN_eq _ hRl
  have hno:=fun n => recN_no (restR ⟨key,value⟩).length n hRl
  have hI:=Lib.hid (fun (n : Nat) (hn : n≤703) w h => Itoa_as n n rfl (by omega) w h)
  have hfin : Hid (bs (Lib.decDigits (recN (restR ⟨key,value⟩).length)) ++ bs (restR ⟨key,value⟩)=bs (recT ⟨key,value⟩)):=Lib.hid (bs_append _ _)
  have HN:=Lib.hid hno
  have N1:=Lib.hid n1
  have ZR:=Lib.hid zr
  have H10:=Lib.hid h10
  clear h10 hno n1
  unfold recV at hC ⊢
  have hB0:=Blk.new w 174 #[.string (bs key),.string (bs value)]
  have hv0 : ∀ {w1 : World},Below (w.alloc (.cells #[.string (bs key),.string (bs value)] 174)).heap.size (w.alloc (.cells #[.string (bs key),.string (bs value)] 174)) w1→w1.cell? ⟨w.heap.size,0,none⟩=some (.string (bs key))∧w1.cell? ⟨w.heap.size,1,none⟩=some (.string (bs value)):=fun hb => ⟨(hb.cell (p:=⟨w.heap.size,0,none⟩) (by simp)).trans (hB0.cell 0),(hb.cell (p:=⟨w.heap.size,1,none⟩) (by simp)).trans (hB0.cell 1)⟩
  have HV:=@hv0
  clear hv0 hB0
  go_enter Tryz.func97,Tryz.ntmps97
  go_wp2_with fail
  refine (hC.out _).mono ?_
  rintro e w1 ⟨rfl,b1⟩
  obtain ⟨c0,c1⟩:=HV b1
  have bb : Below w.heap.size w w1:=((Below.refl _ w).alloc (Nat.le_refl _) _).trans (b1.mono (by simp))
  clear b1
  generalize (restR ⟨key,value⟩).length=R at *
  generalize hbr : bs (restR ⟨key,value⟩)=br at *
  have HBR:=Lib.hid hbr
  clear hbr
  generalize bs key=bk at *
  generalize bs value=bv at *
  generalize hrn : recN R=N at *
  have HRN:=Lib.hid hrn
  clear hrn
  go_wp2_with fail
  go_loopw [6] (fun i wr => ∃ n : Nat,R + 1≤n∧n≤N∧i=.int .i64 n∧Below w.heap.size w wr) (fun i _ => N - (intOf i).toNat)
  case atStart => exact ⟨R + 1,Nat.le_refl _,n2,by go_num,bb⟩
  case round =>
    obtain ⟨n,hn1,hn2,rfl,hb⟩:=hrel
    have hI1:=Lib.hid (hI.out n (by omega) wr (H10.out.below hb))
    have zd:=bs_size (Lib.decDigits n)
    have hdl:=dlen_cases n (by omega)
    have hd4 : (Lib.decDigits n).length≤3:=by omega
    have hge : ∀ {w2 : World},Below wr.heap.size wr w2→Below w.heap.size w w2:=fun h => hb.trans (h.mono hb.size)
    have HGE:=@hge
    clear hge hdl
    by_cases hlt : n < N
    · have hne:=HN.out n hn1 hlt
      have e1 : ((n : Int) == (R : Int) + ((Lib.decDigits n).length : Int))=false:=beq_eq_false_iff_ne.2 (by omega)
      have e2 : ((n : Int) != (R : Int) + ((Lib.decDigits n).length : Int))=true:=bne_iff_ne.2 (by omega)
      have e3 : ¬ (n : Int)=(R : Int) + ((Lib.decDigits n).length : Int):=by omega
      clear hne
      generalize bs (Lib.decDigits n)=bd at *
      generalize (Lib.decDigits n).length=d at *
      go_wp2_with fail
      refine hI1.out.mono ?_
      rintro e w2 ⟨rfl,b2⟩
      go_wp2_with fail
      go_roundw
      case rel => exact ⟨n + 1,by omega,by omega,by go_num,HGE b2⟩
      case measure => simp [intOf];omega
    · obtain rfl : n=N:=by omega
      have hd:=N1.out
      have e1 : ((n : Int) == (R : Int) + ((Lib.decDigits n).length : Int))=true:=beq_iff_eq.2 (by omega)
      have e2 : ((n : Int) != (R : Int) + ((Lib.decDigits n).length : Int))=false:=by rw [bne_eq_false_iff_eq];omega
      have hf:=hfin.out
      have HF:=Lib.hid hf
      have hIq:=Lib.hid (fun w h => hI.out n (by omega) w h)
      clear hd hf hfin hI N1
      generalize bs (Lib.decDigits n)=bd at *
      generalize (Lib.decDigits n).length=d at *
      go_wp2_with fail
      refine hI1.out.mono ?_
      rintro e w2 ⟨rfl,b2⟩
      go_wp2_with fail
      refine (hIq.out _ (H10.out.below (HGE b2))).mono ?_
      rintro e w3 ⟨rfl,b3⟩
      go_wp2_with fail
      go_ret2
      exact ⟨ret_si HF.out rfl,HGE (b2.trans (b3.mono b2.size))⟩
end
section
open Go.RowKit
abbrev SRec (G : Nat) (a b : Int) (bt : ByteArray) (W0 w' : World) : Prop :=
  w'.cell? ⟨G,1,none⟩=some (.int .i64 a)∧w'.cell? ⟨G,2,none⟩=some (.int .i64 b)∧w'.cell? ⟨G,3,none⟩=some (.string bt)∧w'.cell? ⟨G + 1,0,none⟩=some (peek w' ⟨G + 1,0,none⟩)∧w'.cell? ⟨G + 1,1,none⟩=some (peek w' ⟨G + 1,1,none⟩)∧w'.frozen? ⟨G + 1,0,none⟩=false∧w'.frozen? ⟨G + 1,1,none⟩=false∧Below (G + 1) W0 w'∧G + 2≤w'.heap.size
theorem SRec.below {G : Nat} {a b : Int} {bt : ByteArray} {W0 w1 w2 : World} (h : SRec G a b bt W0 w1) (hb : Below w1.heap.size w1 w2) : SRec G a b bt W0 w2:=by
  obtain ⟨h1,h2,h3,h4,h5,h6,h7,h8,h9⟩:=h
  have c:=fun (n : Nat) => hb.cell (p:=⟨G,n,none⟩) (show G < w1.heap.size by omega)
  have d:=fun (n : Nat) => hb.cell (p:=⟨G + 1,n,none⟩) (show G + 1 < w1.heap.size by omega)
  have f:=fun (n : Nat) => hb.frozen (p:=⟨G + 1,n,none⟩) (show G + 1 < w1.heap.size by omega)
  exact ⟨(c 1).trans h1,(c 2).trans h2,(c 3).trans h3,peek_some ((d 0).trans h4),peek_some ((d 1).trans h5),(f 0).trans h6,(f 1).trans h7,h8.trans (hb.mono (by omega)),Nat.le_trans h9 hb.size⟩
theorem SRec.drew {G : Nat} {a b : Int} {bt : ByteArray} {W0 w1 : World} (h : SRec G a b bt W0 w1) : SRec G a b bt W0 w1.drew:=h.below ((Below.refl _ _).drew)
theorem SRec.stored {G : Nat} {a b : Int} {bt : ByteArray} {W0 w1 : World} (u v : Value) (h : SRec G a b bt W0 w1) : SRec G a b bt W0 ((w1.setCell ⟨G + 1,0,none⟩ u).setCell ⟨G + 1,1,none⟩ v):=by
  obtain ⟨h1,h2,h3,h4,h5,h6,h7,h8,h9⟩:=h
  have hb : Below (G + 1) w1 ((w1.setCell ⟨G + 1,0,none⟩ u).setCell ⟨G + 1,1,none⟩ v):=((Below.refl _ w1).setCell (p:=⟨G + 1,0,none⟩) (Nat.le_refl _) u).setCell (p:=⟨G + 1,1,none⟩) (Nat.le_refl _) v
  have c:=fun (n : Nat) => hb.cell (p:=⟨G,n,none⟩) (Nat.lt_succ_self G)
  refine ⟨(c 1).trans h1,(c 2).trans h2,(c 3).trans h3,?_,?_,?_,?_,h8.trans hb,Nat.le_trans h9 hb.size⟩
  · obtain ⟨x,hx⟩:=cell?_setCell_some (w:=w1) (p:=⟨G + 1,0,none⟩) (x:=u) (q:=⟨G + 1,0,none⟩) h4
    obtain ⟨y,hy⟩:=cell?_setCell_some (w:=w1.setCell ⟨G + 1,0,none⟩ u) (p:=⟨G + 1,1,none⟩) (x:=v) (q:=⟨G + 1,0,none⟩) hx
    exact peek_some hy
  · obtain ⟨x,hx⟩:=cell?_setCell_some (w:=w1) (p:=⟨G + 1,0,none⟩) (x:=u) (q:=⟨G + 1,1,none⟩) h5
    obtain ⟨y,hy⟩:=cell?_setCell_some (w:=w1.setCell ⟨G + 1,0,none⟩ u) (p:=⟨G + 1,1,none⟩) (x:=v) (q:=⟨G + 1,1,none⟩) hx
    exact peek_some hy
  · simpa using h6
  · simpa using h7
end
section
open Go.RowKit
theorem restR_len {r : RecS} (h : RecOk r) : (restR r).length≤700:=by
  have:=h.k2
  have:=h.v1
  simp [restR];omega
theorem recT_len {r : RecS} (h : RecOk r) : (recT r).length=recN (restR r).length∧(recT r).length≤703:=by
  obtain ⟨h1,h2,h3⟩:=recN_eq _ (restR_len h)
  have h4:=restR_len h
  have h5 : (recT r).length=(Lib.decDigits (recN (restR r).length)).length + (restR r).length:=List.length_append
  omega
end
section
open Go.RowKit
def digSet : List UInt8:=[48,49,50,51,52,53,54,55,56,57]
set_option maxRecDepth 100000 in
theorem ReadNo_any (c : Int) (w : World) :
    Calls Tryz.prog 155 #[.int .i64 c] w fun e w' => e=.returned (.tuple #[recV ⟨[],[]⟩,.string ⟨#[]⟩,.int .i64 c])∧Below w.heap.size w w':=by
  go_enter Tryz.func155,Tryz.ntmps155
  go_wp2_with fail
  have hB:=Blk.new w 174 #[.string ⟨#[]⟩,.string ⟨#[]⟩]
  have c0:=hB.cell 0
  have c1:=hB.cell 1
  have hb : Below w.heap.size w (w.alloc (.cells #[.string ⟨#[]⟩,.string ⟨#[]⟩] 174)):=(Below.refl _ w).alloc (Nat.le_refl _) _
  generalize w.alloc (.cells #[.string ⟨#[]⟩,.string ⟨#[]⟩] 174)=w2 at *
  exact bodyPost_ret (v:=.tuple #[recV ⟨[],[]⟩,.string ⟨#[]⟩,.int .i64 c]) (by simp [results,Tryz.results155,go_sem,c0,c1];rfl) rfl ⟨rfl,hb⟩
set_option maxRecDepth 100000 in
set_option maxHeartbeats 1000000 in
theorem Read_short (l : List UInt8) (hl : l.length≤100000) (hc : (32 : UInt8) ∉ l) (w : World) (hm : ML w) :
    Calls Tryz.prog 105 #[.string (bs l)] w fun e w' => e=.returned (.tuple #[recV ⟨[],[]⟩,.string ⟨#[]⟩,.int .i64 3])∧Below w.heap.size w w':=by
  have HC:=Lib.hid (fun w hm => Cut_at l _ _ _ 32 (cut_not hc) w (by omega) hm)
  have HN:=Lib.hid (fun w => ReadNo_any 3 w)
  unfold recV at HN ⊢
  have hB0:=Blk.new w 174 #[.string ⟨#[]⟩,.string ⟨#[]⟩]
  have hb0 : Below w.heap.size w (w.alloc (.cells #[.string ⟨#[]⟩,.string ⟨#[]⟩] 174)):=(Below.refl _ w).alloc (Nat.le_refl _) _
  have hs0 : (w.alloc (.cells #[.string ⟨#[]⟩,.string ⟨#[]⟩] 174)).heap.size=w.heap.size + 1:=by simp
  have hm0:=hm.below hb0
  obtain ⟨W0,hW0⟩ : ∃ W0,W0=w.alloc (.cells #[.string ⟨#[]⟩,.string ⟨#[]⟩] 174):=⟨_,rfl⟩
  rw [← hW0] at hB0 hb0 hs0 hm0
  have HB0:=Lib.hid hB0
  have HBW:=Lib.hid hb0
  have HS0:=Lib.hid hs0
  have HM0:=Lib.hid hm0
  have HC1:=Lib.hid (fun w1 (b1 : Below W0.heap.size W0 w1) => (show Blk w1 w.heap.size 174 #[.string ⟨#[]⟩,.string ⟨#[]⟩]∧Below w.heap.size w w1 from ⟨hB0.below b1 (by rw [hs0];omega),hb0.trans (b1.mono (by rw [hs0];omega))⟩))
  have HC2:=Lib.hid (fun w1 w2 (h : Blk w1 w.heap.size 174 #[.string ⟨#[]⟩,.string ⟨#[]⟩]∧Below w.heap.size w w1) (b2 : Below w1.heap.size w1 w2) => (show Blk w2 w.heap.size 174 #[.string ⟨#[]⟩,.string ⟨#[]⟩]∧Below w.heap.size w w2 from ⟨h.1.below b2 h.1.lt,h.2.trans (b2.mono h.2.size)⟩))
  have e0 : (bs [])=⟨#[]⟩:=rfl
  clear hB0 hb0 hs0 hm0 hm
  clear hc
  go_enter Tryz.func105,Tryz.ntmps105
  go_wp2_with fail
  rw [← hW0]
  refine (HC.out _ HM0.out).mono ?_
  rintro e w1 ⟨rfl,b1⟩
  have h1:=Lib.hid (HC1.out _ b1)
  clear b1
  go_wp2_with fail
  refine (HN.out _).mono ?_
  rintro e w2 ⟨rfl,b2⟩
  have h2:=HC2.out _ _ h1.out b2
  have HB2:=Lib.hid h2.1
  have c2:=Lib.hid h2.2
  have k0:=h2.1.cell 0
  have k1:=h2.1.cell 1
  have z0:=h2.1.frozen 0
  have z1:=h2.1.frozen 1
  clear h2 b2
  go_wp2_with fail
  have hBz:=(HB2.out.set_ 0 (.string ⟨#[]⟩)).set_ 1 (.string ⟨#[]⟩)
  have d0:=hBz.cell 0
  have d1:=hBz.cell 1
  have cz:=(c2.out.setCell (p:=⟨w.heap.size,0,none⟩) (Nat.le_refl _) (.string ⟨#[]⟩)).setCell (p:=⟨w.heap.size,1,none⟩) (Nat.le_refl _) (.string ⟨#[]⟩)
  clear hBz HB2 k0 k1 z0 z1
  generalize (w2.setCell ⟨w.heap.size,0,none⟩ (.string ⟨#[]⟩)).setCell ⟨w.heap.size,1,none⟩ (.string ⟨#[]⟩)=wz at *
  exact bodyPost_ret (v:=.tuple #[.agg #[.string ⟨#[]⟩,.string ⟨#[]⟩],.string ⟨#[]⟩,.int .i64 3]) (by simp [results,Tryz.results105,go_sem,d0,d1]) rfl ⟨rfl,cz⟩
end
section
open Go.RowKit
end
end Go.Proofs.YtphmhmdcaafmdaaGreatDoor
