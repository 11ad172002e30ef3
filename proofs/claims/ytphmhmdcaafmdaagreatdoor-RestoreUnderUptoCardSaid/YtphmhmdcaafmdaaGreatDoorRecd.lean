import Derived.Test.YtphmhmdcaafmdaaGreatDoorFields
import Derived.Test.YtphmhmdcaafmdaaGreatDoorMetaS
import Derived.Deep.RegionHeld3
import Derived.Shelf.Strings.SlTrimAscii
namespace Go.Proofs.YtphmhmdcaafmdaaGreatDoor
set_option linter.all false
section
open Go.RowKit
structure RecS where
  key : List UInt8
  value : List UInt8
def recV (r : RecS) : Value:=.agg #[.string (bs r.key),.string (bs r.value)]
structure RecOk (r : RecS) : Prop where
  k1 : 1≤r.key.length
  k2 : r.key.length≤60
  v1 : r.value.length≤500
  eq : (61 : UInt8) ∉ r.key
  nl : (10 : UInt8) ∉ r.key
  ascii : ∀ b∈r.key,b.toNat < 128
  nul : (0 : UInt8) ∉ r.value
theorem ContainsAny_no (l : List UInt8) (h1 : (61 : UInt8) ∉ l) (h2 : (10 : UInt8) ∉ l) (ha : ∀ b∈l,b.toNat < 128) (hl : l.length≤1000) (w : World) :
    Calls Tryz.prog 201 #[.string (bs l),.string ⟨#[61,10]⟩] w fun e w' => e=.returned (.bool false)∧Below w.heap.size w w':=by
  refine (Tryz.strings_ContainsAny_laid (bs l) ⟨#[61,10]⟩ w (by rw [bs_size];omega) (by decide) (fun j b hb => ha b (by rw [bs_data] at hb;exact List.mem_of_getElem? hb)) (fun j b hb => ?_)).mono fun e w' ⟨h3,h4⟩ => ⟨?_,h4⟩
  · have : b∈[(61 : UInt8),10]:=List.mem_of_getElem? hb
    rcases List.mem_cons.1 this with rfl | h
    · decide
    · rw [List.mem_singleton] at h;subst h;decide
  · rw [h3,bs_data]
    have : Lib.containsAny l [61,10]=false:=by
      have hi : ∀ l : List UInt8,(61 : UInt8) ∉ l→(10 : UInt8) ∉ l→Lib.indexAny l [61,10]=-1:=by
        intro l
        induction l with
        | nil => intro _ _;rfl
        | cons b l ih =>
          intro h1 h2
          have e1 : b≠61:=fun e => h1 (by simp [e])
          have e2 : b≠10:=fun e => h2 (by simp [e])
          have e3 : ([61,10] : List UInt8).contains b=false:=by simp [e1,e2]
          rw [Lib.indexAny,e3,ih (fun h => h1 (by simp [h])) (fun h => h2 (by simp [h]))]
          rfl
      unfold Lib.containsAny
      rw [hi l h1 h2];rfl
    exact ret_bool this
set_option maxRecDepth 100000 in
set_option maxHeartbeats 400000 in
theorem RCheck_ok (r : RecS) (h : RecOk r) (w : World) :
    Calls Tryz.prog 146 #[recV r] w fun e w' => e=.returned (.int .i64 0)∧Below w.heap.size w w':=by
  obtain ⟨key,value⟩:=r
  obtain ⟨k1,k2,v1,h1,h2,h3,h4⟩:=h
  simp only at k1 k2 v1 h1 h2 h3 h4
  have z1:=bs_size key
  have z2:=bs_size value
  have hC:=Lib.hid (fun w => ContainsAny_no key h1 h2 h3 (by omega) w)
  have hix:=Lib.hid (indexByte_not h4)
  have hI:=Lib.hid (IndexByte_nul value)
  rw [hix.out] at hI
  have d1 : decide ((key.length : Int) < 1)=false:=decide_eq_false (by omega)
  have d2 : decide (60 < (key.length : Int))=false:=decide_eq_false (by omega)
  have d3 : decide (500 < (value.length : Int))=false:=decide_eq_false (by omega)
  clear h1 h2 h3 h4 hix
  unfold recV
  have hB0:=Blk.new w 174 #[.string (bs key),.string (bs value)]
  have hv0 : ∀ {w1 : World},Below (w.alloc (.cells #[.string (bs key),.string (bs value)] 174)).heap.size (w.alloc (.cells #[.string (bs key),.string (bs value)] 174)) w1→w1.cell? ⟨w.heap.size,1,none⟩=some (.string (bs value)):=fun hb => (hb.cell (p:=⟨w.heap.size,1,none⟩) (by simp)).trans (hB0.cell 1)
  have HV:=@hv0
  clear hv0 hB0
  go_enter Tryz.func146,Tryz.ntmps146
  go_wp2_with fail
  refine (hC.out _).mono ?_
  rintro e w1 ⟨rfl,b1⟩
  have hv:=HV b1
  have B1:=Lib.hid b1
  clear b1
  go_wp2_with fail
  refine (hI.out _).mono ?_
  rintro e w' ⟨rfl,rfl⟩
  go_wp2_with fail
  go_ret
  exact ⟨rfl,((Below.refl _ w).alloc (Nat.le_refl _) _).trans (B1.out.mono (by simp))⟩
def restR (r : RecS) : List UInt8:=32 :: (r.key ++ 61 :: (r.value ++ [10]))
def recN (R : Nat) : Nat:=if R≤8 then R + 1 else if R≤97 then R + 2 else R + 3
def recT (r : RecS) : List UInt8:=Lib.decDigits (recN (restR r).length) ++ restR r
theorem dlen1 (n : Nat) (h : n < 10) : (Lib.decDigits n).length=1:=by rw [dec_small h];rfl
theorem dlen2 (n : Nat) (h1 : 10≤n) (h2 : n < 100) : (Lib.decDigits n).length=2:=by rw [dec_big (by omega),List.length_append,dlen1 _ (by omega)];rfl
theorem dlen3 (n : Nat) (h1 : 100≤n) (h2 : n < 1000) : (Lib.decDigits n).length=3:=by rw [dec_big (by omega),List.length_append,dlen2 _ (by omega) (by omega)];rfl
theorem dlen_cases (n : Nat) (h2 : n < 1000) : (n < 10∧(Lib.decDigits n).length=1)∨(10≤n∧n < 100∧(Lib.decDigits n).length=2)∨(100≤n∧(Lib.decDigits n).length=3):=by
  by_cases h : n < 10
  · exact .inl ⟨h,dlen1 n h⟩
  · by_cases h' : n < 100
    · exact .inr (.inl ⟨by omega,h',dlen2 n (by omega) h'⟩)
    · exact .inr (.inr ⟨by omega,dlen3 n (by omega) h2⟩)
theorem recN_eq (R : Nat) (h : R≤700) : recN R=R + (Lib.decDigits (recN R)).length∧R + 1≤recN R∧recN R≤R + 3:=by
  have hle : recN R≤R + 3∧R + 1≤recN R:=by unfold recN;split;omega;split <;> omega
  have hc:=dlen_cases (recN R) (by omega)
  refine ⟨?_,hle.2,hle.1⟩
  generalize (Lib.decDigits (recN R)).length=d at *
  unfold recN at hc ⊢
  split at hc
  · rename_i h1;rw [if_pos h1];omega
  · rename_i h1
    rw [if_neg h1]
    split at hc
    · rename_i h2;rw [if_pos h2];omega
    · rename_i h2;rw [if_neg h2];omega
theorem recN_no (R n : Nat) (h : R≤700) (h1 : R + 1≤n) (h2 : n < recN R) : n≠R + (Lib.decDigits n).length:=by
  have hc:=dlen_cases n (by unfold recN at h2;split at h2;omega;split at h2 <;> omega)
  generalize (Lib.decDigits n).length=d at *
  unfold recN at h2
  split at h2
  · omega
  · split at h2 <;> omega
set_option maxRecDepth 100000 in
set_option maxHeartbeats 1000000 in
theorem RWrite_ok (r : RecS) (h : RecOk r) (w : World) (h10 : P10 w) :
    Calls Tryz.prog 97 #[recV r] w fun e w' => e=.returned (.tuple #[.string (bs (recT r)),.int .i64 0])∧Below w.heap.size w w':=by
  have hC:=Lib.hid (fun w => RCheck_ok r h w)
  obtain ⟨key,value⟩:=r
  obtain ⟨k1,k2,v1,_,_,_,_⟩:=h
  simp only at k1 k2 v1
  have z1:=bs_size key
  have z2:=bs_size value
  have hrest : (⟨#[32]⟩ : ByteArray) ++ bs key ++ ⟨#[61]⟩ ++ bs value ++ ⟨#[10]⟩=bs (restR ⟨key,value⟩):=by
    rw [show (⟨#[32]⟩ : ByteArray)=bs [32] from rfl,show (⟨#[61]⟩ : ByteArray)=bs [61] from rfl,show (⟨#[10]⟩ : ByteArray)=bs [10] from rfl,bs_append,bs_append,bs_append,bs_append]
    congr 1;simp [restR]
  have zr:=bs_size (restR ⟨key,value⟩)
  have hRl : (restR ⟨key,value⟩).length≤700:=by simp [restR];omega
  obtain ⟨n1,n2,n3⟩:=recN_eq _ hRl
  have hno:=fun n => recN_no (restR ⟨key,value⟩).length n hRl
  have hI:=Lib.hid (fun (n : Nat) (hn : n≤703) w h => Itoa_as n n rfl (by omega) w h)
  have hfin : Hid (bs (Lib.decDigits (recN (restR ⟨key,value⟩).length)) ++ bs (restR ⟨key,value⟩)=bs (recT ⟨key,value⟩)):=Lib.hid (bs_append _ _)
  have HN:=Lib.hid hno
  have N1:=Lib.hid n1
  have ZR:=Lib.hid zr
  have H10:=Lib.hid h10
  clear h10 hno n1
  unfold recV at hC ⊢
  have hB0:=Blk.new w 174 #[.string (bs key),.string (bs value)]
  have hv0 : ∀ {w1 : World},Below (w.alloc (.cells #[.string (bs key),.string (bs value)] 174)).heap.size (w.alloc (.cells #[.string (bs key),.string (bs value)] 174)) w1→w1.cell? ⟨w.heap.size,0,none⟩=some (.string (bs key))∧w1.cell? ⟨w.heap.size,1,none⟩=some (.string (bs value)):=fun hb => ⟨(hb.cell (p:=⟨w.heap.size,0,none⟩) (by simp)).trans (hB0.cell 0),(hb.cell (p:=⟨w.heap.size,1,none⟩) (by simp)).trans (hB0.cell 1)⟩
  have HV:=@hv0
  clear hv0 hB0
  go_enter Tryz.func97,Tryz.ntmps97
  go_wp2_with fail
  refine (hC.out _).mono ?_
  rintro e w1 ⟨rfl,b1⟩
  obtain ⟨c0,c1⟩:=HV b1
  have bb : Below w.heap.size w w1:=((Below.refl _ w).alloc (Nat.le_refl _) _).trans (b1.mono (by simp))
  clear b1
  generalize (restR ⟨key,value⟩).length=R at *
  generalize hbr : bs (restR ⟨key,value⟩)=br at *
  have HBR:=Lib.hid hbr
  clear hbr
  generalize bs key=bk at *
  generalize bs value=bv at *
  generalize hrn : recN R=N at *
  have HRN:=Lib.hid hrn
  clear hrn
  go_wp2_with fail
  go_loopw [6] (fun i wr => ∃ n : Nat,R + 1≤n∧n≤N∧i=.int .i64 n∧Below w.heap.size w wr) (fun i _ => N - (intOf i).toNat)
  case atStart => exact ⟨R + 1,Nat.le_refl _,n2,by go_num,bb⟩
  case round =>
    obtain ⟨n,hn1,hn2,rfl,hb⟩:=hrel
    have hI1:=Lib.hid (hI.out n (by omega) wr (H10.out.below hb))
    have zd:=bs_size (Lib.decDigits n)
    have hdl:=dlen_cases n (by omega)
    have hd4 : (Lib.decDigits n).length≤3:=by omega
    have hge : ∀ {w2 : World},Below wr.heap.size wr w2→Below w.heap.size w w2:=fun h => hb.trans (h.mono hb.size)
    have HGE:=@hge
    clear hge hdl
    by_cases hlt : n < N
    · have hne:=HN.out n hn1 hlt
      have e1 : ((n : Int) == (R : Int) + ((Lib.decDigits n).length : Int))=false:=beq_eq_false_iff_ne.2 (by omega)
      have e2 : ((n : Int) != (R : Int) + ((Lib.decDigits n).length : Int))=true:=bne_iff_ne.2 (by omega)
      have e3 : ¬ (n : Int)=(R : Int) + ((Lib.decDigits n).length : Int):=by omega
      clear hne
      generalize bs (Lib.decDigits n)=bd at *
      generalize (Lib.decDigits n).length=d at *
      go_wp2_with fail
      refine hI1.out.mono ?_
      rintro e w2 ⟨rfl,b2⟩
      go_wp2_with fail
      go_roundw
      case rel => exact ⟨n + 1,by omega,by omega,by go_num,HGE b2⟩
      case measure => simp [intOf];omega
    · obtain rfl : n=N:=by omega
      have hd:=N1.out
      have e1 : ((n : Int) == (R : Int) + ((Lib.decDigits n).length : Int))=true:=beq_iff_eq.2 (by omega)
      have e2 : ((n : Int) != (R : Int) + ((Lib.decDigits n).length : Int))=false:=by rw [bne_eq_false_iff_eq];omega
      have hf:=hfin.out
      have HF:=Lib.hid hf
      have hIq:=Lib.hid (fun w h => hI.out n (by omega) w h)
      clear hd hf hfin hI N1
      generalize bs (Lib.decDigits n)=bd at *
      generalize (Lib.decDigits n).length=d at *
      go_wp2_with fail
      refine hI1.out.mono ?_
      rintro e w2 ⟨rfl,b2⟩
      go_wp2_with fail
      refine (hIq.out _ (H10.out.below (HGE b2))).mono ?_
      rintro e w3 ⟨rfl,b3⟩
      go_wp2_with fail
      go_ret2
      exact ⟨ret_si HF.out rfl,HGE (b2.trans (b3.mono b2.size))⟩
end
section
open Go.RowKit
abbrev SRec (G : Nat) (a b : Int) (bt : ByteArray) (W0 w' : World) : Prop :=
  w'.cell? ⟨G,1,none⟩=some (.int .i64 a)∧w'.cell? ⟨G,2,none⟩=some (.int .i64 b)∧w'.cell? ⟨G,3,none⟩=some (.string bt)∧w'.cell? ⟨G + 1,0,none⟩=some (peek w' ⟨G + 1,0,none⟩)∧w'.cell? ⟨G + 1,1,none⟩=some (peek w' ⟨G + 1,1,none⟩)∧w'.frozen? ⟨G + 1,0,none⟩=false∧w'.frozen? ⟨G + 1,1,none⟩=false∧Below (G + 1) W0 w'∧G + 2≤w'.heap.size
theorem SRec.below {G : Nat} {a b : Int} {bt : ByteArray} {W0 w1 w2 : World} (h : SRec G a b bt W0 w1) (hb : Below w1.heap.size w1 w2) : SRec G a b bt W0 w2:=by
  obtain ⟨h1,h2,h3,h4,h5,h6,h7,h8,h9⟩:=h
  have c:=fun (n : Nat) => hb.cell (p:=⟨G,n,none⟩) (show G < w1.heap.size by omega)
  have d:=fun (n : Nat) => hb.cell (p:=⟨G + 1,n,none⟩) (show G + 1 < w1.heap.size by omega)
  have f:=fun (n : Nat) => hb.frozen (p:=⟨G + 1,n,none⟩) (show G + 1 < w1.heap.size by omega)
  exact ⟨(c 1).trans h1,(c 2).trans h2,(c 3).trans h3,peek_some ((d 0).trans h4),peek_some ((d 1).trans h5),(f 0).trans h6,(f 1).trans h7,h8.trans (hb.mono (by omega)),Nat.le_trans h9 hb.size⟩
theorem SRec.drew {G : Nat} {a b : Int} {bt : ByteArray} {W0 w1 : World} (h : SRec G a b bt W0 w1) : SRec G a b bt W0 w1.drew:=h.below ((Below.refl _ _).drew)
theorem SRec.stored {G : Nat} {a b : Int} {bt : ByteArray} {W0 w1 : World} (u v : Value) (h : SRec G a b bt W0 w1) : SRec G a b bt W0 ((w1.setCell ⟨G + 1,0,none⟩ u).setCell ⟨G + 1,1,none⟩ v):=by
  obtain ⟨h1,h2,h3,h4,h5,h6,h7,h8,h9⟩:=h
  have hb : Below (G + 1) w1 ((w1.setCell ⟨G + 1,0,none⟩ u).setCell ⟨G + 1,1,none⟩ v):=((Below.refl _ w1).setCell (p:=⟨G + 1,0,none⟩) (Nat.le_refl _) u).setCell (p:=⟨G + 1,1,none⟩) (Nat.le_refl _) v
  have c:=fun (n : Nat) => hb.cell (p:=⟨G,n,none⟩) (Nat.lt_succ_self G)
  refine ⟨(c 1).trans h1,(c 2).trans h2,(c 3).trans h3,?_,?_,?_,?_,h8.trans hb,Nat.le_trans h9 hb.size⟩
  · obtain ⟨x,hx⟩:=cell?_setCell_some (w:=w1) (p:=⟨G + 1,0,none⟩) (x:=u) (q:=⟨G + 1,0,none⟩) h4
    obtain ⟨y,hy⟩:=cell?_setCell_some (w:=w1.setCell ⟨G + 1,0,none⟩ u) (p:=⟨G + 1,1,none⟩) (x:=v) (q:=⟨G + 1,0,none⟩) hx
    exact peek_some hy
  · obtain ⟨x,hx⟩:=cell?_setCell_some (w:=w1) (p:=⟨G + 1,0,none⟩) (x:=u) (q:=⟨G + 1,1,none⟩) h5
    obtain ⟨y,hy⟩:=cell?_setCell_some (w:=w1.setCell ⟨G + 1,0,none⟩ u) (p:=⟨G + 1,1,none⟩) (x:=v) (q:=⟨G + 1,1,none⟩) hx
    exact peek_some hy
  · simpa using h6
  · simpa using h7
end
section
open Go.RowKit
theorem restR_len {r : RecS} (h : RecOk r) : (restR r).length≤700:=by
  have:=h.k2
  have:=h.v1
  simp [restR];omega
theorem recT_len {r : RecS} (h : RecOk r) : (recT r).length=recN (restR r).length∧(recT r).length≤703:=by
  obtain ⟨h1,h2,h3⟩:=recN_eq _ (restR_len h)
  have h4:=restR_len h
  have h5 : (recT r).length=(Lib.decDigits (recN (restR r).length)).length + (restR r).length:=List.length_append
  omega
end
section
open Go.RowKit
def digSet : List UInt8:=[48,49,50,51,52,53,54,55,56,57]
theorem digSet_has {b : UInt8} (h : 48≤b.toNat∧b.toNat≤57) : digSet.contains b=true:=by
  have hb : b=UInt8.ofNat b.toNat:=(UInt8.ofNat_toNat).symm
  have : b.toNat=48∨b.toNat=49∨b.toNat=50∨b.toNat=51∨b.toNat=52∨b.toNat=53∨b.toNat=54∨b.toNat=55∨b.toNat=56∨b.toNat=57:=by omega
  rcases this with e | e | e | e | e | e | e | e | e | e <;> (rw [hb,e];decide)
theorem dropWhile_all {p : UInt8→Bool} : ∀ (l : List UInt8),(∀ b∈l,p b=true)→l.dropWhile p=[]
  | [],_ => rfl
  | b :: l,h => by rw [List.dropWhile_cons_of_pos (h b (by simp))];exact dropWhile_all l (fun c hc => h c (by simp [hc]))
theorem trimS_digs {l : List UInt8} (h : ∀ b∈l,48≤b.toNat∧b.toNat≤57) : Lib.trimS l digSet=[]:=by
  have : Lib.trimRightS l digSet=[]:=by
    unfold Lib.trimRightS
    rw [dropWhile_all _ (fun b hb => digSet_has (h b (List.mem_reverse.1 hb)))]
    rfl
  unfold Lib.trimS
  rw [this]
  rfl
theorem Trim_digs (l : List UInt8) (h : ∀ b∈l,48≤b.toNat∧b.toNat≤57) (hl : l.length≤100000) (w : World) :
    Calls Tryz.prog 113 #[.string (bs l),.string ⟨#[48,49,50,51,52,53,54,55,56,57]⟩] w fun e w' => e=.returned (.string (bs []))∧Below w.heap.size w w':=by
  have h116 : (Tryz.prog.info? (Tryz.lays160_ren.t 116)).map (fun i => (i.zero,i.size))=some (some (.agg (Array.replicate 256 (.bool false))),256):=by kernel_rfl
  refine (Any.strings_Trim_ascii Tryz.lays160 (zero_of_info h116).1 (zero_of_info h116).2 (bs l) ⟨#[48,49,50,51,52,53,54,55,56,57]⟩ w (by rw [bs_size];omega) (by decide) (fun j b hb => ?_)).mono fun e w' ⟨h1,h2⟩ => ⟨?_,h2⟩
  · have hm : b∈digSet:=List.mem_of_getElem? hb
    simp only [digSet,List.mem_cons,List.mem_nil_iff,or_false] at hm
    rcases hm with rfl | rfl | rfl | rfl | rfl | rfl | rfl | rfl | rfl | rfl <;> decide
  · have:=trimS_digs h
    rw [h1,bs_data,show (⟨#[48,49,50,51,52,53,54,55,56,57]⟩ : ByteArray).data.toList=digSet from rfl,this]
    rfl
theorem decFrom_snoc {l : List UInt8} {acc n d : Nat} {b : UInt8} (h : Lib.decFrom acc l=some n) (hd : Lib.digitVal b=some d) : Lib.decFrom acc (l ++ [b])=some (n * 10 + d):=by
  induction l generalizing acc with
  | nil =>
    simp only [Lib.decFrom,Option.some.injEq] at h
    subst h
    simp [Lib.decFrom,hd]
  | cons a t ih =>
    simp only [List.cons_append,Lib.decFrom] at h ⊢
    cases ha : Lib.digitVal a with
    | none => simp [ha] at h
    | some e =>
      simp only [ha] at h ⊢
      exact ih h
theorem digitVal_of {k : Nat} (h : k < 10) : Lib.digitVal (UInt8.ofNat (48 + k))=some k:=by
  unfold Lib.digitVal
  rw [digB k h,if_pos (by omega)]
  congr 1;omega
theorem decFrom_dec (n : Nat) : Lib.decFrom 0 (Lib.decDigits n)=some n:=by
  refine dec_ind (P:=fun n l => Lib.decFrom 0 l=some n) (fun n h => ?_) (fun n h ih => ?_) n
  · have:=decFrom_snoc (l:=[]) (acc:=0) (n:=0) (by rfl) (digitVal_of h)
    simpa using this
  · rw [decFrom_snoc ih (digitVal_of (Nat.mod_lt _ (by omega)))]
    congr 1;omega
theorem atoi_dec (n : Nat) : Lib.atoi (Lib.decDigits n)=some (n : Int):=by
  have h:=decFrom_dec n
  have hm:=fun b (hb : b∈Lib.decDigits n) => dec_mem hb
  cases hc : Lib.decDigits n with
  | nil => exact absurd hc (dec_ne n)
  | cons b r =>
    rw [hc] at h hm
    have:=hm b (by simp)
    have e1 : (b == 45)=false:=beq_eq_false_iff_ne.2 (fun e => by subst e;revert this;decide)
    have e2 : (b == 43)=false:=beq_eq_false_iff_ne.2 (fun e => by subst e;revert this;decide)
    unfold Lib.atoi
    simp only [e1,e2]
    simp [Lib.decNat,h]
theorem Atoi_dec (n : Nat) (h : n < 10000) (w : World) :
    Calls Tryz.prog 109 #[.string (bs (Lib.decDigits n))] w fun e w' => e=.returned (.tuple #[.int .i64 n,.nilIface])∧Below w.heap.size w w':=by
  have hl : (Lib.decDigits n).length≤4:=dec_len 3 n (by omega)
  refine (Tryz.strconv_Atoi (bs (Lib.decDigits n)) n (by rw [bs_size];omega) (by rw [bs_data];exact atoi_dec n) w).mono fun e w' ⟨h1,t,h2⟩ => ⟨h1,by rw [h2];exact Lib.bytesWorld_below _ _ _⟩
end
section
open Go.RowKit
theorem getD_cons_at (a b : List UInt8) (c : UInt8) (k : Nat) (h : k=a.length) : (a ++ c :: b).getD k 0=c:=by subst h;simp
set_option maxRecDepth 100000 in
set_option maxHeartbeats 2000000 in
theorem Read_good (r : RecS) (h : RecOk r) (rest : List UInt8) (hrest : rest.length≤2097152) (w : World) (hm : ML w) (h10 : P10 w) :
    Calls Tryz.prog 105 #[.string (bs (recT r ++ rest))] w fun e w' => e=.returned (.tuple #[recV r,.string (bs rest),.int .i64 0])∧Below w.heap.size w w':=by
  obtain ⟨l1,l2⟩:=recT_len h
  have hR1:=restR_len h
  obtain ⟨n1,n2,n3⟩:=recN_eq _ hR1
  have hRl : (restR r).length=r.key.length + r.value.length + 3:=by simp only [restR,List.length_cons,List.length_append,List.length_nil];omega
  obtain ⟨D,hD⟩ : ∃ D,D=Lib.decDigits (recN (restR r).length):=⟨_,rfl⟩
  obtain ⟨n,hn⟩ : ∃ n,n=recN (restR r).length:=⟨_,rfl⟩
  rw [← hn] at hD l1 n1 n2 n3
  rw [← hD] at n1
  have hT : recT r=D ++ 32 :: (r.key ++ 61 :: (r.value ++ [10])):=by rw [hD,hn];rfl
  have hL : recT r ++ rest=D ++ 32 :: (r.key ++ 61 :: (r.value ++ 10 :: rest)):=by rw [hT];simp
  have hL2 : recT r ++ rest=(D ++ 32 :: (r.key ++ 61 :: r.value)) ++ 10 :: rest:=by rw [hT];simp
  have hLl : (recT r ++ rest).length=n + rest.length:=by rw [List.length_append,l1]
  have hdl : D.length≤3:=by rw [hD];exact dec_len 2 n (by omega)
  have hdp : 1≤D.length:=by
    rw [hD]
    cases h : Lib.decDigits n with
    | nil => exact absurd h (dec_ne n)
    | cons a b => simp
  have hcut : Lib.cut (recT r ++ rest) [32]=(D,r.key ++ 61 :: (r.value ++ 10 :: rest),true):=by
    rw [hL]
    exact cut_at (by rw [hD];exact dec_not (by decide))
  have HC:=Lib.hid (fun w hm => Cut_at (recT r ++ rest) _ _ _ 32 hcut w (by omega) hm)
  have HT:=Lib.hid (fun w => Trim_digs D (fun b hb => dec_mem (hD ▸ hb)) (by omega) w)
  have HA:=Lib.hid (fun w => Atoi_dec n (by omega) w)
  rw [← hD] at HA
  have HK:=Lib.hid (fun w => RCheck_ok r h w)
  have HW:=Lib.hid (fun w h10 => RWrite_ok r h w h10)
  have HE:=Lib.hid (fun w hm => Cut_at (r.key ++ 61 :: r.value) _ _ _ 61 (cut_at h.eq) w (by simp;omega) hm)
  have x1 : (bs (recT r ++ rest)).extract (D.length + 1) (n - 1)=bs (r.key ++ 61 :: r.value):=by
    rw [bs_extract,hL]
    congr 1
    have e1 : (D ++ 32 :: (r.key ++ 61 :: (r.value ++ 10 :: rest))).drop (D.length + 1)=(r.key ++ 61 :: r.value) ++ 10 :: rest:=by
      rw [List.drop_length_add_append];simp
    rw [e1]
    exact List.take_left' (by simp only [List.length_cons,List.length_append];omega)
  have x2 : (bs (recT r ++ rest)).extract 0 n=bs (recT r):=by
    rw [bs_extract]
    congr 1
    rw [List.drop_zero]
    exact List.take_left' (by omega)
  have x3 : (bs (recT r ++ rest)).extract n (n + rest.length)=bs rest:=by
    rw [bs_extract]
    congr 1
    rw [List.drop_left' l1]
    exact List.take_of_length_le (by omega)
  have x4 : (recT r ++ rest).getD (n - 1) 0=10:=by
    rw [hL2]
    exact getD_cons_at _ _ _ _ (by simp only [List.length_cons,List.length_append];omega)
  obtain ⟨c,hc,hcb,hcb2⟩ : ∃ c : Int,(∀ h : 0 < (bs D).size,((bs D)[0].toNat : Int)=c)∧(c == 48)=false∧¬ c=48:=by
    obtain ⟨b,t,e,hb⟩:=dec_head n (by omega)
    have hb2 : b.toNat≠48:=fun h => hb (UInt8.toNat_inj.1 h)
    have hz : ¬ (b.toNat : Int)=48:=by omega
    refine ⟨b.toNat,fun h => ?_,beq_eq_false_iff_ne.2 hz,hz⟩
    rw [bs_get,hD,e];rfl
  have hq : ∀ h : n - 1 < (bs (recT r ++ rest)).size,((bs (recT r ++ rest))[n - 1].toNat : Int)=10:=fun h => by
    rw [bs_get,x4];rfl
  have zl:=bs_size (recT r ++ rest)
  have zd:=bs_size D
  have hbelow:=Lib.hid (fun w1 (h : Below w.heap.size w w1) => h10.below h)
  have hmb:=Lib.hid (fun w1 (h : Below w.heap.size w w1) => hm.below h)
  have hB0:=Blk.new w 174 #[.string ⟨#[]⟩,.string ⟨#[]⟩]
  have hb0 : Below w.heap.size w (w.alloc (.cells #[.string ⟨#[]⟩,.string ⟨#[]⟩] 174)):=(Below.refl _ w).alloc (Nat.le_refl _) _
  have hs0 : (w.alloc (.cells #[.string ⟨#[]⟩,.string ⟨#[]⟩] 174)).heap.size=w.heap.size + 1:=by simp
  have hm0:=hm.below hb0
  obtain ⟨W0,hW0⟩ : ∃ W0,W0=w.alloc (.cells #[.string ⟨#[]⟩,.string ⟨#[]⟩] 174):=⟨_,rfl⟩
  rw [← hW0] at hB0 hb0 hs0 hm0
  have HB0:=Lib.hid hB0
  have HBW:=Lib.hid hb0
  have HS0:=Lib.hid hs0
  have HM0:=Lib.hid hm0
  have HC1:=Lib.hid (fun w1 (b1 : Below W0.heap.size W0 w1) => (show Blk w1 w.heap.size 174 #[.string ⟨#[]⟩,.string ⟨#[]⟩]∧Below w.heap.size w w1 from ⟨hB0.below b1 (by rw [hs0];omega),hb0.trans (b1.mono (by rw [hs0];omega))⟩))
  have HC2:=Lib.hid (fun w1 w2 (h : Blk w1 w.heap.size 174 #[.string ⟨#[]⟩,.string ⟨#[]⟩]∧Below w.heap.size w w1) (b2 : Below w1.heap.size w1 w2) => (show Blk w2 w.heap.size 174 #[.string ⟨#[]⟩,.string ⟨#[]⟩]∧Below w.heap.size w w2 from ⟨h.1.below b2 h.1.lt,h.2.trans (b2.mono h.2.size)⟩))
  have e0 : (bs [])=⟨#[]⟩:=rfl
  clear hB0 hb0 hs0 hm0 hm h10
  obtain ⟨k,hk⟩ : ∃ k,n=k + 1:=⟨n - 1,by omega⟩
  have hk1 : n - 1=k:=by omega
  rw [hk1] at x1 x4 hq
  have klim : k≤702:=by omega
  have i3 : D.length < k:=by omega
  have i4 : D.length + 1≤k:=by omega
  have i5 : (D.length : Int) < (k : Int):=by omega
  have i6 : (D.length : Int) + 1≤(k : Int):=by omega
  have hkl : k < (bs (recT r ++ rest)).size:=by omega
  have t1 : ¬ (bs D).size < 1:=by omega
  have t2 : ¬ 4 < (bs D).size:=by omega
  have t3 : 0 < (bs D).size:=by omega
  have t4 : ¬ (bs (recT r ++ rest)).size < n:=by omega
  have t5 : n≤(bs (recT r ++ rest)).size:=by omega
  have t7 : k≤(bs (recT r ++ rest)).size:=by omega
  have hc0:=hc t3
  have hq0:=hq hkl
  rw [hLl] at zl
  clear hq hc x4 hLl hL hL2 hT hcut l1 l2 hR1 n1 n2 n3 hRl hn hD hrest hk1
  subst hk
  generalize recT r ++ rest=L at *
  generalize recT r=T at *
  generalize r.key ++ 61 :: (r.value ++ 10 :: rest)=M at *
  generalize r.key ++ 61 :: r.value=E at *
  unfold recV at *
  have HX1:=Lib.hid x1
  have HX2:=Lib.hid x2
  have HX3:=Lib.hid x3
  clear x1 x2 x3 h
  generalize bs L=bL at *
  generalize bs D=bD at *
  generalize bs T=bT at *
  generalize bs M=bM at *
  generalize bs E=bE at *
  generalize bs r.key=bK at *
  generalize bs r.value=bV at *
  generalize bs rest=bR at *
  go_enter Tryz.func105,Tryz.ntmps105
  go_wp2_with fail
  rw [← hW0]
  refine (HC.out _ HM0.out).mono ?_
  rintro e w1 ⟨rfl,b1⟩
  have h1:=Lib.hid (HC1.out _ b1)
  clear b1
  go_wp2_with fail
  refine (HT.out _).mono ?_
  rintro e w2 ⟨rfl,b2⟩
  have h2:=Lib.hid (HC2.out _ _ h1.out b2)
  clear b2
  go_wp2_with fail
  refine (HA.out _).mono ?_
  rintro e w3 ⟨rfl,b3⟩
  have h3:=Lib.hid (HC2.out _ _ h2.out b3)
  clear b3
  go_wp2_with fail
  rw [HX1.out]
  refine (HE.out _ (hmb.out _ h3.out.2)).mono ?_
  rintro e w4 ⟨rfl,b4⟩
  have h4:=Lib.hid (HC2.out _ _ h3.out b4)
  clear b4
  have hN:=Blk.new w4 174 #[.string bK,.string bV]
  have hA:=(Below.refl w4.heap.size w4).alloc (Nat.le_refl _) (.cells #[.string bK,.string bV] 174)
  have hsA : (w4.alloc (.cells #[.string bK,.string bV] 174)).heap.size=w4.heap.size + 1:=by simp
  go_wp2_with fail
  obtain ⟨wa,hwa⟩ : ∃ wa,wa=w4.alloc (.cells #[.string bK,.string bV] 174):=⟨_,rfl⟩
  rw [← hwa] at hN hA hsA ⊢
  have h4a:=Lib.hid (HC2.out _ _ h4.out hA)
  have HNw:=Lib.hid hN
  have HSA:=Lib.hid hsA
  clear hwa hN hA hsA
  refine (HK.out _).mono ?_
  rintro e w5 ⟨rfl,b5⟩
  have h5:=Lib.hid (HC2.out _ _ h4a.out b5)
  have hn5:=HNw.out.below b5 HNw.out.lt
  have HN5:=Lib.hid hn5
  have k50:=hn5.cell 0
  have k51:=hn5.cell 1
  clear b5 hn5
  go_wp2_with fail
  refine (HW.out _ (hbelow.out _ h5.out.2)).mono ?_
  rintro e w6 ⟨rfl,b6⟩
  have h6:=Lib.hid (HC2.out _ _ h5.out b6)
  have hn6:=HN5.out.below b6 HN5.out.lt
  clear k50 k51 b6
  have k60:=hn6.cell 0
  have k61:=hn6.cell 1
  have g60:=h6.out.1.cell 0
  have g61:=h6.out.1.cell 1
  have z60:=h6.out.1.frozen 0
  have z61:=h6.out.1.frozen 1
  have x2:=HX2.out
  have x3:=HX3.out
  have x4 : (bT.toList == bT.toList)=true:=beq_self_eq_true _
  have c6:=Lib.hid h6.out.2
  clear hn6
  go_wp2_with fail
  go_region
  go_wp2
  have hBz:=(h6.out.1.set_ 0 (.string bK)).set_ 1 (.string bV)
  have d0:=hBz.cell 0
  have d1:=hBz.cell 1
  have cz:=((c6.out.setCell (p:=⟨w.heap.size,0,none⟩) (Nat.le_refl _) (.string bK)).setCell (p:=⟨w.heap.size,1,none⟩) (Nat.le_refl _) (.string bV)).drew
  have d0:=(show ((w6.setCell ⟨w.heap.size,0,none⟩ (.string bK)).setCell ⟨w.heap.size,1,none⟩ (.string bV)).drew.cell? ⟨w.heap.size,0,none⟩=_ from hBz.drew.cell 0)
  have d1:=(show ((w6.setCell ⟨w.heap.size,0,none⟩ (.string bK)).setCell ⟨w.heap.size,1,none⟩ (.string bV)).drew.cell? ⟨w.heap.size,1,none⟩=_ from hBz.drew.cell 1)
  clear hBz k60 k61 g60 g61 z60 z61
  generalize ((w6.setCell ⟨w.heap.size,0,none⟩ (.string bK)).setCell ⟨w.heap.size,1,none⟩ (.string bV)).drew=wz at *
  exact bodyPost_ret (v:=.tuple #[.agg #[.string bK,.string bV],.string bR,.int .i64 0]) (by simp [results,Tryz.results105,go_sem,d0,d1]) rfl ⟨rfl,cz⟩
end
end Go.Proofs.YtphmhmdcaafmdaaGreatDoor
