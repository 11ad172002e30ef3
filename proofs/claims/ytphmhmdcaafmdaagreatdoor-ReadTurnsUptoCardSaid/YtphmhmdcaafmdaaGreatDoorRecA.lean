import Derived.Test.YtphmhmdcaafmdaaGreatDoorRuneA
namespace Go.Proofs.YtphmhmdcaafmdaaGreatDoor
set_option linter.all false
open Go.RowKit
set_option maxRecDepth 100000 in
set_option maxHeartbeats 1000000 in
theorem RCheck_all (r : RecS) (hk : r.key.length≤100000) (hv : r.value.length≤100000) (w : World) :
    Calls Tryz.prog 146 #[recV r] w fun e w' => ∃ c : Int,e=.returned (.int .i64 c)∧(c=0→r.key.length≤60∧r.value.length≤500)∧Below w.heap.size w w':=by
  obtain ⟨key,value⟩:=r
  simp only at hk hv
  have z1:=bs_size key
  have z2:=bs_size value
  have hC:=Lib.hid (fun w => ContainsAny_eqnl key hk w)
  have hI:=Lib.hid (fun w => IndexByte_nul value w)
  unfold recV
  have hsplit : key.length < 1∨(1≤key.length∧60 < key.length)∨(1≤key.length∧key.length≤60∧500 < value.length)∨(1≤key.length∧key.length≤60∧value.length≤500):=by omega
  rcases hsplit with q | ⟨q1,q2⟩ | ⟨q1,q2,q3⟩ | ⟨q1,q2,q3⟩
  · have d1 : decide ((key.length : Int) < 1)=true:=decide_eq_true (by omega)
    go_enter Tryz.func146,Tryz.ntmps146
    go_wp2_with fail
    go_ret
    exact ⟨1,rfl,fun h => absurd h (by decide),(Below.refl _ _).alloc (Nat.le_refl _) _⟩
  · have d1 : decide ((key.length : Int) < 1)=false:=decide_eq_false (by omega)
    have d2 : decide (60 < (key.length : Int))=true:=decide_eq_true (by omega)
    go_enter Tryz.func146,Tryz.ntmps146
    go_wp2_with fail
    go_ret
    exact ⟨1,rfl,fun h => absurd h (by decide),(Below.refl _ _).alloc (Nat.le_refl _) _⟩
  · have d1 : decide ((key.length : Int) < 1)=false:=decide_eq_false (by omega)
    have d2 : decide (60 < (key.length : Int))=false:=decide_eq_false (by omega)
    have d3 : decide (500 < (value.length : Int))=true:=decide_eq_true (by omega)
    go_enter Tryz.func146,Tryz.ntmps146
    go_wp2_with fail
    go_ret
    exact ⟨1,rfl,fun h => absurd h (by decide),(Below.refl _ _).alloc (Nat.le_refl _) _⟩
  · have d1 : decide ((key.length : Int) < 1)=false:=decide_eq_false (by omega)
    have d2 : decide (60 < (key.length : Int))=false:=decide_eq_false (by omega)
    have d3 : decide (500 < (value.length : Int))=false:=decide_eq_false (by omega)
    have HLE:=Lib.hid (show key.length≤60∧value.length≤500 from ⟨q2,q3⟩)
    have hB0:=Blk.new w 174 #[.string (bs key),.string (bs value)]
    have hb0 : Below w.heap.size w (w.alloc (.cells #[.string (bs key),.string (bs value)] 174)):=(Below.refl _ _).alloc (Nat.le_refl _) _
    obtain ⟨W0,hW0⟩ : ∃ W0,W0=w.alloc (.cells #[.string (bs key),.string (bs value)] 174):=⟨_,rfl⟩
    rw [← hW0] at hB0 hb0
    have c0:=hB0.cell 0
    have c1:=hB0.cell 1
    have HB0:=Lib.hid hB0
    have HB:=Lib.hid hb0
    clear hB0 hb0 hk hv q1 q2 q3
    obtain ⟨i,hi⟩ : ∃ i,i=Lib.indexByte value 0:=⟨_,rfl⟩
    rw [← hi] at hI
    clear hi
    go_enter Tryz.func146,Tryz.ntmps146
    go_upto_region 1 with fail
    rw [← hW0]
    clear hW0
    go_wp2_with fail
    refine (hC.out _).mono ?_
    rintro e w1 ⟨b,rfl,b1⟩
    have HB1:=Lib.hid (HB.out.trans (b1.mono HB.out.size))
    have k1:=(HB0.out.below b1 HB0.out.lt).cell 1
    clear b1 c0 c1
    cases b with
    | true =>
      go_wp2_with fail
      go_ret
      exact ⟨3,rfl,fun h => absurd h (by decide),HB1.out⟩
    | false =>
      go_wp2_with fail
      refine (hI.out _).mono ?_
      rintro e w' ⟨rfl,rfl⟩
      by_cases h0 : 0≤i
      · go_wp2_with fail
        go_ret
        exact ⟨3,rfl,fun h => absurd h (by decide),HB1.out⟩
      · have h1 : decide (i ≥ 0)=false:=decide_eq_false h0
        go_wp2_with fail
        go_ret
        exact ⟨0,rfl,fun _ => HLE.out,HB1.out⟩
set_option maxRecDepth 100000 in
set_option maxHeartbeats 1000000 in
theorem RWrite_all (r : RecS) (hk : r.key.length≤100000) (hv : r.value.length≤100000) (w : World) (h10 : P10 w) :
    Calls Tryz.prog 97 #[recV r] w fun e w' => ∃ (t : List UInt8) (c : Int),e=.returned (.tuple #[.string (bs t),.int .i64 c])∧Below w.heap.size w w':=by
  have hC:=Lib.hid (fun w => RCheck_all r hk hv w)
  obtain ⟨key,value⟩:=r
  have z1:=bs_size key
  have z2:=bs_size value
  have hrest : (⟨#[32]⟩ : ByteArray) ++ bs key ++ ⟨#[61]⟩ ++ bs value ++ ⟨#[10]⟩=bs (restR ⟨key,value⟩):=by
    rw [show (⟨#[32]⟩ : ByteArray)=bs [32] from rfl,show (⟨#[61]⟩ : ByteArray)=bs [61] from rfl,show (⟨#[10]⟩ : ByteArray)=bs [10] from rfl,bs_append,bs_append,bs_append,bs_append]
    congr 1;simp [restR]
  have zr:=bs_size (restR ⟨key,value⟩)
  have HRL : Hid (key.length≤60∧value.length≤500→(restR ⟨key,value⟩).length≤700):=Lib.hid (fun h => by simp [restR];omega)
  have HNE:=Lib.hid (fun h => recN_eq (restR ⟨key,value⟩).length h)
  have HNO:=Lib.hid (fun h n => recN_no (restR ⟨key,value⟩).length n h)
  have hI:=Lib.hid (fun (n : Nat) (hn : n≤703) w h => Itoa_as n n rfl (by omega) w h)
  have hfin : Hid (bs (Lib.decDigits (recN (restR ⟨key,value⟩).length)) ++ bs (restR ⟨key,value⟩)=bs (recT ⟨key,value⟩)):=Lib.hid (bs_append _ _)
  have ZR:=Lib.hid zr
  have H10:=Lib.hid h10
  clear h10 hk hv
  unfold recV at hC ⊢
  have hB0:=Blk.new w 174 #[.string (bs key),.string (bs value)]
  have hb0 : Below w.heap.size w (w.alloc (.cells #[.string (bs key),.string (bs value)] 174)):=(Below.refl _ _).alloc (Nat.le_refl _) _
  obtain ⟨W0,hW0⟩ : ∃ W0,W0=w.alloc (.cells #[.string (bs key),.string (bs value)] 174):=⟨_,rfl⟩
  rw [← hW0] at hB0 hb0
  have k0:=hB0.cell 0
  have k1:=hB0.cell 1
  have HB0:=Lib.hid hB0
  have HB:=Lib.hid hb0
  clear hB0 hb0
  go_enter Tryz.func97,Tryz.ntmps97
  go_upto_region 1 with fail
  rw [← hW0]
  clear hW0
  go_wp2_with fail
  refine (hC.out _).mono ?_
  rintro e w1 ⟨c,rfl,hcc,b1⟩
  have c0:=(HB0.out.below b1 HB0.out.lt).cell 0
  have c1:=(HB0.out.below b1 HB0.out.lt).cell 1
  have bb : Below w.heap.size w w1:=HB.out.trans (b1.mono HB.out.size)
  clear b1 k0 k1
  by_cases hc : c=0
  case neg =>
    have HBB:=Lib.hid bb
    have hc1 : (c == 0)=false:=beq_eq_false_iff_ne.2 hc
    have hc2 : (c != 0)=true:=by simp [hc]
    clear hcc hc bb
    go_wp2_with fail
    go_ret2
    exact ⟨[],c,rfl,HBB.out⟩
  subst hc
  have hRl:=HRL.out (hcc rfl)
  obtain ⟨kb1,kb2⟩:=hcc rfl
  obtain ⟨n1,n2,n3⟩:=HNE.out hRl
  have HN:=Lib.hid (HNO.out hRl)
  have N1:=Lib.hid n1
  clear hcc HRL HNE HNO n1
  simp only [List.getElem?_toArray,List.getElem?_cons_zero,List.getElem?_cons_succ] at c0 c1
  generalize (restR ⟨key,value⟩).length=R at *
  generalize hbr : bs (restR ⟨key,value⟩)=br at *
  have HBR:=Lib.hid hbr
  clear hbr
  generalize bs key=bk at *
  generalize bs value=bv at *
  generalize hrn : recN R=N at *
  have HRN:=Lib.hid hrn
  clear hrn
  go_wp2_with fail
  go_loopw [6] (fun i wr => ∃ n : Nat,R + 1≤n∧n≤N∧i=.int .i64 n∧Below w.heap.size w wr) (fun i _ => N - (intOf i).toNat)
  case atStart => exact ⟨R + 1,Nat.le_refl _,n2,by go_num,bb⟩
  case round =>
    obtain ⟨n,hn1,hn2,rfl,hb⟩:=hrel
    have hI1:=Lib.hid (hI.out n (by omega) wr (H10.out.below hb))
    have zd:=bs_size (Lib.decDigits n)
    have hdl:=dlen_cases n (by omega)
    have hd4 : (Lib.decDigits n).length≤3:=by omega
    have hge : ∀ {w2 : World},Below wr.heap.size wr w2→Below w.heap.size w w2:=fun h => hb.trans (h.mono hb.size)
    have HGE:=@hge
    clear hge hdl
    by_cases hlt : n < N
    · have hne:=HN.out n hn1 hlt
      have e1 : ((n : Int) == (R : Int) + ((Lib.decDigits n).length : Int))=false:=beq_eq_false_iff_ne.2 (by omega)
      have e2 : ((n : Int) != (R : Int) + ((Lib.decDigits n).length : Int))=true:=bne_iff_ne.2 (by omega)
      have e3 : ¬ (n : Int)=(R : Int) + ((Lib.decDigits n).length : Int):=by omega
      clear hne
      generalize bs (Lib.decDigits n)=bd at *
      generalize (Lib.decDigits n).length=d at *
      go_wp2_with fail
      refine hI1.out.mono ?_
      rintro e w2 ⟨rfl,b2⟩
      go_wp2_with fail
      go_roundw
      case rel => exact ⟨n + 1,by omega,by omega,by go_num,HGE b2⟩
      case measure => simp [intOf];omega
    · obtain rfl : n=N:=by omega
      have hd:=N1.out
      have e1 : ((n : Int) == (R : Int) + ((Lib.decDigits n).length : Int))=true:=beq_iff_eq.2 (by omega)
      have e2 : ((n : Int) != (R : Int) + ((Lib.decDigits n).length : Int))=false:=by rw [bne_eq_false_iff_eq];omega
      have hf:=hfin.out
      have HF:=Lib.hid hf
      have hIq:=Lib.hid (fun w h => hI.out n (by omega) w h)
      clear hd hf hfin hI N1
      generalize bs (Lib.decDigits n)=bd at *
      generalize (Lib.decDigits n).length=d at *
      go_wp2_with fail
      refine hI1.out.mono ?_
      rintro e w2 ⟨rfl,b2⟩
      go_wp2_with fail
      refine (hIq.out _ (H10.out.below (HGE b2))).mono ?_
      rintro e w3 ⟨rfl,b3⟩
      go_wp2_with fail
      go_ret2
      exact ⟨_,0,ret_si HF.out rfl,HGE (b2.trans (b3.mono b2.size))⟩
theorem mem_dropWhile {p : UInt8→Bool} {b : UInt8} (hp : p b=false) : ∀ (l : List UInt8),b∈l→b∈l.dropWhile p
  | [],h => h
  | a :: l,h => by
    by_cases ha : p a=true
    · rw [List.dropWhile_cons_of_pos ha]
      rcases List.mem_cons.1 h with rfl | h
      · rw [hp] at ha;cases ha
      · exact mem_dropWhile hp l h
    · rw [List.dropWhile_cons_of_neg ha]
      exact h
theorem trimS_all {l : List UInt8} (h : Lib.trimS l digSet=[]) : ∀ b∈l,48≤b.toNat∧b.toNat≤57:=fun b hb => by
  cases hc : digSet.contains b with
  | true =>
    have : b∈digSet:=by simpa using hc
    simp only [digSet,List.mem_cons,List.mem_nil_iff,or_false] at this
    rcases this with rfl | rfl | rfl | rfl | rfl | rfl | rfl | rfl | rfl | rfl <;> decide
  | false =>
    exfalso
    have h1 : b∈Lib.trimRightS l digSet:=by
      unfold Lib.trimRightS
      exact List.mem_reverse.2 (mem_dropWhile hc _ (List.mem_reverse.2 hb))
    have h2:=mem_dropWhile hc _ h1
    unfold Lib.trimS Lib.trimLeftS at h
    rw [h] at h2
    cases h2
theorem decFrom_all : ∀ (l : List UInt8) (acc k : Nat),(∀ b∈l,48≤b.toNat∧b.toNat≤57)→acc < k→∃ n,Lib.decFrom acc l=some n∧n < k * 10 ^ l.length
  | [],acc,k,_,hk => ⟨acc,rfl,by simpa using hk⟩
  | b :: l,acc,k,h,hk => by
    obtain ⟨h1,h2⟩:=h b (by simp)
    obtain ⟨n,e,hn⟩:=decFrom_all l (acc * 10 + (b.toNat - 48)) (k * 10) (fun c hc => h c (by simp [hc])) (by omega)
    refine ⟨n,?_,?_⟩
    · have : Lib.digitVal b=some (b.toNat - 48):=by unfold Lib.digitVal;rw [if_pos ⟨h1,h2⟩]
      simp only [Lib.decFrom,this]
      exact e
    · rw [List.length_cons,Nat.pow_succ,Nat.mul_comm (10 ^ l.length),← Nat.mul_assoc]
      exact hn
theorem atoi_digs {l : List UInt8} (h : ∀ b∈l,48≤b.toNat∧b.toNat≤57) (h0 : l≠[]) (h4 : l.length≤4) : ∃ n : Nat,Lib.atoi l=some (n : Int)∧n < 10000:=by
  obtain ⟨n,e,hn⟩:=decFrom_all l 0 1 h (by omega)
  have hp : 10 ^ l.length≤10 ^ 4:=Nat.pow_le_pow_right (by omega) h4
  refine ⟨n,?_,by omega⟩
  cases l with
  | nil => exact absurd rfl h0
  | cons b r =>
    have:=h b (by simp)
    have e1 : (b == 45)=false:=beq_eq_false_iff_ne.2 (fun e => by subst e;revert this;decide)
    have e2 : (b == 43)=false:=beq_eq_false_iff_ne.2 (fun e => by subst e;revert this;decide)
    unfold Lib.atoi
    simp only [e1,e2]
    simp [Lib.decNat,e]
theorem Trim_digset (l : List UInt8) (hl : l.length≤100000) (w : World) :
    Calls Tryz.prog 113 #[.string (bs l),.string ⟨#[48,49,50,51,52,53,54,55,56,57]⟩] w fun e w' => e=.returned (.string (bs (Lib.trimS l digSet)))∧Below w.heap.size w w':=by
  have h116 : (Tryz.prog.info? (Tryz.lays160_ren.t 116)).map (fun i => (i.zero,i.size))=some (some (.agg (Array.replicate 256 (.bool false))),256):=by kernel_rfl
  refine (Any.strings_Trim_ascii Tryz.lays160 (zero_of_info h116).1 (zero_of_info h116).2 (bs l) ⟨#[48,49,50,51,52,53,54,55,56,57]⟩ w (by rw [bs_size];omega) (by decide) (fun j b hb => ?_)).mono fun e w' ⟨h1,h2⟩ => ⟨?_,h2⟩
  · have hm : b∈digSet:=List.mem_of_getElem? hb
    simp only [digSet,List.mem_cons,List.mem_nil_iff,or_false] at hm
    rcases hm with rfl | rfl | rfl | rfl | rfl | rfl | rfl | rfl | rfl | rfl <;> decide
  · rw [h1,bs_data]
    rfl
def RRPost (l : List UInt8) (w : World) (e : Ending) (w' : World) : Prop :=
  Below w.heap.size w w'∧((∃ c : Int,c≠0∧e=.returned (.tuple #[recV ⟨[],[]⟩,.string ⟨#[]⟩,.int .i64 c])) ∨
    (∃ (r : RecS) (rest : List UInt8),e=.returned (.tuple #[recV r,.string (bs rest),.int .i64 0])∧r.key.length≤60∧r.value.length≤500∧rest.length < l.length))
set_option maxRecDepth 100000 in
set_option maxHeartbeats 8000000 in
theorem RRead_all (l : List UInt8) (hl : l.length≤99500) (w : World) (hm : ML w) (h10 : P10 w) :
    Calls Tryz.prog 105 #[.string (bs l)] w fun e w' => RRPost l w e w':=by
  by_cases hc32 : (32 : UInt8)∈l
  case neg => exact (Read_short l (by omega) hc32 w hm).mono fun e w' ⟨h1,h2⟩ => ⟨h2,.inl ⟨3,by decide,h1⟩⟩
  obtain ⟨C,M,hlm,hC32⟩:=List.eq_append_cons_of_mem hc32
  have hlen : l.length=C.length + M.length + 1:=by rw [hlm];simp;omega
  have HC:=Lib.hid (fun w hm => Cut_at l C M true 32 (by rw [hlm];exact cut_at hC32) w (by omega) hm)
  have HT:=Lib.hid (fun w => Trim_digset C (by omega) w)
  have HAT:=Lib.hid (fun (n : Nat) (h : Lib.atoi C=some (n : Int)) (h4 : C.length≤4) w => (Tryz.strconv_Atoi (bs C) n (by rw [bs_size];omega) (by rw [bs_data];exact h) w).mono fun e w' ⟨h1,t,h2⟩ => (show e=Ending.returned (.tuple #[.int .i64 (n : Int),.nilIface])∧Below w.heap.size w w' from ⟨h1,by rw [h2];exact Lib.bytesWorld_below _ _ _⟩))
  have HN:=Lib.hid (fun c w => ReadNo_any c w)
  unfold recV at HN
  unfold RRPost recV
  have zl:=bs_size l
  have zc:=bs_size C
  have hb10:=Lib.hid (fun w1 (h : Below w.heap.size w w1) => h10.below h)
  have hmb:=Lib.hid (fun w1 (h : Below w.heap.size w w1) => hm.below h)
  have hB0:=Blk.new w 174 #[.string ⟨#[]⟩,.string ⟨#[]⟩]
  have hb0 : Below w.heap.size w (w.alloc (.cells #[.string ⟨#[]⟩,.string ⟨#[]⟩] 174)):=(Below.refl _ w).alloc (Nat.le_refl _) _
  have hm0:=hm.below hb0
  obtain ⟨W0,hW0⟩ : ∃ W0,W0=w.alloc (.cells #[.string ⟨#[]⟩,.string ⟨#[]⟩] 174):=⟨_,rfl⟩
  rw [← hW0] at hB0 hb0 hm0
  have HM0:=Lib.hid hm0
  have H0 : Hid (Blk W0 w.heap.size 174 #[.string ⟨#[]⟩,.string ⟨#[]⟩]∧Below w.heap.size w W0):=Lib.hid ⟨hB0,hb0⟩
  have HC2:=Lib.hid (fun w1 w2 (h : Blk w1 w.heap.size 174 #[.string ⟨#[]⟩,.string ⟨#[]⟩]∧Below w.heap.size w w1) (b2 : Below w1.heap.size w1 w2) => (show Blk w2 w.heap.size 174 #[.string ⟨#[]⟩,.string ⟨#[]⟩]∧Below w.heap.size w w2 from ⟨h.1.below b2 h.1.lt,h.2.trans (b2.mono h.2.size)⟩))
  have e0 : (bs [])=⟨#[]⟩:=rfl
  have HLM:=Lib.hid hlm
  have hlenc : C.length + 1≤l.length:=by omega
  clear hlen hB0 hb0 hm0 hm h10 hc32 hlm hC32
  by_cases c1 : C=[]
  case pos =>
    subst c1
    have t1 : (bs []).size < 1:=by rw [bs_size];decide
    go_enter Tryz.func105,Tryz.ntmps105
    go_wp2_with fail
    rw [← hW0]
    refine (HC.out _ HM0.out).mono ?_
    rintro e w1 ⟨rfl,b1⟩
    have h1:=Lib.hid (HC2.out _ _ H0.out b1)
    clear b1
    go_wp2_with fail
    refine (HN.out 3 _).mono ?_
    rintro e wn ⟨rfl,bn⟩
    have hn:=HC2.out _ _ h1.out bn
    have HBN:=Lib.hid hn.1
    have HCN:=Lib.hid hn.2
    have k0:=hn.1.cell 0
    have k1:=hn.1.cell 1
    have y0:=hn.1.frozen 0
    have y1:=hn.1.frozen 1
    clear hn bn
    go_wp2_with fail
    have hBz:=(HBN.out.set_ 0 (.string ⟨#[]⟩)).set_ 1 (.string ⟨#[]⟩)
    have d0:=hBz.cell 0
    have d1:=hBz.cell 1
    have cz:=(HCN.out.setCell (p:=⟨w.heap.size,0,none⟩) (Nat.le_refl _) (.string ⟨#[]⟩)).setCell (p:=⟨w.heap.size,1,none⟩) (Nat.le_refl _) (.string ⟨#[]⟩)
    clear hBz HBN k0 k1 y0 y1
    generalize (wn.setCell ⟨w.heap.size,0,none⟩ (.string ⟨#[]⟩)).setCell ⟨w.heap.size,1,none⟩ (.string ⟨#[]⟩)=wz at *
    exact bodyPost_ret (v:=.tuple #[.agg #[.string ⟨#[]⟩,.string ⟨#[]⟩],.string ⟨#[]⟩,.int .i64 3]) (by simp [results,Tryz.results105,go_sem,d0,d1]) rfl ⟨cz,.inl ⟨3,by decide,rfl⟩⟩
  have hcl : 1≤C.length:=by
    cases C with
    | nil => exact absurd rfl c1
    | cons _ _ => simp
  by_cases c4 : 4 < C.length
  case pos =>
    have t1 : ¬ (bs C).size < 1:=by omega
    have t2 : 4 < (bs C).size:=by omega
    go_enter Tryz.func105,Tryz.ntmps105
    go_wp2_with fail
    rw [← hW0]
    refine (HC.out _ HM0.out).mono ?_
    rintro e w1 ⟨rfl,b1⟩
    have h1:=Lib.hid (HC2.out _ _ H0.out b1)
    clear b1
    go_wp2_with fail
    refine (HN.out 3 _).mono ?_
    rintro e wn ⟨rfl,bn⟩
    have hn:=HC2.out _ _ h1.out bn
    have HBN:=Lib.hid hn.1
    have HCN:=Lib.hid hn.2
    have k0:=hn.1.cell 0
    have k1:=hn.1.cell 1
    have y0:=hn.1.frozen 0
    have y1:=hn.1.frozen 1
    clear hn bn
    go_wp2_with fail
    have hBz:=(HBN.out.set_ 0 (.string ⟨#[]⟩)).set_ 1 (.string ⟨#[]⟩)
    have d0:=hBz.cell 0
    have d1:=hBz.cell 1
    have cz:=(HCN.out.setCell (p:=⟨w.heap.size,0,none⟩) (Nat.le_refl _) (.string ⟨#[]⟩)).setCell (p:=⟨w.heap.size,1,none⟩) (Nat.le_refl _) (.string ⟨#[]⟩)
    clear hBz HBN k0 k1 y0 y1
    generalize (wn.setCell ⟨w.heap.size,0,none⟩ (.string ⟨#[]⟩)).setCell ⟨w.heap.size,1,none⟩ (.string ⟨#[]⟩)=wz at *
    exact bodyPost_ret (v:=.tuple #[.agg #[.string ⟨#[]⟩,.string ⟨#[]⟩],.string ⟨#[]⟩,.int .i64 3]) (by simp [results,Tryz.results105,go_sem,d0,d1]) rfl ⟨cz,.inl ⟨3,by decide,rfl⟩⟩
  have t1 : ¬ (bs C).size < 1:=by omega
  have t2 : ¬ 4 < (bs C).size:=by omega
  have t3 : 0 < (bs C).size:=by omega
  obtain ⟨q,hq⟩ : ∃ q : Int,∀ h : 0 < (bs C).size,((bs C)[0].toNat : Int)=q:=⟨((bs C)[0]'t3).toNat,fun _ => rfl⟩
  have hq0:=hq t3
  clear hq
  by_cases cz : q=48
  case pos =>
    have z1 : (q == 48)=true:=beq_iff_eq.2 cz
    clear cz
    go_enter Tryz.func105,Tryz.ntmps105
    go_wp2_with fail
    rw [← hW0]
    refine (HC.out _ HM0.out).mono ?_
    rintro e w1 ⟨rfl,b1⟩
    have h1:=Lib.hid (HC2.out _ _ H0.out b1)
    clear b1
    go_wp2_with fail
    refine (HN.out 3 _).mono ?_
    rintro e wn ⟨rfl,bn⟩
    have hn:=HC2.out _ _ h1.out bn
    have HBN:=Lib.hid hn.1
    have HCN:=Lib.hid hn.2
    have k0:=hn.1.cell 0
    have k1:=hn.1.cell 1
    have y0:=hn.1.frozen 0
    have y1:=hn.1.frozen 1
    clear hn bn
    go_wp2_with fail
    have hBz:=(HBN.out.set_ 0 (.string ⟨#[]⟩)).set_ 1 (.string ⟨#[]⟩)
    have d0:=hBz.cell 0
    have d1:=hBz.cell 1
    have cz:=(HCN.out.setCell (p:=⟨w.heap.size,0,none⟩) (Nat.le_refl _) (.string ⟨#[]⟩)).setCell (p:=⟨w.heap.size,1,none⟩) (Nat.le_refl _) (.string ⟨#[]⟩)
    clear hBz HBN k0 k1 y0 y1
    generalize (wn.setCell ⟨w.heap.size,0,none⟩ (.string ⟨#[]⟩)).setCell ⟨w.heap.size,1,none⟩ (.string ⟨#[]⟩)=wz at *
    exact bodyPost_ret (v:=.tuple #[.agg #[.string ⟨#[]⟩,.string ⟨#[]⟩],.string ⟨#[]⟩,.int .i64 3]) (by simp [results,Tryz.results105,go_sem,d0,d1]) rfl ⟨cz,.inl ⟨3,by decide,rfl⟩⟩
  have z1 : (q == 48)=false:=beq_eq_false_iff_ne.2 cz
  have CZ:=Lib.hid cz
  by_cases ctr : Lib.trimS C digSet=[]
  case neg =>
    have z2 : (bs (Lib.trimS C digSet)).toList.isEmpty=false:=by rw [bs_toList];cases h : Lib.trimS C digSet with | nil => exact absurd h ctr | cons _ _ => rfl
    have z3 : ¬ (bs (Lib.trimS C digSet)).toList=[]:=by rw [bs_toList];exact ctr
    clear ctr cz
    generalize bs (Lib.trimS C digSet)=bt at *
    go_enter Tryz.func105,Tryz.ntmps105
    go_wp2_with fail
    rw [← hW0]
    refine (HC.out _ HM0.out).mono ?_
    rintro e w1 ⟨rfl,b1⟩
    have h1:=Lib.hid (HC2.out _ _ H0.out b1)
    clear b1
    go_wp2_with fail
    refine (HT.out _).mono ?_
    rintro e w2 ⟨rfl,b2⟩
    have h2:=Lib.hid (HC2.out _ _ h1.out b2)
    clear b2
    go_wp2_with fail
    refine (HN.out 3 _).mono ?_
    rintro e wn ⟨rfl,bn⟩
    have hn:=HC2.out _ _ h2.out bn
    have HBN:=Lib.hid hn.1
    have HCN:=Lib.hid hn.2
    have k0:=hn.1.cell 0
    have k1:=hn.1.cell 1
    have y0:=hn.1.frozen 0
    have y1:=hn.1.frozen 1
    clear hn bn
    go_wp2_with fail
    have hBz:=(HBN.out.set_ 0 (.string ⟨#[]⟩)).set_ 1 (.string ⟨#[]⟩)
    have d0:=hBz.cell 0
    have d1:=hBz.cell 1
    have cz:=(HCN.out.setCell (p:=⟨w.heap.size,0,none⟩) (Nat.le_refl _) (.string ⟨#[]⟩)).setCell (p:=⟨w.heap.size,1,none⟩) (Nat.le_refl _) (.string ⟨#[]⟩)
    clear hBz HBN k0 k1 y0 y1
    generalize (wn.setCell ⟨w.heap.size,0,none⟩ (.string ⟨#[]⟩)).setCell ⟨w.heap.size,1,none⟩ (.string ⟨#[]⟩)=wz at *
    exact bodyPost_ret (v:=.tuple #[.agg #[.string ⟨#[]⟩,.string ⟨#[]⟩],.string ⟨#[]⟩,.int .i64 3]) (by simp [results,Tryz.results105,go_sem,d0,d1]) rfl ⟨cz,.inl ⟨3,by decide,rfl⟩⟩
  obtain ⟨n,hat,hn4⟩:=atoi_digs (trimS_all ctr) c1 (by omega)
  have HA:=Lib.hid (HAT.out n hat (by omega))
  rw [ctr,e0] at HT
  clear ctr hat HAT cz c1
  by_cases cn : l.length < n
  case pos =>
    have t4 : (bs l).size < n:=by omega
    go_enter Tryz.func105,Tryz.ntmps105
    go_wp2_with fail
    rw [← hW0]
    refine (HC.out _ HM0.out).mono ?_
    rintro e w1 ⟨rfl,b1⟩
    have h1:=Lib.hid (HC2.out _ _ H0.out b1)
    clear b1
    go_wp2_with fail
    refine (HT.out _).mono ?_
    rintro e w2 ⟨rfl,b2⟩
    have h2:=Lib.hid (HC2.out _ _ h1.out b2)
    clear b2
    go_wp2_with fail
    refine (HA.out _).mono ?_
    rintro e w3 ⟨rfl,b3⟩
    have h3:=Lib.hid (HC2.out _ _ h2.out b3)
    clear b3
    go_wp2_with fail
    refine (HN.out 7 _).mono ?_
    rintro e wn ⟨rfl,bn⟩
    have hn:=HC2.out _ _ h3.out bn
    have HBN:=Lib.hid hn.1
    have HCN:=Lib.hid hn.2
    have k0:=hn.1.cell 0
    have k1:=hn.1.cell 1
    have y0:=hn.1.frozen 0
    have y1:=hn.1.frozen 1
    clear hn bn
    go_wp2_with fail
    have hBz:=(HBN.out.set_ 0 (.string ⟨#[]⟩)).set_ 1 (.string ⟨#[]⟩)
    have d0:=hBz.cell 0
    have d1:=hBz.cell 1
    have cz:=(HCN.out.setCell (p:=⟨w.heap.size,0,none⟩) (Nat.le_refl _) (.string ⟨#[]⟩)).setCell (p:=⟨w.heap.size,1,none⟩) (Nat.le_refl _) (.string ⟨#[]⟩)
    clear hBz HBN k0 k1 y0 y1
    generalize (wn.setCell ⟨w.heap.size,0,none⟩ (.string ⟨#[]⟩)).setCell ⟨w.heap.size,1,none⟩ (.string ⟨#[]⟩)=wz at *
    exact bodyPost_ret (v:=.tuple #[.agg #[.string ⟨#[]⟩,.string ⟨#[]⟩],.string ⟨#[]⟩,.int .i64 7]) (by simp [results,Tryz.results105,go_sem,d0,d1]) rfl ⟨cz,.inl ⟨7,by decide,rfl⟩⟩
  have t4 : ¬ (bs l).size < n:=by omega
  by_cases cs : n≤C.length + 1
  case pos =>
    have t5 : (n : Int)≤(C.length : Int) + 1:=by omega
    go_enter Tryz.func105,Tryz.ntmps105
    go_wp2_with fail
    rw [← hW0]
    refine (HC.out _ HM0.out).mono ?_
    rintro e w1 ⟨rfl,b1⟩
    have h1:=Lib.hid (HC2.out _ _ H0.out b1)
    clear b1
    go_wp2_with fail
    refine (HT.out _).mono ?_
    rintro e w2 ⟨rfl,b2⟩
    have h2:=Lib.hid (HC2.out _ _ h1.out b2)
    clear b2
    go_wp2_with fail
    refine (HA.out _).mono ?_
    rintro e w3 ⟨rfl,b3⟩
    have h3:=Lib.hid (HC2.out _ _ h2.out b3)
    clear b3
    go_wp2_with fail
    refine (HN.out 3 _).mono ?_
    rintro e wn ⟨rfl,bn⟩
    have hn:=HC2.out _ _ h3.out bn
    have HBN:=Lib.hid hn.1
    have HCN:=Lib.hid hn.2
    have k0:=hn.1.cell 0
    have k1:=hn.1.cell 1
    have y0:=hn.1.frozen 0
    have y1:=hn.1.frozen 1
    clear hn bn
    go_wp2_with fail
    have hBz:=(HBN.out.set_ 0 (.string ⟨#[]⟩)).set_ 1 (.string ⟨#[]⟩)
    have d0:=hBz.cell 0
    have d1:=hBz.cell 1
    have cz:=(HCN.out.setCell (p:=⟨w.heap.size,0,none⟩) (Nat.le_refl _) (.string ⟨#[]⟩)).setCell (p:=⟨w.heap.size,1,none⟩) (Nat.le_refl _) (.string ⟨#[]⟩)
    clear hBz HBN k0 k1 y0 y1
    generalize (wn.setCell ⟨w.heap.size,0,none⟩ (.string ⟨#[]⟩)).setCell ⟨w.heap.size,1,none⟩ (.string ⟨#[]⟩)=wz at *
    exact bodyPost_ret (v:=.tuple #[.agg #[.string ⟨#[]⟩,.string ⟨#[]⟩],.string ⟨#[]⟩,.int .i64 3]) (by simp [results,Tryz.results105,go_sem,d0,d1]) rfl ⟨cz,.inl ⟨3,by decide,rfl⟩⟩
  have t5 : ¬ (n : Int)≤(C.length : Int) + 1:=by omega
  obtain ⟨k,hk⟩ : ∃ k,n=k + 1:=⟨n - 1,by omega⟩
  subst hk
  have hkl : k < (bs l).size:=by omega
  obtain ⟨u,hu⟩ : ∃ u : Int,∀ h : k < (bs l).size,((bs l)[k].toNat : Int)=u:=⟨((bs l)[k]'hkl).toNat,fun _ => rfl⟩
  have hu0:=hu hkl
  clear hu
  by_cases cu : u=10
  case neg =>
    have y5 : (u == 10)=false:=beq_eq_false_iff_ne.2 cu
    have y6 : (u != 10)=true:=by simp [cu]
    clear cu
    go_enter Tryz.func105,Tryz.ntmps105
    go_wp2_with fail
    rw [← hW0]
    refine (HC.out _ HM0.out).mono ?_
    rintro e w1 ⟨rfl,b1⟩
    have h1:=Lib.hid (HC2.out _ _ H0.out b1)
    clear b1
    go_wp2_with fail
    refine (HT.out _).mono ?_
    rintro e w2 ⟨rfl,b2⟩
    have h2:=Lib.hid (HC2.out _ _ h1.out b2)
    clear b2
    go_wp2_with fail
    refine (HA.out _).mono ?_
    rintro e w3 ⟨rfl,b3⟩
    have h3:=Lib.hid (HC2.out _ _ h2.out b3)
    clear b3
    go_wp2_with fail
    refine (HN.out 3 _).mono ?_
    rintro e wn ⟨rfl,bn⟩
    have hn:=HC2.out _ _ h3.out bn
    have HBN:=Lib.hid hn.1
    have HCN:=Lib.hid hn.2
    have k0:=hn.1.cell 0
    have k1:=hn.1.cell 1
    have y0:=hn.1.frozen 0
    have y1:=hn.1.frozen 1
    clear hn bn
    go_wp2_with fail
    have hBz:=(HBN.out.set_ 0 (.string ⟨#[]⟩)).set_ 1 (.string ⟨#[]⟩)
    have d0:=hBz.cell 0
    have d1:=hBz.cell 1
    have cz:=(HCN.out.setCell (p:=⟨w.heap.size,0,none⟩) (Nat.le_refl _) (.string ⟨#[]⟩)).setCell (p:=⟨w.heap.size,1,none⟩) (Nat.le_refl _) (.string ⟨#[]⟩)
    clear hBz HBN k0 k1 y0 y1
    generalize (wn.setCell ⟨w.heap.size,0,none⟩ (.string ⟨#[]⟩)).setCell ⟨w.heap.size,1,none⟩ (.string ⟨#[]⟩)=wz at *
    exact bodyPost_ret (v:=.tuple #[.agg #[.string ⟨#[]⟩,.string ⟨#[]⟩],.string ⟨#[]⟩,.int .i64 3]) (by simp [results,Tryz.results105,go_sem,d0,d1]) rfl ⟨cz,.inl ⟨3,by decide,rfl⟩⟩
  subst cu
  obtain ⟨E,hE⟩ : ∃ E,E=(l.drop (C.length + 1)).take (k - (C.length + 1)):=⟨_,rfl⟩
  have x1 : (bs l).extract (C.length + 1) k=bs E:=by rw [bs_extract,hE]
  have hEl : E.length≤99500:=by rw [hE,List.length_take];omega
  have HX1:=Lib.hid x1
  have klim : k≤9999:=by omega
  have i3 : C.length < k:=by omega
  have i4 : C.length + 1≤k:=by omega
  have i5 : (C.length : Int) < (k : Int):=by omega
  have i6 : (C.length : Int) + 1≤(k : Int):=by omega
  have i7 : k≤(bs l).size:=by omega
  have i8 : k + 1≤(bs l).size:=by omega
  clear hE x1
  by_cases ce : (61 : UInt8)∈E
  case neg =>
    have HE:=Lib.hid (fun w hm => Cut_at E E [] false 61 (cut_not ce) w (by omega) hm)
    rw [e0] at HE
    clear ce
    go_enter Tryz.func105,Tryz.ntmps105
    go_wp2_with fail
    rw [← hW0]
    refine (HC.out _ HM0.out).mono ?_
    rintro e w1 ⟨rfl,b1⟩
    have h1:=Lib.hid (HC2.out _ _ H0.out b1)
    clear b1
    go_wp2_with fail
    refine (HT.out _).mono ?_
    rintro e w2 ⟨rfl,b2⟩
    have h2:=Lib.hid (HC2.out _ _ h1.out b2)
    clear b2
    go_wp2_with fail
    refine (HA.out _).mono ?_
    rintro e w3 ⟨rfl,b3⟩
    have h3:=Lib.hid (HC2.out _ _ h2.out b3)
    clear b3
    go_wp2_with fail
    rw [HX1.out]
    refine (HE.out _ (hmb.out _ h3.out.2)).mono ?_
    rintro e w4 ⟨rfl,b4⟩
    have h4:=Lib.hid (HC2.out _ _ h3.out b4)
    clear b4
    have hA:=(Below.refl w4.heap.size w4).alloc (Nat.le_refl _) (.cells #[.string (bs E),.string ⟨#[]⟩] 174)
    obtain ⟨wa,hwa⟩ : ∃ wa,wa=w4.alloc (.cells #[.string (bs E),.string ⟨#[]⟩] 174):=⟨_,rfl⟩
    rw [← hwa] at hA
    have h4a:=Lib.hid (HC2.out _ _ h4.out hA)
    clear hA
    go_upto_region 12 with fail
    rw [← hwa]
    clear hwa
    go_wp2_with fail
    refine (HN.out 3 _).mono ?_
    rintro e wn ⟨rfl,bn⟩
    have hn:=HC2.out _ _ h4a.out bn
    have HBN:=Lib.hid hn.1
    have HCN:=Lib.hid hn.2
    have k0:=hn.1.cell 0
    have k1:=hn.1.cell 1
    have y0:=hn.1.frozen 0
    have y1:=hn.1.frozen 1
    clear hn bn
    go_wp2_with fail
    have hBz:=(HBN.out.set_ 0 (.string ⟨#[]⟩)).set_ 1 (.string ⟨#[]⟩)
    have d0:=hBz.cell 0
    have d1:=hBz.cell 1
    have cz:=(HCN.out.setCell (p:=⟨w.heap.size,0,none⟩) (Nat.le_refl _) (.string ⟨#[]⟩)).setCell (p:=⟨w.heap.size,1,none⟩) (Nat.le_refl _) (.string ⟨#[]⟩)
    clear hBz HBN k0 k1 y0 y1
    generalize (wn.setCell ⟨w.heap.size,0,none⟩ (.string ⟨#[]⟩)).setCell ⟨w.heap.size,1,none⟩ (.string ⟨#[]⟩)=wz at *
    exact bodyPost_ret (v:=.tuple #[.agg #[.string ⟨#[]⟩,.string ⟨#[]⟩],.string ⟨#[]⟩,.int .i64 3]) (by simp [results,Tryz.results105,go_sem,d0,d1]) rfl ⟨cz,.inl ⟨3,by decide,rfl⟩⟩
  obtain ⟨K,V,hKV,hK61⟩:=List.eq_append_cons_of_mem ce
  have hkvl : K.length≤99500∧V.length≤99500:=by rw [hKV] at hEl;simp at hEl;omega
  have HE:=Lib.hid (fun w hm => Cut_at E K V true 61 (by rw [hKV];exact cut_at hK61) w (by omega) hm)
  have HK:=Lib.hid (fun w => RCheck_all ⟨K,V⟩ (by show K.length≤100000;omega) (by show V.length≤100000;omega) w)
  have HW:=Lib.hid (fun w h => RWrite_all ⟨K,V⟩ (by show K.length≤100000;omega) (by show V.length≤100000;omega) w h)
  unfold recV at HK HW
  simp only at HK HW
  have x2 : (bs l).extract 0 (k + 1)=bs (l.take (k + 1)):=by rw [bs_extract,List.drop_zero];rfl
  have x3 : (bs l).extract (k + 1) l.length=bs (l.drop (k + 1)):=by
    rw [bs_extract]
    congr 1
    exact List.take_of_length_le (by rw [List.length_drop];omega)
  have HX2:=Lib.hid x2
  have HX3:=Lib.hid x3
  have HRL : Hid ((l.drop (k + 1)).length < l.length):=Lib.hid (by rw [List.length_drop];omega)
  clear x2 x3 ce hKV hK61 hkvl hEl
  generalize bs (l.take (k + 1))=bT at *
  go_enter Tryz.func105,Tryz.ntmps105
  go_wp2_with fail
  rw [← hW0]
  refine (HC.out _ HM0.out).mono ?_
  rintro e w1 ⟨rfl,b1⟩
  have h1:=Lib.hid (HC2.out _ _ H0.out b1)
  clear b1
  go_wp2_with fail
  refine (HT.out _).mono ?_
  rintro e w2 ⟨rfl,b2⟩
  have h2:=Lib.hid (HC2.out _ _ h1.out b2)
  clear b2
  go_wp2_with fail
  refine (HA.out _).mono ?_
  rintro e w3 ⟨rfl,b3⟩
  have h3:=Lib.hid (HC2.out _ _ h2.out b3)
  clear b3
  go_wp2_with fail
  rw [HX1.out]
  refine (HE.out _ (hmb.out _ h3.out.2)).mono ?_
  rintro e w4 ⟨rfl,b4⟩
  have h4:=Lib.hid (HC2.out _ _ h3.out b4)
  clear b4
  have hN:=Blk.new w4 174 #[.string (bs K),.string (bs V)]
  have hA:=(Below.refl w4.heap.size w4).alloc (Nat.le_refl _) (.cells #[.string (bs K),.string (bs V)] 174)
  obtain ⟨wa,hwa⟩ : ∃ wa,wa=w4.alloc (.cells #[.string (bs K),.string (bs V)] 174):=⟨_,rfl⟩
  obtain ⟨gr,hgr⟩ : ∃ gr,gr=w4.heap.size:=⟨_,rfl⟩
  rw [← hwa] at hN hA
  rw [← hgr] at hN
  have h4a:=Lib.hid (HC2.out _ _ h4.out hA)
  have HNw:=Lib.hid hN
  have q0:=hN.cell 0
  have q1:=hN.cell 1
  clear hN hA
  go_upto_region 12 with fail
  rw [← hwa,← hgr]
  clear hwa hgr
  go_wp2_with fail
  refine (HK.out _).mono ?_
  rintro e w5 ⟨c,rfl,hcc,b5⟩
  have h5:=Lib.hid (HC2.out _ _ h4a.out b5)
  have HN5:=Lib.hid (HNw.out.below b5 HNw.out.lt)
  clear b5 q0 q1
  by_cases hc : c=0
  case neg =>
    have hc1 : (c == 0)=false:=beq_eq_false_iff_ne.2 hc
    have hc2 : (c != 0)=true:=by simp [hc]
    have HCN0:=Lib.hid hc
    clear hc hcc
    go_wp2_with fail
    refine (HN.out c _).mono ?_
    rintro e wn ⟨rfl,bn⟩
    have hn:=HC2.out _ _ h5.out bn
    have HBN:=Lib.hid hn.1
    have HCN:=Lib.hid hn.2
    have k0:=hn.1.cell 0
    have k1:=hn.1.cell 1
    have y0:=hn.1.frozen 0
    have y1:=hn.1.frozen 1
    clear hn bn
    go_wp2_with fail
    have hBz:=(HBN.out.set_ 0 (.string ⟨#[]⟩)).set_ 1 (.string ⟨#[]⟩)
    have d0:=hBz.cell 0
    have d1:=hBz.cell 1
    have cz:=(HCN.out.setCell (p:=⟨w.heap.size,0,none⟩) (Nat.le_refl _) (.string ⟨#[]⟩)).setCell (p:=⟨w.heap.size,1,none⟩) (Nat.le_refl _) (.string ⟨#[]⟩)
    clear hBz HBN k0 k1 y0 y1
    generalize (wn.setCell ⟨w.heap.size,0,none⟩ (.string ⟨#[]⟩)).setCell ⟨w.heap.size,1,none⟩ (.string ⟨#[]⟩)=wz at *
    exact bodyPost_ret (v:=.tuple #[.agg #[.string ⟨#[]⟩,.string ⟨#[]⟩],.string ⟨#[]⟩,.int .i64 c]) (by simp [results,Tryz.results105,go_sem,d0,d1]) rfl ⟨cz,.inl ⟨c,HCN0.out,rfl⟩⟩
  subst hc
  have HKV:=Lib.hid (hcc rfl)
  clear hcc
  have k50:=HN5.out.cell 0
  have k51:=HN5.out.cell 1
  go_wp2_with fail
  refine (HW.out _ (hb10.out _ h5.out.2)).mono ?_
  rintro e w6 ⟨t,c,rfl,b6⟩
  have h6:=Lib.hid (HC2.out _ _ h5.out b6)
  have HN6:=Lib.hid (HN5.out.below b6 HN5.out.lt)
  have x2:=HX2.out
  clear k50 k51 b6
  cases hx : ((bs t).toList == bT.toList) with
  | false =>
    go_wp2_with fail
    refine (HN.out 3 _).mono ?_
    rintro e wn ⟨rfl,bn⟩
    have hn:=HC2.out _ _ h6.out bn
    have HBN:=Lib.hid hn.1
    have HCN:=Lib.hid hn.2
    have k0:=hn.1.cell 0
    have k1:=hn.1.cell 1
    have y0:=hn.1.frozen 0
    have y1:=hn.1.frozen 1
    clear hn bn
    go_wp2_with fail
    have hBz:=(HBN.out.set_ 0 (.string ⟨#[]⟩)).set_ 1 (.string ⟨#[]⟩)
    have d0:=hBz.cell 0
    have d1:=hBz.cell 1
    have cz:=(HCN.out.setCell (p:=⟨w.heap.size,0,none⟩) (Nat.le_refl _) (.string ⟨#[]⟩)).setCell (p:=⟨w.heap.size,1,none⟩) (Nat.le_refl _) (.string ⟨#[]⟩)
    clear hBz HBN k0 k1 y0 y1
    generalize (wn.setCell ⟨w.heap.size,0,none⟩ (.string ⟨#[]⟩)).setCell ⟨w.heap.size,1,none⟩ (.string ⟨#[]⟩)=wz at *
    exact bodyPost_ret (v:=.tuple #[.agg #[.string ⟨#[]⟩,.string ⟨#[]⟩],.string ⟨#[]⟩,.int .i64 3]) (by simp [results,Tryz.results105,go_sem,d0,d1]) rfl ⟨cz,.inl ⟨3,by decide,rfl⟩⟩
  | true =>
    have k60:=HN6.out.cell 0
    have k61:=HN6.out.cell 1
    have g60:=h6.out.1.cell 0
    have g61:=h6.out.1.cell 1
    have z60:=h6.out.1.frozen 0
    have z61:=h6.out.1.frozen 1
    have x3:=HX3.out
    have c6:=Lib.hid h6.out.2
    generalize hbr : bs (l.drop (k + 1))=bR at *
    generalize hbk : bs K=bK at *
    generalize hbv : bs V=bV at *
    have HBR:=Lib.hid hbr
    have HBK:=Lib.hid hbk
    have HBV:=Lib.hid hbv
    clear hbr hbk hbv
    go_wp2_with fail
    go_region
    go_wp2
    have hBz:=(h6.out.1.set_ 0 (.string bK)).set_ 1 (.string bV)
    have cz:=((c6.out.setCell (p:=⟨w.heap.size,0,none⟩) (Nat.le_refl _) (.string bK)).setCell (p:=⟨w.heap.size,1,none⟩) (Nat.le_refl _) (.string bV)).drew
    have d0:=(show ((w6.setCell ⟨w.heap.size,0,none⟩ (.string bK)).setCell ⟨w.heap.size,1,none⟩ (.string bV)).drew.cell? ⟨w.heap.size,0,none⟩=_ from hBz.drew.cell 0)
    have d1:=(show ((w6.setCell ⟨w.heap.size,0,none⟩ (.string bK)).setCell ⟨w.heap.size,1,none⟩ (.string bV)).drew.cell? ⟨w.heap.size,1,none⟩=_ from hBz.drew.cell 1)
    clear hBz k60 k61 g60 g61 z60 z61
    generalize ((w6.setCell ⟨w.heap.size,0,none⟩ (.string bK)).setCell ⟨w.heap.size,1,none⟩ (.string bV)).drew=wz at *
    exact bodyPost_ret (v:=.tuple #[.agg #[.string bK,.string bV],.string bR,.int .i64 0]) (by simp [results,Tryz.results105,go_sem,d0,d1]) rfl ⟨cz,.inr ⟨⟨K,V⟩,l.drop (k + 1),(by show Ending.returned (.tuple #[.agg #[.string bK,.string bV],.string bR,.int .i64 0])=.returned (.tuple #[.agg #[.string (bs K),.string (bs V)],.string (bs (l.drop (k + 1))),.int .i64 0]);rw [HBK.out,HBV.out,HBR.out]),HKV.out.1,HKV.out.2,HRL.out⟩⟩
end Go.Proofs.YtphmhmdcaafmdaaGreatDoor
