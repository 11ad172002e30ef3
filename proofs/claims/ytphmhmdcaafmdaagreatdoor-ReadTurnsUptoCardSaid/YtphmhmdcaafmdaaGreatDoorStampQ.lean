import Derived.Test.YtphmhmdcaafmdaaGreatDoorMetaS
import Derived.Test.YtphmhmdcaafmdaaGreatDoorOctalB
namespace Go.Proofs.YtphmhmdcaafmdaaGreatDoor
set_option linter.all false
section
open Go.RowKit
theorem absT_pos (x y : Int) (h : timeOk x y) (hy : 0 < y) : (absT x y).2≠0∧(absT x y).2 < 1000000000:=by
  obtain ⟨h1,h2,h3,h4⟩:=h
  unfold absT
  split
  · simp only [if_pos hy];omega
  · simp only;omega
theorem absT_zero (x y : Int) (h : timeOk x y) (hy : ¬ 0 < y) : (absT x y).2=0:=by
  obtain ⟨h1,h2,h3,h4⟩:=h
  unfold absT
  split
  · simp only [if_neg hy]
  · simp only;omega
theorem absT_S (x y : Int) (h : timeOk x y) : (absT x y).1≤1099511627776:=by
  obtain ⟨h1,h2,h3,h4⟩:=h
  unfold absT
  split
  · split <;> (simp only;omega)
  · simp only;omega
theorem body_len (S F : Nat) (h : S≤1099511627776) (h2 : F < 1000000000) : (bodyS S F).length≤30:=by
  have:=dec13 S h
  have:=frac_len F h2
  unfold bodyS
  split <;> simp <;> omega
theorem text_len (x y : Int) (h : timeOk x y) : (textT x y).length≤40:=by
  have h1:=absT_S x y h
  have h2 : (absT x y).2 < 1000000000:=by
    by_cases hy : 0 < y
    · exact (absT_pos x y h hy).2
    · rw [absT_zero x y h hy];omega
  have:=body_len _ _ h1 h2
  unfold textT
  split <;> simp <;> omega
end
section
open Go.RowKit
theorem isDig_iff (b : UInt8) : isDig b=true ↔ (48≤(b.toNat : Int)∧(b.toNat : Int)≤57):=by
  unfold isDig;simp only [Bool.and_eq_true,decide_eq_true_eq];omega
theorem valD_bd : ∀ (k : Nat) (l : List UInt8),l.length=k→l.all isDig=true→valD l < 10 ^ k
  | 0,l,h,_ => by
    obtain rfl : l=[]:=List.eq_nil_of_length_eq_zero h
    decide
  | k + 1,l,h,hd => by
    rcases List.eq_nil_or_concat l with rfl | ⟨l',b,rfl⟩
    · simp at h
    · rw [List.concat_eq_append] at *
      rw [List.all_append,Bool.and_eq_true] at hd
      have ih:=valD_bd k l' (by simp at h;omega) hd.1
      have hb:=(isDig_iff b).1 (by simpa using hd.2)
      rw [valD_snoc,Nat.pow_succ]
      omega
theorem valD_13 (l : List UInt8) (h : l.length≤13) (hd : l.all isDig=true) : valD l < 10000000000000:=by
  have h1:=valD_bd l.length l rfl hd
  have h2 : 10 ^ l.length≤10 ^ 13:=Nat.pow_le_pow_right (by omega) h
  have h3 : (10 : Nat) ^ 13=10000000000000:=by decide
  omega
def digOk (l : List UInt8) (most : Nat) : Bool:=decide (1≤l.length) && decide (l.length≤most) && l.all isDig
def digV (l : List UInt8) (most : Nat) : Nat:=if digOk l most=true then valD l else 0
theorem digV_bd (l : List UInt8) (most : Nat) (h : most≤13) : digV l most < 10000000000000:=by
  unfold digV
  split
  · rename_i hk
    unfold digOk at hk
    simp only [Bool.and_eq_true,decide_eq_true_eq] at hk
    exact valD_13 l (by omega) hk.2
  · omega
theorem ret_ib {a b : Int} {c d : Bool} (h : a=b) (h' : c=d) : Ending.returned (.tuple #[.int .i64 a,.bool c])=.returned (.tuple #[.int .i64 b,.bool d]):=by rw [h,h']
set_option maxHeartbeats 800000 in
theorem digits_any (s : ByteArray) (most : Nat) (hm : most≤13) (hs : s.size≤1000000000) (w : World) :
    Calls Tryz.prog 160 #[.string s,.int .i64 most] w fun e w' => e=.returned (.tuple #[.int .i64 (digV s.data.toList most),.bool (digOk s.data.toList most)])∧w=w':=by
  have hsz:=Lib.size_eq s
  by_cases h1 : s.size < 1
  · have f1 : digOk s.data.toList most=false:=by unfold digOk;rw [decide_eq_false (by omega)];rfl
    have F1:=Lib.hid f1
    have F2:=Lib.hid (show digV s.data.toList most=0 by unfold digV;rw [f1];rfl)
    clear hsz f1
    go_enter Tryz.func160,Tryz.ntmps160
    go_wp2_with fail
    go_ret2
    exact ⟨ret_ib (by rw [F2.out];rfl) (by rw [F1.out]),rfl⟩
  by_cases h2 : most < s.size
  · have f1 : digOk s.data.toList most=false:=by
      unfold digOk;rw [decide_eq_false (p:=s.data.toList.length≤most) (by omega)];simp
    have F1:=Lib.hid f1
    have F2:=Lib.hid (show digV s.data.toList most=0 by unfold digV;rw [f1];rfl)
    clear hsz f1
    have d1 : decide ((s.size : Int) < 1)=false:=decide_eq_false (by omega)
    have d2 : decide ((most : Int) < s.size)=true:=decide_eq_true (by omega)
    go_enter Tryz.func160,Tryz.ntmps160
    go_wp2_with fail
    go_ret2
    exact ⟨ret_ib (by rw [F2.out];rfl) (by rw [F1.out]),rfl⟩
  have d1 : decide ((s.size : Int) < 1)=false:=decide_eq_false (by omega)
  have d2 : decide ((most : Int) < s.size)=false:=decide_eq_false (by omega)
  have fin : Hid (s.data.toList.all isDig=true→digV s.data.toList most=valD s.data.toList∧digOk s.data.toList most=true):=Lib.hid (fun h => by
    have : digOk s.data.toList most=true:=by unfold digOk;rw [decide_eq_true (by omega),decide_eq_true (by omega),h];rfl
    exact ⟨by unfold digV;rw [if_pos this],this⟩)
  have fin2 : Hid (s.data.toList.all isDig=false→digV s.data.toList most=0∧digOk s.data.toList most=false):=Lib.hid (fun h => by
    have : digOk s.data.toList most=false:=by unfold digOk;rw [h];simp
    exact ⟨by unfold digV;rw [this];rfl,this⟩)
  have hv : Hid (∀ k,k≤s.size→(s.data.toList.take k).all isDig=true→valD (s.data.toList.take k) < 10000000000000):=Lib.hid (fun k hk h => valD_13 _ (by rw [List.length_take];omega) h)
  have HZ:=Lib.hid hsz
  clear hsz
  go_enter Tryz.func160,Tryz.ntmps160
  go_wp2_with fail
  go_loop [6,19] (fun t i => ∃ k : Nat,k≤s.size∧i=.int .i64 k∧t=.int .i64 (valD (s.data.toList.take k))∧(s.data.toList.take k).all isDig=true) (fun _ i => s.size - (intOf i).toNat)
  case atStart => exact ⟨0,Nat.zero_le _,rfl,rfl,rfl⟩
  case round =>
    obtain ⟨k,hk,rfl,rfl,hall⟩:=hrel
    have v2:=hv.out k hk hall
    have HA:=Lib.hid hall
    clear hall
    by_cases hlt : k < s.size
    · have hts:=take_snocB s k hlt
      have hlk : k < s.data.toList.length:=by rw [← HZ.out];exact hlt
      by_cases hd : isDig s[k]=true
      · have h1 : (s.data.toList.take (k + 1)).all isDig=true:=by rw [hts,List.all_append,HA.out];simp [hd]
        have h2 : valD (s.data.toList.take (k + 1))=10 * valD (s.data.toList.take k) + (s[k].toNat - 48):=by rw [hts,valD_snoc]
        obtain ⟨d3,d4⟩:=(isDig_iff _).1 hd
        have H1:=Lib.hid h1
        have H2:=Lib.hid h2
        clear h1 h2 hts hd
        generalize valD (s.data.toList.take k)=q at *
        go_wp2
        go_round
        case rel => exact ⟨k + 1,by omega,by go_num,by rw [H2.out];exact congrArg (Value.int .i64) (by omega),H1.out⟩
        case measure => simp [intOf];omega
      · have h3 : s.data.toList.all isDig=false:=by
          rw [Bool.eq_false_iff]
          intro h4
          refine hd (List.all_eq_true.1 h4 _ ?_)
          have : s[k]∈s.data.toList.take (k + 1):=by rw [hts];simp
          exact List.mem_of_mem_take this
        have H3:=Lib.hid (fin2.out h3)
        have hd2:=mt (isDig_iff _).2 hd
        clear h3 hts hd
        generalize valD (s.data.toList.take k)=q at *
        by_cases d3 : (s[k].toNat : Int) < 48
        · clear hd2
          go_wp2
          go_ret2
          exact ⟨ret_ib (by rw [H3.out.1];rfl) (by rw [H3.out.2]),rfl⟩
        · have d4 : 57 < (s[k].toNat : Int):=by omega
          clear hd2
          go_wp2
          go_ret2
          exact ⟨ret_ib (by rw [H3.out.1];rfl) (by rw [H3.out.2]),rfl⟩
    · obtain rfl : k=s.size:=by omega
      have hall:=HA.out
      have e1 : s.data.toList.take s.size=s.data.toList:=List.take_of_length_le (by rw [HZ.out];exact Nat.le_refl _)
      rw [e1] at hall ⊢
      have H3:=Lib.hid (fin.out hall)
      clear hall e1
      generalize valD s.data.toList=q at *
      go_wp2
      go_ret2
      exact ⟨ret_ib (by rw [H3.out.1]) (by rw [H3.out.2]),rfl⟩
def restT (l : List UInt8) : List UInt8:=Lib.trimPrefix l [45]
def belT (l : List UInt8) : Bool:=Lib.hasPrefix l [45]
def wholeT (l : List UInt8) : List UInt8:=(Lib.cut (restT l) [46]).1
def partT (l : List UInt8) : List UInt8:=(Lib.cut (restT l) [46]).2.1
def dotT (l : List UInt8) : Bool:=(Lib.cut (restT l) [46]).2.2
def inT (p : List UInt8) : List UInt8:=p ++ List.replicate (9 - p.length) 48
def okT (l : List UInt8) : Bool:=digOk (wholeT l) 13 && (!dotT l || digOk (inT (partT l)) 9)
def v1T (l : List UInt8) : Nat:=digV (wholeT l) 13
def v2T (l : List UInt8) : Nat:=if dotT l=true then digV (inT (partT l)) 9 else 0
def aT (l : List UInt8) : Int:=if belT l=true then (if 0 < v2T l then -(v1T l : Int) - 1 else -(v1T l : Int)) else v1T l
def bT (l : List UInt8) : Int:=if belT l=true then (if 0 < v2T l then 1000000000 - (v2T l : Int) else v2T l) else v2T l
instance timeOk_dec (s n : Int) : Decidable (timeOk s n):=inferInstanceAs (Decidable (_∧_∧_∧_))
def parseT (l : List UInt8) : Int × Int × Int:=if okT l=true∧timeOk (aT l) (bT l)∧textT (aT l) (bT l)=l then (aT l,bT l,0) else (0,0,3)
theorem CutPrefix_at (l : List UInt8) (w : World) :
    Calls Tryz.prog 159 #[.string (bs l),.string ⟨#[45]⟩] w fun e w' => e=.returned (.tuple #[.string (bs (restT l)),.bool (belT l)])∧w=w' :=
  (Tryz.strings_CutPrefix (bs l) ⟨#[45]⟩ w).mono fun e w' ⟨h1,h2⟩ => ⟨by rw [h1,bs_data];rfl,h2.symm⟩
theorem digits_bs (l : List UInt8) (most : Nat) (hm : most≤13) (hs : l.length≤1000000000) (w : World) :
    Calls Tryz.prog 160 #[.string (bs l),.int .i64 most] w fun e w' => e=.returned (.tuple #[.int .i64 (digV l most),.bool (digOk l most)])∧w=w' :=
  (digits_any (bs l) most hm (by rw [bs_size];exact hs) w).mono fun e w' ⟨h1,h2⟩ => ⟨by rw [h1,bs_data],h2⟩
theorem restT_le (l : List UInt8) : (restT l).length≤l.length:=by
  unfold restT Lib.trimPrefix;split
  · rw [List.length_drop];omega
  · omega
theorem cut_le (l : List UInt8) (sep : List UInt8) : (Lib.cut l sep).1.length≤l.length∧(Lib.cut l sep).2.1.length≤l.length:=by
  unfold Lib.cut
  split
  · exact ⟨by rw [List.length_take];omega,by rw [List.length_drop];omega⟩
  · exact ⟨Nat.le_refl _,by simp⟩
set_option maxRecDepth 100000 in
set_option maxHeartbeats 1000000 in
theorem Parse_bad1 (l : List UInt8) (hl : l.length≤100000000) (hdot : dotT l=false) (hok1 : digOk (wholeT l) 13=false) (w : World) (hm : ML w) :
    Calls Tryz.prog 110 #[.string (bs l)] w fun e w' => e=.returned (.tuple #[.int .i64 0,.int .i64 0,.int .i64 3])∧Below w.heap.size w w':=by
  have hCP:=Lib.hid (fun w => CutPrefix_at l w)
  have r1:=restT_le l
  have r2:=cut_le (restT l) [46]
  obtain ⟨r3,r4⟩:=r2
  have hCt:=Lib.hid (fun w h => Cut_at (restT l) (wholeT l) (partT l) (dotT l) 46 rfl w (by omega) h)
  have hD1:=Lib.hid (fun w => digits_bs (wholeT l) 13 (by omega) (by unfold wholeT;omega) w)
  have hv1:=digV_bd (wholeT l) 13 (by omega)
  have hpl : (partT l).length≤100000000:=by unfold partT;omega
  rw [hok1] at hD1
  rw [hdot] at hCt
  obtain ⟨bel,hbel⟩ : ∃ bel,bel=belT l:=⟨_,rfl⟩
  rw [← hbel] at hCP
  clear hbel
  clear hdot hok1
  clear r1 r3 r4 hl
  generalize restT l=rest at *
  generalize wholeT l=whole at *
  generalize digV whole 13=v1 at *
  generalize bs (partT l)=bP at *
  generalize (partT l).length=pl at *
  generalize bs whole=bW at *
  generalize bs rest=bRe at *
  generalize bs l=bL at *
  go_enter Tryz.func110,Tryz.ntmps110
  go_wp2_with fail
  refine (hCP.out _).mono ?_
  rintro e w' ⟨rfl,rfl⟩
  go_wp2_with fail
  refine (hCt.out _ hm).mono ?_
  rintro e w1 ⟨rfl,b1⟩
  go_wp2_with fail
  refine (hD1.out _).mono ?_
  rintro e w' ⟨rfl,rfl⟩
  go_wp2_with fail
  go_ret3
  exact ⟨rfl,b1⟩
set_option maxRecDepth 100000 in
set_option maxHeartbeats 1000000 in
theorem Parse_bad2 (l : List UInt8) (hl : l.length≤100000000) (hdot : dotT l=true) (hok1 : digOk (wholeT l) 13=false) (hok2 : digOk (inT (partT l)) 9=false) (w : World) (hm : ML w) :
    Calls Tryz.prog 110 #[.string (bs l)] w fun e w' => e=.returned (.tuple #[.int .i64 0,.int .i64 0,.int .i64 3])∧Below w.heap.size w w':=by
  have hCP:=Lib.hid (fun w => CutPrefix_at l w)
  have r1:=restT_le l
  have r2:=cut_le (restT l) [46]
  obtain ⟨r3,r4⟩:=r2
  have hCt:=Lib.hid (fun w h => Cut_at (restT l) (wholeT l) (partT l) (dotT l) 46 rfl w (by omega) h)
  have hD1:=Lib.hid (fun w => digits_bs (wholeT l) 13 (by omega) (by unfold wholeT;omega) w)
  have hv1:=digV_bd (wholeT l) 13 (by omega)
  have hpl : (partT l).length≤100000000:=by unfold partT;omega
  obtain ⟨n,hn⟩ : ∃ n,n=9 - (partT l).length:=⟨_,rfl⟩
  have hmx : max (0 : Int) (9 - ((partT l).length : Int))=n:=by omega
  have hn9 : n≤9:=by omega
  have hR:=Lib.hid (fun w => Repeat_byte 48 n w (by omega))
  have zR:=bs_rep_size 48 n
  have zP:=bs_size (partT l)
  have hIn : bs (partT l) ++ bs (List.replicate n 48)=bs (inT (partT l)):=by rw [bs_append,hn];rfl
  have hil : (inT (partT l)).length≤200000000:=by unfold inT;simp;omega
  have hD2:=Lib.hid (fun w => digits_bs (inT (partT l)) 9 (by omega) (by omega) w)
  have hv2:=digV_bd (inT (partT l)) 9 (by omega)
  clear hn
  rw [hok1] at hD1
  rw [hdot] at hCt
  rw [hok2] at hD2
  obtain ⟨bel,hbel⟩ : ∃ bel,bel=belT l:=⟨_,rfl⟩
  rw [← hbel] at hCP
  clear hbel
  clear hdot hok1 hok2
  clear r1 r3 r4 hl
  generalize restT l=rest at *
  generalize wholeT l=whole at *
  generalize digV whole 13=v1 at *
  generalize digV (inT (partT l)) 9=v2 at *
  generalize bs (inT (partT l))=bI at *
  generalize bs (List.replicate n 48)=bR at *
  generalize bs (partT l)=bP at *
  generalize (partT l).length=pl at *
  generalize bs whole=bW at *
  generalize bs rest=bRe at *
  generalize bs l=bL at *
  go_enter Tryz.func110,Tryz.ntmps110
  go_wp2_with fail
  refine (hCP.out _).mono ?_
  rintro e w' ⟨rfl,rfl⟩
  go_wp2_with fail
  refine (hCt.out _ hm).mono ?_
  rintro e w1 ⟨rfl,b1⟩
  go_wp2_with fail
  refine (hD1.out _).mono ?_
  rintro e w' ⟨rfl,rfl⟩
  go_wp2_with fail
  refine (hR.out _).mono ?_
  rintro e w2 ⟨rfl,b2⟩
  go_wp2_with fail
  refine (hD2.out _).mono ?_
  rintro e w' ⟨rfl,rfl⟩
  go_wp2_with fail
  go_ret3
  exact ⟨rfl,b1.trans (b2.mono b1.size)⟩
set_option maxRecDepth 100000 in
set_option maxHeartbeats 1000000 in
theorem Parse_bad3 (l : List UInt8) (hl : l.length≤100000000) (hdot : dotT l=true) (hok1 : digOk (wholeT l) 13=false) (hok2 : digOk (inT (partT l)) 9=true) (w : World) (hm : ML w) :
    Calls Tryz.prog 110 #[.string (bs l)] w fun e w' => e=.returned (.tuple #[.int .i64 0,.int .i64 0,.int .i64 3])∧Below w.heap.size w w':=by
  have hCP:=Lib.hid (fun w => CutPrefix_at l w)
  have r1:=restT_le l
  have r2:=cut_le (restT l) [46]
  obtain ⟨r3,r4⟩:=r2
  have hCt:=Lib.hid (fun w h => Cut_at (restT l) (wholeT l) (partT l) (dotT l) 46 rfl w (by omega) h)
  have hD1:=Lib.hid (fun w => digits_bs (wholeT l) 13 (by omega) (by unfold wholeT;omega) w)
  have hv1:=digV_bd (wholeT l) 13 (by omega)
  have hpl : (partT l).length≤100000000:=by unfold partT;omega
  obtain ⟨n,hn⟩ : ∃ n,n=9 - (partT l).length:=⟨_,rfl⟩
  have hmx : max (0 : Int) (9 - ((partT l).length : Int))=n:=by omega
  have hn9 : n≤9:=by omega
  have hR:=Lib.hid (fun w => Repeat_byte 48 n w (by omega))
  have zR:=bs_rep_size 48 n
  have zP:=bs_size (partT l)
  have hIn : bs (partT l) ++ bs (List.replicate n 48)=bs (inT (partT l)):=by rw [bs_append,hn];rfl
  have hil : (inT (partT l)).length≤200000000:=by unfold inT;simp;omega
  have hD2:=Lib.hid (fun w => digits_bs (inT (partT l)) 9 (by omega) (by omega) w)
  have hv2:=digV_bd (inT (partT l)) 9 (by omega)
  clear hn
  rw [hok1] at hD1
  rw [hdot] at hCt
  rw [hok2] at hD2
  obtain ⟨bel,hbel⟩ : ∃ bel,bel=belT l:=⟨_,rfl⟩
  rw [← hbel] at hCP
  clear hbel
  clear hdot hok1 hok2
  clear r1 r3 r4 hl
  generalize restT l=rest at *
  generalize wholeT l=whole at *
  generalize digV whole 13=v1 at *
  generalize digV (inT (partT l)) 9=v2 at *
  generalize bs (inT (partT l))=bI at *
  generalize bs (List.replicate n 48)=bR at *
  generalize bs (partT l)=bP at *
  generalize (partT l).length=pl at *
  generalize bs whole=bW at *
  generalize bs rest=bRe at *
  generalize bs l=bL at *
  go_enter Tryz.func110,Tryz.ntmps110
  go_wp2_with fail
  refine (hCP.out _).mono ?_
  rintro e w' ⟨rfl,rfl⟩
  go_wp2_with fail
  refine (hCt.out _ hm).mono ?_
  rintro e w1 ⟨rfl,b1⟩
  go_wp2_with fail
  refine (hD1.out _).mono ?_
  rintro e w' ⟨rfl,rfl⟩
  go_wp2_with fail
  refine (hR.out _).mono ?_
  rintro e w2 ⟨rfl,b2⟩
  go_wp2_with fail
  refine (hD2.out _).mono ?_
  rintro e w' ⟨rfl,rfl⟩
  go_wp2_with fail
  go_ret3
  exact ⟨rfl,b1.trans (b2.mono b1.size)⟩
set_option maxRecDepth 100000 in
set_option maxHeartbeats 1000000 in
theorem Parse_bad4 (l : List UInt8) (hl : l.length≤100000000) (hdot : dotT l=true) (hok1 : digOk (wholeT l) 13=true) (hok2 : digOk (inT (partT l)) 9=false) (w : World) (hm : ML w) :
    Calls Tryz.prog 110 #[.string (bs l)] w fun e w' => e=.returned (.tuple #[.int .i64 0,.int .i64 0,.int .i64 3])∧Below w.heap.size w w':=by
  have hCP:=Lib.hid (fun w => CutPrefix_at l w)
  have r1:=restT_le l
  have r2:=cut_le (restT l) [46]
  obtain ⟨r3,r4⟩:=r2
  have hCt:=Lib.hid (fun w h => Cut_at (restT l) (wholeT l) (partT l) (dotT l) 46 rfl w (by omega) h)
  have hD1:=Lib.hid (fun w => digits_bs (wholeT l) 13 (by omega) (by unfold wholeT;omega) w)
  have hv1:=digV_bd (wholeT l) 13 (by omega)
  have hpl : (partT l).length≤100000000:=by unfold partT;omega
  obtain ⟨n,hn⟩ : ∃ n,n=9 - (partT l).length:=⟨_,rfl⟩
  have hmx : max (0 : Int) (9 - ((partT l).length : Int))=n:=by omega
  have hn9 : n≤9:=by omega
  have hR:=Lib.hid (fun w => Repeat_byte 48 n w (by omega))
  have zR:=bs_rep_size 48 n
  have zP:=bs_size (partT l)
  have hIn : bs (partT l) ++ bs (List.replicate n 48)=bs (inT (partT l)):=by rw [bs_append,hn];rfl
  have hil : (inT (partT l)).length≤200000000:=by unfold inT;simp;omega
  have hD2:=Lib.hid (fun w => digits_bs (inT (partT l)) 9 (by omega) (by omega) w)
  have hv2:=digV_bd (inT (partT l)) 9 (by omega)
  clear hn
  rw [hok1] at hD1
  rw [hdot] at hCt
  rw [hok2] at hD2
  obtain ⟨bel,hbel⟩ : ∃ bel,bel=belT l:=⟨_,rfl⟩
  rw [← hbel] at hCP
  clear hbel
  clear hdot hok1 hok2
  clear r1 r3 r4 hl
  generalize restT l=rest at *
  generalize wholeT l=whole at *
  generalize digV whole 13=v1 at *
  generalize digV (inT (partT l)) 9=v2 at *
  generalize bs (inT (partT l))=bI at *
  generalize bs (List.replicate n 48)=bR at *
  generalize bs (partT l)=bP at *
  generalize (partT l).length=pl at *
  generalize bs whole=bW at *
  generalize bs rest=bRe at *
  generalize bs l=bL at *
  go_enter Tryz.func110,Tryz.ntmps110
  go_wp2_with fail
  refine (hCP.out _).mono ?_
  rintro e w' ⟨rfl,rfl⟩
  go_wp2_with fail
  refine (hCt.out _ hm).mono ?_
  rintro e w1 ⟨rfl,b1⟩
  go_wp2_with fail
  refine (hD1.out _).mono ?_
  rintro e w' ⟨rfl,rfl⟩
  go_wp2_with fail
  refine (hR.out _).mono ?_
  rintro e w2 ⟨rfl,b2⟩
  go_wp2_with fail
  refine (hD2.out _).mono ?_
  rintro e w' ⟨rfl,rfl⟩
  go_wp2_with fail
  go_ret3
  exact ⟨rfl,b1.trans (b2.mono b1.size)⟩
set_option maxRecDepth 100000 in
set_option maxHeartbeats 1000000 in
theorem Parse_whole_yes (l : List UInt8) (hl : l.length≤100000000) (hdot : dotT l=false) (hok1 : digOk (wholeT l) 13=true) (hbel : belT l=false) (ht : timeOk (digV (wholeT l) 13 : Int) 0) (hx : textT (digV (wholeT l) 13 : Int) 0=l) (w : World) (hm : ML w) (h10 : P10 w) :
    Calls Tryz.prog 110 #[.string (bs l)] w fun e w' => e=.returned (.tuple #[.int .i64 (digV (wholeT l) 13 : Int),.int .i64 0,.int .i64 0])∧Below w.heap.size w w':=by
  have hCP:=Lib.hid (fun w => CutPrefix_at l w)
  have r1:=restT_le l
  have r2:=cut_le (restT l) [46]
  obtain ⟨r3,r4⟩:=r2
  have hCt:=Lib.hid (fun w h => Cut_at (restT l) (wholeT l) (partT l) (dotT l) 46 rfl w (by omega) h)
  have hD1:=Lib.hid (fun w => digits_bs (wholeT l) 13 (by omega) (by unfold wholeT;omega) w)
  have hv1:=digV_bd (wholeT l) 13 (by omega)
  have hpl : (partT l).length≤100000000:=by unfold partT;omega
  rw [hok1] at hD1
  rw [hdot] at hCt
  rw [hbel] at hCP
  have hT:=Lib.hid (fun w h => Text_ok (digV (wholeT l) 13 : Int) 0 ht w h)
  rw [hx] at hT
  have e1:=beq_self_eq_true (bs l).toList
  have e2 : ((bs l).toList != (bs l).toList)=false:=by simp
  have H10:=Lib.hid h10
  clear h10 hx ht
  clear hdot hok1 hbel
  clear r1 r3 r4 hl
  generalize restT l=rest at *
  generalize wholeT l=whole at *
  generalize digV whole 13=v1 at *
  generalize bs (partT l)=bP at *
  generalize (partT l).length=pl at *
  generalize bs whole=bW at *
  generalize bs rest=bRe at *
  generalize bs l=bL at *
  go_enter Tryz.func110,Tryz.ntmps110
  go_wp2_with fail
  refine (hCP.out _).mono ?_
  rintro e w' ⟨rfl,rfl⟩
  go_wp2_with fail
  refine (hCt.out _ hm).mono ?_
  rintro e w1 ⟨rfl,b1⟩
  go_wp2_with fail
  refine (hD1.out _).mono ?_
  rintro e w' ⟨rfl,rfl⟩
  go_wp2_with fail
  refine (hT.out _ (H10.out.below b1)).mono ?_
  rintro e w3 ⟨rfl,b3⟩
  go_wp2_with fail
  go_ret3
  exact ⟨rfl,(b1).trans (b3.mono (b1).size)⟩
set_option maxRecDepth 100000 in
set_option maxHeartbeats 1000000 in
theorem Parse_wholeneg_yes (l : List UInt8) (hl : l.length≤100000000) (hdot : dotT l=false) (hok1 : digOk (wholeT l) 13=true) (hbel : belT l=true) (ht : timeOk (-(digV (wholeT l) 13 : Int)) 0) (hx : textT (-(digV (wholeT l) 13 : Int)) 0=l) (w : World) (hm : ML w) (h10 : P10 w) :
    Calls Tryz.prog 110 #[.string (bs l)] w fun e w' => e=.returned (.tuple #[.int .i64 (-(digV (wholeT l) 13 : Int)),.int .i64 0,.int .i64 0])∧Below w.heap.size w w':=by
  have hCP:=Lib.hid (fun w => CutPrefix_at l w)
  have r1:=restT_le l
  have r2:=cut_le (restT l) [46]
  obtain ⟨r3,r4⟩:=r2
  have hCt:=Lib.hid (fun w h => Cut_at (restT l) (wholeT l) (partT l) (dotT l) 46 rfl w (by omega) h)
  have hD1:=Lib.hid (fun w => digits_bs (wholeT l) 13 (by omega) (by unfold wholeT;omega) w)
  have hv1:=digV_bd (wholeT l) 13 (by omega)
  have hpl : (partT l).length≤100000000:=by unfold partT;omega
  rw [hok1] at hD1
  rw [hdot] at hCt
  rw [hbel] at hCP
  have hT:=Lib.hid (fun w h => Text_ok (-(digV (wholeT l) 13 : Int)) 0 ht w h)
  rw [hx] at hT
  have e1:=beq_self_eq_true (bs l).toList
  have e2 : ((bs l).toList != (bs l).toList)=false:=by simp
  have H10:=Lib.hid h10
  clear h10 hx ht
  clear hdot hok1 hbel
  clear r1 r3 r4 hl
  generalize restT l=rest at *
  generalize wholeT l=whole at *
  generalize digV whole 13=v1 at *
  generalize bs (partT l)=bP at *
  generalize (partT l).length=pl at *
  generalize bs whole=bW at *
  generalize bs rest=bRe at *
  generalize bs l=bL at *
  go_enter Tryz.func110,Tryz.ntmps110
  go_wp2_with fail
  refine (hCP.out _).mono ?_
  rintro e w' ⟨rfl,rfl⟩
  go_wp2_with fail
  refine (hCt.out _ hm).mono ?_
  rintro e w1 ⟨rfl,b1⟩
  go_wp2_with fail
  refine (hD1.out _).mono ?_
  rintro e w' ⟨rfl,rfl⟩
  go_wp2_with fail
  refine (hT.out _ (H10.out.below b1)).mono ?_
  rintro e w3 ⟨rfl,b3⟩
  go_wp2_with fail
  go_ret3
  exact ⟨rfl,(b1).trans (b3.mono (b1).size)⟩
set_option maxRecDepth 100000 in
set_option maxHeartbeats 1000000 in
theorem Parse_dot_yes (l : List UInt8) (hl : l.length≤100000000) (hdot : dotT l=true) (hok1 : digOk (wholeT l) 13=true) (hok2 : digOk (inT (partT l)) 9=true) (hbel : belT l=false) (ht : timeOk (digV (wholeT l) 13 : Int) (digV (inT (partT l)) 9 : Int)) (hx : textT (digV (wholeT l) 13 : Int) (digV (inT (partT l)) 9 : Int)=l) (w : World) (hm : ML w) (h10 : P10 w) :
    Calls Tryz.prog 110 #[.string (bs l)] w fun e w' => e=.returned (.tuple #[.int .i64 (digV (wholeT l) 13 : Int),.int .i64 (digV (inT (partT l)) 9 : Int),.int .i64 0])∧Below w.heap.size w w':=by
  have hCP:=Lib.hid (fun w => CutPrefix_at l w)
  have r1:=restT_le l
  have r2:=cut_le (restT l) [46]
  obtain ⟨r3,r4⟩:=r2
  have hCt:=Lib.hid (fun w h => Cut_at (restT l) (wholeT l) (partT l) (dotT l) 46 rfl w (by omega) h)
  have hD1:=Lib.hid (fun w => digits_bs (wholeT l) 13 (by omega) (by unfold wholeT;omega) w)
  have hv1:=digV_bd (wholeT l) 13 (by omega)
  have hpl : (partT l).length≤100000000:=by unfold partT;omega
  obtain ⟨n,hn⟩ : ∃ n,n=9 - (partT l).length:=⟨_,rfl⟩
  have hmx : max (0 : Int) (9 - ((partT l).length : Int))=n:=by omega
  have hn9 : n≤9:=by omega
  have hR:=Lib.hid (fun w => Repeat_byte 48 n w (by omega))
  have zR:=bs_rep_size 48 n
  have zP:=bs_size (partT l)
  have hIn : bs (partT l) ++ bs (List.replicate n 48)=bs (inT (partT l)):=by rw [bs_append,hn];rfl
  have hil : (inT (partT l)).length≤200000000:=by unfold inT;simp;omega
  have hD2:=Lib.hid (fun w => digits_bs (inT (partT l)) 9 (by omega) (by omega) w)
  have hv2:=digV_bd (inT (partT l)) 9 (by omega)
  clear hn
  rw [hok1] at hD1
  rw [hdot] at hCt
  rw [hok2] at hD2
  rw [hbel] at hCP
  have hT:=Lib.hid (fun w h => Text_ok (digV (wholeT l) 13 : Int) (digV (inT (partT l)) 9 : Int) ht w h)
  rw [hx] at hT
  have e1:=beq_self_eq_true (bs l).toList
  have e2 : ((bs l).toList != (bs l).toList)=false:=by simp
  have H10:=Lib.hid h10
  clear h10 hx ht
  clear hdot hok1 hok2 hbel
  clear r1 r3 r4 hl
  generalize restT l=rest at *
  generalize wholeT l=whole at *
  generalize digV whole 13=v1 at *
  generalize digV (inT (partT l)) 9=v2 at *
  generalize bs (inT (partT l))=bI at *
  generalize bs (List.replicate n 48)=bR at *
  generalize bs (partT l)=bP at *
  generalize (partT l).length=pl at *
  generalize bs whole=bW at *
  generalize bs rest=bRe at *
  generalize bs l=bL at *
  go_enter Tryz.func110,Tryz.ntmps110
  go_wp2_with fail
  refine (hCP.out _).mono ?_
  rintro e w' ⟨rfl,rfl⟩
  go_wp2_with fail
  refine (hCt.out _ hm).mono ?_
  rintro e w1 ⟨rfl,b1⟩
  go_wp2_with fail
  refine (hD1.out _).mono ?_
  rintro e w' ⟨rfl,rfl⟩
  go_wp2_with fail
  refine (hR.out _).mono ?_
  rintro e w2 ⟨rfl,b2⟩
  go_wp2_with fail
  refine (hD2.out _).mono ?_
  rintro e w' ⟨rfl,rfl⟩
  go_wp2_with fail
  refine (hT.out _ (H10.out.below (b1.trans (b2.mono b1.size)))).mono ?_
  rintro e w3 ⟨rfl,b3⟩
  go_wp2_with fail
  go_ret3
  exact ⟨rfl,(b1.trans (b2.mono b1.size)).trans (b3.mono (b1.trans (b2.mono b1.size)).size)⟩
set_option maxRecDepth 100000 in
set_option maxHeartbeats 1000000 in
theorem Parse_dotneg_yes (l : List UInt8) (hl : l.length≤100000000) (hdot : dotT l=true) (hok1 : digOk (wholeT l) 13=true) (hok2 : digOk (inT (partT l)) 9=true) (hbel : belT l=true) (hnano : 0 < digV (inT (partT l)) 9) (ht : timeOk (-(digV (wholeT l) 13 : Int) - 1) (1000000000 - (digV (inT (partT l)) 9 : Int))) (hx : textT (-(digV (wholeT l) 13 : Int) - 1) (1000000000 - (digV (inT (partT l)) 9 : Int))=l) (w : World) (hm : ML w) (h10 : P10 w) :
    Calls Tryz.prog 110 #[.string (bs l)] w fun e w' => e=.returned (.tuple #[.int .i64 (-(digV (wholeT l) 13 : Int) - 1),.int .i64 (1000000000 - (digV (inT (partT l)) 9 : Int)),.int .i64 0])∧Below w.heap.size w w':=by
  have hCP:=Lib.hid (fun w => CutPrefix_at l w)
  have r1:=restT_le l
  have r2:=cut_le (restT l) [46]
  obtain ⟨r3,r4⟩:=r2
  have hCt:=Lib.hid (fun w h => Cut_at (restT l) (wholeT l) (partT l) (dotT l) 46 rfl w (by omega) h)
  have hD1:=Lib.hid (fun w => digits_bs (wholeT l) 13 (by omega) (by unfold wholeT;omega) w)
  have hv1:=digV_bd (wholeT l) 13 (by omega)
  have hpl : (partT l).length≤100000000:=by unfold partT;omega
  obtain ⟨n,hn⟩ : ∃ n,n=9 - (partT l).length:=⟨_,rfl⟩
  have hmx : max (0 : Int) (9 - ((partT l).length : Int))=n:=by omega
  have hn9 : n≤9:=by omega
  have hR:=Lib.hid (fun w => Repeat_byte 48 n w (by omega))
  have zR:=bs_rep_size 48 n
  have zP:=bs_size (partT l)
  have hIn : bs (partT l) ++ bs (List.replicate n 48)=bs (inT (partT l)):=by rw [bs_append,hn];rfl
  have hil : (inT (partT l)).length≤200000000:=by unfold inT;simp;omega
  have hD2:=Lib.hid (fun w => digits_bs (inT (partT l)) 9 (by omega) (by omega) w)
  have hv2:=digV_bd (inT (partT l)) 9 (by omega)
  clear hn
  rw [hok1] at hD1
  rw [hdot] at hCt
  rw [hok2] at hD2
  rw [hbel] at hCP
  have hT:=Lib.hid (fun w h => Text_ok (-(digV (wholeT l) 13 : Int) - 1) (1000000000 - (digV (inT (partT l)) 9 : Int)) ht w h)
  rw [hx] at hT
  have e1:=beq_self_eq_true (bs l).toList
  have e2 : ((bs l).toList != (bs l).toList)=false:=by simp
  have H10:=Lib.hid h10
  clear h10 hx ht
  clear hdot hok1 hok2 hbel
  clear r1 r3 r4 hl
  generalize restT l=rest at *
  generalize wholeT l=whole at *
  generalize digV whole 13=v1 at *
  generalize digV (inT (partT l)) 9=v2 at *
  generalize bs (inT (partT l))=bI at *
  generalize bs (List.replicate n 48)=bR at *
  generalize bs (partT l)=bP at *
  generalize (partT l).length=pl at *
  generalize bs whole=bW at *
  generalize bs rest=bRe at *
  generalize bs l=bL at *
  go_enter Tryz.func110,Tryz.ntmps110
  go_wp2_with fail
  refine (hCP.out _).mono ?_
  rintro e w' ⟨rfl,rfl⟩
  go_wp2_with fail
  refine (hCt.out _ hm).mono ?_
  rintro e w1 ⟨rfl,b1⟩
  go_wp2_with fail
  refine (hD1.out _).mono ?_
  rintro e w' ⟨rfl,rfl⟩
  go_wp2_with fail
  refine (hR.out _).mono ?_
  rintro e w2 ⟨rfl,b2⟩
  go_wp2_with fail
  refine (hD2.out _).mono ?_
  rintro e w' ⟨rfl,rfl⟩
  go_wp2_with fail
  refine (hT.out _ (H10.out.below (b1.trans (b2.mono b1.size)))).mono ?_
  rintro e w3 ⟨rfl,b3⟩
  go_wp2_with fail
  go_ret3
  exact ⟨rfl,(b1.trans (b2.mono b1.size)).trans (b3.mono (b1.trans (b2.mono b1.size)).size)⟩
set_option maxRecDepth 100000 in
set_option maxHeartbeats 1000000 in
theorem Parse_dotzero_yes (l : List UInt8) (hl : l.length≤100000000) (hdot : dotT l=true) (hok1 : digOk (wholeT l) 13=true) (hok2 : digOk (inT (partT l)) 9=true) (hbel : belT l=true) (hnano : digV (inT (partT l)) 9=0) (ht : timeOk (-(digV (wholeT l) 13 : Int)) 0) (hx : textT (-(digV (wholeT l) 13 : Int)) 0=l) (w : World) (hm : ML w) (h10 : P10 w) :
    Calls Tryz.prog 110 #[.string (bs l)] w fun e w' => e=.returned (.tuple #[.int .i64 (-(digV (wholeT l) 13 : Int)),.int .i64 0,.int .i64 0])∧Below w.heap.size w w':=by
  have hCP:=Lib.hid (fun w => CutPrefix_at l w)
  have r1:=restT_le l
  have r2:=cut_le (restT l) [46]
  obtain ⟨r3,r4⟩:=r2
  have hCt:=Lib.hid (fun w h => Cut_at (restT l) (wholeT l) (partT l) (dotT l) 46 rfl w (by omega) h)
  have hD1:=Lib.hid (fun w => digits_bs (wholeT l) 13 (by omega) (by unfold wholeT;omega) w)
  have hv1:=digV_bd (wholeT l) 13 (by omega)
  have hpl : (partT l).length≤100000000:=by unfold partT;omega
  obtain ⟨n,hn⟩ : ∃ n,n=9 - (partT l).length:=⟨_,rfl⟩
  have hmx : max (0 : Int) (9 - ((partT l).length : Int))=n:=by omega
  have hn9 : n≤9:=by omega
  have hR:=Lib.hid (fun w => Repeat_byte 48 n w (by omega))
  have zR:=bs_rep_size 48 n
  have zP:=bs_size (partT l)
  have hIn : bs (partT l) ++ bs (List.replicate n 48)=bs (inT (partT l)):=by rw [bs_append,hn];rfl
  have hil : (inT (partT l)).length≤200000000:=by unfold inT;simp;omega
  have hD2:=Lib.hid (fun w => digits_bs (inT (partT l)) 9 (by omega) (by omega) w)
  have hv2:=digV_bd (inT (partT l)) 9 (by omega)
  clear hn
  rw [hok1] at hD1
  rw [hdot] at hCt
  rw [hok2] at hD2
  rw [hbel] at hCP
  have hT:=Lib.hid (fun w h => Text_ok (-(digV (wholeT l) 13 : Int)) 0 ht w h)
  rw [hx] at hT
  have e1:=beq_self_eq_true (bs l).toList
  have e2 : ((bs l).toList != (bs l).toList)=false:=by simp
  have H10:=Lib.hid h10
  clear h10 hx ht
  clear hdot hok1 hok2 hbel
  clear r1 r3 r4 hl
  generalize restT l=rest at *
  generalize wholeT l=whole at *
  generalize digV whole 13=v1 at *
  generalize digV (inT (partT l)) 9=v2 at *
  generalize bs (inT (partT l))=bI at *
  generalize bs (List.replicate n 48)=bR at *
  subst hnano
  generalize bs (partT l)=bP at *
  generalize (partT l).length=pl at *
  generalize bs whole=bW at *
  generalize bs rest=bRe at *
  generalize bs l=bL at *
  go_enter Tryz.func110,Tryz.ntmps110
  go_wp2_with fail
  refine (hCP.out _).mono ?_
  rintro e w' ⟨rfl,rfl⟩
  go_wp2_with fail
  refine (hCt.out _ hm).mono ?_
  rintro e w1 ⟨rfl,b1⟩
  go_wp2_with fail
  refine (hD1.out _).mono ?_
  rintro e w' ⟨rfl,rfl⟩
  go_wp2_with fail
  refine (hR.out _).mono ?_
  rintro e w2 ⟨rfl,b2⟩
  go_wp2_with fail
  refine (hD2.out _).mono ?_
  rintro e w' ⟨rfl,rfl⟩
  go_wp2_with fail
  refine (hT.out _ (H10.out.below (b1.trans (b2.mono b1.size)))).mono ?_
  rintro e w3 ⟨rfl,b3⟩
  go_wp2_with fail
  go_ret3
  exact ⟨rfl,(b1.trans (b2.mono b1.size)).trans (b3.mono (b1.trans (b2.mono b1.size)).size)⟩
set_option maxRecDepth 100000 in
set_option maxHeartbeats 1000000 in
theorem Parse_whole_other (l : List UInt8) (hl : l.length≤100000000) (hdot : dotT l=false) (hok1 : digOk (wholeT l) 13=true) (hbel : belT l=false) (ht : timeOk (digV (wholeT l) 13 : Int) 0) (hx : textT (digV (wholeT l) 13 : Int) 0≠l) (w : World) (hm : ML w) (h10 : P10 w) :
    Calls Tryz.prog 110 #[.string (bs l)] w fun e w' => e=.returned (.tuple #[.int .i64 0,.int .i64 0,.int .i64 3])∧Below w.heap.size w w':=by
  have hCP:=Lib.hid (fun w => CutPrefix_at l w)
  have r1:=restT_le l
  have r2:=cut_le (restT l) [46]
  obtain ⟨r3,r4⟩:=r2
  have hCt:=Lib.hid (fun w h => Cut_at (restT l) (wholeT l) (partT l) (dotT l) 46 rfl w (by omega) h)
  have hD1:=Lib.hid (fun w => digits_bs (wholeT l) 13 (by omega) (by unfold wholeT;omega) w)
  have hv1:=digV_bd (wholeT l) 13 (by omega)
  have hpl : (partT l).length≤100000000:=by unfold partT;omega
  rw [hok1] at hD1
  rw [hdot] at hCt
  rw [hbel] at hCP
  have hT:=Lib.hid (fun w h => Text_ok (digV (wholeT l) 13 : Int) 0 ht w h)
  have e1 : ((bs (textT (digV (wholeT l) 13 : Int) 0)).toList == (bs l).toList)=false:=by rw [bs_toList,bs_toList];exact beq_eq_false_iff_ne.2 hx
  have e2 : ((bs (textT (digV (wholeT l) 13 : Int) 0)).toList != (bs l).toList)=true:=by rw [bs_toList,bs_toList];exact bne_iff_ne.2 hx
  have e3 : ¬ (bs (textT (digV (wholeT l) 13 : Int) 0)).toList=(bs l).toList:=by rw [bs_toList,bs_toList];exact hx
  have H10:=Lib.hid h10
  generalize bs (textT (digV (wholeT l) 13 : Int) 0)=T at *
  clear h10 hx ht
  clear hdot hok1 hbel
  clear r1 r3 r4 hl
  generalize restT l=rest at *
  generalize wholeT l=whole at *
  generalize digV whole 13=v1 at *
  generalize bs (partT l)=bP at *
  generalize (partT l).length=pl at *
  generalize bs whole=bW at *
  generalize bs rest=bRe at *
  generalize bs l=bL at *
  go_enter Tryz.func110,Tryz.ntmps110
  go_wp2_with fail
  refine (hCP.out _).mono ?_
  rintro e w' ⟨rfl,rfl⟩
  go_wp2_with fail
  refine (hCt.out _ hm).mono ?_
  rintro e w1 ⟨rfl,b1⟩
  go_wp2_with fail
  refine (hD1.out _).mono ?_
  rintro e w' ⟨rfl,rfl⟩
  go_wp2_with fail
  refine (hT.out _ (H10.out.below b1)).mono ?_
  rintro e w3 ⟨rfl,b3⟩
  go_wp2_with fail
  go_ret3
  exact ⟨rfl,(b1).trans (b3.mono (b1).size)⟩
set_option maxRecDepth 100000 in
set_option maxHeartbeats 1000000 in
theorem Parse_wholeneg_other (l : List UInt8) (hl : l.length≤100000000) (hdot : dotT l=false) (hok1 : digOk (wholeT l) 13=true) (hbel : belT l=true) (ht : timeOk (-(digV (wholeT l) 13 : Int)) 0) (hx : textT (-(digV (wholeT l) 13 : Int)) 0≠l) (w : World) (hm : ML w) (h10 : P10 w) :
    Calls Tryz.prog 110 #[.string (bs l)] w fun e w' => e=.returned (.tuple #[.int .i64 0,.int .i64 0,.int .i64 3])∧Below w.heap.size w w':=by
  have hCP:=Lib.hid (fun w => CutPrefix_at l w)
  have r1:=restT_le l
  have r2:=cut_le (restT l) [46]
  obtain ⟨r3,r4⟩:=r2
  have hCt:=Lib.hid (fun w h => Cut_at (restT l) (wholeT l) (partT l) (dotT l) 46 rfl w (by omega) h)
  have hD1:=Lib.hid (fun w => digits_bs (wholeT l) 13 (by omega) (by unfold wholeT;omega) w)
  have hv1:=digV_bd (wholeT l) 13 (by omega)
  have hpl : (partT l).length≤100000000:=by unfold partT;omega
  rw [hok1] at hD1
  rw [hdot] at hCt
  rw [hbel] at hCP
  have hT:=Lib.hid (fun w h => Text_ok (-(digV (wholeT l) 13 : Int)) 0 ht w h)
  have e1 : ((bs (textT (-(digV (wholeT l) 13 : Int)) 0)).toList == (bs l).toList)=false:=by rw [bs_toList,bs_toList];exact beq_eq_false_iff_ne.2 hx
  have e2 : ((bs (textT (-(digV (wholeT l) 13 : Int)) 0)).toList != (bs l).toList)=true:=by rw [bs_toList,bs_toList];exact bne_iff_ne.2 hx
  have e3 : ¬ (bs (textT (-(digV (wholeT l) 13 : Int)) 0)).toList=(bs l).toList:=by rw [bs_toList,bs_toList];exact hx
  have H10:=Lib.hid h10
  generalize bs (textT (-(digV (wholeT l) 13 : Int)) 0)=T at *
  clear h10 hx ht
  clear hdot hok1 hbel
  clear r1 r3 r4 hl
  generalize restT l=rest at *
  generalize wholeT l=whole at *
  generalize digV whole 13=v1 at *
  generalize bs (partT l)=bP at *
  generalize (partT l).length=pl at *
  generalize bs whole=bW at *
  generalize bs rest=bRe at *
  generalize bs l=bL at *
  go_enter Tryz.func110,Tryz.ntmps110
  go_wp2_with fail
  refine (hCP.out _).mono ?_
  rintro e w' ⟨rfl,rfl⟩
  go_wp2_with fail
  refine (hCt.out _ hm).mono ?_
  rintro e w1 ⟨rfl,b1⟩
  go_wp2_with fail
  refine (hD1.out _).mono ?_
  rintro e w' ⟨rfl,rfl⟩
  go_wp2_with fail
  refine (hT.out _ (H10.out.below b1)).mono ?_
  rintro e w3 ⟨rfl,b3⟩
  go_wp2_with fail
  go_ret3
  exact ⟨rfl,(b1).trans (b3.mono (b1).size)⟩
set_option maxRecDepth 100000 in
set_option maxHeartbeats 1000000 in
theorem Parse_dot_other (l : List UInt8) (hl : l.length≤100000000) (hdot : dotT l=true) (hok1 : digOk (wholeT l) 13=true) (hok2 : digOk (inT (partT l)) 9=true) (hbel : belT l=false) (ht : timeOk (digV (wholeT l) 13 : Int) (digV (inT (partT l)) 9 : Int)) (hx : textT (digV (wholeT l) 13 : Int) (digV (inT (partT l)) 9 : Int)≠l) (w : World) (hm : ML w) (h10 : P10 w) :
    Calls Tryz.prog 110 #[.string (bs l)] w fun e w' => e=.returned (.tuple #[.int .i64 0,.int .i64 0,.int .i64 3])∧Below w.heap.size w w':=by
  have hCP:=Lib.hid (fun w => CutPrefix_at l w)
  have r1:=restT_le l
  have r2:=cut_le (restT l) [46]
  obtain ⟨r3,r4⟩:=r2
  have hCt:=Lib.hid (fun w h => Cut_at (restT l) (wholeT l) (partT l) (dotT l) 46 rfl w (by omega) h)
  have hD1:=Lib.hid (fun w => digits_bs (wholeT l) 13 (by omega) (by unfold wholeT;omega) w)
  have hv1:=digV_bd (wholeT l) 13 (by omega)
  have hpl : (partT l).length≤100000000:=by unfold partT;omega
  obtain ⟨n,hn⟩ : ∃ n,n=9 - (partT l).length:=⟨_,rfl⟩
  have hmx : max (0 : Int) (9 - ((partT l).length : Int))=n:=by omega
  have hn9 : n≤9:=by omega
  have hR:=Lib.hid (fun w => Repeat_byte 48 n w (by omega))
  have zR:=bs_rep_size 48 n
  have zP:=bs_size (partT l)
  have hIn : bs (partT l) ++ bs (List.replicate n 48)=bs (inT (partT l)):=by rw [bs_append,hn];rfl
  have hil : (inT (partT l)).length≤200000000:=by unfold inT;simp;omega
  have hD2:=Lib.hid (fun w => digits_bs (inT (partT l)) 9 (by omega) (by omega) w)
  have hv2:=digV_bd (inT (partT l)) 9 (by omega)
  clear hn
  rw [hok1] at hD1
  rw [hdot] at hCt
  rw [hok2] at hD2
  rw [hbel] at hCP
  have hT:=Lib.hid (fun w h => Text_ok (digV (wholeT l) 13 : Int) (digV (inT (partT l)) 9 : Int) ht w h)
  have e1 : ((bs (textT (digV (wholeT l) 13 : Int) (digV (inT (partT l)) 9 : Int))).toList == (bs l).toList)=false:=by rw [bs_toList,bs_toList];exact beq_eq_false_iff_ne.2 hx
  have e2 : ((bs (textT (digV (wholeT l) 13 : Int) (digV (inT (partT l)) 9 : Int))).toList != (bs l).toList)=true:=by rw [bs_toList,bs_toList];exact bne_iff_ne.2 hx
  have e3 : ¬ (bs (textT (digV (wholeT l) 13 : Int) (digV (inT (partT l)) 9 : Int))).toList=(bs l).toList:=by rw [bs_toList,bs_toList];exact hx
  have H10:=Lib.hid h10
  generalize bs (textT (digV (wholeT l) 13 : Int) (digV (inT (partT l)) 9 : Int))=T at *
  clear h10 hx ht
  clear hdot hok1 hok2 hbel
  clear r1 r3 r4 hl
  generalize restT l=rest at *
  generalize wholeT l=whole at *
  generalize digV whole 13=v1 at *
  generalize digV (inT (partT l)) 9=v2 at *
  generalize bs (inT (partT l))=bI at *
  generalize bs (List.replicate n 48)=bR at *
  generalize bs (partT l)=bP at *
  generalize (partT l).length=pl at *
  generalize bs whole=bW at *
  generalize bs rest=bRe at *
  generalize bs l=bL at *
  go_enter Tryz.func110,Tryz.ntmps110
  go_wp2_with fail
  refine (hCP.out _).mono ?_
  rintro e w' ⟨rfl,rfl⟩
  go_wp2_with fail
  refine (hCt.out _ hm).mono ?_
  rintro e w1 ⟨rfl,b1⟩
  go_wp2_with fail
  refine (hD1.out _).mono ?_
  rintro e w' ⟨rfl,rfl⟩
  go_wp2_with fail
  refine (hR.out _).mono ?_
  rintro e w2 ⟨rfl,b2⟩
  go_wp2_with fail
  refine (hD2.out _).mono ?_
  rintro e w' ⟨rfl,rfl⟩
  go_wp2_with fail
  refine (hT.out _ (H10.out.below (b1.trans (b2.mono b1.size)))).mono ?_
  rintro e w3 ⟨rfl,b3⟩
  go_wp2_with fail
  go_ret3
  exact ⟨rfl,(b1.trans (b2.mono b1.size)).trans (b3.mono (b1.trans (b2.mono b1.size)).size)⟩
set_option maxRecDepth 100000 in
set_option maxHeartbeats 1000000 in
theorem Parse_dotneg_other (l : List UInt8) (hl : l.length≤100000000) (hdot : dotT l=true) (hok1 : digOk (wholeT l) 13=true) (hok2 : digOk (inT (partT l)) 9=true) (hbel : belT l=true) (hnano : 0 < digV (inT (partT l)) 9) (ht : timeOk (-(digV (wholeT l) 13 : Int) - 1) (1000000000 - (digV (inT (partT l)) 9 : Int))) (hx : textT (-(digV (wholeT l) 13 : Int) - 1) (1000000000 - (digV (inT (partT l)) 9 : Int))≠l) (w : World) (hm : ML w) (h10 : P10 w) :
    Calls Tryz.prog 110 #[.string (bs l)] w fun e w' => e=.returned (.tuple #[.int .i64 0,.int .i64 0,.int .i64 3])∧Below w.heap.size w w':=by
  have hCP:=Lib.hid (fun w => CutPrefix_at l w)
  have r1:=restT_le l
  have r2:=cut_le (restT l) [46]
  obtain ⟨r3,r4⟩:=r2
  have hCt:=Lib.hid (fun w h => Cut_at (restT l) (wholeT l) (partT l) (dotT l) 46 rfl w (by omega) h)
  have hD1:=Lib.hid (fun w => digits_bs (wholeT l) 13 (by omega) (by unfold wholeT;omega) w)
  have hv1:=digV_bd (wholeT l) 13 (by omega)
  have hpl : (partT l).length≤100000000:=by unfold partT;omega
  obtain ⟨n,hn⟩ : ∃ n,n=9 - (partT l).length:=⟨_,rfl⟩
  have hmx : max (0 : Int) (9 - ((partT l).length : Int))=n:=by omega
  have hn9 : n≤9:=by omega
  have hR:=Lib.hid (fun w => Repeat_byte 48 n w (by omega))
  have zR:=bs_rep_size 48 n
  have zP:=bs_size (partT l)
  have hIn : bs (partT l) ++ bs (List.replicate n 48)=bs (inT (partT l)):=by rw [bs_append,hn];rfl
  have hil : (inT (partT l)).length≤200000000:=by unfold inT;simp;omega
  have hD2:=Lib.hid (fun w => digits_bs (inT (partT l)) 9 (by omega) (by omega) w)
  have hv2:=digV_bd (inT (partT l)) 9 (by omega)
  clear hn
  rw [hok1] at hD1
  rw [hdot] at hCt
  rw [hok2] at hD2
  rw [hbel] at hCP
  have hT:=Lib.hid (fun w h => Text_ok (-(digV (wholeT l) 13 : Int) - 1) (1000000000 - (digV (inT (partT l)) 9 : Int)) ht w h)
  have e1 : ((bs (textT (-(digV (wholeT l) 13 : Int) - 1) (1000000000 - (digV (inT (partT l)) 9 : Int)))).toList == (bs l).toList)=false:=by rw [bs_toList,bs_toList];exact beq_eq_false_iff_ne.2 hx
  have e2 : ((bs (textT (-(digV (wholeT l) 13 : Int) - 1) (1000000000 - (digV (inT (partT l)) 9 : Int)))).toList != (bs l).toList)=true:=by rw [bs_toList,bs_toList];exact bne_iff_ne.2 hx
  have e3 : ¬ (bs (textT (-(digV (wholeT l) 13 : Int) - 1) (1000000000 - (digV (inT (partT l)) 9 : Int)))).toList=(bs l).toList:=by rw [bs_toList,bs_toList];exact hx
  have H10:=Lib.hid h10
  generalize bs (textT (-(digV (wholeT l) 13 : Int) - 1) (1000000000 - (digV (inT (partT l)) 9 : Int)))=T at *
  clear h10 hx ht
  clear hdot hok1 hok2 hbel
  clear r1 r3 r4 hl
  generalize restT l=rest at *
  generalize wholeT l=whole at *
  generalize digV whole 13=v1 at *
  generalize digV (inT (partT l)) 9=v2 at *
  generalize bs (inT (partT l))=bI at *
  generalize bs (List.replicate n 48)=bR at *
  generalize bs (partT l)=bP at *
  generalize (partT l).length=pl at *
  generalize bs whole=bW at *
  generalize bs rest=bRe at *
  generalize bs l=bL at *
  go_enter Tryz.func110,Tryz.ntmps110
  go_wp2_with fail
  refine (hCP.out _).mono ?_
  rintro e w' ⟨rfl,rfl⟩
  go_wp2_with fail
  refine (hCt.out _ hm).mono ?_
  rintro e w1 ⟨rfl,b1⟩
  go_wp2_with fail
  refine (hD1.out _).mono ?_
  rintro e w' ⟨rfl,rfl⟩
  go_wp2_with fail
  refine (hR.out _).mono ?_
  rintro e w2 ⟨rfl,b2⟩
  go_wp2_with fail
  refine (hD2.out _).mono ?_
  rintro e w' ⟨rfl,rfl⟩
  go_wp2_with fail
  refine (hT.out _ (H10.out.below (b1.trans (b2.mono b1.size)))).mono ?_
  rintro e w3 ⟨rfl,b3⟩
  go_wp2_with fail
  go_ret3
  exact ⟨rfl,(b1.trans (b2.mono b1.size)).trans (b3.mono (b1.trans (b2.mono b1.size)).size)⟩
set_option maxRecDepth 100000 in
set_option maxHeartbeats 1000000 in
theorem Parse_dotzero_other (l : List UInt8) (hl : l.length≤100000000) (hdot : dotT l=true) (hok1 : digOk (wholeT l) 13=true) (hok2 : digOk (inT (partT l)) 9=true) (hbel : belT l=true) (hnano : digV (inT (partT l)) 9=0) (ht : timeOk (-(digV (wholeT l) 13 : Int)) 0) (hx : textT (-(digV (wholeT l) 13 : Int)) 0≠l) (w : World) (hm : ML w) (h10 : P10 w) :
    Calls Tryz.prog 110 #[.string (bs l)] w fun e w' => e=.returned (.tuple #[.int .i64 0,.int .i64 0,.int .i64 3])∧Below w.heap.size w w':=by
  have hCP:=Lib.hid (fun w => CutPrefix_at l w)
  have r1:=restT_le l
  have r2:=cut_le (restT l) [46]
  obtain ⟨r3,r4⟩:=r2
  have hCt:=Lib.hid (fun w h => Cut_at (restT l) (wholeT l) (partT l) (dotT l) 46 rfl w (by omega) h)
  have hD1:=Lib.hid (fun w => digits_bs (wholeT l) 13 (by omega) (by unfold wholeT;omega) w)
  have hv1:=digV_bd (wholeT l) 13 (by omega)
  have hpl : (partT l).length≤100000000:=by unfold partT;omega
  obtain ⟨n,hn⟩ : ∃ n,n=9 - (partT l).length:=⟨_,rfl⟩
  have hmx : max (0 : Int) (9 - ((partT l).length : Int))=n:=by omega
  have hn9 : n≤9:=by omega
  have hR:=Lib.hid (fun w => Repeat_byte 48 n w (by omega))
  have zR:=bs_rep_size 48 n
  have zP:=bs_size (partT l)
  have hIn : bs (partT l) ++ bs (List.replicate n 48)=bs (inT (partT l)):=by rw [bs_append,hn];rfl
  have hil : (inT (partT l)).length≤200000000:=by unfold inT;simp;omega
  have hD2:=Lib.hid (fun w => digits_bs (inT (partT l)) 9 (by omega) (by omega) w)
  have hv2:=digV_bd (inT (partT l)) 9 (by omega)
  clear hn
  rw [hok1] at hD1
  rw [hdot] at hCt
  rw [hok2] at hD2
  rw [hbel] at hCP
  have hT:=Lib.hid (fun w h => Text_ok (-(digV (wholeT l) 13 : Int)) 0 ht w h)
  have e1 : ((bs (textT (-(digV (wholeT l) 13 : Int)) 0)).toList == (bs l).toList)=false:=by rw [bs_toList,bs_toList];exact beq_eq_false_iff_ne.2 hx
  have e2 : ((bs (textT (-(digV (wholeT l) 13 : Int)) 0)).toList != (bs l).toList)=true:=by rw [bs_toList,bs_toList];exact bne_iff_ne.2 hx
  have e3 : ¬ (bs (textT (-(digV (wholeT l) 13 : Int)) 0)).toList=(bs l).toList:=by rw [bs_toList,bs_toList];exact hx
  have H10:=Lib.hid h10
  generalize bs (textT (-(digV (wholeT l) 13 : Int)) 0)=T at *
  clear h10 hx ht
  clear hdot hok1 hok2 hbel
  clear r1 r3 r4 hl
  generalize restT l=rest at *
  generalize wholeT l=whole at *
  generalize digV whole 13=v1 at *
  generalize digV (inT (partT l)) 9=v2 at *
  generalize bs (inT (partT l))=bI at *
  generalize bs (List.replicate n 48)=bR at *
  subst hnano
  generalize bs (partT l)=bP at *
  generalize (partT l).length=pl at *
  generalize bs whole=bW at *
  generalize bs rest=bRe at *
  generalize bs l=bL at *
  go_enter Tryz.func110,Tryz.ntmps110
  go_wp2_with fail
  refine (hCP.out _).mono ?_
  rintro e w' ⟨rfl,rfl⟩
  go_wp2_with fail
  refine (hCt.out _ hm).mono ?_
  rintro e w1 ⟨rfl,b1⟩
  go_wp2_with fail
  refine (hD1.out _).mono ?_
  rintro e w' ⟨rfl,rfl⟩
  go_wp2_with fail
  refine (hR.out _).mono ?_
  rintro e w2 ⟨rfl,b2⟩
  go_wp2_with fail
  refine (hD2.out _).mono ?_
  rintro e w' ⟨rfl,rfl⟩
  go_wp2_with fail
  refine (hT.out _ (H10.out.below (b1.trans (b2.mono b1.size)))).mono ?_
  rintro e w3 ⟨rfl,b3⟩
  go_wp2_with fail
  go_ret3
  exact ⟨rfl,(b1.trans (b2.mono b1.size)).trans (b3.mono (b1.trans (b2.mono b1.size)).size)⟩
set_option maxRecDepth 100000 in
set_option maxHeartbeats 1000000 in
theorem Parse_whole_no (l : List UInt8) (hl : l.length≤100000000) (hdot : dotT l=false) (hok1 : digOk (wholeT l) 13=true) (hbel : belT l=false) (ht : ¬ timeOk (digV (wholeT l) 13 : Int) 0) (w : World) (hm : ML w) :
    Calls Tryz.prog 110 #[.string (bs l)] w fun e w' => e=.returned (.tuple #[.int .i64 0,.int .i64 0,.int .i64 3])∧Below w.heap.size w w':=by
  have hCP:=Lib.hid (fun w => CutPrefix_at l w)
  have r1:=restT_le l
  have r2:=cut_le (restT l) [46]
  obtain ⟨r3,r4⟩:=r2
  have hCt:=Lib.hid (fun w h => Cut_at (restT l) (wholeT l) (partT l) (dotT l) 46 rfl w (by omega) h)
  have hD1:=Lib.hid (fun w => digits_bs (wholeT l) 13 (by omega) (by unfold wholeT;omega) w)
  have hv1:=digV_bd (wholeT l) 13 (by omega)
  have hpl : (partT l).length≤100000000:=by unfold partT;omega
  rw [hok1] at hD1
  rw [hdot] at hCt
  rw [hbel] at hCP
  have hT:=Lib.hid (fun w => Text_no (digV (wholeT l) 13 : Int) 0 ht w)
  clear ht
  clear hdot hok1 hbel
  clear r1 r3 r4 hl
  generalize restT l=rest at *
  generalize wholeT l=whole at *
  generalize digV whole 13=v1 at *
  generalize bs (partT l)=bP at *
  generalize (partT l).length=pl at *
  generalize bs whole=bW at *
  generalize bs rest=bRe at *
  generalize bs l=bL at *
  go_enter Tryz.func110,Tryz.ntmps110
  go_wp2_with fail
  refine (hCP.out _).mono ?_
  rintro e w' ⟨rfl,rfl⟩
  go_wp2_with fail
  refine (hCt.out _ hm).mono ?_
  rintro e w1 ⟨rfl,b1⟩
  go_wp2_with fail
  refine (hD1.out _).mono ?_
  rintro e w' ⟨rfl,rfl⟩
  go_wp2_with fail
  refine (hT.out _).mono ?_
  rintro e w' ⟨rfl,rfl⟩
  go_wp2_with fail
  go_ret3
  exact ⟨rfl,b1⟩
set_option maxRecDepth 100000 in
set_option maxHeartbeats 1000000 in
theorem Parse_wholeneg_no (l : List UInt8) (hl : l.length≤100000000) (hdot : dotT l=false) (hok1 : digOk (wholeT l) 13=true) (hbel : belT l=true) (ht : ¬ timeOk (-(digV (wholeT l) 13 : Int)) 0) (w : World) (hm : ML w) :
    Calls Tryz.prog 110 #[.string (bs l)] w fun e w' => e=.returned (.tuple #[.int .i64 0,.int .i64 0,.int .i64 3])∧Below w.heap.size w w':=by
  have hCP:=Lib.hid (fun w => CutPrefix_at l w)
  have r1:=restT_le l
  have r2:=cut_le (restT l) [46]
  obtain ⟨r3,r4⟩:=r2
  have hCt:=Lib.hid (fun w h => Cut_at (restT l) (wholeT l) (partT l) (dotT l) 46 rfl w (by omega) h)
  have hD1:=Lib.hid (fun w => digits_bs (wholeT l) 13 (by omega) (by unfold wholeT;omega) w)
  have hv1:=digV_bd (wholeT l) 13 (by omega)
  have hpl : (partT l).length≤100000000:=by unfold partT;omega
  rw [hok1] at hD1
  rw [hdot] at hCt
  rw [hbel] at hCP
  have hT:=Lib.hid (fun w => Text_no (-(digV (wholeT l) 13 : Int)) 0 ht w)
  clear ht
  clear hdot hok1 hbel
  clear r1 r3 r4 hl
  generalize restT l=rest at *
  generalize wholeT l=whole at *
  generalize digV whole 13=v1 at *
  generalize bs (partT l)=bP at *
  generalize (partT l).length=pl at *
  generalize bs whole=bW at *
  generalize bs rest=bRe at *
  generalize bs l=bL at *
  go_enter Tryz.func110,Tryz.ntmps110
  go_wp2_with fail
  refine (hCP.out _).mono ?_
  rintro e w' ⟨rfl,rfl⟩
  go_wp2_with fail
  refine (hCt.out _ hm).mono ?_
  rintro e w1 ⟨rfl,b1⟩
  go_wp2_with fail
  refine (hD1.out _).mono ?_
  rintro e w' ⟨rfl,rfl⟩
  go_wp2_with fail
  refine (hT.out _).mono ?_
  rintro e w' ⟨rfl,rfl⟩
  go_wp2_with fail
  go_ret3
  exact ⟨rfl,b1⟩
set_option maxRecDepth 100000 in
set_option maxHeartbeats 1000000 in
theorem Parse_dot_no (l : List UInt8) (hl : l.length≤100000000) (hdot : dotT l=true) (hok1 : digOk (wholeT l) 13=true) (hok2 : digOk (inT (partT l)) 9=true) (hbel : belT l=false) (ht : ¬ timeOk (digV (wholeT l) 13 : Int) (digV (inT (partT l)) 9 : Int)) (w : World) (hm : ML w) :
    Calls Tryz.prog 110 #[.string (bs l)] w fun e w' => e=.returned (.tuple #[.int .i64 0,.int .i64 0,.int .i64 3])∧Below w.heap.size w w':=by
  have hCP:=Lib.hid (fun w => CutPrefix_at l w)
  have r1:=restT_le l
  have r2:=cut_le (restT l) [46]
  obtain ⟨r3,r4⟩:=r2
  have hCt:=Lib.hid (fun w h => Cut_at (restT l) (wholeT l) (partT l) (dotT l) 46 rfl w (by omega) h)
  have hD1:=Lib.hid (fun w => digits_bs (wholeT l) 13 (by omega) (by unfold wholeT;omega) w)
  have hv1:=digV_bd (wholeT l) 13 (by omega)
  have hpl : (partT l).length≤100000000:=by unfold partT;omega
  obtain ⟨n,hn⟩ : ∃ n,n=9 - (partT l).length:=⟨_,rfl⟩
  have hmx : max (0 : Int) (9 - ((partT l).length : Int))=n:=by omega
  have hn9 : n≤9:=by omega
  have hR:=Lib.hid (fun w => Repeat_byte 48 n w (by omega))
  have zR:=bs_rep_size 48 n
  have zP:=bs_size (partT l)
  have hIn : bs (partT l) ++ bs (List.replicate n 48)=bs (inT (partT l)):=by rw [bs_append,hn];rfl
  have hil : (inT (partT l)).length≤200000000:=by unfold inT;simp;omega
  have hD2:=Lib.hid (fun w => digits_bs (inT (partT l)) 9 (by omega) (by omega) w)
  have hv2:=digV_bd (inT (partT l)) 9 (by omega)
  clear hn
  rw [hok1] at hD1
  rw [hdot] at hCt
  rw [hok2] at hD2
  rw [hbel] at hCP
  have hT:=Lib.hid (fun w => Text_no (digV (wholeT l) 13 : Int) (digV (inT (partT l)) 9 : Int) ht w)
  clear ht
  clear hdot hok1 hok2 hbel
  clear r1 r3 r4 hl
  generalize restT l=rest at *
  generalize wholeT l=whole at *
  generalize digV whole 13=v1 at *
  generalize digV (inT (partT l)) 9=v2 at *
  generalize bs (inT (partT l))=bI at *
  generalize bs (List.replicate n 48)=bR at *
  generalize bs (partT l)=bP at *
  generalize (partT l).length=pl at *
  generalize bs whole=bW at *
  generalize bs rest=bRe at *
  generalize bs l=bL at *
  go_enter Tryz.func110,Tryz.ntmps110
  go_wp2_with fail
  refine (hCP.out _).mono ?_
  rintro e w' ⟨rfl,rfl⟩
  go_wp2_with fail
  refine (hCt.out _ hm).mono ?_
  rintro e w1 ⟨rfl,b1⟩
  go_wp2_with fail
  refine (hD1.out _).mono ?_
  rintro e w' ⟨rfl,rfl⟩
  go_wp2_with fail
  refine (hR.out _).mono ?_
  rintro e w2 ⟨rfl,b2⟩
  go_wp2_with fail
  refine (hD2.out _).mono ?_
  rintro e w' ⟨rfl,rfl⟩
  go_wp2_with fail
  refine (hT.out _).mono ?_
  rintro e w' ⟨rfl,rfl⟩
  go_wp2_with fail
  go_ret3
  exact ⟨rfl,b1.trans (b2.mono b1.size)⟩
set_option maxRecDepth 100000 in
set_option maxHeartbeats 1000000 in
theorem Parse_dotneg_no (l : List UInt8) (hl : l.length≤100000000) (hdot : dotT l=true) (hok1 : digOk (wholeT l) 13=true) (hok2 : digOk (inT (partT l)) 9=true) (hbel : belT l=true) (hnano : 0 < digV (inT (partT l)) 9) (ht : ¬ timeOk (-(digV (wholeT l) 13 : Int) - 1) (1000000000 - (digV (inT (partT l)) 9 : Int))) (w : World) (hm : ML w) :
    Calls Tryz.prog 110 #[.string (bs l)] w fun e w' => e=.returned (.tuple #[.int .i64 0,.int .i64 0,.int .i64 3])∧Below w.heap.size w w':=by
  have hCP:=Lib.hid (fun w => CutPrefix_at l w)
  have r1:=restT_le l
  have r2:=cut_le (restT l) [46]
  obtain ⟨r3,r4⟩:=r2
  have hCt:=Lib.hid (fun w h => Cut_at (restT l) (wholeT l) (partT l) (dotT l) 46 rfl w (by omega) h)
  have hD1:=Lib.hid (fun w => digits_bs (wholeT l) 13 (by omega) (by unfold wholeT;omega) w)
  have hv1:=digV_bd (wholeT l) 13 (by omega)
  have hpl : (partT l).length≤100000000:=by unfold partT;omega
  obtain ⟨n,hn⟩ : ∃ n,n=9 - (partT l).length:=⟨_,rfl⟩
  have hmx : max (0 : Int) (9 - ((partT l).length : Int))=n:=by omega
  have hn9 : n≤9:=by omega
  have hR:=Lib.hid (fun w => Repeat_byte 48 n w (by omega))
  have zR:=bs_rep_size 48 n
  have zP:=bs_size (partT l)
  have hIn : bs (partT l) ++ bs (List.replicate n 48)=bs (inT (partT l)):=by rw [bs_append,hn];rfl
  have hil : (inT (partT l)).length≤200000000:=by unfold inT;simp;omega
  have hD2:=Lib.hid (fun w => digits_bs (inT (partT l)) 9 (by omega) (by omega) w)
  have hv2:=digV_bd (inT (partT l)) 9 (by omega)
  clear hn
  rw [hok1] at hD1
  rw [hdot] at hCt
  rw [hok2] at hD2
  rw [hbel] at hCP
  have hT:=Lib.hid (fun w => Text_no (-(digV (wholeT l) 13 : Int) - 1) (1000000000 - (digV (inT (partT l)) 9 : Int)) ht w)
  clear ht
  clear hdot hok1 hok2 hbel
  clear r1 r3 r4 hl
  generalize restT l=rest at *
  generalize wholeT l=whole at *
  generalize digV whole 13=v1 at *
  generalize digV (inT (partT l)) 9=v2 at *
  generalize bs (inT (partT l))=bI at *
  generalize bs (List.replicate n 48)=bR at *
  generalize bs (partT l)=bP at *
  generalize (partT l).length=pl at *
  generalize bs whole=bW at *
  generalize bs rest=bRe at *
  generalize bs l=bL at *
  go_enter Tryz.func110,Tryz.ntmps110
  go_wp2_with fail
  refine (hCP.out _).mono ?_
  rintro e w' ⟨rfl,rfl⟩
  go_wp2_with fail
  refine (hCt.out _ hm).mono ?_
  rintro e w1 ⟨rfl,b1⟩
  go_wp2_with fail
  refine (hD1.out _).mono ?_
  rintro e w' ⟨rfl,rfl⟩
  go_wp2_with fail
  refine (hR.out _).mono ?_
  rintro e w2 ⟨rfl,b2⟩
  go_wp2_with fail
  refine (hD2.out _).mono ?_
  rintro e w' ⟨rfl,rfl⟩
  go_wp2_with fail
  refine (hT.out _).mono ?_
  rintro e w' ⟨rfl,rfl⟩
  go_wp2_with fail
  go_ret3
  exact ⟨rfl,b1.trans (b2.mono b1.size)⟩
set_option maxRecDepth 100000 in
set_option maxHeartbeats 1000000 in
theorem Parse_dotzero_no (l : List UInt8) (hl : l.length≤100000000) (hdot : dotT l=true) (hok1 : digOk (wholeT l) 13=true) (hok2 : digOk (inT (partT l)) 9=true) (hbel : belT l=true) (hnano : digV (inT (partT l)) 9=0) (ht : ¬ timeOk (-(digV (wholeT l) 13 : Int)) 0) (w : World) (hm : ML w) :
    Calls Tryz.prog 110 #[.string (bs l)] w fun e w' => e=.returned (.tuple #[.int .i64 0,.int .i64 0,.int .i64 3])∧Below w.heap.size w w':=by
  have hCP:=Lib.hid (fun w => CutPrefix_at l w)
  have r1:=restT_le l
  have r2:=cut_le (restT l) [46]
  obtain ⟨r3,r4⟩:=r2
  have hCt:=Lib.hid (fun w h => Cut_at (restT l) (wholeT l) (partT l) (dotT l) 46 rfl w (by omega) h)
  have hD1:=Lib.hid (fun w => digits_bs (wholeT l) 13 (by omega) (by unfold wholeT;omega) w)
  have hv1:=digV_bd (wholeT l) 13 (by omega)
  have hpl : (partT l).length≤100000000:=by unfold partT;omega
  obtain ⟨n,hn⟩ : ∃ n,n=9 - (partT l).length:=⟨_,rfl⟩
  have hmx : max (0 : Int) (9 - ((partT l).length : Int))=n:=by omega
  have hn9 : n≤9:=by omega
  have hR:=Lib.hid (fun w => Repeat_byte 48 n w (by omega))
  have zR:=bs_rep_size 48 n
  have zP:=bs_size (partT l)
  have hIn : bs (partT l) ++ bs (List.replicate n 48)=bs (inT (partT l)):=by rw [bs_append,hn];rfl
  have hil : (inT (partT l)).length≤200000000:=by unfold inT;simp;omega
  have hD2:=Lib.hid (fun w => digits_bs (inT (partT l)) 9 (by omega) (by omega) w)
  have hv2:=digV_bd (inT (partT l)) 9 (by omega)
  clear hn
  rw [hok1] at hD1
  rw [hdot] at hCt
  rw [hok2] at hD2
  rw [hbel] at hCP
  have hT:=Lib.hid (fun w => Text_no (-(digV (wholeT l) 13 : Int)) 0 ht w)
  clear ht
  clear hdot hok1 hok2 hbel
  clear r1 r3 r4 hl
  generalize restT l=rest at *
  generalize wholeT l=whole at *
  generalize digV whole 13=v1 at *
  generalize digV (inT (partT l)) 9=v2 at *
  generalize bs (inT (partT l))=bI at *
  generalize bs (List.replicate n 48)=bR at *
  subst hnano
  generalize bs (partT l)=bP at *
  generalize (partT l).length=pl at *
  generalize bs whole=bW at *
  generalize bs rest=bRe at *
  generalize bs l=bL at *
  go_enter Tryz.func110,Tryz.ntmps110
  go_wp2_with fail
  refine (hCP.out _).mono ?_
  rintro e w' ⟨rfl,rfl⟩
  go_wp2_with fail
  refine (hCt.out _ hm).mono ?_
  rintro e w1 ⟨rfl,b1⟩
  go_wp2_with fail
  refine (hD1.out _).mono ?_
  rintro e w' ⟨rfl,rfl⟩
  go_wp2_with fail
  refine (hR.out _).mono ?_
  rintro e w2 ⟨rfl,b2⟩
  go_wp2_with fail
  refine (hD2.out _).mono ?_
  rintro e w' ⟨rfl,rfl⟩
  go_wp2_with fail
  refine (hT.out _).mono ?_
  rintro e w' ⟨rfl,rfl⟩
  go_wp2_with fail
  go_ret3
  exact ⟨rfl,b1.trans (b2.mono b1.size)⟩
end
section
open Go.RowKit
theorem parse_bad {l : List UInt8} (h : okT l=false) : parseT l=(0,0,3):=by unfold parseT;rw [if_neg (by rw [h];simp)]
theorem parse_no {l : List UInt8} {a b : Int} (ha : aT l=a) (hb : bT l=b) (h : ¬ timeOk a b) : parseT l=(0,0,3):=by
  unfold parseT;rw [ha,hb,if_neg (fun x => h x.2.1)]
theorem parse_other {l : List UInt8} {a b : Int} (ha : aT l=a) (hb : bT l=b) (h : textT a b≠l) : parseT l=(0,0,3):=by
  unfold parseT;rw [ha,hb,if_neg (fun x => h x.2.2)]
theorem parse_yes {l : List UInt8} {a b : Int} (hk : okT l=true) (ha : aT l=a) (hb : bT l=b) (ht : timeOk a b) (h : textT a b=l) : parseT l=(a,b,0):=by
  unfold parseT;rw [ha,hb,if_pos ⟨hk,ht,h⟩]
def PR (p : Int × Int × Int) : Ending:=.returned (.tuple #[.int .i64 p.1,.int .i64 p.2.1,.int .i64 p.2.2])
theorem Parse_any (l : List UInt8) (hl : l.length≤100000000) (w : World) (hm : ML w) (h10 : P10 w) :
    Calls Tryz.prog 110 #[.string (bs l)] w fun e w' => e=PR (parseT l)∧Below w.heap.size w w':=by
  cases hdot : dotT l <;> cases hok1 : digOk (wholeT l) 13
  · rw [parse_bad (by unfold okT;rw [hok1];rfl)]
    exact Parse_bad1 l hl hdot hok1 w hm
  · have hk : okT l=true:=by unfold okT;rw [hok1,hdot];rfl
    have hv : v2T l=0:=by unfold v2T;rw [hdot];rfl
    cases hbel : belT l
    · have ha : aT l=(digV (wholeT l) 13 : Int):=by unfold aT;rw [hbel];rfl
      have hb : bT l=0:=by unfold bT;rw [hbel,hv];rfl
      by_cases ht : timeOk (digV (wholeT l) 13 : Int) 0
      · by_cases hx : textT (digV (wholeT l) 13 : Int) 0=l
        · rw [parse_yes hk ha hb ht hx];exact Parse_whole_yes l hl hdot hok1 hbel ht hx w hm h10
        · rw [parse_other ha hb hx];exact Parse_whole_other l hl hdot hok1 hbel ht hx w hm h10
      · rw [parse_no ha hb ht];exact Parse_whole_no l hl hdot hok1 hbel ht w hm
    · have ha : aT l=-(digV (wholeT l) 13 : Int):=by unfold aT;rw [hbel,hv];rfl
      have hb : bT l=0:=by unfold bT;rw [hbel,hv];rfl
      by_cases ht : timeOk (-(digV (wholeT l) 13 : Int)) 0
      · by_cases hx : textT (-(digV (wholeT l) 13 : Int)) 0=l
        · rw [parse_yes hk ha hb ht hx];exact Parse_wholeneg_yes l hl hdot hok1 hbel ht hx w hm h10
        · rw [parse_other ha hb hx];exact Parse_wholeneg_other l hl hdot hok1 hbel ht hx w hm h10
      · rw [parse_no ha hb ht];exact Parse_wholeneg_no l hl hdot hok1 hbel ht w hm
  · rw [parse_bad (by unfold okT;rw [hok1];rfl)]
    cases hok2 : digOk (inT (partT l)) 9
    · exact Parse_bad2 l hl hdot hok1 hok2 w hm
    · exact Parse_bad3 l hl hdot hok1 hok2 w hm
  · cases hok2 : digOk (inT (partT l)) 9
    · rw [parse_bad (by unfold okT;rw [hok1,hok2,hdot];rfl)]
      exact Parse_bad4 l hl hdot hok1 hok2 w hm
    · have hk : okT l=true:=by unfold okT;rw [hok1,hok2,hdot];rfl
      have hv : v2T l=digV (inT (partT l)) 9:=by unfold v2T;rw [hdot];rfl
      cases hbel : belT l
      · have ha : aT l=(digV (wholeT l) 13 : Int):=by unfold aT;rw [hbel];rfl
        have hb : bT l=(digV (inT (partT l)) 9 : Int):=by unfold bT;rw [hbel,hv];rfl
        by_cases ht : timeOk (digV (wholeT l) 13 : Int) (digV (inT (partT l)) 9 : Int)
        · by_cases hx : textT (digV (wholeT l) 13 : Int) (digV (inT (partT l)) 9 : Int)=l
          · rw [parse_yes hk ha hb ht hx];exact Parse_dot_yes l hl hdot hok1 hok2 hbel ht hx w hm h10
          · rw [parse_other ha hb hx];exact Parse_dot_other l hl hdot hok1 hok2 hbel ht hx w hm h10
        · rw [parse_no ha hb ht];exact Parse_dot_no l hl hdot hok1 hok2 hbel ht w hm
      · by_cases hn : 0 < digV (inT (partT l)) 9
        · have ha : aT l=-(digV (wholeT l) 13 : Int) - 1:=by unfold aT;rw [hbel,hv,if_pos rfl,if_pos hn];rfl
          have hb : bT l=1000000000 - (digV (inT (partT l)) 9 : Int):=by unfold bT;rw [hbel,hv,if_pos rfl,if_pos hn]
          by_cases ht : timeOk (-(digV (wholeT l) 13 : Int) - 1) (1000000000 - (digV (inT (partT l)) 9 : Int))
          · by_cases hx : textT (-(digV (wholeT l) 13 : Int) - 1) (1000000000 - (digV (inT (partT l)) 9 : Int))=l
            · rw [parse_yes hk ha hb ht hx];exact Parse_dotneg_yes l hl hdot hok1 hok2 hbel hn ht hx w hm h10
            · rw [parse_other ha hb hx];exact Parse_dotneg_other l hl hdot hok1 hok2 hbel hn ht hx w hm h10
          · rw [parse_no ha hb ht];exact Parse_dotneg_no l hl hdot hok1 hok2 hbel hn ht w hm
        · have h0 : digV (inT (partT l)) 9=0:=by omega
          have ha : aT l=-(digV (wholeT l) 13 : Int):=by unfold aT;rw [hbel,hv,if_pos rfl,if_neg hn];rfl
          have hb : bT l=0:=by unfold bT;rw [hbel,hv,if_pos rfl,if_neg hn,h0];rfl
          by_cases ht : timeOk (-(digV (wholeT l) 13 : Int)) 0
          · by_cases hx : textT (-(digV (wholeT l) 13 : Int)) 0=l
            · rw [parse_yes hk ha hb ht hx];exact Parse_dotzero_yes l hl hdot hok1 hok2 hbel h0 ht hx w hm h10
            · rw [parse_other ha hb hx];exact Parse_dotzero_other l hl hdot hok1 hok2 hbel h0 ht hx w hm h10
          · rw [parse_no ha hb ht];exact Parse_dotzero_no l hl hdot hok1 hok2 hbel h0 ht w hm
end
end Go.Proofs.YtphmhmdcaafmdaaGreatDoor
