import Derived.Test.YtphmhmdcaafmdaaGreatDoorWords
import Derived.Test.YtphmhmdcaafmdaaGreatDoorShelf
import Derived.Deep.QuietTactic
import Derived.BigQuiet
namespace Go.Proofs.YtphmhmdcaafmdaaGreatDoor
set_option linter.all false
open Go.RowKit
def cutOk (l : List UInt8) (j : Nat) : Bool:=l.getD j 0 == 47 && decide (0 < j) && decide (j≤155) && decide (1 < l.length - j) && decide (l.length - j≤101)
def cutAt (l : List UInt8) : Option Nat:=(List.range l.length).find? (cutOk l)
def twoS (l : List UInt8) : List UInt8 × List UInt8 × Int :=
  if l=[]∨0∈l then ([],[],3)
  else if l.length≤100 then ([],l,0)
  else match cutAt l with
    | some j => (l.take j,l.drop (j + 1),0)
    | none => ([],[],1)
theorem find_range_some {p : Nat→Bool} {n j : Nat} (hj : j < n) (hp : p j=true) (hno : ∀ i,i < j→p i=false) : (List.range n).find? p=some j:=by
  rw [List.find?_range_eq_some]
  exact ⟨hp,by simpa using hj,fun i hi => by simpa using hno i hi⟩
theorem find_range_none {p : Nat→Bool} {n : Nat} (hno : ∀ i,i < n→p i=false) : (List.range n).find? p=none:=by
  rw [List.find?_range_eq_none]
  intro i hi
  simpa using hno i hi
theorem ret3_str {a b a' b' : ByteArray} {c : Int} (h : a=a') (h' : b=b') : Ending.returned (.tuple #[.string a,.string b,.int .i64 c])=.returned (.tuple #[.string a',.string b',.int .i64 c]):=by rw [h,h']
theorem IndexByte_zero (l : List UInt8) (w : World) :
    Calls Tryz.prog 89 #[.string (bs l),.int .u8 0] w fun e w' => e=.returned (.int .i64 (Lib.indexByte l 0))∧w=w' :=
  (Tryz.strings_IndexByte (bs l) 0 w).mono fun e w' ⟨h1,h2⟩ => ⟨by rw [h1,bs_data];rfl,h2.symm⟩
theorem beq_bool {c d : UInt8} (b : Bool) (h : (c == d)=b) : ((c.toNat : Int) == (d.toNat : Int))=b:=by
  rw [← h,Bool.eq_iff_iff]
  simp only [beq_iff_eq]
  constructor
  · intro h;apply UInt8.toNat.inj;show c.toNat=d.toNat;omega
  · rintro rfl;rfl
theorem getD_get (l : List UInt8) (j : Nat) (h : j < (bs l).size) : (bs l)[j]=l.getD j 0:=by
  have hl : j < l.length:=by rw [bs_size] at h;exact h
  rw [List.getD_eq_getElem?_getD,List.getElem?_eq_getElem hl]
  rfl
theorem cutOk_mk {l : List UInt8} {j : Nat} (h1 : (l.getD j 0 == 47)=true) (h2 : 0 < j) (h3 : j≤155) (h4 : 1 < l.length - j) (h5 : l.length - j≤101) : cutOk l j=true:=by
  unfold cutOk;rw [h1,decide_eq_true h2,decide_eq_true h3,decide_eq_true h4,decide_eq_true h5];rfl
theorem cutOk_no1 {l : List UInt8} {j : Nat} (h1 : (l.getD j 0 == 47)=false) : cutOk l j=false:=by unfold cutOk;rw [h1];rfl
theorem cutOk_no {l : List UInt8} {j : Nat} (h : ¬ (0 < j∧j≤155∧1 < l.length - j∧l.length - j≤101)) : cutOk l j=false:=by
  rw [Bool.eq_false_iff]
  intro h2
  unfold cutOk at h2
  simp only [Bool.and_eq_true,decide_eq_true_eq] at h2
  exact h ⟨h2.1.1.1.2,h2.1.1.2,h2.1.2,h2.2⟩
theorem no_step {l : List UInt8} {pos : Nat} (h : ∀ j,j < pos→cutOk l j=false) (h0 : cutOk l pos=false) : ∀ j,j < pos + (Utf8.decode (bs l) pos).2→cutOk l j=false:=by
  intro j hj
  rcases Nat.lt_trichotomy j pos with h1 | h1 | h1
  · exact h j h1
  · rw [h1];exact h0
  · obtain ⟨h2,h3⟩:=(decode_width (bs l) pos).2 j h1 hj
    rw [getD_get l j h2] at h3
    refine cutOk_no1 ?_
    rw [Bool.eq_false_iff]
    intro h4
    rw [eq_of_beq h4] at h3
    exact absurd h3 (by decide)
set_option maxHeartbeats 2000000 in
theorem Two_any (l : List UInt8) (hs : l.length≤4611686018427387904) (w : World) :
    Calls Tryz.prog 95 #[.string (bs l)] w fun e w' => e=.returned (.tuple #[.string (bs (twoS l).1),.string (bs (twoS l).2.1),.int .i64 (twoS l).2.2])∧Below w.heap.size w w':=by
  have htl:=bs_toList l
  have hsz:=bs_size l
  by_cases hnil : l=[]
  · have fin:=Lib.hid (show twoS l=([],[],3) by rw [twoS,if_pos (.inl hnil)])
    subst hnil
    clear hsz
    go_enter Tryz.func95,Tryz.ntmps95
    go_wp2_with fail
    go_ret3
    exact ⟨by rw [fin.out];rfl,Below.refl _ _⟩
  have hie : (bs l).toList.isEmpty=false:=by rw [htl];cases l <;> simp at hnil ⊢
  have hne : (bs l).toList≠[]:=by rw [htl];exact hnil
  by_cases hzero : (0 : UInt8)∈l
  · have fin:=Lib.hid (show twoS l=([],[],3) by rw [twoS,if_pos (.inr hzero)])
    have hix:=indexByte_mem hzero
    clear hsz htl
    go_enter Tryz.func95,Tryz.ntmps95
    go_wp2_with fail
    refine (IndexByte_zero l _).mono ?_
    rintro e w' ⟨rfl,rfl⟩
    generalize Lib.indexByte l 0=ix at *
    go_wp2_with fail
    go_ret3
    exact ⟨by rw [fin.out];rfl,Below.refl _ _⟩
  have hix:=Lib.hid (indexByte_not hzero)
  by_cases hshort : l.length≤100
  · have fin:=Lib.hid (show twoS l=([],l,0) by rw [twoS,if_neg (by rintro (h | h) <;> contradiction),if_pos hshort])
    clear htl
    go_enter Tryz.func95,Tryz.ntmps95
    go_wp2_with fail
    refine (IndexByte_zero l _).mono ?_
    rintro e w' ⟨rfl,rfl⟩
    rw [hix.out]
    go_wp2_with fail
    go_ret3
    exact ⟨by rw [fin.out];rfl,Below.refl _ _⟩
  have fin:=Lib.hid (show twoS l=match cutAt l with | some j => (l.take j,l.drop (j + 1),0) | none => ([],[],1) by rw [twoS,if_neg (by rintro (h | h) <;> contradiction),if_neg hshort])
  clear htl hzero hnil
  go_enter Tryz.func95,Tryz.ntmps95
  go_wp2_with fail
  refine (IndexByte_zero l _).mono ?_
  rintro e w' ⟨rfl,rfl⟩
  rw [hix.out]
  go_wp2_with fail
  go_loopw [5] (fun _ wr => ∃ pos : Nat,wr.heap[w.heap.size]?=some (.stringIter (bs l) pos)∧Below w.heap.size w wr∧Hid (∀ j,j < pos→cutOk l j=false)) (fun _ wr => l.length - wr.iterPos w.heap.size)
  case atStart => exact ⟨0,World.iter_heap w (bs l) 0,(Below.refl _ _).alloc (Nat.le_refl _) _,Lib.hid (fun j hj => absurd hj (by omega))⟩
  case round =>
    obtain ⟨pos,hit,hbw,HN⟩:=hrel
    have hpos0:=iterPos_of hit
    by_cases hp : pos < l.length
    · have hp2 : pos < (bs l).size:=by omega
      have hnx : ∀ ty,(Instr.next (.pointer (some ⟨w.heap.size,0,none⟩)) true ty).run Tryz.prog wr=_:=fun ty => Lib.run_next_any_at wr w.heap.size (bs l) pos ty hit hp2
      have hwd:=(decode_width (bs l) pos).1
      have hstep:=fun h0 => Lib.hid (no_step HN.out h0)
      have hit2:=Lib.iterAt_heap wr w.heap.size (bs l) pos (pos + (Utf8.decode (bs l) pos).2) hit
      have hbw2:=Lib.below_iterAt hbw (k:=w.heap.size) (Nat.le_refl _) (bs l) (pos + (Utf8.decode (bs l) pos).2)
      generalize (Utf8.decode (bs l) pos).2=wd at *
      generalize (Utf8.decode (bs l) pos).1=rn at *
      obtain ⟨W1,hW1⟩ : ∃ W1,W1=wr.iterAt w.heap.size (bs l) (pos + wd):=⟨_,rfl⟩
      rw [← hW1] at hnx hit2 hbw2
      clear hW1
      have hpos2:=iterPos_of hit2
      have HP0:=Lib.hid hpos0;have HP2:=Lib.hid hpos2
      clear hpos0 hpos2
      have hcb : ((((bs l)[pos]'hp2).toNat : Int) == 47)=(l.getD pos 0 == 47):=by rw [getD_get l pos hp2];exact beq_bool (c:=l.getD pos 0) (d:=47) _ rfl
      by_cases c1 : (l.getD pos 0 == 47)=true
      · have hc1 : ((((bs l)[pos]'hp2).toNat : Int) == 47)=true:=hcb.trans c1
        clear hcb
        by_cases c2 : 0 < pos∧pos≤155∧1 < l.length - pos∧l.length - pos≤101
        · obtain ⟨c2,c3,c4,c5⟩:=c2
          have H1:=Lib.hid (show twoS l=(l.take pos,l.drop (pos + 1),0) by
            rw [fin.out,show cutAt l=some pos from find_range_some hp (cutOk_mk c1 c2 c3 c4 c5) HN.out])
          clear c1
          go_wp2
          go_quiet (fail)
          go_wp2
          go_ret3
          refine ⟨?_,below_drewN hbw2 _⟩
          rw [H1.out]
          refine ret3_str (bs_of ?_) (bs_of ?_)
          · simp [bs_data]
          · refine (Lib.extract_data _ _ _).trans ?_
            rw [bs_data]
            exact List.take_of_length_le (by rw [List.length_drop];omega)
        · have H0:=hstep (cutOk_no c2)
          clear c1
          by_cases d2 : 0 < pos
          · by_cases d3 : pos≤155
            · by_cases d4 : 1 < l.length - pos
              · have d5 : ¬ l.length - pos≤101:=fun h => c2 ⟨d2,d3,d4,h⟩
                clear c2
                go_wp2
                go_roundw
                case rel => exact ⟨_,hit2,hbw2,H0⟩
                case measure => rw [HP0.out,HP2.out];omega
              · clear c2
                go_wp2
                go_roundw
                case rel => exact ⟨_,hit2,hbw2,H0⟩
                case measure => rw [HP0.out,HP2.out];omega
            · clear c2
              go_wp2
              go_roundw
              case rel => exact ⟨_,hit2,hbw2,H0⟩
              case measure => rw [HP0.out,HP2.out];omega
          · clear c2
            go_wp2
            go_roundw
            case rel => exact ⟨_,hit2,hbw2,H0⟩
            case measure => rw [HP0.out,HP2.out];omega
      · have hc1 : ((((bs l)[pos]'hp2).toNat : Int) == 47)=false:=hcb.trans (by simpa using c1)
        have H0:=hstep (cutOk_no1 (by simpa using c1))
        clear hcb c1
        go_wp2
        go_roundw
        case rel => exact ⟨_,hit2,hbw2,H0⟩
        case measure => rw [HP0.out,HP2.out];omega
    · have hnx : ∀ ty,(Instr.next (.pointer (some ⟨w.heap.size,0,none⟩)) true ty).run Tryz.prog wr=_:=fun ty => Lib.run_next_end_at wr w.heap.size (bs l) pos ty hit (by rw [hsz];exact hp)
      have H1:=Lib.hid (show twoS l=([],[],1) by
        rw [fin.out,show cutAt l=none from find_range_none (fun i hi => HN.out i (by omega))])
      go_wp2
      go_ret3
      exact ⟨by rw [H1.out];rfl,hbw⟩
def oneL (p n : List UInt8) : List UInt8:=if p=[] then n else p ++ 47 :: n
def oneS (p n : List UInt8) : List UInt8 × Int :=
  if n.length < 1∨100 < n.length∨155 < p.length then ([],1)
  else if twoS (oneL p n)=(p,n,0) then (oneL p n,0) else ([],3)
theorem ret2_strI {a a' : ByteArray} {c c' : Int} (h : a=a') (h' : c=c') : Ending.returned (.tuple #[.string a,.int .i64 c])=.returned (.tuple #[.string a',.int .i64 c']):=by rw [h,h']
theorem twoS_err (l : List UInt8) : (twoS l).2.2=0∨(twoS l).2.2=1∨(twoS l).2.2=3:=by
  unfold twoS
  split
  · simp
  · split
    · simp
    · split <;> simp
theorem bs_eq (a b : List UInt8) : ((bs a).toList == (bs b).toList)=decide (a=b):=by
  rw [bs_toList,bs_toList,Bool.eq_iff_iff];simp
set_option maxHeartbeats 2000000 in
theorem One_any (p n : List UInt8) (hp : p.length≤4611686018427387904) (hn : n.length≤4611686018427387904) (w : World) :
    Calls Tryz.prog 111 #[.string (bs p),.string (bs n)] w fun e w' => e=.returned (.tuple #[.string (bs (oneS p n).1),.int .i64 (oneS p n).2])∧Below w.heap.size w w':=by
  have s1:=bs_size p
  have s2:=bs_size n
  by_cases h1 : n.length < 1
  · have fin:=Lib.hid (show oneS p n=([],1) by rw [oneS,if_pos (.inl h1)])
    go_enter Tryz.func111,Tryz.ntmps111
    go_wp2_with fail
    go_ret2
    exact ⟨ret2_strI (by rw [fin.out];rfl) (by rw [fin.out]),Below.refl _ _⟩
  by_cases h2 : 100 < n.length
  · have fin:=Lib.hid (show oneS p n=([],1) by rw [oneS,if_pos (.inr (.inl h2))])
    go_enter Tryz.func111,Tryz.ntmps111
    go_wp2_with fail
    go_ret2
    exact ⟨ret2_strI (by rw [fin.out];rfl) (by rw [fin.out]),Below.refl _ _⟩
  by_cases h3 : 155 < p.length
  · have fin:=Lib.hid (show oneS p n=([],1) by rw [oneS,if_pos (.inr (.inr h3))])
    go_enter Tryz.func111,Tryz.ntmps111
    go_wp2_with fail
    go_ret2
    exact ⟨ret2_strI (by rw [fin.out];rfl) (by rw [fin.out]),Below.refl _ _⟩
  have fin:=show oneS p n=if twoS (oneL p n)=(p,n,0) then (oneL p n,0) else ([],3) by rw [oneS,if_neg (by omega)]
  by_cases hp0 : p=[]
  · subst hp0
    rw [show oneL [] n=n from rfl] at fin
    have hT:=fun w => Two_any n (by omega) w
    have herr:=twoS_err n
    have q2:=bs_eq (twoS n).2.1 n
    have q1:=bs_toList (twoS n).1
    have e2 : (bs []).toList=[]:=bs_toList []
    generalize hq : twoS n=q at *
    obtain ⟨a,b,c⟩:=q
    simp only at hT herr q1 q2 fin
    clear hq
    have HT:=Lib.hid hT
    clear hT
    rcases herr with hc | hc | hc
    · subst hc
      by_cases ha : a=[]
      · by_cases hb : b=n
        · have F:=Lib.hid (fin.trans (if_pos (by rw [ha,hb])))
          have u1 : (bs a).toList=[]:=q1.trans ha
          rw [decide_eq_true hb] at q2
          clear fin
          go_enter Tryz.func111,Tryz.ntmps111
          go_wp2_with fail
          refine (HT.out _).mono ?_
          rintro e w' ⟨rfl,hb⟩
          go_wp2_with fail
          go_ret2
          exact ⟨ret2_strI (by rw [F.out]) (by rw [F.out]),hb⟩
        · have F:=Lib.hid (fin.trans (if_neg (fun h => hb (congrArg (fun x => x.2.1) h))))
          have u1 : (bs a).toList=[]:=q1.trans ha
          rw [decide_eq_false hb] at q2
          clear fin
          go_enter Tryz.func111,Tryz.ntmps111
          go_wp2_with fail
          refine (HT.out _).mono ?_
          rintro e w' ⟨rfl,hb⟩
          go_wp2_with fail
          go_ret2
          exact ⟨ret2_strI (by rw [F.out];rfl) (by rw [F.out]),hb⟩
      · have F:=Lib.hid (fin.trans (if_neg (fun h => ha (congrArg (fun x => x.1) h))))
        have u1 : ¬ (bs a).toList=[]:=fun e => ha (q1.symm.trans e)
        have u2 : (bs a).toList.isEmpty=false:=by rw [q1];cases a <;> simp at ha ⊢
        clear fin
        go_enter Tryz.func111,Tryz.ntmps111
        go_wp2_with fail
        refine (HT.out _).mono ?_
        rintro e w' ⟨rfl,hb⟩
        go_wp2_with fail
        go_ret2
        exact ⟨ret2_strI (by rw [F.out];rfl) (by rw [F.out]),hb⟩
    · subst hc
      have F:=Lib.hid (fin.trans (if_neg (fun h => by have:=congrArg (fun x => x.2.2) h;simp at this)))
      clear fin
      go_enter Tryz.func111,Tryz.ntmps111
      go_wp2_with fail
      refine (HT.out _).mono ?_
      rintro e w' ⟨rfl,hb⟩
      go_wp2_with fail
      go_ret2
      exact ⟨ret2_strI (by rw [F.out];rfl) (by rw [F.out]),hb⟩
    · subst hc
      have F:=Lib.hid (fin.trans (if_neg (fun h => by have:=congrArg (fun x => x.2.2) h;simp at this)))
      clear fin
      go_enter Tryz.func111,Tryz.ntmps111
      go_wp2_with fail
      refine (HT.out _).mono ?_
      rintro e w' ⟨rfl,hb⟩
      go_wp2_with fail
      go_ret2
      exact ⟨ret2_strI (by rw [F.out];rfl) (by rw [F.out]),hb⟩
  · rw [show oneL p n=p ++ 47 :: n from if_neg hp0] at fin
    have hT:=fun w => Two_any (p ++ 47 :: n) (by simp;omega) w
    have herr:=twoS_err (p ++ 47 :: n)
    have q2:=bs_eq (twoS (p ++ 47 :: n)).2.1 n
    have q1:=bs_eq (twoS (p ++ 47 :: n)).1 p
    have e2 : ¬ (bs p).toList=[]:=by rw [bs_toList];exact hp0
    have e3 : (bs p).toList.isEmpty=false:=by rw [bs_toList];cases p <;> simp at hp0 ⊢
    have e4:=Lib.hid (show bs p ++ ByteArray.mk #[47] ++ bs n=bs (p ++ 47 :: n) by rw [show ByteArray.mk #[47]=bs [47] from rfl,bs_append,bs_append,List.append_assoc];rfl)
    generalize hq : twoS (p ++ 47 :: n)=q at *
    obtain ⟨a,b,c⟩:=q
    simp only at hT herr q1 q2 fin
    clear hq
    have HT:=Lib.hid hT
    clear hT
    rcases herr with hc | hc | hc
    · subst hc
      by_cases ha : a=p
      · by_cases hb : b=n
        · have F:=Lib.hid (fin.trans (if_pos (by rw [ha,hb])))
          rw [decide_eq_true ha] at q1
          rw [decide_eq_true hb] at q2
          clear fin
          go_enter Tryz.func111,Tryz.ntmps111
          go_wp2_with fail
          rw [e4.out]
          refine (HT.out _).mono ?_
          rintro e w' ⟨rfl,hb⟩
          go_wp2_with fail
          go_ret2
          exact ⟨ret2_strI (by rw [F.out]) (by rw [F.out]),hb⟩
        · have F:=Lib.hid (fin.trans (if_neg (fun h => hb (congrArg (fun x => x.2.1) h))))
          rw [decide_eq_true ha] at q1
          rw [decide_eq_false hb] at q2
          clear fin
          go_enter Tryz.func111,Tryz.ntmps111
          go_wp2_with fail
          rw [e4.out]
          refine (HT.out _).mono ?_
          rintro e w' ⟨rfl,hb⟩
          go_wp2_with fail
          go_ret2
          exact ⟨ret2_strI (by rw [F.out];rfl) (by rw [F.out]),hb⟩
      · have F:=Lib.hid (fin.trans (if_neg (fun h => ha (congrArg (fun x => x.1) h))))
        rw [decide_eq_false ha] at q1
        clear fin
        go_enter Tryz.func111,Tryz.ntmps111
        go_wp2_with fail
        rw [e4.out]
        refine (HT.out _).mono ?_
        rintro e w' ⟨rfl,hb⟩
        go_wp2_with fail
        go_ret2
        exact ⟨ret2_strI (by rw [F.out];rfl) (by rw [F.out]),hb⟩
    · subst hc
      have F:=Lib.hid (fin.trans (if_neg (fun h => by have:=congrArg (fun x => x.2.2) h;simp at this)))
      clear fin
      go_enter Tryz.func111,Tryz.ntmps111
      go_wp2_with fail
      rw [e4.out]
      refine (HT.out _).mono ?_
      rintro e w' ⟨rfl,hb⟩
      go_wp2_with fail
      go_ret2
      exact ⟨ret2_strI (by rw [F.out];rfl) (by rw [F.out]),hb⟩
    · subst hc
      have F:=Lib.hid (fin.trans (if_neg (fun h => by have:=congrArg (fun x => x.2.2) h;simp at this)))
      clear fin
      go_enter Tryz.func111,Tryz.ntmps111
      go_wp2_with fail
      rw [e4.out]
      refine (HT.out _).mono ?_
      rintro e w' ⟨rfl,hb⟩
      go_wp2_with fail
      go_ret2
      exact ⟨ret2_strI (by rw [F.out];rfl) (by rw [F.out]),hb⟩
theorem oneS_of_short {l : List UInt8} (h0 : l≠[]) (hz : (0 : UInt8) ∉ l) (h : l.length≤100) : oneS [] l=(l,0):=by
  have hT : twoS l=([],l,0):=by rw [twoS,if_neg (by rintro (h | h) <;> contradiction),if_pos h]
  have h1 : 0 < l.length:=List.length_pos_iff.2 h0
  rw [oneS,if_neg (by have : ([] : List UInt8).length=0:=rfl;omega),show oneL [] l=l from rfl,hT,if_pos rfl]
theorem cutAt_some {l : List UInt8} {j : Nat} (h : cutAt l=some j) : cutOk l j=true∧j < l.length:=by
  unfold cutAt at h
  have h1:=List.find?_some h
  have h2:=List.mem_of_find?_eq_some h
  exact ⟨h1,by simpa using h2⟩
theorem join_cut {l : List UInt8} {j : Nat} (hj : j < l.length) (h : (l.getD j 0 == 47)=true) : l.take j ++ 47 :: l.drop (j + 1)=l:=by
  have e : l[j]=47:=by
    rw [List.getD_eq_getElem?_getD,List.getElem?_eq_getElem hj] at h
    exact eq_of_beq h
  rw [← e,List.getElem_cons_drop]
  simp
theorem two_one {l p n : List UInt8} (h : twoS l=(p,n,0)) : oneS p n=(l,0)∧p.length≤155∧n.length≤100:=by
  have h':=h
  unfold twoS at h
  split at h
  · simp at h
  · rename_i hno
    split at h
    · rename_i hs
      simp only [Prod.mk.injEq,and_true] at h
      obtain ⟨rfl,rfl⟩:=h
      exact ⟨oneS_of_short (fun e => hno (.inl e)) (fun e => hno (.inr e)) hs,by simp,hs⟩
    · rename_i hs
      split at h
      · rename_i j hj
        simp only [Prod.mk.injEq,and_true] at h
        obtain ⟨rfl,rfl⟩:=h
        obtain ⟨hok,hlt⟩:=cutAt_some hj
        unfold cutOk at hok
        simp only [Bool.and_eq_true,decide_eq_true_eq] at hok
        have hjoin:=join_cut hlt hok.1.1.1.1
        have l1 : (l.take j).length=j:=by rw [List.length_take];omega
        have l2 : (l.drop (j + 1)).length=l.length - (j + 1):=List.length_drop
        have hne : l.take j≠[]:=fun e => by rw [e] at l1;simp at l1;omega
        refine ⟨?_,by omega,by omega⟩
        rw [oneS,if_neg (by omega),show oneL (l.take j) (l.drop (j + 1))=l by rw [oneL,if_neg hne,hjoin],h',if_pos rfl]
      · simp at h
theorem two_no {l : List UInt8} (h : (twoS l).2.2≠0) : (twoS l).1=[]∧(twoS l).2.1=[]:=by
  unfold twoS at h ⊢
  split
  · simp
  · rename_i h1
    rw [if_neg h1] at h
    split
    · rename_i h2
      rw [if_pos h2] at h
      simp at h
    · rename_i h2
      rw [if_neg h2] at h
      split
      · rename_i j hj
        rw [hj] at h
        simp at h
      · simp
end Go.Proofs.YtphmhmdcaafmdaaGreatDoor
