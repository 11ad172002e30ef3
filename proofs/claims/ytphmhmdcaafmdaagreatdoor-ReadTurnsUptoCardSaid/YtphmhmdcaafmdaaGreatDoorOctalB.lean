import Derived.Test.YtphmhmdcaafmdaaGreatDoorWords
import Derived.Test.YtphmhmdcaafmdaaGreatDoorShelf
import Derived.Lib.SmallJoins
import Derived.Laws.BytesArg
import Derived.Laws.IdiomStrings
namespace Go.Proofs.YtphmhmdcaafmdaaGreatDoor
set_option linter.all false
section
open Go.RowKit
def mostI (w : Int) : Int:=8 ^ (w.toNat - 1) - 1
theorem ret2_int {a b c d : Int} (h : a=b) (h' : c=d) : Ending.returned (.tuple #[.int .i64 a,.int .i64 c])=.returned (.tuple #[.int .i64 b,.int .i64 d]):=by rw [h,h']
set_option maxRecDepth 100000 in
set_option maxHeartbeats 1000000 in
theorem Most_ok (width : Int) (h1 : 2≤width) (h2 : width≤12) (w : World) :
    Calls Tryz.prog 92 #[.int .i64 width] w fun e w' => e=.returned (.tuple #[.int .i64 (mostI width),.int .i64 0])∧w=w':=by
  have h : width=2∨width=3∨width=4∨width=5∨width=6∨width=7∨width=8∨width=9∨width=10∨width=11∨width=12:=by omega
  rcases h with rfl | rfl | rfl | rfl | rfl | rfl | rfl | rfl | rfl | rfl | rfl
  all_goals
    go_enter Tryz.func92,Tryz.ntmps92
    go_wp2
    go_ret2
    exact ⟨ret2_int (by decide) rfl,rfl⟩
set_option maxRecDepth 100000 in
set_option maxHeartbeats 400000 in
theorem Most_no (width : Int) (h1 : width < 2∨12 < width) (w : World) :
    Calls Tryz.prog 92 #[.int .i64 width] w fun e w' => e=.returned (.tuple #[.int .i64 0,.int .i64 4])∧w=w':=by
  by_cases h : width < 2
  · go_enter Tryz.func92,Tryz.ntmps92
    go_wp2
    go_ret2
    exact ⟨rfl,rfl⟩
  · have h3 : 12 < width:=by omega
    go_enter Tryz.func92,Tryz.ntmps92
    go_wp2
    go_ret2
    exact ⟨rfl,rfl⟩
def low : Nat→Nat→List UInt8
  | 0,_ => []
  | j + 1,n => UInt8.ofNat (48 + n / 8 ^ j % 8) :: low j n
def octS (n w : Nat) : List UInt8:=low (w - 1) n ++ [0]
theorem low_length (j n : Nat) : (low j n).length=j:=by
  induction j with
  | zero => rfl
  | succ j ih => simp [low,ih]
def ofB (b : UInt8) : Int:=(b.toNat : Int)
theorem mostI_nat (W : Nat) : mostI (W : Int)=((8 ^ (W - 1) : Nat) : Int) - 1:=by
  unfold mostI
  simp
theorem pow8_le {W : Nat} (h : W≤12) : 8 ^ (W - 1)≤8589934592:=by
  have : 8 ^ (W - 1)≤8 ^ 11:=Nat.pow_le_pow_right (by omega) (by omega)
  simpa using this
def octCells (W j N : Nat) : List Int:=List.replicate (W - 1 - j) 0 ++ (low j N).map ofB ++ [0]
theorem octCells_length (W j N : Nat) (h : j≤W - 1) (h1 : 1≤W) : (octCells W j N).length=W:=by
  simp [octCells,low_length];omega
theorem octCells_set (W j N : Nat) (h : j < W - 1) : (octCells W j N).set (W - 2 - j) ((48 + N / 8 ^ j % 8 : Nat) : Int)=octCells W (j + 1) N:=by
  unfold octCells
  have e : W - 1 - j=(W - 2 - j) + 1:=by omega
  have e2 : W - 1 - (j + 1)=W - 2 - j:=by omega
  rw [e,e2,List.replicate_succ',List.append_assoc,List.append_assoc,List.set_append_right _ _ (by simp)]
  have e3 : ofB (UInt8.ofNat (48 + N / 8 ^ j % 8))=((48 + N / 8 ^ j % 8 : Nat) : Int):=by
    unfold ofB
    rw [UInt8.toNat_ofNat']
    omega
  rw [low,List.map_cons,e3]
  simp
theorem octCells_all (W N : Nat) : octCells W (W - 1) N=(octS N W).map ofB:=by
  simp [octCells,octS,ofB]
theorem octCells_none (W N : Nat) (h : 1≤W) : octCells W 0 N=List.replicate W 0:=by
  unfold octCells
  simp only [low,List.map_nil,List.append_nil,Nat.sub_zero]
  have e : W=(W - 1) + 1:=by omega
  conv => rhs;rw [e,List.replicate_succ']
set_option maxRecDepth 100000 in
set_option maxHeartbeats 1000000 in
theorem OWrite_ok (N W : Nat) (h1 : 2≤W) (h2 : W≤12) (h3 : N < 8 ^ (W - 1)) (w : World) :
    Calls Tryz.prog 100 #[.int .i64 N,.int .i64 W] w fun e w' => e=.returned (.tuple #[.string ⟨(octS N W).toArray⟩,.int .i64 0])∧Below w.heap.size w w':=by
  have hp:=pow8_le h2
  have hm1 : (N : Int)≤mostI W:=by rw [mostI_nat];omega
  have hm2 : mostI W≤8589934592:=by rw [mostI_nat];omega
  generalize hq : mostI W=q at *
  obtain ⟨i0,hi0,hz0,hz1,hz2⟩:=info_parts (u8_info)
  go_enter Tryz.func100,Tryz.ntmps100
  go_wp2_with fail
  refine (Most_ok W (by omega) (by omega) _).mono ?_
  rintro e w' ⟨rfl,rfl⟩
  rw [hq]
  have HQ:=Lib.hid hq
  clear hq
  go_wp2_with (at_make
               refine wpList_make_full _ rfl _ _ _ rfl w.heap.size 5 i0 _ 1 Tryz.underlying27 hi0 hz0 hz1 .i64 .i64 W W W rfl rfl rfl rfl (by rw [hz2];omega) (by simp only [maxLen];omega) (Nat.le_refl _) ?_
               intro w1 hown1 hg1)
  have hx : (madeCells (Value.int .u8 0).cells (W * 1)).toList=(octCells W 0 N).map (.int .u8):=by
    rw [octCells_none W N (by omega),List.map_replicate,Nat.mul_one]
    exact toList_madeCells_one _ _
  rw [hx] at hown1
  clear hx
  have hb1 : Below w.heap.size w w1:=(Below.refl _ _).grown hg1 (Nat.le_refl _) (fun k hk => by cases hk)
  generalize hG : w.heap.size=G at *
  have HG:=Lib.hid hG
  clear hG
  go_loopw [0,9] (fun n i wr => ∃ j : Nat,j≤W - 1∧i=.int .i64 ((W : Int) - 2 - j)∧n=.int .i64 ((N / 8 ^ j : Nat) : Int)∧wr.ownsRow G 5 1 (.slice (some ⟨G,0,none⟩) W W) W ((octCells W j N).map (.int .u8))∧Below G w wr) (fun _ i _ => (intOf i + 1).toNat)
  case atStart => exact ⟨0,by omega,by simp,by simp,hown1,hb1⟩
  case round =>
    obtain ⟨j,hj,rfl,rfl,hown,hb⟩:=hrel
    by_cases hlt : j < W - 1
    · have e1 : (W : Int) - 2 - j=((W - 2 - j : Nat) : Int):=by omega
      rw [e1]
      have hset:=octCells_set W j N hlt
      have hcl:=octCells_length W j N (by omega) (by omega)
      have hst:=(hown.stored (W - 2 - j) (.int .u8 ((48 + N / 8 ^ j % 8 : Nat) : Int))).1
      rw [← List.map_set,hset] at hst
      have hfz:=hown.frozenAt (W - 2 - j)
      obtain ⟨u,hcell⟩ : ∃ u : Int,wr.cell? ⟨G,W - 2 - j,none⟩=some (.int .u8 u):=by
        rw [hown.cellAt (W - 2 - j) (by omega),List.getElem?_map,List.getElem?_eq_getElem (by omega)]
        exact ⟨_,rfl⟩
      have hdiv : N / 8 ^ (j + 1)=N / 8 ^ j / 8:=by rw [Nat.pow_succ,Nat.div_div_eq_div_mul]
      have hkW : W - 2 - j < W:=by omega
      have hqN : N / 8 ^ j≤N:=Nat.div_le_self _ _
      generalize N / 8 ^ j=q2 at *
      generalize W - 2 - j=k at *
      have HD:=Lib.hid hdiv
      have HE:=Lib.hid e1
      have HS:=Lib.hid hset
      clear hdiv e1 hset hcl
      have HST:=Lib.hid hst
      clear hst
      go_wp2
      go_roundw
      case rel => exact ⟨j + 1,by omega,by have:=HE.out;simp;omega,by rw [HD.out];rfl,by simpa using HST.out,hb.setCell (Nat.le_refl _) _⟩
      case measure => simp [intOf] <;> omega
    · obtain rfl : j=W - 1:=by omega
      rw [octCells_all] at hown
      have hL : (octS N W).length=W:=by simp [octS,low_length];omega
      have hcv:=run_convert_bytes_back (P:=Tryz.prog) wr 27 9 5 ⟨G,0,none⟩ W (octS N W) Tryz.underlying27 Tryz.underlying5 Tryz.underlying9 (fun j' hj' => by
        have:=hown.cells (g:=G) rfl j' (.int .u8 (ofB (octS N W)[j'])) (by rw [List.getElem?_map,List.getElem?_map,List.getElem?_eq_getElem hj'];rfl)
        exact this)
      rw [hL] at hcv
      have e1 : (W : Int) - 2 - ((W - 1 : Nat) : Int)=-1:=by omega
      rw [e1]
      clear e1 hL
      generalize N / 8 ^ (W - 1)=q2 at *
      go_wp2
      go_ret2
      exact ⟨rfl,by rw [HG.out];exact hb⟩
def octDig (c : UInt8) : Bool:=decide (48≤(c.toNat : Int)) && decide ((c.toNat : Int)≤55)
def octVal (l : List UInt8) : Int:=l.foldl (fun n c => 8 * n + ((c.toNat : Int) - 48)) 0
def octRead (l : List UInt8) : Int × Int :=
  if l.length < 2∨12 < l.length then (0,4)
  else if (l.take (l.length - 1)).all octDig && l.getLast? == some 0 then (octVal (l.take (l.length - 1)),0) else (0,3)
theorem octVal_snoc (l : List UInt8) (c : UInt8) : octVal (l ++ [c])=8 * octVal l + ((c.toNat : Int) - 48):=by simp [octVal]
theorem octVal_from (l : List UInt8) (h : l.all octDig=true) : ∀ (m : Nat) (n : Int),0≤n→n < 8 ^ m→0≤l.foldl (fun n c => 8 * n + ((c.toNat : Int) - 48)) n∧l.foldl (fun n c => 8 * n + ((c.toNat : Int) - 48)) n < 8 ^ (m + l.length):=by
  induction l with
  | nil => intro m n h0 h1;exact ⟨h0,h1⟩
  | cons c l ih =>
    intro m n h0 h1
    simp only [List.all_cons,Bool.and_eq_true,octDig,decide_eq_true_eq] at h
    have hp : (8 : Int) ^ (m + 1)=8 ^ m * 8:=Int.pow_succ ..
    have:=ih h.2 (m + 1) (8 * n + ((c.toNat : Int) - 48)) (by omega) (by omega)
    rw [List.length_cons,show m + (l.length + 1)=m + 1 + l.length from by omega]
    exact this
theorem octVal_bd (l : List UInt8) (h : l.all octDig=true) (hl : l.length≤11) : 0≤octVal l∧octVal l < 8589934592:=by
  have h1:=octVal_from l h 0 0 (by omega) (by decide)
  have h2 : (8 : Int) ^ (0 + l.length)≤8 ^ 11:=by
    have:=Nat.pow_le_pow_right (n:=8) (by omega) (show 0 + l.length≤11 by omega)
    exact_mod_cast this
  have h3 : (8 : Int) ^ 11=8589934592:=by decide
  unfold octVal
  omega
theorem take_snocB (s : ByteArray) (k : Nat) (h : k < s.size) : s.data.toList.take (k + 1)=s.data.toList.take k ++ [s[k]]:=by
  rw [List.take_succ_eq_append_getElem (by simpa using h)];rfl
set_option maxRecDepth 100000 in
set_option maxHeartbeats 400000 in
theorem ORead_any (s : ByteArray) (hs : s.size≤4611686018427387904) (w : World) :
    Calls Tryz.prog 148 #[.string s] w fun e w' => e=.returned (.tuple #[.int .i64 (octRead s.data.toList).1,.int .i64 (octRead s.data.toList).2])∧w=w':=by
  have hsz:=Lib.size_eq s
  by_cases hr : s.size < 2∨12 < s.size
  · have fin:=Lib.hid (show octRead s.data.toList=(0,4) by rw [octRead,← hsz,if_pos hr])
    clear hsz
    go_enter Tryz.func148,Tryz.ntmps148
    go_wp2_with fail
    refine (Most_no s.size (by omega) _).mono ?_
    rintro e w' ⟨rfl,rfl⟩
    go_wp2_with fail
    go_ret2
    exact ⟨ret2_int (by rw [fin.out]) (by rw [fin.out]),rfl⟩
  · have fin:=Lib.hid (show octRead s.data.toList=if (s.data.toList.take (s.size - 1)).all octDig && s.data.toList.getLast? == some 0 then (octVal (s.data.toList.take (s.size - 1)),0) else (0,3) by rw [octRead,← hsz,if_neg hr])
    clear hsz
    go_enter Tryz.func148,Tryz.ntmps148
    go_wp2_with fail
    refine (Most_ok s.size (by omega) (by omega) _).mono ?_
    rintro e w' ⟨rfl,rfl⟩
    go_wp2_with fail
    go_loop [6,20] (fun t i => ∃ k : Nat,k≤s.size - 1∧i=.int .i64 k∧t=.int .i64 (octVal (s.data.toList.take k))∧(s.data.toList.take k).all octDig=true) (fun _ i => s.size - 1 - (intOf i).toNat)
    case atStart => exact ⟨0,Nat.zero_le _,rfl,rfl,rfl⟩
    case round =>
      obtain ⟨k,hk,rfl,rfl,hall⟩:=hrel
      obtain ⟨v1,v2⟩:=octVal_bd _ hall (by rw [List.length_take];omega)
      have HA:=Lib.hid hall
      clear hall
      by_cases hlt : k < s.size - 1
      · have hks : k < s.size:=by omega
        have hts:=take_snocB s k hks
        have hlk : k < s.data.toList.length:=by rw [← Lib.size_eq];exact hks
        by_cases hd : octDig s[k]=true
        · have h1 : (s.data.toList.take (k + 1)).all octDig=true:=by rw [hts,List.all_append,HA.out];simp [hd]
          have h2 : octVal (s.data.toList.take (k + 1))=8 * octVal (s.data.toList.take k) + ((s[k].toNat : Int) - 48):=by rw [hts,octVal_snoc]
          simp only [octDig,Bool.and_eq_true,decide_eq_true_eq] at hd
          obtain ⟨d1,d2⟩:=hd
          have H1:=Lib.hid h1
          have H2:=Lib.hid h2
          clear h1 h2 hts
          go_wp2
          go_round
          case rel => exact ⟨k + 1,by omega,by go_num,by rw [H2.out],H1.out⟩
          case measure => simp [intOf];omega
        · have h3 : (s.data.toList.take (s.size - 1)).all octDig=false:=by
            rw [Bool.eq_false_iff]
            intro h4
            refine hd (List.all_eq_true.1 h4 _ ?_)
            have : s[k]∈s.data.toList.take (k + 1):=by rw [hts];simp
            have h5 : s.data.toList.take (k + 1)=(s.data.toList.take (s.size - 1)).take (k + 1):=by rw [List.take_take];congr 1;omega
            rw [h5] at this
            exact List.mem_of_mem_take this
          have H3:=Lib.hid h3
          simp only [octDig,Bool.and_eq_true,decide_eq_true_eq] at hd
          clear h3 hts
          by_cases d1 : (s[k].toNat : Int) < 48
          · clear hd
            go_wp2
            go_ret2
            exact ⟨ret2_int (by rw [fin.out,H3.out];rfl) (by rw [fin.out,H3.out];rfl),rfl⟩
          · have d2 : 55 < (s[k].toNat : Int):=by omega
            clear hd
            go_wp2
            go_ret2
            exact ⟨ret2_int (by rw [fin.out,H3.out];rfl) (by rw [fin.out,H3.out];rfl),rfl⟩
      · obtain rfl : k=s.size - 1:=by omega
        have hlast : s.data.toList.getLast?=some s[s.size - 1]:=by
          rw [List.getLast?_eq_getElem?,← Lib.size_eq,List.getElem?_eq_getElem (by rw [← Lib.size_eq];omega)]
          rfl
        have hsz2 : 0 < s.size:=by omega
        by_cases hz : s[s.size - 1]=0
        · have H1:=Lib.hid (show octRead s.data.toList=(octVal (s.data.toList.take (s.size - 1)),0) by rw [fin.out,HA.out,hlast,hz];rfl)
          have z1 : ((s[s.size - 1].toNat : Int) != 0)=false:=by rw [hz];rfl
          have z2 : ((s[s.size - 1].toNat : Int) == 0)=true:=by rw [hz];rfl
          clear hlast hz
          go_wp2
          go_ret2
          exact ⟨ret2_int (by rw [H1.out]) (by rw [H1.out]),rfl⟩
        · have H1:=Lib.hid (show octRead s.data.toList=(0,3) by rw [fin.out,HA.out,hlast,if_neg];simp [hz])
          have hz' : (s[s.size - 1].toNat : Int)≠0:=by
            intro h
            apply hz
            apply UInt8.toNat.inj
            show s[s.size - 1].toNat=0
            omega
          have z1 : ((s[s.size - 1].toNat : Int) != 0)=true:=by simpa using hz'
          have z2 : ((s[s.size - 1].toNat : Int) == 0)=false:=by simpa using hz'
          clear hlast hz
          go_wp2
          go_ret2
          exact ⟨ret2_int (by rw [H1.out]) (by rw [H1.out]),rfl⟩
end
section
open Go.RowKit
end
section
open Go.RowKit
def Bears (C : Array Value) (l : List UInt8) : Prop:=∀ j (hj : j < l.length),C[j]?=some (.int .u8 (l[j].toNat : Int))
theorem Bears.set_ {C : Array Value} {l : List UInt8} (h : Bears C l) (k : Nat) (c : UInt8) : Bears (C.setIfInBounds k (.int .u8 c.toNat)) (l.set k c):=by
  intro j hj
  rw [List.length_set] at hj
  have h1:=h j hj
  rw [Array.getElem?_setIfInBounds,List.getElem_set]
  by_cases e : k=j
  · subst e
    have : k < C.size:=(Array.getElem?_eq_some_iff.1 h1).1
    simp [this]
  · simp [e,h1]
theorem conv_sb (l : List UInt8) (w : World) (hl : l.length≤4611686018427387904) : ∃ (c n : Nat) (C : Array Value),l.length≤c∧c≤maxLen∧C.size=n∧l.length≤n∧Bears C l ∧
    (convert 9 27 (.string (bs l))).run Tryz.prog w=.ok (.slice (some ⟨w.heap.size,0,none⟩) l.length c) (w.drew.alloc (.cells C 5 (n,n + 1))):=by
  have h:=run_bytes_of_string (P:=Tryz.prog) w 9 27 5 (bs l) Tryz.underlying9 Tryz.underlying27 Tryz.underlying5
  rw [bs_size] at h
  refine ⟨_,_,bytesRow (bs l) (grownCap w l.length 0 5),grownCap_ge _ _ _ _,grownCap_le_maxLen _ _ _ _ (by unfold maxLen;omega),rfl,?_,fun j hj => ?_,h⟩
  · unfold bytesRow
    have : (bs l).data.size=l.length:=bs_size l
    simp [this]
  · have hj' : j < (bs l).data.size:=by have : (bs l).data.size=l.length:=bs_size l;omega
    rw [bytesRow_at (bs l) _ j hj']
    rfl
theorem ofB_u8 (l : List UInt8) : ∀ n∈l.map ofB,U8 n:=by
  intro n hn
  obtain ⟨b,_,rfl⟩:=List.mem_map.1 hn
  have:=b.toNat_lt
  exact ⟨by unfold ofB;omega,by unfold ofB;omega⟩
theorem of_u8 : ∀ l : List Int,(∀ n∈l,U8 n)→∃ b : List UInt8,l=b.map ofB
  | [],_ => ⟨[],rfl⟩
  | n :: l,h => by
    obtain ⟨b,rfl⟩:=of_u8 l (fun x hx => h x (by simp [hx]))
    have hn:=h n (by simp)
    refine ⟨UInt8.ofNat n.toNat :: b,?_⟩
    have : ofB (UInt8.ofNat n.toNat)=n:=by
      unfold ofB;rw [UInt8.toNat_ofNat'];have:=hn.1;have:=hn.2;omega
    rw [List.map_cons,this]
def BytesAt (w : World) (B : Nat) (v : Value) (l : List UInt8) : Prop:=IntsAt .u8 w B v (l.map ofB)
theorem conv_str {w : World} {B : Nat} {v : Value} {l : List UInt8} (h : BytesAt w B v l) :
    (convert 27 9 v).run Tryz.prog w=.ok (.string (bs l)) w:=by
  obtain ⟨A,c,rfl,h1,h2,h3,hr⟩:=h
  rw [List.length_map]
  rcases A with _ | ad
  · have hl : l=[]:=by
      cases l with
      | nil => rfl
      | cons b l =>
        obtain ⟨ad,e,_⟩:=hr.2 (by simp)
        cases e
    subst hl
    exact run_convert_bytes_nil (P:=Tryz.prog) w 27 5 Tryz.underlying27 Tryz.underlying5 0 c 9 Tryz.underlying9
  · refine run_convert_bytes_back (P:=Tryz.prog) w 27 9 5 ad c l Tryz.underlying27 Tryz.underlying5 Tryz.underlying9 (fun j hj => ?_)
    obtain ⟨ad',e,_,hc⟩:=hr.2 (by rw [List.length_map];omega)
    cases e
    exact hc j _ (by rw [List.getElem?_map,List.getElem?_map,List.getElem?_eq_getElem hj];rfl)
theorem conv_sb_at (l : List UInt8) (w : World) (hl : l.length≤4611686018427387904) : ∃ (v : Value) (W : World),
    (convert 9 27 (.string (bs l))).run Tryz.prog w=.ok v W∧BytesAt W W.heap.size v l∧Below w.heap.size w W:=by
  obtain ⟨c,n,C,h1,h2,h3,h4,h5,h6⟩:=conv_sb l w hl
  refine ⟨_,_,h6,⟨_,c,by rw [List.length_map],by rw [List.length_map];exact h1,h2,(fun h => by cases h),?_⟩,((Below.refl _ w).drew).alloc (Nat.le_refl _) _⟩
  rw [List.length_map]
  refine ⟨by simp,fun _ => ⟨_,rfl,by simp,fun j u hu => ?_⟩⟩
  have hj : j < l.length:=by have:=(List.getElem?_eq_some_iff.1 hu).1;simpa using this
  have e : (⟨w.heap.size,0,none⟩ : Addr).add j=⟨w.heap.size,j,none⟩:=by unfold Addr.add;split <;> simp_all
  have hc:=cell_of_row (w.drew.alloc (.cells C 5 (n,n + 1))) w.heap.size j C 5 (n,n + 1) (heap_alloc_new w.drew _)
  rw [e,hc,h5 j hj]
  rw [List.getElem?_map,List.getElem?_map,List.getElem?_eq_getElem hj] at hu
  exact hu
end
end Go.Proofs.YtphmhmdcaafmdaaGreatDoor
