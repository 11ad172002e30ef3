import Derived.Test.YtphmhmdcaafmdaaGreatDoorPathW
import Derived.BigQuiet
import Derived.Deep.QuietTactic
import Derived.Lib.Replace
import Derived.Lib.ReplaceLaws
import Derived.Lib.SplitLaws
namespace Go.Proofs.YtphmhmdcaafmdaaGreatDoor
set_option linter.all false
section
open Go.RowKit
theorem ret_si {a b : ByteArray} {i j : Int} (h : a=b) (h2 : i=j) : Ending.returned (.tuple #[.string a,.int .i64 i])=.returned (.tuple #[.string b,.int .i64 j]):=by rw [h,h2]
def fmost (W : Nat) (whole : Bool) : Nat:=if whole then W else W - 1
set_option maxHeartbeats 400000 in
theorem FWrite_ok (l : List UInt8) (W : Nat) (whole : Bool) (h1 : 1≤W) (h2 : W≤512) (h3 : l.length≤fmost W whole) (h4 : (0 : UInt8) ∉ l) (w : World) :
    Calls Tryz.prog 99 #[.string (bs l),.int .i64 W,.bool whole] w fun e w' => e=.returned (.tuple #[.string (bs (l ++ List.replicate (W - l.length) 0)),.int .i64 0])∧Below w.heap.size w w':=by
  have hz:=bs_size l
  have hix:=Lib.hid (indexByte_not h4)
  have hle : l.length≤W:=by unfold fmost at h3;split at h3 <;> omega
  obtain ⟨n,hn⟩ : ∃ n,n=W - l.length:=⟨_,rfl⟩
  have hR:=Lib.hid (fun w h => Repeat_byte 0 n w h)
  have hap:=Lib.hid (bs_append l (List.replicate n 0))
  have hz2:=bs_rep_size 0 n
  have e1 : ((n : Nat) : Int)=(W : Int) - l.length:=by omega
  rw [e1] at hR
  rw [← hn]
  have hn2 : n≤512:=by omega
  have hn3 : n + l.length≤512:=by omega
  clear e1 h4 hn
  cases whole
  all_goals
    have d1 : decide ((W : Int) < 1)=false:=decide_eq_false (by omega)
    have d2 : decide (512 < (W : Int))=false:=decide_eq_false (by omega)
    have h3' : l.length≤W:=hle
    unfold fmost at h3
    simp only [Bool.false_eq_true,if_false,if_true] at h3
    go_enter Tryz.func99,Tryz.ntmps99
    go_wp2_with fail
    refine (IndexByte_nul l _).mono ?_
    rintro e w' ⟨rfl,rfl⟩
    rw [hix.out]
    go_wp2_with fail
    refine (hR.out _ (by omega)).mono ?_
    rintro e w1 ⟨rfl,hb⟩
    go_wp2_with fail
    go_ret2
    exact ⟨ret_si hap.out rfl,hb⟩
set_option maxHeartbeats 400000 in
theorem FRead_full (l : List UInt8) (whole : Bool) (h1 : 1≤l.length) (h2 : l.length≤512) (h4 : (0 : UInt8) ∉ l) (w : World) :
    Calls Tryz.prog 202 #[.string (bs l),.bool whole] w fun e w' => e=.returned (.tuple #[.string (bs (if whole then l else [])),.int .i64 (if whole then 0 else 3)])∧Below w.heap.size w w':=by
  have hz:=bs_size l
  have hix:=Lib.hid (indexByte_not h4)
  have d1 : decide ((l.length : Int) < 1)=false:=decide_eq_false (by omega)
  have d2 : decide (512 < (l.length : Int))=false:=decide_eq_false (by omega)
  have hT:=Lib.hid (Trim_nul [] · (by simp))
  rw [show Lib.trimB [] (0 : UInt8)=[] from rfl] at hT
  have t0 : (bs []).toList=[]:=bs_toList []
  clear h4
  cases whole
  · go_enter Tryz.func202,Tryz.ntmps202
    go_wp2_with fail
    refine (IndexByte_nul l _).mono ?_
    rintro e w' ⟨rfl,rfl⟩
    rw [hix.out]
    go_wp2_with fail
    go_ret2
    exact ⟨ret_si rfl rfl,Below.refl _ _⟩
  · go_enter Tryz.func202,Tryz.ntmps202
    go_wp2_with fail
    refine (IndexByte_nul l _).mono ?_
    rintro e w' ⟨rfl,rfl⟩
    rw [hix.out]
    go_wp2_with fail
    refine (hT.out _).mono ?_
    rintro e w' ⟨rfl,hb⟩
    go_wp2_with fail
    go_ret2
    exact ⟨ret_si rfl rfl,hb⟩
set_option maxHeartbeats 400000 in
theorem FRead_part (a r : List UInt8) (whole : Bool) (h2 : (a ++ 0 :: r).length≤512) (h4 : (0 : UInt8) ∉ a) (w : World) :
    Calls Tryz.prog 202 #[.string (bs (a ++ 0 :: r)),.bool whole] w fun e w' =>
      e=.returned (.tuple #[.string (bs (if r.all (· == 0) then a else [])),.int .i64 (if r.all (· == 0) then 0 else 3)])∧Below w.heap.size w w':=by
  have hz:=bs_size (a ++ 0 :: r)
  have hlen : (a ++ 0 :: r).length=a.length + r.length + 1:=by simp;omega
  have hix:=Lib.hid (show Lib.indexByte (a ++ 0 :: r) 0=a.length from indexByte_at h4)
  have hI:=Lib.hid (IndexByte_nul (a ++ 0 :: r))
  have x1 : (bs (a ++ 0 :: r)).extract 0 a.length=bs a:=by rw [bs_extract];congr 1;simp
  have x2 : (bs (a ++ 0 :: r)).extract a.length (a.length + r.length + 1)=bs (0 :: r):=by
    rw [bs_extract];congr 1;rw [List.drop_left,List.take_of_length_le (by simp;omega)]
  rw [hlen] at hz h2
  have hT:=Lib.hid (Trim_nul (0 :: r) · (by simp;omega))
  have q1 : ¬ (bs (0 :: r)).toList=[]:=by rw [bs_toList];simp
  have q2 : (bs (0 :: r)).toList.isEmpty=false:=by rw [bs_toList];rfl
  have d1 : decide ((a.length : Int) + r.length + 1 < 1)=false:=decide_eq_false (by omega)
  have d2 : decide (512 < (a.length : Int) + r.length + 1)=false:=decide_eq_false (by omega)
  generalize bs (a ++ 0 :: r)=s at *
  by_cases hr : r.all (· == 0)=true
  · have t3 : (bs (Lib.trimB (0 :: r) 0)).toList=[]:=by
      rw [bs_toList,trimB_nil]
      intro b hb
      rcases List.mem_cons.1 hb with rfl | hb
      · rfl
      · exact eq_of_beq (List.all_eq_true.1 hr b hb)
    rw [if_pos hr,if_pos hr]
    go_enter Tryz.func202,Tryz.ntmps202
    go_wp2_with fail
    refine (hI.out _).mono ?_
    rintro e w' ⟨rfl,rfl⟩
    rw [hix.out]
    go_wp2_with fail
    go_quiet (fail)
    go_wp2_with fail
    refine (hT.out _).mono ?_
    rintro e w1 ⟨rfl,hb⟩
    go_wp2_with fail
    go_ret2
    exact ⟨ret_si rfl rfl,(below_drewN (Below.refl _ _) _).trans hb⟩
  · have t3 : ¬ (bs (Lib.trimB (0 :: r) 0)).toList=[]:=by
      rw [bs_toList,trimB_nil]
      intro h
      exact hr (List.all_eq_true.2 fun b hb => beq_iff_eq.2 (h b (by simp [hb])))
    have t4 : (bs (Lib.trimB (0 :: r) 0)).toList.isEmpty=false:=by simpa using t3
    rw [if_neg hr,if_neg hr]
    go_enter Tryz.func202,Tryz.ntmps202
    go_wp2_with fail
    refine (hI.out _).mono ?_
    rintro e w' ⟨rfl,rfl⟩
    rw [hix.out]
    go_wp2_with fail
    go_quiet (fail)
    go_wp2_with fail
    refine (hT.out _).mono ?_
    rintro e w1 ⟨rfl,hb⟩
    go_wp2_with fail
    go_ret2
    exact ⟨ret_si rfl rfl,(below_drewN (Below.refl _ _) _).trans hb⟩
end
section
open Go.RowKit
def un0 (b : UInt8) : UInt8:=if b=0 then 48 else b
def cleanS (l : List UInt8) (m : Nat) : List UInt8:=(l.map un0).take m
theorem map_un0 {l : List UInt8} (h : (0 : UInt8) ∉ l) : l.map un0=l:=by
  conv => rhs;rw [← List.map_id l]
  apply List.map_congr_left
  intro x hx
  unfold un0
  rw [if_neg (fun e => h (by rw [← e];exact hx))];rfl
theorem cleanS_no (l : List UInt8) (m : Nat) : (0 : UInt8) ∉ cleanS l m:=by
  intro h
  obtain ⟨x,_,hx⟩:=List.mem_map.1 (List.mem_of_mem_take h)
  unfold un0 at hx
  split at hx
  · exact absurd hx (by decide)
  · contradiction
theorem cleanS_length (l : List UInt8) (m : Nat) : (cleanS l m).length≤m:=List.length_take_le _ _
theorem replace_eq : ∀ (n : Nat) (l : List UInt8),l.length≤n→Lib.replaceK [0] [48] (l.count 0) l=l.map un0:=by
  intro n
  induction n with
  | zero =>
    intro l h
    obtain rfl : l=[]:=List.eq_nil_of_length_eq_zero (by omega)
    rfl
  | succ n ih =>
    intro l h
    by_cases hm : (0 : UInt8)∈l
    · obtain ⟨i,hi⟩:=Int.eq_ofNat_of_zero_le (indexByte_mem hm)
      obtain ⟨a,r,rfl,ha,hn⟩:=index_split hi
      have hx : Lib.index (a ++ 0 :: r) [0]=i:=by rw [Lib.index_one];exact hi
      have hd : (a ++ 0 :: r).drop (i + 1)=r:=by rw [← ha];simp
      have ht : (a ++ 0 :: r).take i=a:=by rw [← ha];simp
      have hc : (a ++ 0 :: r).count 0=r.count 0 + 1:=by rw [List.count_append,List.count_cons_self,List.count_eq_zero_of_not_mem hn];omega
      rw [hc,Lib.replaceK_hit _ _ _ _ i hx,ht,List.length_singleton,hd,ih r (by simp at h;omega),List.map_append,map_un0 hn]
      simp [un0]
    · rw [List.count_eq_zero_of_not_mem hm,map_un0 hm];rfl
theorem replaceAll_eq (l : List UInt8) : Lib.replaceAll l [0] [48]=l.map un0:=by
  unfold Lib.replaceAll Lib.replace Lib.replaceNum
  rw [if_neg (by decide),if_pos (.inl (by decide)),Lib.count_one,replace_eq _ l (Nat.le_refl _)]
theorem ReplaceAll_nul (l : List UInt8) (w : World) (hs : l.length < 4294967281) (hm : ML w) :
    Calls Tryz.prog 63 #[.string (bs l),.string ⟨#[0]⟩,.string ⟨#[48]⟩] w fun e w' => e=.returned (.string (bs (l.map un0)))∧Below w.heap.size w w':=by
  obtain ⟨m,hm⟩:=hm
  have hc:=Lib.countB_le ⟨#[0]⟩ (by decide) _ (bs l) (Nat.le_refl _)
  rw [bs_size] at hc
  refine (Tryz.strings_ReplaceAll (bs l) ⟨#[0]⟩ ⟨#[48]⟩ m w (by rw [bs_size];exact hs) hm (by decide) ?_).mono fun e w' ⟨h1,h2⟩ => ⟨?_,h2⟩
  · rw [bs_size,show (ByteArray.mk #[48]).size=1 from rfl];omega
  · rw [h1,bs_data]
    show Ending.returned (.string (bs (Lib.replaceAll l [0] [48])))=_
    rw [replaceAll_eq]
set_option maxHeartbeats 400000 in
theorem clean_any (l : List UInt8) (m : Nat) (w : World) (hs : l.length < 4294967281) (hq : m≤1000000) (hm : ML w) :
    Calls Tryz.prog 28 #[.string (bs l),.int .i64 m] w fun e w' => e=.returned (.string (bs (cleanS l m)))∧Below w.heap.size w w':=by
  have hz:=bs_size (l.map un0)
  rw [List.length_map] at hz
  have hR:=Lib.hid (ReplaceAll_nul l w hs hm)
  have fin : Hid (∀ k : Nat,k=min l.length m→(bs (l.map un0)).extract 0 k=bs (cleanS l m)):=Lib.hid (by
    rintro k rfl
    rw [bs_extract,List.drop_zero,Nat.sub_zero]
    unfold cleanS
    rcases Nat.le_total l.length m with h | h
    · rw [Nat.min_eq_left h,List.take_of_length_le (by simp),List.take_of_length_le (by simpa using h)]
    · rw [Nat.min_eq_right h])
  generalize bs (l.map un0)=s at *
  go_enter Tryz.func28,Tryz.ntmps28
  go_wp2_with fail
  refine (hR.out).mono ?_
  rintro e w1 ⟨rfl,hb⟩
  go_wp2_with fail
  go_ret
  exact ⟨ret_str (fin.out _ (by omega)),hb⟩
end
section
open Go.RowKit
theorem pick_nat (a : Int) (m : Nat) (h : 1≤m) : ∃ k : Nat,pick a m=k∧k < m:=by
  have ⟨p1,p2⟩:=pick_bd a m (by omega)
  exact ⟨(pick a m).toNat,by omega,by omega⟩
end
end Go.Proofs.YtphmhmdcaafmdaaGreatDoor
