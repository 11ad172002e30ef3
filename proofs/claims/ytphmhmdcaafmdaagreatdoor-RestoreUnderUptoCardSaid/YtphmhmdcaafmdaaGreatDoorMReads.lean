import Derived.Test.YtphmhmdcaafmdaaGreatDoorMembers
import Derived.Test.YtphmhmdcaafmdaaGreatDoorHeadQ
import Derived.Test.YtphmhmdcaafmdaaGreatDoorMapsT
import Derived.Test.YtphmhmdcaafmdaaGreatDoorNodesG
import Derived.Deep.QuietTactic
import Derived.Test.YtphmhmdcaafmdaaGreatDoorEntryL
namespace Go.Proofs.YtphmhmdcaafmdaaGreatDoor
set_option linter.all false
section
open Go.RowKit
def Torn (l : List UInt8) : Prop:=l.length < 512∨∃ (H : PHead) (r : List UInt8),HeadOk H∧H.size≤5000∧l=headW H ++ r∧r.length < kN H.size * 512
theorem take_two {α : Type} (a b : List α) (k : Nat) : (a ++ b).take k=if k < a.length then a.take k else a ++ b.take (k - a.length):=by
  split
  · exact List.take_append_of_le_length (by omega)
  · rw [List.take_append,List.take_of_length_le (by omega)]
theorem torn_block {H : PHead} (h : HeadOk H) {d : List UInt8} (hd : d.length=H.size) (hs : H.size≤5000) {k : Nat} (hk : k < 512 + (padB d).length) : Torn ((headW H ++ padB d).take k):=by
  rw [take_two,headW_length h]
  split
  · left
    rw [List.length_take]
    omega
  · right
    refine ⟨H,_,h,hs,rfl,?_⟩
    rw [List.length_take,padB_length,hd] at *
    omega
theorem memB_torn {x : EntP} (h : EntOk x) {k : Nat} (hk : k < (memB x).length) :
    Torn ((memB x).take k)∨∃ m,packR x≠[]∧(memB x).take k=headW (paxH (paxT (packR x)).length) ++ (padB (paxT (packR x)) ++ m)∧Torn m∧m.length≤k:=by
  have hp:=packH_ok h
  have hs : (packH x).size≤5000:=by show x.data.length≤5000;have:=h.data.1;omega
  by_cases hR : packR x=[]
  · left
    have e : memB x=headW (packH x) ++ padB x.data:=by unfold memB memR;rw [if_pos hR,List.nil_append]
    rw [e] at hk ⊢
    rw [List.length_append,headW_length hp] at hk
    exact torn_block hp rfl hs hk
  · have e : memB x=(headW (paxH (paxT (packR x)).length) ++ padB (paxT (packR x))) ++ (headW (packH x) ++ padB x.data):=by unfold memB memR;rw [if_neg hR]
    have hs2 : (paxH (paxT (packR x)).length).size≤5000:=by
      show (paxT (packR x)).length≤5000
      have h1:=paxT_len (packR_ok h)
      have h2:=packR_len x
      have h3 : (packR x).length * 703≤7 * 703:=Nat.mul_le_mul_right _ h2
      omega
    have hq : HeadOk (paxH (paxT (packR x)).length):=paxH_ok _ (by
      have h1:=paxT_len (packR_ok h)
      have h2:=packR_len x
      have h3 : (packR x).length * 703≤7 * 703:=Nat.mul_le_mul_right _ h2
      omega)
    rw [e] at hk ⊢
    rw [take_two]
    rw [List.length_append,List.length_append,List.length_append,headW_length hp,headW_length hq] at hk
    rw [List.length_append,headW_length hq]
    split
    · left
      exact torn_block hq rfl hs2 (by omega)
    · right
      refine ⟨(headW (packH x) ++ padB x.data).take (k - (512 + (padB (paxT (packR x))).length)),hR,by rw [List.append_assoc],torn_block hp rfl hs (by omega),?_⟩
      rw [List.length_take]
      omega
theorem memB_whole {x : EntP} : packR x=[]∧memB x=headW (packH x) ++ padB x.data∨packR x≠[]∧memB x=headW (paxH (paxT (packR x)).length) ++ (padB (paxT (packR x)) ++ (headW (packH x) ++ padB x.data)):=by
  by_cases hR : packR x=[]
  · left
    exact ⟨hR,by unfold memB memR;rw [if_pos hR,List.nil_append]⟩
  · right
    exact ⟨hR,by unfold memB memR;rw [if_neg hR,List.append_assoc]⟩
end
section
open Go.RowKit
def noH : PHead:=⟨[],[],[],0,0,0,0,0,0,[],[]⟩
theorem headZ_blk (w : World) : Blk (w.alloc (.cells headNone 107)) w.heap.size 107 headNone∧Below w.heap.size w (w.alloc (.cells headNone 107)):=⟨Blk.new _ _ _,(Below.refl _ _).alloc (Nat.le_refl _) _⟩
set_option maxRecDepth 100000 in
set_option maxHeartbeats 2000000 in
theorem Block_low (v : Value) (l : List UInt8) (w : World) (hl : BytesAt w w.heap.size v l) (hn : l.length < 512) :
    Calls Tryz.prog 52 #[v] w fun e w' => e=.returned (.tuple #[headV noH,.slice none 0 0,.slice none 0 0,.int .i64 7])∧Below w.heap.size w w':=by
  obtain ⟨A,c,rfl,-⟩:=hl
  rw [List.length_map]
  have hlt : (l.length : Int) < 512:=by omega
  have hS:=Lib.hid (headZ_blk w)
  have hk:=hS.out.1
  have c0 : (w.alloc (.cells headNone 107)).cell? ⟨w.heap.size,0,none⟩=some (.string ⟨#[]⟩):=hk.cell 0
  have c1 : (w.alloc (.cells headNone 107)).cell? ⟨w.heap.size,1,none⟩=some (.string ⟨#[]⟩):=hk.cell 1
  have c2 : (w.alloc (.cells headNone 107)).cell? ⟨w.heap.size,2,none⟩=some (.string ⟨#[]⟩):=hk.cell 2
  have c3 : (w.alloc (.cells headNone 107)).cell? ⟨w.heap.size,3,none⟩=some (.int .i64 0):=hk.cell 3
  have c4 : (w.alloc (.cells headNone 107)).cell? ⟨w.heap.size,4,none⟩=some (.int .i64 0):=hk.cell 4
  have c5 : (w.alloc (.cells headNone 107)).cell? ⟨w.heap.size,5,none⟩=some (.int .i64 0):=hk.cell 5
  have c6 : (w.alloc (.cells headNone 107)).cell? ⟨w.heap.size,6,none⟩=some (.int .i64 0):=hk.cell 6
  have c7 : (w.alloc (.cells headNone 107)).cell? ⟨w.heap.size,7,none⟩=some (.int .i64 0):=hk.cell 7
  have c8 : (w.alloc (.cells headNone 107)).cell? ⟨w.heap.size,8,none⟩=some (.int .u8 0):=hk.cell 8
  have c9 : (w.alloc (.cells headNone 107)).cell? ⟨w.heap.size,9,none⟩=some (.string ⟨#[]⟩):=hk.cell 9
  have c10 : (w.alloc (.cells headNone 107)).cell? ⟨w.heap.size,10,none⟩=some (.string ⟨#[]⟩):=hk.cell 10
  clear hk
  unfold headNone at *
  go_enter Tryz.func52,Tryz.ntmps52
  go_wp2_with fail
  exact bodyPost_ret (v:=.tuple #[headV noH,.slice none 0 0,.slice none 0 0,.int .i64 7]) (by simp [results,Tryz.results52,go_sem,c0,c1,c2,c3,c4,c5,c6,c7,c8,c9,c10,noH,headV,headCells];try rfl) rfl ⟨rfl,hS.out.2⟩
set_option maxRecDepth 100000 in
set_option maxHeartbeats 4000000 in
theorem Block_short (v : Value) (H : PHead) (hH : HeadOk H) (r : List UInt8) (w : World) (hv : BytesAt w w.heap.size v (headW H ++ r)) (hr : r.length < kN H.size * 512) (hsz : H.size≤5000000) :
    Calls Tryz.prog 52 #[v] w fun e w' => e=.returned (.tuple #[headV H,.slice none 0 0,.slice none 0 0,.int .i64 7])∧Below w.heap.size w w':=by
  have HCU:=Lib.hid (fun W v' B (hl : BytesAt W B v' r) => PCut_short v' r H.size B W hl (by omega) hr)
  clear hr
  have hlen : (headW H).length=512:=headW_length hH
  have HRD:=Lib.hid (fun W => HRead_good H hH W)
  obtain ⟨A,c,e,hlc,hcm,h0,hr⟩:=id hv
  rw [List.length_map] at e hlc
  rcases A with _ | ad
  · exfalso
    have:=h0 rfl
    rw [List.length_append] at hlc
    omega
  subst e
  have hf:=hv.front 512 (by rw [List.length_append];omega)
  have ht : (headW H ++ r).take 512=headW H:=by rw [← hlen];exact List.take_left
  have hp:=hv.part 512 (headW H ++ r).length (by rw [List.length_append];omega) (Nat.le_refl _)
  have hd' : ((headW H ++ r).drop 512).take ((headW H ++ r).length - 512)=r:=by
    have : (headW H ++ r).drop 512=r:=by rw [← hlen];exact List.drop_left
    rw [this]
    exact List.take_of_length_le (by rw [List.length_append];omega)
  rw [ht] at hf
  rw [hd'] at hp
  have hL : (headW H ++ r).length=r.length + 512:=by rw [List.length_append];omega
  rw [hL] at hlc hp ⊢
  unfold maxLen at hcm
  clear hr hv h0 hd' ht hL
  have hS:=headZ_blk w
  have HS:=Lib.hid hS
  have hcv:=conv_str (hf.below hS.2)
  have HP:=Lib.hid hp
  clear hS hf hp
  have d1 : ¬ ((r.length + 512 : Nat) : Int) < 512:=by omega
  have d2 : decide (((r.length + 512 : Nat) : Int) < 512)=false:=decide_eq_false d1
  have i1 : (512 : Int)≤((r.length + 512 : Nat) : Int):=by omega
  have i2 : (512 : Int)≤(c : Int):=by omega
  have i3 : ((r.length + 512 : Nat) : Int)≤(c : Int):=by omega
  have i4 : 512≤c:=by omega
  have i5 : 512≤r.length + 512:=by omega
  generalize bs (headW H)=bh at *
  obtain ⟨nm,pr,lk,md,ui,gi,sz,tm,ty,us,gr⟩:=H
  unfold headV headCells at HRD
  unfold headV headCells
  simp only at HRD hsz ⊢
  generalize r.length + 512=L at *
  go_enter Tryz.func52,Tryz.ntmps52
  unfold headNone at *
  go_wp2_with fail
  refine (HRD.out _).mono ?_
  rintro e w1 ⟨rfl,b1⟩
  have HB1:=Lib.hid (HS.out.2.trans (b1.mono HS.out.2.size))
  have HZ1:=Lib.hid (HS.out.1.below b1 HS.out.1.lt)
  clear b1 hcv HRD
  obtain ⟨W1,hW1⟩ : ∃ W1,W1=w1.alloc (.cells #[(.string (bs nm)),(.string (bs pr)),(.string (bs lk)),(.int .i64 md),(.int .i64 ui),(.int .i64 gi),(.int .i64 sz),(.int .i64 tm),(.int .u8 ty.toNat),(.string (bs us)),(.string (bs gr))] 107):=⟨_,rfl⟩
  obtain ⟨g6,hg6⟩ : ∃ g6,g6=w1.heap.size:=⟨_,rfl⟩
  have hk1 : Blk W1 g6 107 #[(.string (bs nm)),(.string (bs pr)),(.string (bs lk)),(.int .i64 md),(.int .i64 ui),(.int .i64 gi),(.int .i64 sz),(.int .i64 tm),(.int .u8 ty.toNat),(.string (bs us)),(.string (bs gr))]:=by rw [hW1,hg6];exact Blk.new _ _ _
  have hb1 : Below w1.heap.size w1 W1:=by rw [hW1];exact (Below.refl _ _).alloc (Nat.le_refl _) _
  have HB2:=Lib.hid (HB1.out.trans (hb1.mono HB1.out.size))
  have HZ2:=Lib.hid (HZ1.out.below hb1 HZ1.out.lt)
  have HK1:=Lib.hid hk1
  clear hb1 hk1 HB1 HZ1
  go_upto_region 4 with fail
  rw [← hW1,← hg6]
  clear hW1 hg6
  have HC6 : Hid (∀ W,Below W1.heap.size W1 W→W.cell? ⟨g6,6,none⟩=some (.int .i64 sz)):=Lib.hid (fun W hb => (HK1.out.below hb HK1.out.lt).cell 6)
  have c6 : W1.cell? ⟨g6,6,none⟩=some (.int .i64 sz):=HK1.out.cell 6
  have HW2 : Hid (∀ W,Below W1.heap.size W1 W→Below w.heap.size w W):=Lib.hid (fun W hb => HB2.out.trans (hb.mono HB2.out.size))
  by_cases hc5 : c=512
  · subst hc5
    obtain rfl : L=512:=by omega
    rw [if_pos rfl] at HP
    have HQ : Hid (∀ W,Below w.heap.size w W→BytesAt W W.heap.size (.slice (some ad) 0 0) r):=Lib.hid (fun W hb => (HP.out.below hb).more hb.size)
    go_upto_region 6 with fail
    refine wp_region_G (S:=fun W => Below W1.heap.size W1 W) (by kernel_rfl) (Below.refl _ _).drew ?_
    refine wpG_take (i:=0) (v:=?vsb1) rfl (by kernel_rfl) (by kernel_rfl) (by kernel_rfl) (fun _ _ _ h => h) (Or.inl ⟨by rfl,?hysb1⟩) ?restsb1
    case hysb1 => (intro W hSw;left;(try dsimp only at hSw);go_simp;try with_reducible rfl)
    simp only [Act.put,List.setIfInBounds_toArray,List.set_cons_zero,List.set_cons_succ,List.getElem_toArray,List.getElem_cons_zero,List.getElem_cons_succ]
    refine wpG_take (i:=1) (v:=?vsb2) rfl (by kernel_rfl) (by kernel_rfl) (by kernel_rfl) (fun _ _ _ h => h) (Or.inl ⟨by rfl,?hysb2⟩) ?restsb2
    case hysb2 => (intro W hSw;left;(try dsimp only at hSw);go_simp;try with_reducible rfl)
    simp only [Act.put,List.setIfInBounds_toArray,List.set_cons_zero,List.set_cons_succ,List.getElem_toArray,List.getElem_cons_zero,List.getElem_cons_succ]
    refine wpG_take (i:=2) (v:=?vsb3) rfl (by kernel_rfl) (by kernel_rfl) (by kernel_rfl) (fun _ _ _ h => h) (Or.inl ⟨by rfl,?hysb3⟩) ?restsb3
    case hysb3 => (intro W hSw;left;(try dsimp only at hSw);go_simp;try with_reducible rfl)
    simp only [Act.put,List.setIfInBounds_toArray,List.set_cons_zero,List.set_cons_succ,List.getElem_toArray,List.getElem_cons_zero,List.getElem_cons_succ]
    refine wpG_take (i:=3) (v:=?vsb4) rfl (by kernel_rfl) (by kernel_rfl) (by kernel_rfl) (fun _ _ _ h => h) (Or.inl ⟨by rfl,?hysb4⟩) ?restsb4
    case hysb4 => (intro W hSw;left;(try dsimp only at hSw);have c6:=HC6.out _ hSw;go_simp;try with_reducible rfl)
    simp only [Act.put,List.setIfInBounds_toArray,List.set_cons_zero,List.set_cons_succ,List.getElem_toArray,List.getElem_cons_zero,List.getElem_cons_succ]
    refine wpG_one (i:=4) (by kernel_rfl) rfl (fun Wc hb hS K hK => ?_)
    go_simp
    refine (HCU.out _ _ _ (HQ.out _ (HW2.out _ hS))).mono ?_
    rintro e w9 ⟨rfl,rfl⟩
    have hS9 : Below W1.heap.size W1 Wc:=hS
    refine hK.out _ _ hS9 ?_
    clear hK K hS hb hS9
    try simp only [Act.put,List.setIfInBounds_toArray,List.set_cons_zero,List.set_cons_succ,List.getElem_toArray,List.getElem_cons_zero,List.getElem_cons_succ]
    refine wpG_take (i:=5) (v:=?vsb5) rfl (by kernel_rfl) (by kernel_rfl) (by kernel_rfl) (fun _ _ _ h => h) (Or.inl ⟨by rfl,?hysb5⟩) ?restsb5
    case hysb5 => (intro W hSw;left;(try dsimp only at hSw);go_simp;try with_reducible rfl)
    simp only [Act.put,List.setIfInBounds_toArray,List.set_cons_zero,List.set_cons_succ,List.getElem_toArray,List.getElem_cons_zero,List.getElem_cons_succ]
    refine wpG_take (i:=6) (v:=?vsb6) rfl (by kernel_rfl) (by kernel_rfl) (by kernel_rfl) (fun _ _ _ h => h) (Or.inl ⟨by rfl,?hysb6⟩) ?restsb6
    case hysb6 => (intro W hSw;left;(try dsimp only at hSw);go_simp;try with_reducible rfl)
    simp only [Act.put,List.setIfInBounds_toArray,List.set_cons_zero,List.set_cons_succ,List.getElem_toArray,List.getElem_cons_zero,List.getElem_cons_succ]
    refine wpG_take (i:=7) (v:=?vsb7) rfl (by kernel_rfl) (by kernel_rfl) (by kernel_rfl) (fun _ _ _ h => h) (Or.inl ⟨by rfl,?hysb7⟩) ?restsb7
    case hysb7 => (intro W hSw;left;(try dsimp only at hSw);go_simp;try with_reducible rfl)
    simp only [Act.put,List.setIfInBounds_toArray,List.set_cons_zero,List.set_cons_succ,List.getElem_toArray,List.getElem_cons_zero,List.getElem_cons_succ]
    refine wpG_take (i:=8) (v:=?vsb8) rfl (by kernel_rfl) (by kernel_rfl) (by kernel_rfl) (fun _ _ _ h => h) (Or.inl ⟨by rfl,?hysb8⟩) ?restsb8
    case hysb8 => (intro W hSw;left;(try dsimp only at hSw);go_simp;try with_reducible rfl)
    simp only [Act.put,List.setIfInBounds_toArray,List.set_cons_zero,List.set_cons_succ,List.getElem_toArray,List.getElem_cons_zero,List.getElem_cons_succ]
    refine wpG_take (i:=9) (v:=?vsb9) rfl (by kernel_rfl) (by kernel_rfl) (by kernel_rfl) (fun _ _ _ h => h) (Or.inl ⟨by rfl,?hysb9⟩) ?restsb9
    case hysb9 => (intro W hSw;left;(try dsimp only at hSw);go_simp;try with_reducible rfl)
    simp only [Act.put,List.setIfInBounds_toArray,List.set_cons_zero,List.set_cons_succ,List.getElem_toArray,List.getElem_cons_zero,List.getElem_cons_succ]
    refine wpG_take (i:=10) (v:=?vsb10) rfl (by kernel_rfl) (by kernel_rfl) (by kernel_rfl) (fun _ _ _ h => h) (Or.inl ⟨by rfl,?hysb10⟩) ?restsb10
    case hysb10 => (intro W hSw;left;(try dsimp only at hSw);go_simp;try with_reducible rfl)
    simp only [Act.put,List.setIfInBounds_toArray,List.set_cons_zero,List.set_cons_succ,List.getElem_toArray,List.getElem_cons_zero,List.getElem_cons_succ]
    refine wpG_take (i:=11) (v:=?vsb11) rfl (by kernel_rfl) (by kernel_rfl) (by kernel_rfl) (fun _ _ _ h => h) (Or.inl ⟨by rfl,?hysb11⟩) ?restsb11
    case hysb11 => (intro W hSw;left;(try dsimp only at hSw);go_simp;try with_reducible rfl)
    simp only [Act.put,List.setIfInBounds_toArray,List.set_cons_zero,List.set_cons_succ,List.getElem_toArray,List.getElem_cons_zero,List.getElem_cons_succ]
    refine wpG_done (by kernel_rfl) (fun w' hb hS => ?_) _
    clear HCU HP HQ
    have HF:=Lib.hid (HK1.out.below hS HK1.out.lt)
    have HZ:=Lib.hid (HZ2.out.below hS HZ2.out.lt)
    have HBF:=Lib.hid (HW2.out _ hS)
    clear hS hb HW2 HC6 c6
    have p0:=HF.out.cell 0
    have p1:=HF.out.cell 1
    have p2:=HF.out.cell 2
    have p3:=HF.out.cell 3
    have p4:=HF.out.cell 4
    have p5:=HF.out.cell 5
    have p6:=HF.out.cell 6
    have p7:=HF.out.cell 7
    have p8:=HF.out.cell 8
    have p9:=HF.out.cell 9
    have p10:=HF.out.cell 10
    have z0 : w'.cell? ⟨w.heap.size,0,none⟩=some (.string ⟨#[]⟩):=HZ.out.cell 0;have f0:=HZ.out.frozen 0
    have z1 : w'.cell? ⟨w.heap.size,1,none⟩=some (.string ⟨#[]⟩):=HZ.out.cell 1;have f1:=HZ.out.frozen 1
    have z2 : w'.cell? ⟨w.heap.size,2,none⟩=some (.string ⟨#[]⟩):=HZ.out.cell 2;have f2:=HZ.out.frozen 2
    have z3 : w'.cell? ⟨w.heap.size,3,none⟩=some (.int .i64 0):=HZ.out.cell 3;have f3:=HZ.out.frozen 3
    have z4 : w'.cell? ⟨w.heap.size,4,none⟩=some (.int .i64 0):=HZ.out.cell 4;have f4:=HZ.out.frozen 4
    have z5 : w'.cell? ⟨w.heap.size,5,none⟩=some (.int .i64 0):=HZ.out.cell 5;have f5:=HZ.out.frozen 5
    have z6 : w'.cell? ⟨w.heap.size,6,none⟩=some (.int .i64 0):=HZ.out.cell 6;have f6:=HZ.out.frozen 6
    have z7 : w'.cell? ⟨w.heap.size,7,none⟩=some (.int .i64 0):=HZ.out.cell 7;have f7:=HZ.out.frozen 7
    have z8 : w'.cell? ⟨w.heap.size,8,none⟩=some (.int .u8 0):=HZ.out.cell 8;have f8:=HZ.out.frozen 8
    have z9 : w'.cell? ⟨w.heap.size,9,none⟩=some (.string ⟨#[]⟩):=HZ.out.cell 9;have f9:=HZ.out.frozen 9
    have z10 : w'.cell? ⟨w.heap.size,10,none⟩=some (.string ⟨#[]⟩):=HZ.out.cell 10;have f10:=HZ.out.frozen 10
    go_wp2_with fail
    clear p0 z0 f0 p1 z1 f1 p2 z2 f2 p3 z3 f3 p4 z4 f4 p5 z5 f5 p6 z6 f6 p7 z7 f7 p8 z8 f8 p9 z9 f9 p10 z10 f10
    have hHB : HasBlk w' w.heap.size 107 11:=⟨_,rfl,HZ.out⟩
    obtain ⟨WE,hWE⟩ : ∃ WE,WE=setAll w' w.heap.size 0 [(.string (bs nm)),(.string (bs pr)),(.string (bs lk)),(.int .i64 md),(.int .i64 ui),(.int .i64 gi),(.int .i64 sz),(.int .i64 tm),(.int .u8 ty.toNat),(.string (bs us)),(.string (bs gr))]:=⟨_,rfl⟩
    have hk:=hHB.fill [(.string (bs nm)),(.string (bs pr)),(.string (bs lk)),(.int .i64 md),(.int .i64 ui),(.int .i64 gi),(.int .i64 sz),(.int .i64 tm),(.int .u8 ty.toNat),(.string (bs us)),(.string (bs gr))] rfl
    have hBE:=Below.setAll (B:=w.heap.size) (g:=w.heap.size) (Nat.le_refl _) [(.string (bs nm)),(.string (bs pr)),(.string (bs lk)),(.int .i64 md),(.int .i64 ui),(.int .i64 gi),(.int .i64 sz),(.int .i64 tm),(.int .u8 ty.toNat),(.string (bs us)),(.string (bs gr))] 0 HBF.out
    rw [← hWE] at hk hBE
    simp only [setAll,Nat.zero_add,Nat.reduceAdd] at hWE
    rw [← hWE]
    clear hWE hHB
    have x0 : WE.cell? ⟨w.heap.size,0,none⟩=some (.string (bs nm)):=hk.cell 0
    have x1 : WE.cell? ⟨w.heap.size,1,none⟩=some (.string (bs pr)):=hk.cell 1
    have x2 : WE.cell? ⟨w.heap.size,2,none⟩=some (.string (bs lk)):=hk.cell 2
    have x3 : WE.cell? ⟨w.heap.size,3,none⟩=some (.int .i64 md):=hk.cell 3
    have x4 : WE.cell? ⟨w.heap.size,4,none⟩=some (.int .i64 ui):=hk.cell 4
    have x5 : WE.cell? ⟨w.heap.size,5,none⟩=some (.int .i64 gi):=hk.cell 5
    have x6 : WE.cell? ⟨w.heap.size,6,none⟩=some (.int .i64 sz):=hk.cell 6
    have x7 : WE.cell? ⟨w.heap.size,7,none⟩=some (.int .i64 tm):=hk.cell 7
    have x8 : WE.cell? ⟨w.heap.size,8,none⟩=some (.int .u8 ty.toNat):=hk.cell 8
    have x9 : WE.cell? ⟨w.heap.size,9,none⟩=some (.string (bs us)):=hk.cell 9
    have x10 : WE.cell? ⟨w.heap.size,10,none⟩=some (.string (bs gr)):=hk.cell 10
    exact bodyPost_ret (v:=.tuple #[.agg #[(.string (bs nm)),(.string (bs pr)),(.string (bs lk)),(.int .i64 md),(.int .i64 ui),(.int .i64 gi),(.int .i64 sz),(.int .i64 tm),(.int .u8 ty.toNat),(.string (bs us)),(.string (bs gr))],.slice none 0 0,.slice none 0 0,.int .i64 7]) (by simp [results,Tryz.results52,go_sem,x0,x1,x2,x3,x4,x5,x6,x7,x8,x9,x10]) rfl ⟨rfl,hBE⟩
  · rw [if_neg hc5] at HP
    have HQ : Hid (∀ W,Below w.heap.size w W→BytesAt W W.heap.size (.slice (some ⟨ad.block,ad.off + 512,none⟩) (L - 512) (c - 512)) r):=Lib.hid (fun W hb => (HP.out.below hb).more hb.size)
    go_upto_region 6 with fail
    refine wp_region_G (S:=fun W => Below W1.heap.size W1 W) (by kernel_rfl) (Below.refl _ _).drew ?_
    refine wpG_take (i:=0) (v:=?vsc1) rfl (by kernel_rfl) (by kernel_rfl) (by kernel_rfl) (fun _ _ _ h => h) (Or.inl ⟨by rfl,?hysc1⟩) ?restsc1
    case hysc1 => (intro W hSw;left;(try dsimp only at hSw);go_simp;try with_reducible rfl)
    simp only [Act.put,List.setIfInBounds_toArray,List.set_cons_zero,List.set_cons_succ,List.getElem_toArray,List.getElem_cons_zero,List.getElem_cons_succ]
    refine wpG_take (i:=1) (v:=?vsc2) rfl (by kernel_rfl) (by kernel_rfl) (by kernel_rfl) (fun _ _ _ h => h) (Or.inl ⟨by rfl,?hysc2⟩) ?restsc2
    case hysc2 => (intro W hSw;left;(try dsimp only at hSw);go_simp;try with_reducible rfl)
    simp only [Act.put,List.setIfInBounds_toArray,List.set_cons_zero,List.set_cons_succ,List.getElem_toArray,List.getElem_cons_zero,List.getElem_cons_succ]
    refine wpG_take (i:=2) (v:=?vsc3) rfl (by kernel_rfl) (by kernel_rfl) (by kernel_rfl) (fun _ _ _ h => h) (Or.inl ⟨by rfl,?hysc3⟩) ?restsc3
    case hysc3 => (intro W hSw;left;(try dsimp only at hSw);go_simp;try with_reducible rfl)
    simp only [Act.put,List.setIfInBounds_toArray,List.set_cons_zero,List.set_cons_succ,List.getElem_toArray,List.getElem_cons_zero,List.getElem_cons_succ]
    refine wpG_take (i:=3) (v:=?vsc4) rfl (by kernel_rfl) (by kernel_rfl) (by kernel_rfl) (fun _ _ _ h => h) (Or.inl ⟨by rfl,?hysc4⟩) ?restsc4
    case hysc4 => (intro W hSw;left;(try dsimp only at hSw);have c6:=HC6.out _ hSw;go_simp;try with_reducible rfl)
    simp only [Act.put,List.setIfInBounds_toArray,List.set_cons_zero,List.set_cons_succ,List.getElem_toArray,List.getElem_cons_zero,List.getElem_cons_succ]
    refine wpG_one (i:=4) (by kernel_rfl) rfl (fun Wc hb hS K hK => ?_)
    go_simp
    refine (HCU.out _ _ _ (HQ.out _ (HW2.out _ hS))).mono ?_
    rintro e w9 ⟨rfl,rfl⟩
    have hS9 : Below W1.heap.size W1 Wc:=hS
    refine hK.out _ _ hS9 ?_
    clear hK K hS hb hS9
    try simp only [Act.put,List.setIfInBounds_toArray,List.set_cons_zero,List.set_cons_succ,List.getElem_toArray,List.getElem_cons_zero,List.getElem_cons_succ]
    refine wpG_take (i:=5) (v:=?vsc5) rfl (by kernel_rfl) (by kernel_rfl) (by kernel_rfl) (fun _ _ _ h => h) (Or.inl ⟨by rfl,?hysc5⟩) ?restsc5
    case hysc5 => (intro W hSw;left;(try dsimp only at hSw);go_simp;try with_reducible rfl)
    simp only [Act.put,List.setIfInBounds_toArray,List.set_cons_zero,List.set_cons_succ,List.getElem_toArray,List.getElem_cons_zero,List.getElem_cons_succ]
    refine wpG_take (i:=6) (v:=?vsc6) rfl (by kernel_rfl) (by kernel_rfl) (by kernel_rfl) (fun _ _ _ h => h) (Or.inl ⟨by rfl,?hysc6⟩) ?restsc6
    case hysc6 => (intro W hSw;left;(try dsimp only at hSw);go_simp;try with_reducible rfl)
    simp only [Act.put,List.setIfInBounds_toArray,List.set_cons_zero,List.set_cons_succ,List.getElem_toArray,List.getElem_cons_zero,List.getElem_cons_succ]
    refine wpG_take (i:=7) (v:=?vsc7) rfl (by kernel_rfl) (by kernel_rfl) (by kernel_rfl) (fun _ _ _ h => h) (Or.inl ⟨by rfl,?hysc7⟩) ?restsc7
    case hysc7 => (intro W hSw;left;(try dsimp only at hSw);go_simp;try with_reducible rfl)
    simp only [Act.put,List.setIfInBounds_toArray,List.set_cons_zero,List.set_cons_succ,List.getElem_toArray,List.getElem_cons_zero,List.getElem_cons_succ]
    refine wpG_take (i:=8) (v:=?vsc8) rfl (by kernel_rfl) (by kernel_rfl) (by kernel_rfl) (fun _ _ _ h => h) (Or.inl ⟨by rfl,?hysc8⟩) ?restsc8
    case hysc8 => (intro W hSw;left;(try dsimp only at hSw);go_simp;try with_reducible rfl)
    simp only [Act.put,List.setIfInBounds_toArray,List.set_cons_zero,List.set_cons_succ,List.getElem_toArray,List.getElem_cons_zero,List.getElem_cons_succ]
    refine wpG_take (i:=9) (v:=?vsc9) rfl (by kernel_rfl) (by kernel_rfl) (by kernel_rfl) (fun _ _ _ h => h) (Or.inl ⟨by rfl,?hysc9⟩) ?restsc9
    case hysc9 => (intro W hSw;left;(try dsimp only at hSw);go_simp;try with_reducible rfl)
    simp only [Act.put,List.setIfInBounds_toArray,List.set_cons_zero,List.set_cons_succ,List.getElem_toArray,List.getElem_cons_zero,List.getElem_cons_succ]
    refine wpG_take (i:=10) (v:=?vsc10) rfl (by kernel_rfl) (by kernel_rfl) (by kernel_rfl) (fun _ _ _ h => h) (Or.inl ⟨by rfl,?hysc10⟩) ?restsc10
    case hysc10 => (intro W hSw;left;(try dsimp only at hSw);go_simp;try with_reducible rfl)
    simp only [Act.put,List.setIfInBounds_toArray,List.set_cons_zero,List.set_cons_succ,List.getElem_toArray,List.getElem_cons_zero,List.getElem_cons_succ]
    refine wpG_take (i:=11) (v:=?vsc11) rfl (by kernel_rfl) (by kernel_rfl) (by kernel_rfl) (fun _ _ _ h => h) (Or.inl ⟨by rfl,?hysc11⟩) ?restsc11
    case hysc11 => (intro W hSw;left;(try dsimp only at hSw);go_simp;try with_reducible rfl)
    simp only [Act.put,List.setIfInBounds_toArray,List.set_cons_zero,List.set_cons_succ,List.getElem_toArray,List.getElem_cons_zero,List.getElem_cons_succ]
    refine wpG_done (by kernel_rfl) (fun w' hb hS => ?_) _
    clear HCU HP HQ
    have HF:=Lib.hid (HK1.out.below hS HK1.out.lt)
    have HZ:=Lib.hid (HZ2.out.below hS HZ2.out.lt)
    have HBF:=Lib.hid (HW2.out _ hS)
    clear hS hb HW2 HC6 c6
    have p0:=HF.out.cell 0
    have p1:=HF.out.cell 1
    have p2:=HF.out.cell 2
    have p3:=HF.out.cell 3
    have p4:=HF.out.cell 4
    have p5:=HF.out.cell 5
    have p6:=HF.out.cell 6
    have p7:=HF.out.cell 7
    have p8:=HF.out.cell 8
    have p9:=HF.out.cell 9
    have p10:=HF.out.cell 10
    have z0 : w'.cell? ⟨w.heap.size,0,none⟩=some (.string ⟨#[]⟩):=HZ.out.cell 0;have f0:=HZ.out.frozen 0
    have z1 : w'.cell? ⟨w.heap.size,1,none⟩=some (.string ⟨#[]⟩):=HZ.out.cell 1;have f1:=HZ.out.frozen 1
    have z2 : w'.cell? ⟨w.heap.size,2,none⟩=some (.string ⟨#[]⟩):=HZ.out.cell 2;have f2:=HZ.out.frozen 2
    have z3 : w'.cell? ⟨w.heap.size,3,none⟩=some (.int .i64 0):=HZ.out.cell 3;have f3:=HZ.out.frozen 3
    have z4 : w'.cell? ⟨w.heap.size,4,none⟩=some (.int .i64 0):=HZ.out.cell 4;have f4:=HZ.out.frozen 4
    have z5 : w'.cell? ⟨w.heap.size,5,none⟩=some (.int .i64 0):=HZ.out.cell 5;have f5:=HZ.out.frozen 5
    have z6 : w'.cell? ⟨w.heap.size,6,none⟩=some (.int .i64 0):=HZ.out.cell 6;have f6:=HZ.out.frozen 6
    have z7 : w'.cell? ⟨w.heap.size,7,none⟩=some (.int .i64 0):=HZ.out.cell 7;have f7:=HZ.out.frozen 7
    have z8 : w'.cell? ⟨w.heap.size,8,none⟩=some (.int .u8 0):=HZ.out.cell 8;have f8:=HZ.out.frozen 8
    have z9 : w'.cell? ⟨w.heap.size,9,none⟩=some (.string ⟨#[]⟩):=HZ.out.cell 9;have f9:=HZ.out.frozen 9
    have z10 : w'.cell? ⟨w.heap.size,10,none⟩=some (.string ⟨#[]⟩):=HZ.out.cell 10;have f10:=HZ.out.frozen 10
    go_wp2_with fail
    clear p0 z0 f0 p1 z1 f1 p2 z2 f2 p3 z3 f3 p4 z4 f4 p5 z5 f5 p6 z6 f6 p7 z7 f7 p8 z8 f8 p9 z9 f9 p10 z10 f10
    have hHB : HasBlk w' w.heap.size 107 11:=⟨_,rfl,HZ.out⟩
    obtain ⟨WE,hWE⟩ : ∃ WE,WE=setAll w' w.heap.size 0 [(.string (bs nm)),(.string (bs pr)),(.string (bs lk)),(.int .i64 md),(.int .i64 ui),(.int .i64 gi),(.int .i64 sz),(.int .i64 tm),(.int .u8 ty.toNat),(.string (bs us)),(.string (bs gr))]:=⟨_,rfl⟩
    have hk:=hHB.fill [(.string (bs nm)),(.string (bs pr)),(.string (bs lk)),(.int .i64 md),(.int .i64 ui),(.int .i64 gi),(.int .i64 sz),(.int .i64 tm),(.int .u8 ty.toNat),(.string (bs us)),(.string (bs gr))] rfl
    have hBE:=Below.setAll (B:=w.heap.size) (g:=w.heap.size) (Nat.le_refl _) [(.string (bs nm)),(.string (bs pr)),(.string (bs lk)),(.int .i64 md),(.int .i64 ui),(.int .i64 gi),(.int .i64 sz),(.int .i64 tm),(.int .u8 ty.toNat),(.string (bs us)),(.string (bs gr))] 0 HBF.out
    rw [← hWE] at hk hBE
    simp only [setAll,Nat.zero_add,Nat.reduceAdd] at hWE
    rw [← hWE]
    clear hWE hHB
    have x0 : WE.cell? ⟨w.heap.size,0,none⟩=some (.string (bs nm)):=hk.cell 0
    have x1 : WE.cell? ⟨w.heap.size,1,none⟩=some (.string (bs pr)):=hk.cell 1
    have x2 : WE.cell? ⟨w.heap.size,2,none⟩=some (.string (bs lk)):=hk.cell 2
    have x3 : WE.cell? ⟨w.heap.size,3,none⟩=some (.int .i64 md):=hk.cell 3
    have x4 : WE.cell? ⟨w.heap.size,4,none⟩=some (.int .i64 ui):=hk.cell 4
    have x5 : WE.cell? ⟨w.heap.size,5,none⟩=some (.int .i64 gi):=hk.cell 5
    have x6 : WE.cell? ⟨w.heap.size,6,none⟩=some (.int .i64 sz):=hk.cell 6
    have x7 : WE.cell? ⟨w.heap.size,7,none⟩=some (.int .i64 tm):=hk.cell 7
    have x8 : WE.cell? ⟨w.heap.size,8,none⟩=some (.int .u8 ty.toNat):=hk.cell 8
    have x9 : WE.cell? ⟨w.heap.size,9,none⟩=some (.string (bs us)):=hk.cell 9
    have x10 : WE.cell? ⟨w.heap.size,10,none⟩=some (.string (bs gr)):=hk.cell 10
    exact bodyPost_ret (v:=.tuple #[.agg #[(.string (bs nm)),(.string (bs pr)),(.string (bs lk)),(.int .i64 md),(.int .i64 ui),(.int .i64 gi),(.int .i64 sz),(.int .i64 tm),(.int .u8 ty.toNat),(.string (bs us)),(.string (bs gr))],.slice none 0 0,.slice none 0 0,.int .i64 7]) (by simp [results,Tryz.results52,go_sem,x0,x1,x2,x3,x4,x5,x6,x7,x8,x9,x10]) rfl ⟨rfl,hBE⟩
set_option maxRecDepth 100000 in
set_option maxHeartbeats 4000000 in
theorem Block_good (v : Value) (H : PHead) (hH : HeadOk H) (d m : List UInt8) (hd : d.length=H.size) (w : World) (hv : BytesAt w w.heap.size v (headW H ++ (padB d ++ m))) (hm : m.length≤5000000) (hsz : H.size≤5000000) :
    Calls Tryz.prog 52 #[v] w fun e w' => ∃ v1 v2,e=.returned (.tuple #[headV H,v1,v2,.int .i64 0])∧DataAt w' w.heap.size v1 d∧DataAt w' w.heap.size v2 m∧Below w.heap.size w w':=by
  have HCU : Hid (∀ W v' (hl : BytesAt W W.heap.size v' (padB d ++ m)),Calls Tryz.prog 104 #[v',.int .i64 H.size] W fun e w' => ∃ v1 v2,e=.returned (.tuple #[v1,v2,.int .i64 0])∧w'.ownsRow W.heap.size 5 1 v1 d.length ((d.map ofB).map (.int .u8))∧w'.ownsRow W.heap.size 5 1 v2 m.length ((m.map ofB).map (.int .u8))∧Below W.heap.size W w'):=Lib.hid (fun W v' hl => by rw [← hd];exact PCut_padO v' d m W hl (by omega) (by omega))
  generalize padB d ++ m=r at *
  clear hd hm
  have hlen : (headW H).length=512:=headW_length hH
  have HRD:=Lib.hid (fun W => HRead_good H hH W)
  obtain ⟨A,c,e,hlc,hcm,h0,hr⟩:=id hv
  rw [List.length_map] at e hlc
  rcases A with _ | ad
  · exfalso
    have:=h0 rfl
    rw [List.length_append] at hlc
    omega
  subst e
  have hf:=hv.front 512 (by rw [List.length_append];omega)
  have ht : (headW H ++ r).take 512=headW H:=by rw [← hlen];exact List.take_left
  have hp:=hv.part 512 (headW H ++ r).length (by rw [List.length_append];omega) (Nat.le_refl _)
  have hd' : ((headW H ++ r).drop 512).take ((headW H ++ r).length - 512)=r:=by
    have : (headW H ++ r).drop 512=r:=by rw [← hlen];exact List.drop_left
    rw [this]
    exact List.take_of_length_le (by rw [List.length_append];omega)
  rw [ht] at hf
  rw [hd'] at hp
  have hL : (headW H ++ r).length=r.length + 512:=by rw [List.length_append];omega
  rw [hL] at hlc hp ⊢
  unfold maxLen at hcm
  clear hr hv h0 hd' ht hL
  have hS:=headZ_blk w
  have HS:=Lib.hid hS
  have hcv:=conv_str (hf.below hS.2)
  have HP:=Lib.hid hp
  clear hS hf hp
  have d1 : ¬ ((r.length + 512 : Nat) : Int) < 512:=by omega
  have d2 : decide (((r.length + 512 : Nat) : Int) < 512)=false:=decide_eq_false d1
  have i1 : (512 : Int)≤((r.length + 512 : Nat) : Int):=by omega
  have i2 : (512 : Int)≤(c : Int):=by omega
  have i3 : ((r.length + 512 : Nat) : Int)≤(c : Int):=by omega
  have i4 : 512≤c:=by omega
  have i5 : 512≤r.length + 512:=by omega
  generalize bs (headW H)=bh at *
  obtain ⟨nm,pr,lk,md,ui,gi,sz,tm,ty,us,gr⟩:=H
  unfold headV headCells at HRD
  unfold headV headCells
  simp only at HRD hsz ⊢
  generalize r.length + 512=L at *
  go_enter Tryz.func52,Tryz.ntmps52
  unfold headNone at *
  go_wp2_with fail
  refine (HRD.out _).mono ?_
  rintro e w1 ⟨rfl,b1⟩
  have HB1:=Lib.hid (HS.out.2.trans (b1.mono HS.out.2.size))
  have HZ1:=Lib.hid (HS.out.1.below b1 HS.out.1.lt)
  clear b1 hcv HRD
  obtain ⟨W1,hW1⟩ : ∃ W1,W1=w1.alloc (.cells #[(.string (bs nm)),(.string (bs pr)),(.string (bs lk)),(.int .i64 md),(.int .i64 ui),(.int .i64 gi),(.int .i64 sz),(.int .i64 tm),(.int .u8 ty.toNat),(.string (bs us)),(.string (bs gr))] 107):=⟨_,rfl⟩
  obtain ⟨g6,hg6⟩ : ∃ g6,g6=w1.heap.size:=⟨_,rfl⟩
  have hk1 : Blk W1 g6 107 #[(.string (bs nm)),(.string (bs pr)),(.string (bs lk)),(.int .i64 md),(.int .i64 ui),(.int .i64 gi),(.int .i64 sz),(.int .i64 tm),(.int .u8 ty.toNat),(.string (bs us)),(.string (bs gr))]:=by rw [hW1,hg6];exact Blk.new _ _ _
  have hb1 : Below w1.heap.size w1 W1:=by rw [hW1];exact (Below.refl _ _).alloc (Nat.le_refl _) _
  have HB2:=Lib.hid (HB1.out.trans (hb1.mono HB1.out.size))
  have HZ2:=Lib.hid (HZ1.out.below hb1 HZ1.out.lt)
  have HK1:=Lib.hid hk1
  clear hb1 hk1 HB1 HZ1
  go_upto_region 4 with fail
  rw [← hW1,← hg6]
  clear hW1 hg6
  have HC6 : Hid (∀ W,Below W1.heap.size W1 W→W.cell? ⟨g6,6,none⟩=some (.int .i64 sz)):=Lib.hid (fun W hb => (HK1.out.below hb HK1.out.lt).cell 6)
  have c6 : W1.cell? ⟨g6,6,none⟩=some (.int .i64 sz):=HK1.out.cell 6
  have HW2 : Hid (∀ W,Below W1.heap.size W1 W→Below w.heap.size w W):=Lib.hid (fun W hb => HB2.out.trans (hb.mono HB2.out.size))
  by_cases hc5 : c=512
  · subst hc5
    obtain rfl : L=512:=by omega
    rw [if_pos rfl] at HP
    have HQ : Hid (∀ W,Below w.heap.size w W→BytesAt W W.heap.size (.slice (some ad) 0 0) r):=Lib.hid (fun W hb => (HP.out.below hb).more hb.size)
    go_upto_region 6 with fail
    refine wp_region_G (S:=fun W => Below W1.heap.size W1 W) (by kernel_rfl) (Below.refl _ _).drew ?_
    refine wpG_take (i:=0) (v:=?vgb1) rfl (by kernel_rfl) (by kernel_rfl) (by kernel_rfl) (fun _ _ _ h => h) (Or.inl ⟨by rfl,?hygb1⟩) ?restgb1
    case hygb1 => (intro W hSw;left;(try dsimp only at hSw);go_simp;try with_reducible rfl)
    simp only [Act.put,List.setIfInBounds_toArray,List.set_cons_zero,List.set_cons_succ,List.getElem_toArray,List.getElem_cons_zero,List.getElem_cons_succ]
    refine wpG_take (i:=1) (v:=?vgb2) rfl (by kernel_rfl) (by kernel_rfl) (by kernel_rfl) (fun _ _ _ h => h) (Or.inl ⟨by rfl,?hygb2⟩) ?restgb2
    case hygb2 => (intro W hSw;left;(try dsimp only at hSw);go_simp;try with_reducible rfl)
    simp only [Act.put,List.setIfInBounds_toArray,List.set_cons_zero,List.set_cons_succ,List.getElem_toArray,List.getElem_cons_zero,List.getElem_cons_succ]
    refine wpG_take (i:=2) (v:=?vgb3) rfl (by kernel_rfl) (by kernel_rfl) (by kernel_rfl) (fun _ _ _ h => h) (Or.inl ⟨by rfl,?hygb3⟩) ?restgb3
    case hygb3 => (intro W hSw;left;(try dsimp only at hSw);go_simp;try with_reducible rfl)
    simp only [Act.put,List.setIfInBounds_toArray,List.set_cons_zero,List.set_cons_succ,List.getElem_toArray,List.getElem_cons_zero,List.getElem_cons_succ]
    refine wpG_take (i:=3) (v:=?vgb4) rfl (by kernel_rfl) (by kernel_rfl) (by kernel_rfl) (fun _ _ _ h => h) (Or.inl ⟨by rfl,?hygb4⟩) ?restgb4
    case hygb4 => (intro W hSw;left;(try dsimp only at hSw);have c6:=HC6.out _ hSw;go_simp;try with_reducible rfl)
    simp only [Act.put,List.setIfInBounds_toArray,List.set_cons_zero,List.set_cons_succ,List.getElem_toArray,List.getElem_cons_zero,List.getElem_cons_succ]
    refine wpG_one (i:=4) (by kernel_rfl) rfl (fun Wc hb hS K hK => ?_)
    go_simp
    refine (HCU.out _ _ (HQ.out _ (HW2.out _ hS))).mono ?_
    rintro e w9 ⟨v1,v2,rfl,o1,o2,b9⟩
    have hS9 : Below W1.heap.size W1 w9:=hS.trans (b9.mono hS.size)
    have HO1:=Lib.hid (DataAt.of_own o1)
    have HO2:=Lib.hid (DataAt.of_own o2)
    have HWc:=Lib.hid (HW2.out _ hS)
    obtain ⟨A1,c1,rfl,-⟩:=HO1.out
    obtain ⟨A2,c2,rfl,-⟩:=HO2.out
    clear o1 o2 b9
    refine hK.out _ _ hS9 ?_
    clear hK K hS hb hS9
    try simp only [Act.put,List.setIfInBounds_toArray,List.set_cons_zero,List.set_cons_succ,List.getElem_toArray,List.getElem_cons_zero,List.getElem_cons_succ]
    refine wpG_take (i:=5) (v:=?vgb5) rfl (by kernel_rfl) (by kernel_rfl) (by kernel_rfl) (fun _ _ _ h => h) (Or.inl ⟨by rfl,?hygb5⟩) ?restgb5
    case hygb5 => (intro W hSw;left;(try dsimp only at hSw);go_simp;try with_reducible rfl)
    simp only [Act.put,List.setIfInBounds_toArray,List.set_cons_zero,List.set_cons_succ,List.getElem_toArray,List.getElem_cons_zero,List.getElem_cons_succ]
    refine wpG_take (i:=6) (v:=?vgb6) rfl (by kernel_rfl) (by kernel_rfl) (by kernel_rfl) (fun _ _ _ h => h) (Or.inl ⟨by rfl,?hygb6⟩) ?restgb6
    case hygb6 => (intro W hSw;left;(try dsimp only at hSw);go_simp;try with_reducible rfl)
    simp only [Act.put,List.setIfInBounds_toArray,List.set_cons_zero,List.set_cons_succ,List.getElem_toArray,List.getElem_cons_zero,List.getElem_cons_succ]
    refine wpG_take (i:=7) (v:=?vgb7) rfl (by kernel_rfl) (by kernel_rfl) (by kernel_rfl) (fun _ _ _ h => h) (Or.inl ⟨by rfl,?hygb7⟩) ?restgb7
    case hygb7 => (intro W hSw;left;(try dsimp only at hSw);go_simp;try with_reducible rfl)
    simp only [Act.put,List.setIfInBounds_toArray,List.set_cons_zero,List.set_cons_succ,List.getElem_toArray,List.getElem_cons_zero,List.getElem_cons_succ]
    refine wpG_take (i:=8) (v:=?vgb8) rfl (by kernel_rfl) (by kernel_rfl) (by kernel_rfl) (fun _ _ _ h => h) (Or.inl ⟨by rfl,?hygb8⟩) ?restgb8
    case hygb8 => (intro W hSw;left;(try dsimp only at hSw);go_simp;try with_reducible rfl)
    simp only [Act.put,List.setIfInBounds_toArray,List.set_cons_zero,List.set_cons_succ,List.getElem_toArray,List.getElem_cons_zero,List.getElem_cons_succ]
    refine wpG_take (i:=9) (v:=?vgb9) rfl (by kernel_rfl) (by kernel_rfl) (by kernel_rfl) (fun _ _ _ h => h) (Or.inl ⟨by rfl,?hygb9⟩) ?restgb9
    case hygb9 => (intro W hSw;left;(try dsimp only at hSw);go_simp;try with_reducible rfl)
    simp only [Act.put,List.setIfInBounds_toArray,List.set_cons_zero,List.set_cons_succ,List.getElem_toArray,List.getElem_cons_zero,List.getElem_cons_succ]
    refine wpG_take (i:=10) (v:=?vgb10) rfl (by kernel_rfl) (by kernel_rfl) (by kernel_rfl) (fun _ _ _ h => h) (Or.inl ⟨by rfl,?hygb10⟩) ?restgb10
    case hygb10 => (intro W hSw;left;(try dsimp only at hSw);go_simp;try with_reducible rfl)
    simp only [Act.put,List.setIfInBounds_toArray,List.set_cons_zero,List.set_cons_succ,List.getElem_toArray,List.getElem_cons_zero,List.getElem_cons_succ]
    refine wpG_take (i:=11) (v:=?vgb11) rfl (by kernel_rfl) (by kernel_rfl) (by kernel_rfl) (fun _ _ _ h => h) (Or.inl ⟨by rfl,?hygb11⟩) ?restgb11
    case hygb11 => (intro W hSw;left;(try dsimp only at hSw);go_simp;try with_reducible rfl)
    simp only [Act.put,List.setIfInBounds_toArray,List.set_cons_zero,List.set_cons_succ,List.getElem_toArray,List.getElem_cons_zero,List.getElem_cons_succ]
    refine wpG_done (by kernel_rfl) (fun w' hb hS => ?_) _
    clear HCU HP HQ
    have HF:=Lib.hid (HK1.out.below hS HK1.out.lt)
    have HZ:=Lib.hid (HZ2.out.below hS HZ2.out.lt)
    have HBF:=Lib.hid (HW2.out _ hS)
    have HD1:=Lib.hid ((HO1.out.mono HWc.out.size).below hb)
    have HD2:=Lib.hid ((HO2.out.mono HWc.out.size).below hb)
    clear HO1 HO2 HWc
    clear hS hb HW2 HC6 c6
    have p0:=HF.out.cell 0
    have p1:=HF.out.cell 1
    have p2:=HF.out.cell 2
    have p3:=HF.out.cell 3
    have p4:=HF.out.cell 4
    have p5:=HF.out.cell 5
    have p6:=HF.out.cell 6
    have p7:=HF.out.cell 7
    have p8:=HF.out.cell 8
    have p9:=HF.out.cell 9
    have p10:=HF.out.cell 10
    have z0 : w'.cell? ⟨w.heap.size,0,none⟩=some (.string ⟨#[]⟩):=HZ.out.cell 0;have f0:=HZ.out.frozen 0
    have z1 : w'.cell? ⟨w.heap.size,1,none⟩=some (.string ⟨#[]⟩):=HZ.out.cell 1;have f1:=HZ.out.frozen 1
    have z2 : w'.cell? ⟨w.heap.size,2,none⟩=some (.string ⟨#[]⟩):=HZ.out.cell 2;have f2:=HZ.out.frozen 2
    have z3 : w'.cell? ⟨w.heap.size,3,none⟩=some (.int .i64 0):=HZ.out.cell 3;have f3:=HZ.out.frozen 3
    have z4 : w'.cell? ⟨w.heap.size,4,none⟩=some (.int .i64 0):=HZ.out.cell 4;have f4:=HZ.out.frozen 4
    have z5 : w'.cell? ⟨w.heap.size,5,none⟩=some (.int .i64 0):=HZ.out.cell 5;have f5:=HZ.out.frozen 5
    have z6 : w'.cell? ⟨w.heap.size,6,none⟩=some (.int .i64 0):=HZ.out.cell 6;have f6:=HZ.out.frozen 6
    have z7 : w'.cell? ⟨w.heap.size,7,none⟩=some (.int .i64 0):=HZ.out.cell 7;have f7:=HZ.out.frozen 7
    have z8 : w'.cell? ⟨w.heap.size,8,none⟩=some (.int .u8 0):=HZ.out.cell 8;have f8:=HZ.out.frozen 8
    have z9 : w'.cell? ⟨w.heap.size,9,none⟩=some (.string ⟨#[]⟩):=HZ.out.cell 9;have f9:=HZ.out.frozen 9
    have z10 : w'.cell? ⟨w.heap.size,10,none⟩=some (.string ⟨#[]⟩):=HZ.out.cell 10;have f10:=HZ.out.frozen 10
    go_wp2_with fail
    clear p0 z0 f0 p1 z1 f1 p2 z2 f2 p3 z3 f3 p4 z4 f4 p5 z5 f5 p6 z6 f6 p7 z7 f7 p8 z8 f8 p9 z9 f9 p10 z10 f10
    have hHB : HasBlk w' w.heap.size 107 11:=⟨_,rfl,HZ.out⟩
    obtain ⟨WE,hWE⟩ : ∃ WE,WE=setAll w' w.heap.size 0 [(.string (bs nm)),(.string (bs pr)),(.string (bs lk)),(.int .i64 md),(.int .i64 ui),(.int .i64 gi),(.int .i64 sz),(.int .i64 tm),(.int .u8 ty.toNat),(.string (bs us)),(.string (bs gr))]:=⟨_,rfl⟩
    have hk:=hHB.fill [(.string (bs nm)),(.string (bs pr)),(.string (bs lk)),(.int .i64 md),(.int .i64 ui),(.int .i64 gi),(.int .i64 sz),(.int .i64 tm),(.int .u8 ty.toNat),(.string (bs us)),(.string (bs gr))] rfl
    have hD1:=HD1.out.kept (U8Kept.setAll (by decide) [(.string (bs nm)),(.string (bs pr)),(.string (bs lk)),(.int .i64 md),(.int .i64 ui),(.int .i64 gi),(.int .i64 sz),(.int .i64 tm),(.int .u8 ty.toNat),(.string (bs us)),(.string (bs gr))] 0 hHB)
    have hD2:=HD2.out.kept (U8Kept.setAll (by decide) [(.string (bs nm)),(.string (bs pr)),(.string (bs lk)),(.int .i64 md),(.int .i64 ui),(.int .i64 gi),(.int .i64 sz),(.int .i64 tm),(.int .u8 ty.toNat),(.string (bs us)),(.string (bs gr))] 0 hHB)
    have hBE:=Below.setAll (B:=w.heap.size) (g:=w.heap.size) (Nat.le_refl _) [(.string (bs nm)),(.string (bs pr)),(.string (bs lk)),(.int .i64 md),(.int .i64 ui),(.int .i64 gi),(.int .i64 sz),(.int .i64 tm),(.int .u8 ty.toNat),(.string (bs us)),(.string (bs gr))] 0 HBF.out
    rw [← hWE] at hk hBE hD1 hD2
    simp only [setAll,Nat.zero_add,Nat.reduceAdd] at hWE
    rw [← hWE]
    clear hWE hHB
    have x0 : WE.cell? ⟨w.heap.size,0,none⟩=some (.string (bs nm)):=hk.cell 0
    have x1 : WE.cell? ⟨w.heap.size,1,none⟩=some (.string (bs pr)):=hk.cell 1
    have x2 : WE.cell? ⟨w.heap.size,2,none⟩=some (.string (bs lk)):=hk.cell 2
    have x3 : WE.cell? ⟨w.heap.size,3,none⟩=some (.int .i64 md):=hk.cell 3
    have x4 : WE.cell? ⟨w.heap.size,4,none⟩=some (.int .i64 ui):=hk.cell 4
    have x5 : WE.cell? ⟨w.heap.size,5,none⟩=some (.int .i64 gi):=hk.cell 5
    have x6 : WE.cell? ⟨w.heap.size,6,none⟩=some (.int .i64 sz):=hk.cell 6
    have x7 : WE.cell? ⟨w.heap.size,7,none⟩=some (.int .i64 tm):=hk.cell 7
    have x8 : WE.cell? ⟨w.heap.size,8,none⟩=some (.int .u8 ty.toNat):=hk.cell 8
    have x9 : WE.cell? ⟨w.heap.size,9,none⟩=some (.string (bs us)):=hk.cell 9
    have x10 : WE.cell? ⟨w.heap.size,10,none⟩=some (.string (bs gr)):=hk.cell 10
    exact bodyPost_ret (v:=.tuple #[.agg #[(.string (bs nm)),(.string (bs pr)),(.string (bs lk)),(.int .i64 md),(.int .i64 ui),(.int .i64 gi),(.int .i64 sz),(.int .i64 tm),(.int .u8 ty.toNat),(.string (bs us)),(.string (bs gr))],.slice A1 d.length c1,.slice A2 m.length c2,.int .i64 0]) (by simp [results,Tryz.results52,go_sem,x0,x1,x2,x3,x4,x5,x6,x7,x8,x9,x10]) rfl ⟨_,_,rfl,hD1,hD2,hBE⟩
  · rw [if_neg hc5] at HP
    have HQ : Hid (∀ W,Below w.heap.size w W→BytesAt W W.heap.size (.slice (some ⟨ad.block,ad.off + 512,none⟩) (L - 512) (c - 512)) r):=Lib.hid (fun W hb => (HP.out.below hb).more hb.size)
    go_upto_region 6 with fail
    refine wp_region_G (S:=fun W => Below W1.heap.size W1 W) (by kernel_rfl) (Below.refl _ _).drew ?_
    refine wpG_take (i:=0) (v:=?vgc1) rfl (by kernel_rfl) (by kernel_rfl) (by kernel_rfl) (fun _ _ _ h => h) (Or.inl ⟨by rfl,?hygc1⟩) ?restgc1
    case hygc1 => (intro W hSw;left;(try dsimp only at hSw);go_simp;try with_reducible rfl)
    simp only [Act.put,List.setIfInBounds_toArray,List.set_cons_zero,List.set_cons_succ,List.getElem_toArray,List.getElem_cons_zero,List.getElem_cons_succ]
    refine wpG_take (i:=1) (v:=?vgc2) rfl (by kernel_rfl) (by kernel_rfl) (by kernel_rfl) (fun _ _ _ h => h) (Or.inl ⟨by rfl,?hygc2⟩) ?restgc2
    case hygc2 => (intro W hSw;left;(try dsimp only at hSw);go_simp;try with_reducible rfl)
    simp only [Act.put,List.setIfInBounds_toArray,List.set_cons_zero,List.set_cons_succ,List.getElem_toArray,List.getElem_cons_zero,List.getElem_cons_succ]
    refine wpG_take (i:=2) (v:=?vgc3) rfl (by kernel_rfl) (by kernel_rfl) (by kernel_rfl) (fun _ _ _ h => h) (Or.inl ⟨by rfl,?hygc3⟩) ?restgc3
    case hygc3 => (intro W hSw;left;(try dsimp only at hSw);go_simp;try with_reducible rfl)
    simp only [Act.put,List.setIfInBounds_toArray,List.set_cons_zero,List.set_cons_succ,List.getElem_toArray,List.getElem_cons_zero,List.getElem_cons_succ]
    refine wpG_take (i:=3) (v:=?vgc4) rfl (by kernel_rfl) (by kernel_rfl) (by kernel_rfl) (fun _ _ _ h => h) (Or.inl ⟨by rfl,?hygc4⟩) ?restgc4
    case hygc4 => (intro W hSw;left;(try dsimp only at hSw);have c6:=HC6.out _ hSw;go_simp;try with_reducible rfl)
    simp only [Act.put,List.setIfInBounds_toArray,List.set_cons_zero,List.set_cons_succ,List.getElem_toArray,List.getElem_cons_zero,List.getElem_cons_succ]
    refine wpG_one (i:=4) (by kernel_rfl) rfl (fun Wc hb hS K hK => ?_)
    go_simp
    refine (HCU.out _ _ (HQ.out _ (HW2.out _ hS))).mono ?_
    rintro e w9 ⟨v1,v2,rfl,o1,o2,b9⟩
    have hS9 : Below W1.heap.size W1 w9:=hS.trans (b9.mono hS.size)
    have HO1:=Lib.hid (DataAt.of_own o1)
    have HO2:=Lib.hid (DataAt.of_own o2)
    have HWc:=Lib.hid (HW2.out _ hS)
    obtain ⟨A1,c1,rfl,-⟩:=HO1.out
    obtain ⟨A2,c2,rfl,-⟩:=HO2.out
    clear o1 o2 b9
    refine hK.out _ _ hS9 ?_
    clear hK K hS hb hS9
    try simp only [Act.put,List.setIfInBounds_toArray,List.set_cons_zero,List.set_cons_succ,List.getElem_toArray,List.getElem_cons_zero,List.getElem_cons_succ]
    refine wpG_take (i:=5) (v:=?vgc5) rfl (by kernel_rfl) (by kernel_rfl) (by kernel_rfl) (fun _ _ _ h => h) (Or.inl ⟨by rfl,?hygc5⟩) ?restgc5
    case hygc5 => (intro W hSw;left;(try dsimp only at hSw);go_simp;try with_reducible rfl)
    simp only [Act.put,List.setIfInBounds_toArray,List.set_cons_zero,List.set_cons_succ,List.getElem_toArray,List.getElem_cons_zero,List.getElem_cons_succ]
    refine wpG_take (i:=6) (v:=?vgc6) rfl (by kernel_rfl) (by kernel_rfl) (by kernel_rfl) (fun _ _ _ h => h) (Or.inl ⟨by rfl,?hygc6⟩) ?restgc6
    case hygc6 => (intro W hSw;left;(try dsimp only at hSw);go_simp;try with_reducible rfl)
    simp only [Act.put,List.setIfInBounds_toArray,List.set_cons_zero,List.set_cons_succ,List.getElem_toArray,List.getElem_cons_zero,List.getElem_cons_succ]
    refine wpG_take (i:=7) (v:=?vgc7) rfl (by kernel_rfl) (by kernel_rfl) (by kernel_rfl) (fun _ _ _ h => h) (Or.inl ⟨by rfl,?hygc7⟩) ?restgc7
    case hygc7 => (intro W hSw;left;(try dsimp only at hSw);go_simp;try with_reducible rfl)
    simp only [Act.put,List.setIfInBounds_toArray,List.set_cons_zero,List.set_cons_succ,List.getElem_toArray,List.getElem_cons_zero,List.getElem_cons_succ]
    refine wpG_take (i:=8) (v:=?vgc8) rfl (by kernel_rfl) (by kernel_rfl) (by kernel_rfl) (fun _ _ _ h => h) (Or.inl ⟨by rfl,?hygc8⟩) ?restgc8
    case hygc8 => (intro W hSw;left;(try dsimp only at hSw);go_simp;try with_reducible rfl)
    simp only [Act.put,List.setIfInBounds_toArray,List.set_cons_zero,List.set_cons_succ,List.getElem_toArray,List.getElem_cons_zero,List.getElem_cons_succ]
    refine wpG_take (i:=9) (v:=?vgc9) rfl (by kernel_rfl) (by kernel_rfl) (by kernel_rfl) (fun _ _ _ h => h) (Or.inl ⟨by rfl,?hygc9⟩) ?restgc9
    case hygc9 => (intro W hSw;left;(try dsimp only at hSw);go_simp;try with_reducible rfl)
    simp only [Act.put,List.setIfInBounds_toArray,List.set_cons_zero,List.set_cons_succ,List.getElem_toArray,List.getElem_cons_zero,List.getElem_cons_succ]
    refine wpG_take (i:=10) (v:=?vgc10) rfl (by kernel_rfl) (by kernel_rfl) (by kernel_rfl) (fun _ _ _ h => h) (Or.inl ⟨by rfl,?hygc10⟩) ?restgc10
    case hygc10 => (intro W hSw;left;(try dsimp only at hSw);go_simp;try with_reducible rfl)
    simp only [Act.put,List.setIfInBounds_toArray,List.set_cons_zero,List.set_cons_succ,List.getElem_toArray,List.getElem_cons_zero,List.getElem_cons_succ]
    refine wpG_take (i:=11) (v:=?vgc11) rfl (by kernel_rfl) (by kernel_rfl) (by kernel_rfl) (fun _ _ _ h => h) (Or.inl ⟨by rfl,?hygc11⟩) ?restgc11
    case hygc11 => (intro W hSw;left;(try dsimp only at hSw);go_simp;try with_reducible rfl)
    simp only [Act.put,List.setIfInBounds_toArray,List.set_cons_zero,List.set_cons_succ,List.getElem_toArray,List.getElem_cons_zero,List.getElem_cons_succ]
    refine wpG_done (by kernel_rfl) (fun w' hb hS => ?_) _
    clear HCU HP HQ
    have HF:=Lib.hid (HK1.out.below hS HK1.out.lt)
    have HZ:=Lib.hid (HZ2.out.below hS HZ2.out.lt)
    have HBF:=Lib.hid (HW2.out _ hS)
    have HD1:=Lib.hid ((HO1.out.mono HWc.out.size).below hb)
    have HD2:=Lib.hid ((HO2.out.mono HWc.out.size).below hb)
    clear HO1 HO2 HWc
    clear hS hb HW2 HC6 c6
    have p0:=HF.out.cell 0
    have p1:=HF.out.cell 1
    have p2:=HF.out.cell 2
    have p3:=HF.out.cell 3
    have p4:=HF.out.cell 4
    have p5:=HF.out.cell 5
    have p6:=HF.out.cell 6
    have p7:=HF.out.cell 7
    have p8:=HF.out.cell 8
    have p9:=HF.out.cell 9
    have p10:=HF.out.cell 10
    have z0 : w'.cell? ⟨w.heap.size,0,none⟩=some (.string ⟨#[]⟩):=HZ.out.cell 0;have f0:=HZ.out.frozen 0
    have z1 : w'.cell? ⟨w.heap.size,1,none⟩=some (.string ⟨#[]⟩):=HZ.out.cell 1;have f1:=HZ.out.frozen 1
    have z2 : w'.cell? ⟨w.heap.size,2,none⟩=some (.string ⟨#[]⟩):=HZ.out.cell 2;have f2:=HZ.out.frozen 2
    have z3 : w'.cell? ⟨w.heap.size,3,none⟩=some (.int .i64 0):=HZ.out.cell 3;have f3:=HZ.out.frozen 3
    have z4 : w'.cell? ⟨w.heap.size,4,none⟩=some (.int .i64 0):=HZ.out.cell 4;have f4:=HZ.out.frozen 4
    have z5 : w'.cell? ⟨w.heap.size,5,none⟩=some (.int .i64 0):=HZ.out.cell 5;have f5:=HZ.out.frozen 5
    have z6 : w'.cell? ⟨w.heap.size,6,none⟩=some (.int .i64 0):=HZ.out.cell 6;have f6:=HZ.out.frozen 6
    have z7 : w'.cell? ⟨w.heap.size,7,none⟩=some (.int .i64 0):=HZ.out.cell 7;have f7:=HZ.out.frozen 7
    have z8 : w'.cell? ⟨w.heap.size,8,none⟩=some (.int .u8 0):=HZ.out.cell 8;have f8:=HZ.out.frozen 8
    have z9 : w'.cell? ⟨w.heap.size,9,none⟩=some (.string ⟨#[]⟩):=HZ.out.cell 9;have f9:=HZ.out.frozen 9
    have z10 : w'.cell? ⟨w.heap.size,10,none⟩=some (.string ⟨#[]⟩):=HZ.out.cell 10;have f10:=HZ.out.frozen 10
    go_wp2_with fail
    clear p0 z0 f0 p1 z1 f1 p2 z2 f2 p3 z3 f3 p4 z4 f4 p5 z5 f5 p6 z6 f6 p7 z7 f7 p8 z8 f8 p9 z9 f9 p10 z10 f10
    have hHB : HasBlk w' w.heap.size 107 11:=⟨_,rfl,HZ.out⟩
    obtain ⟨WE,hWE⟩ : ∃ WE,WE=setAll w' w.heap.size 0 [(.string (bs nm)),(.string (bs pr)),(.string (bs lk)),(.int .i64 md),(.int .i64 ui),(.int .i64 gi),(.int .i64 sz),(.int .i64 tm),(.int .u8 ty.toNat),(.string (bs us)),(.string (bs gr))]:=⟨_,rfl⟩
    have hk:=hHB.fill [(.string (bs nm)),(.string (bs pr)),(.string (bs lk)),(.int .i64 md),(.int .i64 ui),(.int .i64 gi),(.int .i64 sz),(.int .i64 tm),(.int .u8 ty.toNat),(.string (bs us)),(.string (bs gr))] rfl
    have hD1:=HD1.out.kept (U8Kept.setAll (by decide) [(.string (bs nm)),(.string (bs pr)),(.string (bs lk)),(.int .i64 md),(.int .i64 ui),(.int .i64 gi),(.int .i64 sz),(.int .i64 tm),(.int .u8 ty.toNat),(.string (bs us)),(.string (bs gr))] 0 hHB)
    have hD2:=HD2.out.kept (U8Kept.setAll (by decide) [(.string (bs nm)),(.string (bs pr)),(.string (bs lk)),(.int .i64 md),(.int .i64 ui),(.int .i64 gi),(.int .i64 sz),(.int .i64 tm),(.int .u8 ty.toNat),(.string (bs us)),(.string (bs gr))] 0 hHB)
    have hBE:=Below.setAll (B:=w.heap.size) (g:=w.heap.size) (Nat.le_refl _) [(.string (bs nm)),(.string (bs pr)),(.string (bs lk)),(.int .i64 md),(.int .i64 ui),(.int .i64 gi),(.int .i64 sz),(.int .i64 tm),(.int .u8 ty.toNat),(.string (bs us)),(.string (bs gr))] 0 HBF.out
    rw [← hWE] at hk hBE hD1 hD2
    simp only [setAll,Nat.zero_add,Nat.reduceAdd] at hWE
    rw [← hWE]
    clear hWE hHB
    have x0 : WE.cell? ⟨w.heap.size,0,none⟩=some (.string (bs nm)):=hk.cell 0
    have x1 : WE.cell? ⟨w.heap.size,1,none⟩=some (.string (bs pr)):=hk.cell 1
    have x2 : WE.cell? ⟨w.heap.size,2,none⟩=some (.string (bs lk)):=hk.cell 2
    have x3 : WE.cell? ⟨w.heap.size,3,none⟩=some (.int .i64 md):=hk.cell 3
    have x4 : WE.cell? ⟨w.heap.size,4,none⟩=some (.int .i64 ui):=hk.cell 4
    have x5 : WE.cell? ⟨w.heap.size,5,none⟩=some (.int .i64 gi):=hk.cell 5
    have x6 : WE.cell? ⟨w.heap.size,6,none⟩=some (.int .i64 sz):=hk.cell 6
    have x7 : WE.cell? ⟨w.heap.size,7,none⟩=some (.int .i64 tm):=hk.cell 7
    have x8 : WE.cell? ⟨w.heap.size,8,none⟩=some (.int .u8 ty.toNat):=hk.cell 8
    have x9 : WE.cell? ⟨w.heap.size,9,none⟩=some (.string (bs us)):=hk.cell 9
    have x10 : WE.cell? ⟨w.heap.size,10,none⟩=some (.string (bs gr)):=hk.cell 10
    exact bodyPost_ret (v:=.tuple #[.agg #[(.string (bs nm)),(.string (bs pr)),(.string (bs lk)),(.int .i64 md),(.int .i64 ui),(.int .i64 gi),(.int .i64 sz),(.int .i64 tm),(.int .u8 ty.toNat),(.string (bs us)),(.string (bs gr))],.slice A1 d.length c1,.slice A2 m.length c2,.int .i64 0]) (by simp [results,Tryz.results52,go_sem,x0,x1,x2,x3,x4,x5,x6,x7,x8,x9,x10]) rfl ⟨_,_,rfl,hD1,hD2,hBE⟩
end
section
open Go.RowKit
theorem zeroI_ (w : World) : (zeroValue 3).run Tryz.prog w=.ok (.int .i64 0) w:=by kernel_rfl
def kindM : List (Int × Value):=mapPut (mapPut (mapPut (mapPut [] 48 (.int .i64 1)) 53 (.int .i64 2)) 50 (.int .i64 3)) 49 (.int .i64 4)
theorem kindM_get (c : UInt8) : (mapGet kindM (c.toNat : Int)).getD (.int .i64 0)=.int .i64 (kindT c):=by
  have e : kindM=[(48,.int .i64 1),(53,.int .i64 2),(50,.int .i64 3),(49,.int .i64 4)]:=by simp [kindM,mapPut]
  have key : ∀ d : UInt8,c≠d→((d.toNat : Int) == (c.toNat : Int))=false:=fun d h => by
    rw [beq_eq_false_iff_ne]
    intro h2
    exact h (UInt8.toNat_inj.1 (by omega))
  rw [e]
  unfold kindT mapGet
  by_cases h1 : c=48
  · subst h1;rfl
  by_cases h2 : c=53
  · subst h2;rfl
  by_cases h3 : c=50
  · subst h3;rfl
  by_cases h4 : c=49
  · subst h4;rfl
  have k1:=key 48 h1
  have k2:=key 53 h2
  have k3:=key 50 h3
  have k4:=key 49 h4
  rw [if_neg h1,if_neg h2,if_neg h3,if_neg h4]
  have e1 : (((48 : UInt8).toNat : Int))=48:=rfl
  have e2 : (((53 : UInt8).toNat : Int))=53:=rfl
  have e3 : (((50 : UInt8).toNat : Int))=50:=rfl
  have e4 : (((49 : UInt8).toNat : Int))=49:=rfl
  rw [e1] at k1;rw [e2] at k2;rw [e3] at k3;rw [e4] at k4
  simp [List.find?_cons,k1,k2,k3,k4]
set_option maxRecDepth 100000 in
theorem Say_any (g : Nat) (lv : Value) (l : List RecS) (key s : List UInt8) (w : World) (hc : w.cell? ⟨g,0,none⟩=some lv) (hl : RecsAt w lv l) (hn : l.length≤100) :
    Calls Tryz.prog 106 #[.string (bs key),.string (bs s),.pointer (some ⟨g,0,none⟩)] w fun e w' => e=.returned (.string (bs ((findK l key).getD s)))∧Below w.heap.size w w':=by
  have HF:=Lib.hid (PxFind_any lv l key w hl hn)
  obtain ⟨A,c,rfl,-⟩:=hl
  cases hf : findK l key with
  | none =>
    rw [hf] at HF
    simp only [Option.getD_none,Option.isSome_none] at HF ⊢
    clear hf
    go_enter Tryz.func106,Tryz.ntmps106
    go_wp2_with fail
    refine HF.out.mono ?_
    rintro e w1 ⟨rfl,b1⟩
    go_wp2_with fail
    go_ret
    exact ⟨rfl,b1⟩
  | some v =>
    rw [hf] at HF
    simp only [Option.getD_some,Option.isSome_some] at HF ⊢
    clear hf
    go_enter Tryz.func106,Tryz.ntmps106
    go_wp2_with fail
    refine HF.out.mono ?_
    rintro e w1 ⟨rfl,b1⟩
    go_wp2_with fail
    go_ret
    exact ⟨rfl,b1⟩
def numU (l : List RecS) (k : List UInt8) (n : Int) : Int:=match findK l k with | some v => (Lib.atoi v).getD 0 | none => n
set_option maxRecDepth 100000 in
theorem Num_any (g : Nat) (lv : Value) (l : List RecS) (key : List UInt8) (n : Int) (w : World) (hc : w.cell? ⟨g,0,none⟩=some lv) (hl : RecsAt w lv l) (hn : l.length≤100)
    (hA : ∀ v,findK l key=some v→v.length≤18∧∃ m,Lib.atoi v=some m) :
    Calls Tryz.prog 108 #[.string (bs key),.int .i64 n,.pointer (some ⟨g,0,none⟩)] w fun e w' => e=.returned (.int .i64 (numU l key n))∧Below w.heap.size w w':=by
  have HF:=Lib.hid (PxFind_any lv l key w hl hn)
  obtain ⟨A,c,rfl,-⟩:=hl
  unfold numU
  cases hf : findK l key with
  | none =>
    rw [hf] at HF
    simp only [Option.getD_none,Option.isSome_none] at HF ⊢
    clear hf hA
    go_enter Tryz.func108,Tryz.ntmps108
    go_wp2_with fail
    refine HF.out.mono ?_
    rintro e w1 ⟨rfl,b1⟩
    go_wp2_with fail
    go_ret
    exact ⟨rfl,b1⟩
  | some v =>
    obtain ⟨h18,m,hm⟩:=hA v hf
    rw [hf] at HF
    simp only [Option.getD_some,Option.isSome_some] at HF ⊢
    rw [hm]
    simp only [Option.getD_some]
    have HAT : Hid (∀ W : World,Calls Tryz.prog 109 #[.string (bs v)] W fun e w' => e=.returned (.tuple #[.int .i64 m,.nilIface])∧Below W.heap.size W w'):=Lib.hid (fun W =>
      (Tryz.strconv_Atoi (bs v) m (by rw [bs_size];omega) (by rw [bs_data];exact hm) W).mono fun e w' ⟨h1,t,h2⟩ => ⟨h1,by rw [h2];exact Lib.bytesWorld_below _ _ _⟩)
    clear hf hA hm
    go_enter Tryz.func108,Tryz.ntmps108
    go_wp2_with fail
    refine HF.out.mono ?_
    rintro e w1 ⟨rfl,b1⟩
    go_wp2_with fail
    refine (HAT.out _).mono ?_
    rintro e w2 ⟨rfl,b2⟩
    go_wp2_with fail
    go_ret
    exact ⟨rfl,b1.trans (b2.mono b1.size)⟩
theorem unpack_start (w : World) (hc : Array Value) (lv : Value) : Blk (((w.alloc (.cells hc 107)).alloc (.cells #[lv] 108)).alloc (.cells #[(.string ⟨#[]⟩),(.int .i64 0),(.string ⟨#[]⟩),(.int .i64 0),(.int .i64 0),(.int .i64 0),(.string ⟨#[]⟩),(.string ⟨#[]⟩),(.int .i64 0),(.int .i64 0),(.slice none 0 0)] 58)) w.heap.size 107 hc∧Blk (((w.alloc (.cells hc 107)).alloc (.cells #[lv] 108)).alloc (.cells #[(.string ⟨#[]⟩),(.int .i64 0),(.string ⟨#[]⟩),(.int .i64 0),(.int .i64 0),(.int .i64 0),(.string ⟨#[]⟩),(.string ⟨#[]⟩),(.int .i64 0),(.int .i64 0),(.slice none 0 0)] 58)) (w.heap.size + 1) 108 #[lv]∧Blk (((w.alloc (.cells hc 107)).alloc (.cells #[lv] 108)).alloc (.cells #[(.string ⟨#[]⟩),(.int .i64 0),(.string ⟨#[]⟩),(.int .i64 0),(.int .i64 0),(.int .i64 0),(.string ⟨#[]⟩),(.string ⟨#[]⟩),(.int .i64 0),(.int .i64 0),(.slice none 0 0)] 58)) (w.heap.size + 2) 58 #[(.string ⟨#[]⟩),(.int .i64 0),(.string ⟨#[]⟩),(.int .i64 0),(.int .i64 0),(.int .i64 0),(.string ⟨#[]⟩),(.string ⟨#[]⟩),(.int .i64 0),(.int .i64 0),(.slice none 0 0)]∧Below w.heap.size w (((w.alloc (.cells hc 107)).alloc (.cells #[lv] 108)).alloc (.cells #[(.string ⟨#[]⟩),(.int .i64 0),(.string ⟨#[]⟩),(.int .i64 0),(.int .i64 0),(.int .i64 0),(.string ⟨#[]⟩),(.string ⟨#[]⟩),(.int .i64 0),(.int .i64 0),(.slice none 0 0)] 58))∧(((w.alloc (.cells hc 107)).alloc (.cells #[lv] 108)).alloc (.cells #[(.string ⟨#[]⟩),(.int .i64 0),(.string ⟨#[]⟩),(.int .i64 0),(.int .i64 0),(.int .i64 0),(.string ⟨#[]⟩),(.string ⟨#[]⟩),(.int .i64 0),(.int .i64 0),(.slice none 0 0)] 58)).heap.size=w.heap.size + 3:=by
  refine ⟨((Blk.new w _ _).alloc _).alloc _,?_,?_,(((Below.refl _ _).alloc (Nat.le_refl _) _).alloc (by simp) _).alloc (by simp;omega) _,by simp⟩
  · have h:=(Blk.new (w.alloc (.cells hc 107)) 108 #[lv]).alloc (.cells #[(.string ⟨#[]⟩),(.int .i64 0),(.string ⟨#[]⟩),(.int .i64 0),(.int .i64 0),(.int .i64 0),(.string ⟨#[]⟩),(.string ⟨#[]⟩),(.int .i64 0),(.int .i64 0),(.slice none 0 0)] 58)
    simpa using h
  · have h:=Blk.new ((w.alloc (.cells hc 107)).alloc (.cells #[lv] 108)) 58 #[(.string ⟨#[]⟩),(.int .i64 0),(.string ⟨#[]⟩),(.int .i64 0),(.int .i64 0),(.int .i64 0),(.string ⟨#[]⟩),(.string ⟨#[]⟩),(.int .i64 0),(.int .i64 0),(.slice none 0 0)]
    simpa using h
def UpSt (w0 : World) (g9 : Nat) (hc ls ms : Array Value) (W : World) : Prop:=Below w0.heap.size w0 W∧Blk W w0.heap.size 107 hc∧Blk W (w0.heap.size + 1) 108 ls∧Blk W g9 26 ms∧HasBlk W (w0.heap.size + 2) 58 11∧w0.heap.size + 2 < g9
theorem UpSt.below {w0 W W' : World} {g9 : Nat} {hc ls ms : Array Value} (h : UpSt w0 g9 hc ls ms W) (hb : Below W.heap.size W W') : UpSt w0 g9 hc ls ms W' :=
  ⟨h.1.trans (hb.mono h.1.size),h.2.1.below hb h.2.1.lt,h.2.2.1.below hb h.2.2.1.lt,h.2.2.2.1.below hb h.2.2.2.1.lt,h.2.2.2.2.1.below hb,h.2.2.2.2.2⟩
theorem UpSt.fill {w0 W : World} {g9 : Nat} {hc ls ms : Array Value} (h : UpSt w0 g9 hc ls ms W) (vs : List Value) : UpSt w0 g9 hc ls ms (setAll W (w0.heap.size + 2) 0 vs) :=
  ⟨Below.setAll (by omega) vs 0 h.1,Blk.far_setAll (by omega) vs 0 h.2.1,Blk.far_setAll (by omega) vs 0 h.2.2.1,Blk.far_setAll (by have:=h.2.2.2.2.2;omega) vs 0 h.2.2.2.1,h.2.2.2.2.1.setAll vs 0,h.2.2.2.2.2⟩
set_option maxRecDepth 100000 in
set_option maxHeartbeats 8000000 in
theorem Unpack_any (h : PHead) (lv : Value) (l : List RecS) (A : Option Addr) (n c : Nat) (w : World) (hm : ML w) (h10 : P10 w) (hl : RecsAt w lv l) (hn : l.length≤100) (hv : ∀ r∈l,r.value.length≤1000) (hp : h.pre.length≤1000) (hnm : h.name.length≤1000)
    (hU : ∀ v,findK l uidK=some v→v.length≤18∧∃ m,Lib.atoi v=some m) (hG : ∀ v,findK l gidK=some v→v.length≤18∧∃ m,Lib.atoi v=some m) :
    Calls Tryz.prog 54 #[headV h,lv,.slice A n c] w fun e w' => e=.returned (.agg (entC (unpackP h l []) (.slice A n c)).toArray)∧Below w.heap.size w w':=by
  have hmv : ∀ v,findK l mtimeK=some v→v.length≤1000:=fun v hf => by
    unfold findK at hf
    obtain ⟨r,hr,rfl⟩:=Option.map_eq_some_iff.1 hf
    exact hv r (List.mem_of_find?_eq_some hr)
  have HMT:=Lib.hid (fun W (hb : Below w.heap.size w W) => PxFind_any lv l mtimeK W (hl.below hb) hn)
  have HSY:=Lib.hid (fun W g key s (hb : Below w.heap.size w W) (hc : W.cell? ⟨g,0,none⟩=some lv) => Say_any g lv l key s W hc (hl.below hb) hn)
  have HNU:=Lib.hid (fun W g n (hb : Below w.heap.size w W) (hc : W.cell? ⟨g,0,none⟩=some lv) => Num_any g lv l uidK n W hc (hl.below hb) hn hU)
  have HNG:=Lib.hid (fun W g n (hb : Below w.heap.size w W) (hc : W.cell? ⟨g,0,none⟩=some lv) => Num_any g lv l gidK n W hc (hl.below hb) hn hG)
  have HON:=Lib.hid (fun W => One_any h.pre h.name (by omega) (by omega) W)
  have HPA:=Lib.hid (fun v (hf : findK l mtimeK=some v) W (hb : Below w.heap.size w W) => Parse_any v (by have:=hmv v hf;omega) W (hm.below hb) (h10.below hb))
  clear hm h10 hv hp hnm hU hG hmv hn
  obtain ⟨E,hE⟩ : ∃ E,E=entC (unpackP h l []) (.slice A n c):=⟨_,rfl⟩
  rw [← hE]
  have HEE : Hid (E=[.string (bs ((findK l pathK).getD (oneS h.pre h.name).1)),.int .i64 (kindT h.type),.string (bs ((findK l linkK).getD h.link)),.int .i64 h.mode,.int .i64 (numU l uidK h.uid),.int .i64 (numU l gidK h.gid),.string (bs ((findK l unameK).getD h.user)),.string (bs ((findK l gnameK).getD h.group)),
      .int .i64 (match findK l mtimeK with | some v => (parseT v).1 | none => h.time),.int .i64 (match findK l mtimeK with | some v => (parseT v).2.1 | none => 0),.slice A n c]):=Lib.hid hE
  clear hE
  obtain ⟨Al,cl,rfl,-⟩:=hl
  obtain ⟨nm,pr,lk,md,ui,gi,sz,tm,ty,us,gr⟩:=h
  simp only at HON HEE
  obtain ⟨u0,hu0⟩ : ∃ u0,u0=numU l uidK ui:=⟨_,rfl⟩
  obtain ⟨u1,hu1⟩ : ∃ u1,u1=numU l gidK gi:=⟨_,rfl⟩
  have HNU:=Lib.hid (fun W g hb hc => HNU.out W g ui hb hc)
  have HNG:=Lib.hid (fun W g hb hc => HNG.out W g gi hb hc)
  rw [← hu0] at HNU HEE
  rw [← hu1] at HNG HEE
  clear hu0 hu1
  have HSU:=Lib.hid (fun W g hb hc => HSY.out W g unameK us hb hc)
  have HSG:=Lib.hid (fun W g hb hc => HSY.out W g gnameK gr hb hc)
  have HSL:=Lib.hid (fun W g hb hc => HSY.out W g linkK lk hb hc)
  have HSP:=Lib.hid (fun W g hb hc => HSY.out W g pathK (oneS pr nm).1 hb hc)
  generalize (findK l unameK).getD us=us' at *
  generalize (findK l gnameK).getD gr=gr' at *
  generalize (findK l linkK).getD lk=lk' at *
  generalize (findK l pathK).getD (oneS pr nm).1=pa' at *
  clear HSY
  unfold headV headCells
  simp only
  obtain ⟨W0,hW0⟩ : ∃ W0,W0=(((w.alloc (.cells #[(.string (bs nm)),(.string (bs pr)),(.string (bs lk)),(.int .i64 md),(.int .i64 ui),(.int .i64 gi),(.int .i64 sz),(.int .i64 tm),(.int .u8 ty.toNat),(.string (bs us)),(.string (bs gr))] 107)).alloc (.cells #[.slice Al l.length cl] 108)).alloc (.cells #[(.string ⟨#[]⟩),(.int .i64 0),(.string ⟨#[]⟩),(.int .i64 0),(.int .i64 0),(.int .i64 0),(.string ⟨#[]⟩),(.string ⟨#[]⟩),(.int .i64 0),(.int .i64 0),(.slice none 0 0)] 58)):=⟨_,rfl⟩
  have hS:=unpack_start w #[(.string (bs nm)),(.string (bs pr)),(.string (bs lk)),(.int .i64 md),(.int .i64 ui),(.int .i64 gi),(.int .i64 sz),(.int .i64 tm),(.int .u8 ty.toNat),(.string (bs us)),(.string (bs gr))] (.slice Al l.length cl)
  rw [← hW0] at hS
  obtain ⟨k3,k4,k6,hb0,hz0⟩:=hS
  have HB0:=Lib.hid hb0
  have HZ0:=Lib.hid hz0
  have HK3:=Lib.hid k3
  have HK4:=Lib.hid k4
  have HK6:=Lib.hid k6
  have HC4 : Hid (∀ W,Below W0.heap.size W0 W→W.cell? ⟨w.heap.size + 1,0,none⟩=some (.slice Al l.length cl)):=Lib.hid (fun W hb => (HK4.out.below hb HK4.out.lt).cell 0)
  have HBW : Hid (∀ W,Below W0.heap.size W0 W→Below w.heap.size w W):=Lib.hid (fun W hb => HB0.out.trans (hb.mono HB0.out.size))
  have HCC : Hid (∀ W W',Below W0.heap.size W0 W→Below W.heap.size W W'→Below W0.heap.size W0 W'):=Lib.hid (fun W W' h1 h2 => h1.trans (h2.mono h1.size))
  have HC3_0 : Hid (∀ W,Below W0.heap.size W0 W→W.cell? ⟨w.heap.size,0,none⟩=some (.string (bs nm))):=Lib.hid (fun W hb => (HK3.out.below hb HK3.out.lt).cell 0)
  have HC3_1 : Hid (∀ W,Below W0.heap.size W0 W→W.cell? ⟨w.heap.size,1,none⟩=some (.string (bs pr))):=Lib.hid (fun W hb => (HK3.out.below hb HK3.out.lt).cell 1)
  have HC3_2 : Hid (∀ W,Below W0.heap.size W0 W→W.cell? ⟨w.heap.size,2,none⟩=some (.string (bs lk))):=Lib.hid (fun W hb => (HK3.out.below hb HK3.out.lt).cell 2)
  have HC3_3 : Hid (∀ W,Below W0.heap.size W0 W→W.cell? ⟨w.heap.size,3,none⟩=some (.int .i64 md)):=Lib.hid (fun W hb => (HK3.out.below hb HK3.out.lt).cell 3)
  have HC3_4 : Hid (∀ W,Below W0.heap.size W0 W→W.cell? ⟨w.heap.size,4,none⟩=some (.int .i64 ui)):=Lib.hid (fun W hb => (HK3.out.below hb HK3.out.lt).cell 4)
  have HC3_5 : Hid (∀ W,Below W0.heap.size W0 W→W.cell? ⟨w.heap.size,5,none⟩=some (.int .i64 gi)):=Lib.hid (fun W hb => (HK3.out.below hb HK3.out.lt).cell 5)
  have HC3_6 : Hid (∀ W,Below W0.heap.size W0 W→W.cell? ⟨w.heap.size,6,none⟩=some (.int .i64 sz)):=Lib.hid (fun W hb => (HK3.out.below hb HK3.out.lt).cell 6)
  have HC3_7 : Hid (∀ W,Below W0.heap.size W0 W→W.cell? ⟨w.heap.size,7,none⟩=some (.int .i64 tm)):=Lib.hid (fun W hb => (HK3.out.below hb HK3.out.lt).cell 7)
  have HC3_8 : Hid (∀ W,Below W0.heap.size W0 W→W.cell? ⟨w.heap.size,8,none⟩=some (.int .u8 ty.toNat)):=Lib.hid (fun W hb => (HK3.out.below hb HK3.out.lt).cell 8)
  have HC3_9 : Hid (∀ W,Below W0.heap.size W0 W→W.cell? ⟨w.heap.size,9,none⟩=some (.string (bs us))):=Lib.hid (fun W hb => (HK3.out.below hb HK3.out.lt).cell 9)
  have HC3_10 : Hid (∀ W,Below W0.heap.size W0 W→W.cell? ⟨w.heap.size,10,none⟩=some (.string (bs gr))):=Lib.hid (fun W hb => (HK3.out.below hb HK3.out.lt).cell 10)
  clear k3 k4 k6 hb0 hz0
  have hu : uidK=[117,105,100]:=rfl
  unfold uidK gidK unameK gnameK linkK pathK mtimeK at *
  clear hu
  rw [show bs [117,105,100]=⟨#[117,105,100]⟩ from rfl] at HNU
  rw [show bs [103,105,100]=⟨#[103,105,100]⟩ from rfl] at HNG
  rw [show bs [117,110,97,109,101]=⟨#[117,110,97,109,101]⟩ from rfl] at HSU
  rw [show bs [103,110,97,109,101]=⟨#[103,110,97,109,101]⟩ from rfl] at HSG
  rw [show bs [108,105,110,107,112,97,116,104]=⟨#[108,105,110,107,112,97,116,104]⟩ from rfl] at HSL
  rw [show bs [112,97,116,104]=⟨#[112,97,116,104]⟩ from rfl] at HSP
  rw [show bs [109,116,105,109,101]=⟨#[109,116,105,109,101]⟩ from rfl] at HMT
  go_enter Tryz.func54,Tryz.ntmps54
  go_upto_region 1 with fail
  rw [← hW0]
  clear hW0
  go_upto_region 3 with fail
  refine wp_region_G (S:=fun W => Below W0.heap.size W0 W) (by kernel_rfl) (Below.refl _ _).drew ?_
  generalize W0.drew=Wd at *
  refine wpG_take (i:=0) (v:=?vu1) rfl (by kernel_rfl) (by kernel_rfl) (by kernel_rfl) (fun _ _ _ h => h) (Or.inl ⟨by rfl,?hyu1⟩) ?restu1
  case hyu1 => (intro W hSw;left;(try dsimp only at hSw);go_simp;try with_reducible rfl)
  simp only [Act.put,List.setIfInBounds_toArray,List.set_cons_zero,List.set_cons_succ,List.getElem_toArray,List.getElem_cons_zero,List.getElem_cons_succ]
  refine wpG_take (i:=1) (v:=?vu2) rfl (by kernel_rfl) (by kernel_rfl) (by kernel_rfl) (fun _ _ _ h => h) (Or.inl ⟨by rfl,?hyu2⟩) ?restu2
  case hyu2 => (intro W hSw;left;(try dsimp only at hSw);have cf3:=HC3_3.out _ hSw;go_simp;try with_reducible rfl)
  simp only [Act.put,List.setIfInBounds_toArray,List.set_cons_zero,List.set_cons_succ,List.getElem_toArray,List.getElem_cons_zero,List.getElem_cons_succ]
  refine wpG_take (i:=2) (v:=?vu3) rfl (by kernel_rfl) (by kernel_rfl) (by kernel_rfl) (fun _ _ _ h => h) (Or.inl ⟨by rfl,?hyu3⟩) ?restu3
  case hyu3 => (intro W hSw;left;(try dsimp only at hSw);go_simp;try with_reducible rfl)
  simp only [Act.put,List.setIfInBounds_toArray,List.set_cons_zero,List.set_cons_succ,List.getElem_toArray,List.getElem_cons_zero,List.getElem_cons_succ]
  refine wpG_take (i:=3) (v:=?vu4) rfl (by kernel_rfl) (by kernel_rfl) (by kernel_rfl) (fun _ _ _ h => h) (Or.inl ⟨by rfl,?hyu4⟩) ?restu4
  case hyu4 => (intro W hSw;left;(try dsimp only at hSw);go_simp;try with_reducible rfl)
  simp only [Act.put,List.setIfInBounds_toArray,List.set_cons_zero,List.set_cons_succ,List.getElem_toArray,List.getElem_cons_zero,List.getElem_cons_succ]
  refine wpG_take (i:=4) (v:=?vu5) rfl (by kernel_rfl) (by kernel_rfl) (by kernel_rfl) (fun _ _ _ h => h) (Or.inl ⟨by rfl,?hyu5⟩) ?restu5
  case hyu5 => (intro W hSw;left;(try dsimp only at hSw);have cf4:=HC3_4.out _ hSw;go_simp;try with_reducible rfl)
  simp only [Act.put,List.setIfInBounds_toArray,List.set_cons_zero,List.set_cons_succ,List.getElem_toArray,List.getElem_cons_zero,List.getElem_cons_succ]
  refine wpG_take (i:=5) (v:=(.int .i64 u0)) rfl (by kernel_rfl) (by kernel_rfl) (by kernel_rfl) (fun _ _ _ h => h) (Or.inl ⟨by rfl,?hyu6⟩) ?restu6
  case hyu6 => (intro W hSw;right;(try dsimp only at hSw);refine ⟨_,_,(by go_simp;try with_reducible rfl),(HNU.out W _ (HBW.out _ hSw) (HC4.out _ hSw)).mono ?_⟩;rintro e w' ⟨rfl,hb⟩;exact ⟨rfl,HCC.out _ _ hSw hb,hb⟩)
  simp only [Act.put,List.setIfInBounds_toArray,List.set_cons_zero,List.set_cons_succ,List.getElem_toArray,List.getElem_cons_zero,List.getElem_cons_succ]
  refine wpG_take (i:=6) (v:=?vu7) rfl (by kernel_rfl) (by kernel_rfl) (by kernel_rfl) (fun _ _ _ h => h) (Or.inl ⟨by rfl,?hyu7⟩) ?restu7
  case hyu7 => (intro W hSw;left;(try dsimp only at hSw);go_simp;try with_reducible rfl)
  simp only [Act.put,List.setIfInBounds_toArray,List.set_cons_zero,List.set_cons_succ,List.getElem_toArray,List.getElem_cons_zero,List.getElem_cons_succ]
  refine wpG_take (i:=7) (v:=?vu8) rfl (by kernel_rfl) (by kernel_rfl) (by kernel_rfl) (fun _ _ _ h => h) (Or.inl ⟨by rfl,?hyu8⟩) ?restu8
  case hyu8 => (intro W hSw;left;(try dsimp only at hSw);go_simp;try with_reducible rfl)
  simp only [Act.put,List.setIfInBounds_toArray,List.set_cons_zero,List.set_cons_succ,List.getElem_toArray,List.getElem_cons_zero,List.getElem_cons_succ]
  refine wpG_take (i:=8) (v:=?vu9) rfl (by kernel_rfl) (by kernel_rfl) (by kernel_rfl) (fun _ _ _ h => h) (Or.inl ⟨by rfl,?hyu9⟩) ?restu9
  case hyu9 => (intro W hSw;left;(try dsimp only at hSw);have cf5:=HC3_5.out _ hSw;go_simp;try with_reducible rfl)
  simp only [Act.put,List.setIfInBounds_toArray,List.set_cons_zero,List.set_cons_succ,List.getElem_toArray,List.getElem_cons_zero,List.getElem_cons_succ]
  refine wpG_take (i:=9) (v:=(.int .i64 u1)) rfl (by kernel_rfl) (by kernel_rfl) (by kernel_rfl) (fun _ _ _ h => h) (Or.inl ⟨by rfl,?hyu10⟩) ?restu10
  case hyu10 => (intro W hSw;right;(try dsimp only at hSw);refine ⟨_,_,(by go_simp;try with_reducible rfl),(HNG.out W _ (HBW.out _ hSw) (HC4.out _ hSw)).mono ?_⟩;rintro e w' ⟨rfl,hb⟩;exact ⟨rfl,HCC.out _ _ hSw hb,hb⟩)
  simp only [Act.put,List.setIfInBounds_toArray,List.set_cons_zero,List.set_cons_succ,List.getElem_toArray,List.getElem_cons_zero,List.getElem_cons_succ]
  refine wpG_take (i:=10) (v:=?vu11) rfl (by kernel_rfl) (by kernel_rfl) (by kernel_rfl) (fun _ _ _ h => h) (Or.inl ⟨by rfl,?hyu11⟩) ?restu11
  case hyu11 => (intro W hSw;left;(try dsimp only at hSw);go_simp;try with_reducible rfl)
  simp only [Act.put,List.setIfInBounds_toArray,List.set_cons_zero,List.set_cons_succ,List.getElem_toArray,List.getElem_cons_zero,List.getElem_cons_succ]
  refine wpG_take (i:=11) (v:=?vu12) rfl (by kernel_rfl) (by kernel_rfl) (by kernel_rfl) (fun _ _ _ h => h) (Or.inl ⟨by rfl,?hyu12⟩) ?restu12
  case hyu12 => (intro W hSw;left;(try dsimp only at hSw);go_simp;try with_reducible rfl)
  simp only [Act.put,List.setIfInBounds_toArray,List.set_cons_zero,List.set_cons_succ,List.getElem_toArray,List.getElem_cons_zero,List.getElem_cons_succ]
  refine wpG_take (i:=12) (v:=?vu13) rfl (by kernel_rfl) (by kernel_rfl) (by kernel_rfl) (fun _ _ _ h => h) (Or.inl ⟨by rfl,?hyu13⟩) ?restu13
  case hyu13 => (intro W hSw;left;(try dsimp only at hSw);have cf9:=HC3_9.out _ hSw;go_simp;try with_reducible rfl)
  simp only [Act.put,List.setIfInBounds_toArray,List.set_cons_zero,List.set_cons_succ,List.getElem_toArray,List.getElem_cons_zero,List.getElem_cons_succ]
  refine wpG_take (i:=13) (v:=(.string (bs us'))) rfl (by kernel_rfl) (by kernel_rfl) (by kernel_rfl) (fun _ _ _ h => h) (Or.inl ⟨by rfl,?hyu14⟩) ?restu14
  case hyu14 => (intro W hSw;right;(try dsimp only at hSw);refine ⟨_,_,(by go_simp;try with_reducible rfl),(HSU.out W _ (HBW.out _ hSw) (HC4.out _ hSw)).mono ?_⟩;rintro e w' ⟨rfl,hb⟩;exact ⟨rfl,HCC.out _ _ hSw hb,hb⟩)
  simp only [Act.put,List.setIfInBounds_toArray,List.set_cons_zero,List.set_cons_succ,List.getElem_toArray,List.getElem_cons_zero,List.getElem_cons_succ]
  refine wpG_take (i:=14) (v:=?vu15) rfl (by kernel_rfl) (by kernel_rfl) (by kernel_rfl) (fun _ _ _ h => h) (Or.inl ⟨by rfl,?hyu15⟩) ?restu15
  case hyu15 => (intro W hSw;left;(try dsimp only at hSw);go_simp;try with_reducible rfl)
  simp only [Act.put,List.setIfInBounds_toArray,List.set_cons_zero,List.set_cons_succ,List.getElem_toArray,List.getElem_cons_zero,List.getElem_cons_succ]
  refine wpG_take (i:=15) (v:=?vu16) rfl (by kernel_rfl) (by kernel_rfl) (by kernel_rfl) (fun _ _ _ h => h) (Or.inl ⟨by rfl,?hyu16⟩) ?restu16
  case hyu16 => (intro W hSw;left;(try dsimp only at hSw);go_simp;try with_reducible rfl)
  simp only [Act.put,List.setIfInBounds_toArray,List.set_cons_zero,List.set_cons_succ,List.getElem_toArray,List.getElem_cons_zero,List.getElem_cons_succ]
  refine wpG_take (i:=16) (v:=?vu17) rfl (by kernel_rfl) (by kernel_rfl) (by kernel_rfl) (fun _ _ _ h => h) (Or.inl ⟨by rfl,?hyu17⟩) ?restu17
  case hyu17 => (intro W hSw;left;(try dsimp only at hSw);have cf10:=HC3_10.out _ hSw;go_simp;try with_reducible rfl)
  simp only [Act.put,List.setIfInBounds_toArray,List.set_cons_zero,List.set_cons_succ,List.getElem_toArray,List.getElem_cons_zero,List.getElem_cons_succ]
  refine wpG_take (i:=17) (v:=(.string (bs gr'))) rfl (by kernel_rfl) (by kernel_rfl) (by kernel_rfl) (fun _ _ _ h => h) (Or.inl ⟨by rfl,?hyu18⟩) ?restu18
  case hyu18 => (intro W hSw;right;(try dsimp only at hSw);refine ⟨_,_,(by go_simp;try with_reducible rfl),(HSG.out W _ (HBW.out _ hSw) (HC4.out _ hSw)).mono ?_⟩;rintro e w' ⟨rfl,hb⟩;exact ⟨rfl,HCC.out _ _ hSw hb,hb⟩)
  simp only [Act.put,List.setIfInBounds_toArray,List.set_cons_zero,List.set_cons_succ,List.getElem_toArray,List.getElem_cons_zero,List.getElem_cons_succ]
  refine wpG_take (i:=18) (v:=?vu19) rfl (by kernel_rfl) (by kernel_rfl) (by kernel_rfl) (fun _ _ _ h => h) (Or.inl ⟨by rfl,?hyu19⟩) ?restu19
  case hyu19 => (intro W hSw;left;(try dsimp only at hSw);go_simp;try with_reducible rfl)
  simp only [Act.put,List.setIfInBounds_toArray,List.set_cons_zero,List.set_cons_succ,List.getElem_toArray,List.getElem_cons_zero,List.getElem_cons_succ]
  refine wpG_take (i:=19) (v:=?vu20) rfl (by kernel_rfl) (by kernel_rfl) (by kernel_rfl) (fun _ _ _ h => h) (Or.inl ⟨by rfl,?hyu20⟩) ?restu20
  case hyu20 => (intro W hSw;left;(try dsimp only at hSw);have cf7:=HC3_7.out _ hSw;go_simp;try with_reducible rfl)
  simp only [Act.put,List.setIfInBounds_toArray,List.set_cons_zero,List.set_cons_succ,List.getElem_toArray,List.getElem_cons_zero,List.getElem_cons_succ]
  refine wpG_take (i:=20) (v:=?vu21) rfl (by kernel_rfl) (by kernel_rfl) (by kernel_rfl) (fun _ _ _ h => h) (Or.inl ⟨by rfl,?hyu21⟩) ?restu21
  case hyu21 => (intro W hSw;left;(try dsimp only at hSw);go_simp;try with_reducible rfl)
  simp only [Act.put,List.setIfInBounds_toArray,List.set_cons_zero,List.set_cons_succ,List.getElem_toArray,List.getElem_cons_zero,List.getElem_cons_succ]
  refine wpG_one (i:=21) (by kernel_rfl) rfl (fun Wa hb hS K hK => ?_)
  go_simp
  try go_wp2_with fail
  obtain ⟨Wm,hWm⟩ : ∃ Wm,Wm=Wa.alloc (.cells #[(.int .i64 0),(.int .i64 0),(.int .i64 0),(.string ⟨#[]⟩),(.string ⟨#[]⟩),(.int .i64 0),(.int .i64 0)] 26):=⟨_,rfl⟩
  obtain ⟨g9,hg9⟩ : ∃ g9,g9=Wa.heap.size:=⟨_,rfl⟩
  have hM : HasBlk Wm g9 26 7:=by rw [hWm,hg9];exact ⟨_,rfl,Blk.new Wa _ _⟩
  have hSm : Below W0.heap.size W0 Wm:=by rw [hWm];exact hS.alloc hS.size _
  have hg : W0.heap.size≤g9:=by rw [hg9];exact hS.size
  rw [← hWm,← hg9]
  refine hK.out _ _ hSm ?_
  clear hK K hWm hg9 hS hb
  try simp only [Act.put,List.setIfInBounds_toArray,List.set_cons_zero,List.set_cons_succ,List.getElem_toArray,List.getElem_cons_zero,List.getElem_cons_succ]
  refine wpG_one (i:=22) (by kernel_rfl) rfl (fun Wb hb hS K hK => ?_)
  have hM:=hM.below hb
  have z0:=hM.peek_ (i:=0) (by omega);have f0:=hM.frozen 0
  have z1:=hM.peek_ (i:=1) (by omega);have f1:=hM.frozen 1
  have z2:=hM.peek_ (i:=2) (by omega);have f2:=hM.frozen 2
  have z3:=hM.peek_ (i:=3) (by omega);have f3:=hM.frozen 3
  have z4:=hM.peek_ (i:=4) (by omega);have f4:=hM.frozen 4
  have z5:=hM.peek_ (i:=5) (by omega);have f5:=hM.frozen 5
  have z6:=hM.peek_ (i:=6) (by omega);have f6:=hM.frozen 6
  go_simp
  try go_wp2_with fail
  clear z0 f0 z1 f1 z2 f2 z3 f3 z4 f4 z5 f5 z6 f6
  obtain ⟨Wf,hWf⟩ : ∃ Wf,Wf=setAll Wb g9 0 [(.int .i64 md),(.int .i64 u0),(.int .i64 u1),(.string (bs us')),(.string (bs gr')),(.int .i64 tm),(.int .i64 0)]:=⟨_,rfl⟩
  have hk:=hM.fill [(.int .i64 md),(.int .i64 u0),(.int .i64 u1),(.string (bs us')),(.string (bs gr')),(.int .i64 tm),(.int .i64 0)] rfl
  have hSf:=Below.setAll (B:=W0.heap.size) hg [(.int .i64 md),(.int .i64 u0),(.int .i64 u1),(.string (bs us')),(.string (bs gr')),(.int .i64 tm),(.int .i64 0)] 0 hS
  rw [← hWf] at hk hSf
  simp only [setAll,Nat.zero_add,Nat.reduceAdd] at hWf
  rw [← hWf]
  refine hK.out _ _ hSf ?_
  clear hK K hWf hM hSm hS hb hSf
  try simp only [Act.put,List.setIfInBounds_toArray,List.set_cons_zero,List.set_cons_succ,List.getElem_toArray,List.getElem_cons_zero,List.getElem_cons_succ]
  refine wpG_done (by kernel_rfl) (fun W3 hb hS => ?_) _
  have HK9:=Lib.hid (hk.below hb hk.lt)
  have HS3:=Lib.hid hS
  have HG:=Lib.hid hg
  clear hk hb hS hg HNU HNG HSU HSG
  have h4:=HC4.out _ HS3.out
  obtain ⟨wl,hwl⟩ : ∃ wl,wl=(oneS pr nm).1:=⟨_,rfl⟩
  obtain ⟨we,hwe⟩ : ∃ we,we=(oneS pr nm).2:=⟨_,rfl⟩
  rw [← hwl] at HSP HON
  rw [← hwe] at HON
  clear hwl hwe
  have hmm:=@run_makeMap Tryz.prog
  go_wp2_with fail
  refine (HMT.out _ (HBW.out _ HS3.out)).mono ?_
  rintro e w4 ⟨rfl,b4⟩
  have HS4:=Lib.hid (HCC.out _ _ HS3.out b4)
  have HKM4:=Lib.hid (HK9.out.below b4 HK9.out.lt)
  clear b4 h4 HS3 HK9 HMT
  cases hf : findK l mtimeK with
  | none =>
    rw [show mtimeK=[109,116,105,109,101] from rfl] at hf
    simp only [hf] at HEE
    simp only [hf,Option.getD_none,Option.isSome_none]
    have y0:=HC3_0.out _ HS4.out
    have y1:=HC3_1.out _ HS4.out
    go_wp2_with fail
    refine (HON.out _).mono ?_
    rintro e w5 ⟨rfl,b5⟩
    have HS5:=Lib.hid (HCC.out _ _ HS4.out b5)
    have HK5:=Lib.hid (HKM4.out.below b5 HKM4.out.lt)
    clear b5 y0 y1 HON
    obtain ⟨gm,hgm⟩ : ∃ gm,gm=w5.heap.size:=⟨_,rfl⟩
    have HM0 : Hid (BMap (w5.alloc (.map #[] 0)) gm []):=Lib.hid (by rw [hgm];exact BMap.new w5)
    have HG0 : Hid (Below w5.heap.size w5 (w5.alloc (.map #[] 0))):=Lib.hid ((Below.refl _ _).alloc (Nat.le_refl _) _)
    have HGM : Hid (w5.heap.size≤gm):=Lib.hid (by rw [hgm];exact Nat.le_refl _)
    go_upto_region 8 with fail
    go_upto_region 9 with ((try rw [← hgm]);(first | ((with_reducible refine wpList_put_bm _ rfl (.tmp 60) (.const (.int .u8 48)) (.const (.int .i64 1)) 196 rfl _ _ Tryz.underlying196 Tryz.underlying5 gm [] rfl HM0.out 48 (.int .i64 1) rfl rfl ?_);intro wm1 hMq hgq;have HM1:=Lib.hid hMq;have HG1:=Lib.hid (HG0.out.grown hgq HG0.out.size (fun k hk => by cases hk;exact HGM.out));clear hMq hgq) | ((with_reducible refine wpList_put_bm _ rfl (.tmp 60) (.const (.int .u8 53)) (.const (.int .i64 2)) 196 rfl _ _ Tryz.underlying196 Tryz.underlying5 gm (mapPut [] 48 (.int .i64 1)) rfl HM1.out 53 (.int .i64 2) rfl rfl ?_);intro wm2 hMq hgq;have HM2:=Lib.hid hMq;have HG2:=Lib.hid (HG1.out.grown hgq HG1.out.size (fun k hk => by cases hk;exact HGM.out));clear hMq hgq) | ((with_reducible refine wpList_put_bm _ rfl (.tmp 60) (.const (.int .u8 50)) (.const (.int .i64 3)) 196 rfl _ _ Tryz.underlying196 Tryz.underlying5 gm (mapPut (mapPut [] 48 (.int .i64 1)) 53 (.int .i64 2)) rfl HM2.out 50 (.int .i64 3) rfl rfl ?_);intro wm3 hMq hgq;have HM3:=Lib.hid hMq;have HG3:=Lib.hid (HG2.out.grown hgq HG2.out.size (fun k hk => by cases hk;exact HGM.out));clear hMq hgq) | ((with_reducible refine wpList_put_bm _ rfl (.tmp 60) (.const (.int .u8 49)) (.const (.int .i64 4)) 196 rfl _ _ Tryz.underlying196 Tryz.underlying5 gm (mapPut (mapPut (mapPut [] 48 (.int .i64 1)) 53 (.int .i64 2)) 50 (.int .i64 3)) rfl HM3.out 49 (.int .i64 4) rfl rfl ?_);intro wm4 hMq hgq;have HM4:=Lib.hid hMq;have HG4:=Lib.hid (HG3.out.grown hgq HG3.out.size (fun k hk => by cases hk;exact HGM.out));clear hMq hgq;have HSq:=Lib.hid (HCC.out _ _ HS5.out HG4.out);have y8:=HC3_8.out _ HSq.out;have HM5 : Hid (BMap wm4 gm kindM):=Lib.hid HM4.out) | ((with_reducible refine wpList_get_bm _ rfl (.tmp 61) (.tmp 63) 196 rfl _ _ Tryz.underlying196 Tryz.underlying5 (.int .i64 0) (zeroI_ _) gm kindM rfl HM5.out (ty.toNat : Int) rfl ?_);rw [kindM_get])))
    have HK9:=Lib.hid (HK5.out.below HG4.out HK5.out.lt)
    have HSQ:=Lib.hid HSq.out
    clear HM0 HM1 HM2 HM3 HM4 HM5 HG0 HG1 HG2 HG3 HG4 HGM HSq HS5 HK5 y8 hgm
    have HU9 : Hid (UpSt w g9 #[(.string (bs nm)),(.string (bs pr)),(.string (bs lk)),(.int .i64 md),(.int .i64 ui),(.int .i64 gi),(.int .i64 sz),(.int .i64 tm),(.int .u8 ty.toNat),(.string (bs us)),(.string (bs gr))] #[.slice Al l.length cl] #[(.int .i64 md),(.int .i64 u0),(.int .i64 u1),(.string (bs us')),(.string (bs gr')),(.int .i64 tm),(.int .i64 0)] wm4):=Lib.hid ⟨HBW.out _ HSQ.out,HK3.out.below HSQ.out HK3.out.lt,HK4.out.below HSQ.out HK4.out.lt,HK9.out,⟨_,rfl,HK6.out.below HSQ.out HK6.out.lt⟩,by have:=HG.out;have:=HZ0.out;omega⟩
    have HC9 : Hid (∀ W W',UpSt w g9 #[(.string (bs nm)),(.string (bs pr)),(.string (bs lk)),(.int .i64 md),(.int .i64 ui),(.int .i64 gi),(.int .i64 sz),(.int .i64 tm),(.int .u8 ty.toNat),(.string (bs us)),(.string (bs gr))] #[.slice Al l.length cl] #[(.int .i64 md),(.int .i64 u0),(.int .i64 u1),(.string (bs us')),(.string (bs gr')),(.int .i64 tm),(.int .i64 0)] W→Below W.heap.size W W'→UpSt w g9 #[(.string (bs nm)),(.string (bs pr)),(.string (bs lk)),(.int .i64 md),(.int .i64 ui),(.int .i64 gi),(.int .i64 sz),(.int .i64 tm),(.int .u8 ty.toNat),(.string (bs us)),(.string (bs gr))] #[.slice Al l.length cl] #[(.int .i64 md),(.int .i64 u0),(.int .i64 u1),(.string (bs us')),(.string (bs gr')),(.int .i64 tm),(.int .i64 0)] W'):=Lib.hid (fun W W' h hb => h.below hb)
    clear HK9 HSQ
    refine wp_region_G (S:=UpSt w g9 #[(.string (bs nm)),(.string (bs pr)),(.string (bs lk)),(.int .i64 md),(.int .i64 ui),(.int .i64 gi),(.int .i64 sz),(.int .i64 tm),(.int .u8 ty.toNat),(.string (bs us)),(.string (bs gr))] #[.slice Al l.length cl] #[(.int .i64 md),(.int .i64 u0),(.int .i64 u1),(.string (bs us')),(.string (bs gr')),(.int .i64 tm),(.int .i64 0)]) (by kernel_rfl) (HC9.out _ _ HU9.out (Below.refl _ _).drew) ?_
    refine wpG_take (i:=0) (v:=?vrn1) rfl (by kernel_rfl) (by kernel_rfl) (by kernel_rfl) (fun _ _ _ h => h) (Or.inl ⟨by rfl,?hyrn1⟩) ?restrn1
    case hyrn1 => (intro W hSw;left;(try dsimp only at hSw);go_simp;try with_reducible rfl)
    simp only [Act.put,List.setIfInBounds_toArray,List.set_cons_zero,List.set_cons_succ,List.getElem_toArray,List.getElem_cons_zero,List.getElem_cons_succ]
    refine wpG_take (i:=1) (v:=?vrn2) rfl (by kernel_rfl) (by kernel_rfl) (by kernel_rfl) (fun _ _ _ h => h) (Or.inl ⟨by rfl,?hyrn2⟩) ?restrn2
    case hyrn2 => (intro W hSw;left;(try dsimp only at hSw);go_simp;try with_reducible rfl)
    simp only [Act.put,List.setIfInBounds_toArray,List.set_cons_zero,List.set_cons_succ,List.getElem_toArray,List.getElem_cons_zero,List.getElem_cons_succ]
    refine wpG_take (i:=2) (v:=(.string (bs pa'))) rfl (by kernel_rfl) (by kernel_rfl) (by kernel_rfl) (fun _ _ _ h => h) (Or.inl ⟨by rfl,?hyrn3⟩) ?restrn3
    case hyrn3 => (intro W hSw;right;(try dsimp only at hSw);refine ⟨_,_,(by go_simp;try with_reducible rfl),(HSP.out W _ hSw.1 (hSw.2.2.1.cell 0)).mono ?_⟩;rintro e w' ⟨rfl,hb⟩;exact ⟨rfl,HC9.out _ _ hSw hb,hb⟩)
    simp only [Act.put,List.setIfInBounds_toArray,List.set_cons_zero,List.set_cons_succ,List.getElem_toArray,List.getElem_cons_zero,List.getElem_cons_succ]
    refine wpG_take (i:=3) (v:=?vrn4) rfl (by kernel_rfl) (by kernel_rfl) (by kernel_rfl) (fun _ _ _ h => h) (Or.inl ⟨by rfl,?hyrn4⟩) ?restrn4
    case hyrn4 => (intro W hSw;left;(try dsimp only at hSw);go_simp;try with_reducible rfl)
    simp only [Act.put,List.setIfInBounds_toArray,List.set_cons_zero,List.set_cons_succ,List.getElem_toArray,List.getElem_cons_zero,List.getElem_cons_succ]
    refine wpG_take (i:=4) (v:=?vrn5) rfl (by kernel_rfl) (by kernel_rfl) (by kernel_rfl) (fun _ _ _ h => h) (Or.inl ⟨by rfl,?hyrn5⟩) ?restrn5
    case hyrn5 => (intro W hSw;left;(try dsimp only at hSw);go_simp;try with_reducible rfl)
    simp only [Act.put,List.setIfInBounds_toArray,List.set_cons_zero,List.set_cons_succ,List.getElem_toArray,List.getElem_cons_zero,List.getElem_cons_succ]
    refine wpG_take (i:=5) (v:=?vrn6) rfl (by kernel_rfl) (by kernel_rfl) (by kernel_rfl) (fun _ _ _ h => h) (Or.inl ⟨by rfl,?hyrn6⟩) ?restrn6
    case hyrn6 => (intro W hSw;left;(try dsimp only at hSw);go_simp;try with_reducible rfl)
    simp only [Act.put,List.setIfInBounds_toArray,List.set_cons_zero,List.set_cons_succ,List.getElem_toArray,List.getElem_cons_zero,List.getElem_cons_succ]
    refine wpG_take (i:=6) (v:=?vrn7) rfl (by kernel_rfl) (by kernel_rfl) (by kernel_rfl) (fun _ _ _ h => h) (Or.inl ⟨by rfl,?hyrn7⟩) ?restrn7
    case hyrn7 => (intro W hSw;left;(try dsimp only at hSw);have cf2 : W.cell? ⟨w.heap.size,2,none⟩=some (.string (bs lk)):=hSw.2.1.cell 2;go_simp;try with_reducible rfl)
    simp only [Act.put,List.setIfInBounds_toArray,List.set_cons_zero,List.set_cons_succ,List.getElem_toArray,List.getElem_cons_zero,List.getElem_cons_succ]
    refine wpG_take (i:=7) (v:=(.string (bs lk'))) rfl (by kernel_rfl) (by kernel_rfl) (by kernel_rfl) (fun _ _ _ h => h) (Or.inl ⟨by rfl,?hyrn8⟩) ?restrn8
    case hyrn8 => (intro W hSw;right;(try dsimp only at hSw);refine ⟨_,_,(by go_simp;try with_reducible rfl),(HSL.out W _ hSw.1 (hSw.2.2.1.cell 0)).mono ?_⟩;rintro e w' ⟨rfl,hb⟩;exact ⟨rfl,HC9.out _ _ hSw hb,hb⟩)
    simp only [Act.put,List.setIfInBounds_toArray,List.set_cons_zero,List.set_cons_succ,List.getElem_toArray,List.getElem_cons_zero,List.getElem_cons_succ]
    refine wpG_take (i:=8) (v:=?vrn9) rfl (by kernel_rfl) (by kernel_rfl) (by kernel_rfl) (fun _ _ _ h => h) (Or.inl ⟨by rfl,?hyrn9⟩) ?restrn9
    case hyrn9 => (intro W hSw;left;(try dsimp only at hSw);have cm0 : W.cell? ⟨g9,0,none⟩=some (.int .i64 md):=hSw.2.2.2.1.cell 0;have cm1 : W.cell? ⟨g9,1,none⟩=some (.int .i64 u0):=hSw.2.2.2.1.cell 1;have cm2 : W.cell? ⟨g9,2,none⟩=some (.int .i64 u1):=hSw.2.2.2.1.cell 2;have cm3 : W.cell? ⟨g9,3,none⟩=some (.string (bs us')):=hSw.2.2.2.1.cell 3;have cm4 : W.cell? ⟨g9,4,none⟩=some (.string (bs gr')):=hSw.2.2.2.1.cell 4;have cm5 : W.cell? ⟨g9,5,none⟩=some (.int .i64 tm):=hSw.2.2.2.1.cell 5;have cm6 : W.cell? ⟨g9,6,none⟩=some (.int .i64 0):=hSw.2.2.2.1.cell 6;go_simp;try with_reducible rfl)
    simp only [Act.put,List.setIfInBounds_toArray,List.set_cons_zero,List.set_cons_succ,List.getElem_toArray,List.getElem_cons_zero,List.getElem_cons_succ]
    refine wpG_take (i:=9) (v:=?vrn10) rfl (by kernel_rfl) (by kernel_rfl) (by kernel_rfl) (fun _ _ _ h => h) (Or.inl ⟨by rfl,?hyrn10⟩) ?restrn10
    case hyrn10 => (intro W hSw;left;(try dsimp only at hSw);go_simp;try with_reducible rfl)
    simp only [Act.put,List.setIfInBounds_toArray,List.set_cons_zero,List.set_cons_succ,List.getElem_toArray,List.getElem_cons_zero,List.getElem_cons_succ]
    refine wpG_take (i:=10) (v:=?vrn11) rfl (by kernel_rfl) (by kernel_rfl) (by kernel_rfl) (fun _ _ _ h => h) (Or.inl ⟨by rfl,?hyrn11⟩) ?restrn11
    case hyrn11 => (intro W hSw;left;(try dsimp only at hSw);go_simp;try with_reducible rfl)
    simp only [Act.put,List.setIfInBounds_toArray,List.set_cons_zero,List.set_cons_succ,List.getElem_toArray,List.getElem_cons_zero,List.getElem_cons_succ]
    refine wpG_one (i:=11) (by kernel_rfl) rfl (fun Wb hb hS K hK => ?_)
    have hHB : HasBlk Wb (w.heap.size + 1 + 1) 58 11:=hS.2.2.2.2.1
    have z0:=hHB.peek_ (i:=0) (by omega);have f0:=hHB.frozen 0
    have z1:=hHB.peek_ (i:=1) (by omega);have f1:=hHB.frozen 1
    have z2:=hHB.peek_ (i:=2) (by omega);have f2:=hHB.frozen 2
    have z3:=hHB.peek_ (i:=3) (by omega);have f3:=hHB.frozen 3
    have z4:=hHB.peek_ (i:=4) (by omega);have f4:=hHB.frozen 4
    have z5:=hHB.peek_ (i:=5) (by omega);have f5:=hHB.frozen 5
    have z6:=hHB.peek_ (i:=6) (by omega);have f6:=hHB.frozen 6
    have z7:=hHB.peek_ (i:=7) (by omega);have f7:=hHB.frozen 7
    have z8:=hHB.peek_ (i:=8) (by omega);have f8:=hHB.frozen 8
    have z9:=hHB.peek_ (i:=9) (by omega);have f9:=hHB.frozen 9
    have z10:=hHB.peek_ (i:=10) (by omega);have f10:=hHB.frozen 10
    go_simp
    try go_wp2_with fail
    clear z0 f0 z1 f1 z2 f2 z3 f3 z4 f4 z5 f5 z6 f6 z7 f7 z8 f8 z9 f9 z10 f10
    obtain ⟨WE,hWE⟩ : ∃ WE,WE=setAll Wb (w.heap.size + 1 + 1) 0 [(.string (bs pa')),(.int .i64 (kindT ty)),(.string (bs lk')),(.int .i64 md),(.int .i64 u0),(.int .i64 u1),(.string (bs us')),(.string (bs gr')),(.int .i64 tm),(.int .i64 0),(.slice A n c)]:=⟨_,rfl⟩
    have hk:=hHB.fill [(.string (bs pa')),(.int .i64 (kindT ty)),(.string (bs lk')),(.int .i64 md),(.int .i64 u0),(.int .i64 u1),(.string (bs us')),(.string (bs gr')),(.int .i64 tm),(.int .i64 0),(.slice A n c)] rfl
    have hSE:=hS.fill [(.string (bs pa')),(.int .i64 (kindT ty)),(.string (bs lk')),(.int .i64 md),(.int .i64 u0),(.int .i64 u1),(.string (bs us')),(.string (bs gr')),(.int .i64 tm),(.int .i64 0),(.slice A n c)]
    rw [← hWE] at hk
    replace hSE : UpSt w g9 #[(.string (bs nm)),(.string (bs pr)),(.string (bs lk)),(.int .i64 md),(.int .i64 ui),(.int .i64 gi),(.int .i64 sz),(.int .i64 tm),(.int .u8 ty.toNat),(.string (bs us)),(.string (bs gr))] #[.slice Al l.length cl] #[(.int .i64 md),(.int .i64 u0),(.int .i64 u1),(.string (bs us')),(.string (bs gr')),(.int .i64 tm),(.int .i64 0)] WE:=by rw [hWE];exact hSE
    simp only [setAll,Nat.zero_add,Nat.reduceAdd] at hWE
    rw [← hWE]
    refine hK.out _ _ hSE ?_
    clear hK K hWE hb hS hHB
    try simp only [Act.put,List.setIfInBounds_toArray,List.set_cons_zero,List.set_cons_succ,List.getElem_toArray,List.getElem_cons_zero,List.getElem_cons_succ]
    refine wpG_done (by kernel_rfl) (fun W9 hb hS => ?_) _
    have hk9:=hk.below hb hk.lt
    have HB9:=Lib.hid hS.1
    clear hk hSE hb hS
    go_wp2_with fail
    refine bodyPost_ret (results_cell_row rfl _ _ (w.heap.size + 1 + 1) 58 _ (0,0) _ rfl hk9 Tryz.underlying58 rfl (by kernel_rfl)) rfl ?_
    rw [HEE.out]
    exact ⟨rfl,HB9.out⟩
  | some tv =>
    have HPT:=Lib.hid (fun W hb => HPA.out tv hf W hb)
    rw [show mtimeK=[109,116,105,109,101] from rfl] at hf
    simp only [hf] at HEE
    simp only [hf,Option.getD_some,Option.isSome_some]
    unfold PR at HPT
    obtain ⟨s1,hs1⟩ : ∃ s1,s1=(parseT tv).1:=⟨_,rfl⟩
    obtain ⟨s2,hs2⟩ : ∃ s2,s2=(parseT tv).2.1:=⟨_,rfl⟩
    rw [← hs1] at HPT HEE
    rw [← hs2] at HPT HEE
    clear hs1 hs2 hf HPA
    go_wp2_with fail
    refine (HPT.out _ (HBW.out _ HS4.out)).mono ?_
    rintro e w6 ⟨rfl,b6⟩
    have HS6:=Lib.hid (HCC.out _ _ HS4.out b6)
    have hk6:=HKM4.out.below b6 HKM4.out.lt
    have m5:=hk6.cell 5;have n5:=hk6.frozen 5;have m6:=hk6.cell 6;have n6:=hk6.frozen 6
    obtain ⟨w7,hw7⟩ : ∃ w7,w7=(w6.setCell ⟨g9,5,none⟩ (.int .i64 s1)).setCell ⟨g9,6,none⟩ (.int .i64 s2):=⟨_,rfl⟩
    have hk7:=(hk6.set_ 5 (.int .i64 s1)).set_ 6 (.int .i64 s2)
    have hS7 : Below W0.heap.size W0 w7:=by rw [hw7];exact (HS6.out.setCell (p:=⟨g9,5,none⟩) HG.out _).setCell (p:=⟨g9,6,none⟩) HG.out _
    rw [← hw7] at hk7
    replace hk7 : Blk w7 g9 26 #[(.int .i64 md),(.int .i64 u0),(.int .i64 u1),(.string (bs us')),(.string (bs gr')),(.int .i64 s1),(.int .i64 s2)]:=hk7
    have HS7:=Lib.hid hS7
    have HKM7:=Lib.hid hk7
    clear b6 hk6 hk7 hS7 HS4 HKM4 HS6 HPT
    go_upto_region 7 with fail
    rw [← hw7]
    clear hw7 m5 n5 m6 n6
    have y0:=HC3_0.out _ HS7.out
    have y1:=HC3_1.out _ HS7.out
    go_wp2_with fail
    refine (HON.out _).mono ?_
    rintro e w5 ⟨rfl,b5⟩
    have HS5:=Lib.hid (HCC.out _ _ HS7.out b5)
    have HK5:=Lib.hid (HKM7.out.below b5 HKM7.out.lt)
    clear b5 y0 y1 HON
    obtain ⟨gm,hgm⟩ : ∃ gm,gm=w5.heap.size:=⟨_,rfl⟩
    have HM0 : Hid (BMap (w5.alloc (.map #[] 0)) gm []):=Lib.hid (by rw [hgm];exact BMap.new w5)
    have HG0 : Hid (Below w5.heap.size w5 (w5.alloc (.map #[] 0))):=Lib.hid ((Below.refl _ _).alloc (Nat.le_refl _) _)
    have HGM : Hid (w5.heap.size≤gm):=Lib.hid (by rw [hgm];exact Nat.le_refl _)
    go_upto_region 8 with fail
    go_upto_region 9 with ((try rw [← hgm]);(first | ((with_reducible refine wpList_put_bm _ rfl (.tmp 60) (.const (.int .u8 48)) (.const (.int .i64 1)) 196 rfl _ _ Tryz.underlying196 Tryz.underlying5 gm [] rfl HM0.out 48 (.int .i64 1) rfl rfl ?_);intro wm1 hMq hgq;have HM1:=Lib.hid hMq;have HG1:=Lib.hid (HG0.out.grown hgq HG0.out.size (fun k hk => by cases hk;exact HGM.out));clear hMq hgq) | ((with_reducible refine wpList_put_bm _ rfl (.tmp 60) (.const (.int .u8 53)) (.const (.int .i64 2)) 196 rfl _ _ Tryz.underlying196 Tryz.underlying5 gm (mapPut [] 48 (.int .i64 1)) rfl HM1.out 53 (.int .i64 2) rfl rfl ?_);intro wm2 hMq hgq;have HM2:=Lib.hid hMq;have HG2:=Lib.hid (HG1.out.grown hgq HG1.out.size (fun k hk => by cases hk;exact HGM.out));clear hMq hgq) | ((with_reducible refine wpList_put_bm _ rfl (.tmp 60) (.const (.int .u8 50)) (.const (.int .i64 3)) 196 rfl _ _ Tryz.underlying196 Tryz.underlying5 gm (mapPut (mapPut [] 48 (.int .i64 1)) 53 (.int .i64 2)) rfl HM2.out 50 (.int .i64 3) rfl rfl ?_);intro wm3 hMq hgq;have HM3:=Lib.hid hMq;have HG3:=Lib.hid (HG2.out.grown hgq HG2.out.size (fun k hk => by cases hk;exact HGM.out));clear hMq hgq) | ((with_reducible refine wpList_put_bm _ rfl (.tmp 60) (.const (.int .u8 49)) (.const (.int .i64 4)) 196 rfl _ _ Tryz.underlying196 Tryz.underlying5 gm (mapPut (mapPut (mapPut [] 48 (.int .i64 1)) 53 (.int .i64 2)) 50 (.int .i64 3)) rfl HM3.out 49 (.int .i64 4) rfl rfl ?_);intro wm4 hMq hgq;have HM4:=Lib.hid hMq;have HG4:=Lib.hid (HG3.out.grown hgq HG3.out.size (fun k hk => by cases hk;exact HGM.out));clear hMq hgq;have HSq:=Lib.hid (HCC.out _ _ HS5.out HG4.out);have y8:=HC3_8.out _ HSq.out;have HM5 : Hid (BMap wm4 gm kindM):=Lib.hid HM4.out) | ((with_reducible refine wpList_get_bm _ rfl (.tmp 61) (.tmp 63) 196 rfl _ _ Tryz.underlying196 Tryz.underlying5 (.int .i64 0) (zeroI_ _) gm kindM rfl HM5.out (ty.toNat : Int) rfl ?_);rw [kindM_get])))
    have HK9:=Lib.hid (HK5.out.below HG4.out HK5.out.lt)
    have HSQ:=Lib.hid HSq.out
    clear HM0 HM1 HM2 HM3 HM4 HM5 HG0 HG1 HG2 HG3 HG4 HGM HSq HS5 HK5 y8 hgm
    have HU9 : Hid (UpSt w g9 #[(.string (bs nm)),(.string (bs pr)),(.string (bs lk)),(.int .i64 md),(.int .i64 ui),(.int .i64 gi),(.int .i64 sz),(.int .i64 tm),(.int .u8 ty.toNat),(.string (bs us)),(.string (bs gr))] #[.slice Al l.length cl] #[(.int .i64 md),(.int .i64 u0),(.int .i64 u1),(.string (bs us')),(.string (bs gr')),(.int .i64 s1),(.int .i64 s2)] wm4):=Lib.hid ⟨HBW.out _ HSQ.out,HK3.out.below HSQ.out HK3.out.lt,HK4.out.below HSQ.out HK4.out.lt,HK9.out,⟨_,rfl,HK6.out.below HSQ.out HK6.out.lt⟩,by have:=HG.out;have:=HZ0.out;omega⟩
    have HC9 : Hid (∀ W W',UpSt w g9 #[(.string (bs nm)),(.string (bs pr)),(.string (bs lk)),(.int .i64 md),(.int .i64 ui),(.int .i64 gi),(.int .i64 sz),(.int .i64 tm),(.int .u8 ty.toNat),(.string (bs us)),(.string (bs gr))] #[.slice Al l.length cl] #[(.int .i64 md),(.int .i64 u0),(.int .i64 u1),(.string (bs us')),(.string (bs gr')),(.int .i64 s1),(.int .i64 s2)] W→Below W.heap.size W W'→UpSt w g9 #[(.string (bs nm)),(.string (bs pr)),(.string (bs lk)),(.int .i64 md),(.int .i64 ui),(.int .i64 gi),(.int .i64 sz),(.int .i64 tm),(.int .u8 ty.toNat),(.string (bs us)),(.string (bs gr))] #[.slice Al l.length cl] #[(.int .i64 md),(.int .i64 u0),(.int .i64 u1),(.string (bs us')),(.string (bs gr')),(.int .i64 s1),(.int .i64 s2)] W'):=Lib.hid (fun W W' h hb => h.below hb)
    clear HK9 HSQ
    refine wp_region_G (S:=UpSt w g9 #[(.string (bs nm)),(.string (bs pr)),(.string (bs lk)),(.int .i64 md),(.int .i64 ui),(.int .i64 gi),(.int .i64 sz),(.int .i64 tm),(.int .u8 ty.toNat),(.string (bs us)),(.string (bs gr))] #[.slice Al l.length cl] #[(.int .i64 md),(.int .i64 u0),(.int .i64 u1),(.string (bs us')),(.string (bs gr')),(.int .i64 s1),(.int .i64 s2)]) (by kernel_rfl) (HC9.out _ _ HU9.out (Below.refl _ _).drew) ?_
    refine wpG_take (i:=0) (v:=?vrs1) rfl (by kernel_rfl) (by kernel_rfl) (by kernel_rfl) (fun _ _ _ h => h) (Or.inl ⟨by rfl,?hyrs1⟩) ?restrs1
    case hyrs1 => (intro W hSw;left;(try dsimp only at hSw);go_simp;try with_reducible rfl)
    simp only [Act.put,List.setIfInBounds_toArray,List.set_cons_zero,List.set_cons_succ,List.getElem_toArray,List.getElem_cons_zero,List.getElem_cons_succ]
    refine wpG_take (i:=1) (v:=?vrs2) rfl (by kernel_rfl) (by kernel_rfl) (by kernel_rfl) (fun _ _ _ h => h) (Or.inl ⟨by rfl,?hyrs2⟩) ?restrs2
    case hyrs2 => (intro W hSw;left;(try dsimp only at hSw);go_simp;try with_reducible rfl)
    simp only [Act.put,List.setIfInBounds_toArray,List.set_cons_zero,List.set_cons_succ,List.getElem_toArray,List.getElem_cons_zero,List.getElem_cons_succ]
    refine wpG_take (i:=2) (v:=(.string (bs pa'))) rfl (by kernel_rfl) (by kernel_rfl) (by kernel_rfl) (fun _ _ _ h => h) (Or.inl ⟨by rfl,?hyrs3⟩) ?restrs3
    case hyrs3 => (intro W hSw;right;(try dsimp only at hSw);refine ⟨_,_,(by go_simp;try with_reducible rfl),(HSP.out W _ hSw.1 (hSw.2.2.1.cell 0)).mono ?_⟩;rintro e w' ⟨rfl,hb⟩;exact ⟨rfl,HC9.out _ _ hSw hb,hb⟩)
    simp only [Act.put,List.setIfInBounds_toArray,List.set_cons_zero,List.set_cons_succ,List.getElem_toArray,List.getElem_cons_zero,List.getElem_cons_succ]
    refine wpG_take (i:=3) (v:=?vrs4) rfl (by kernel_rfl) (by kernel_rfl) (by kernel_rfl) (fun _ _ _ h => h) (Or.inl ⟨by rfl,?hyrs4⟩) ?restrs4
    case hyrs4 => (intro W hSw;left;(try dsimp only at hSw);go_simp;try with_reducible rfl)
    simp only [Act.put,List.setIfInBounds_toArray,List.set_cons_zero,List.set_cons_succ,List.getElem_toArray,List.getElem_cons_zero,List.getElem_cons_succ]
    refine wpG_take (i:=4) (v:=?vrs5) rfl (by kernel_rfl) (by kernel_rfl) (by kernel_rfl) (fun _ _ _ h => h) (Or.inl ⟨by rfl,?hyrs5⟩) ?restrs5
    case hyrs5 => (intro W hSw;left;(try dsimp only at hSw);go_simp;try with_reducible rfl)
    simp only [Act.put,List.setIfInBounds_toArray,List.set_cons_zero,List.set_cons_succ,List.getElem_toArray,List.getElem_cons_zero,List.getElem_cons_succ]
    refine wpG_take (i:=5) (v:=?vrs6) rfl (by kernel_rfl) (by kernel_rfl) (by kernel_rfl) (fun _ _ _ h => h) (Or.inl ⟨by rfl,?hyrs6⟩) ?restrs6
    case hyrs6 => (intro W hSw;left;(try dsimp only at hSw);go_simp;try with_reducible rfl)
    simp only [Act.put,List.setIfInBounds_toArray,List.set_cons_zero,List.set_cons_succ,List.getElem_toArray,List.getElem_cons_zero,List.getElem_cons_succ]
    refine wpG_take (i:=6) (v:=?vrs7) rfl (by kernel_rfl) (by kernel_rfl) (by kernel_rfl) (fun _ _ _ h => h) (Or.inl ⟨by rfl,?hyrs7⟩) ?restrs7
    case hyrs7 => (intro W hSw;left;(try dsimp only at hSw);have cf2 : W.cell? ⟨w.heap.size,2,none⟩=some (.string (bs lk)):=hSw.2.1.cell 2;go_simp;try with_reducible rfl)
    simp only [Act.put,List.setIfInBounds_toArray,List.set_cons_zero,List.set_cons_succ,List.getElem_toArray,List.getElem_cons_zero,List.getElem_cons_succ]
    refine wpG_take (i:=7) (v:=(.string (bs lk'))) rfl (by kernel_rfl) (by kernel_rfl) (by kernel_rfl) (fun _ _ _ h => h) (Or.inl ⟨by rfl,?hyrs8⟩) ?restrs8
    case hyrs8 => (intro W hSw;right;(try dsimp only at hSw);refine ⟨_,_,(by go_simp;try with_reducible rfl),(HSL.out W _ hSw.1 (hSw.2.2.1.cell 0)).mono ?_⟩;rintro e w' ⟨rfl,hb⟩;exact ⟨rfl,HC9.out _ _ hSw hb,hb⟩)
    simp only [Act.put,List.setIfInBounds_toArray,List.set_cons_zero,List.set_cons_succ,List.getElem_toArray,List.getElem_cons_zero,List.getElem_cons_succ]
    refine wpG_take (i:=8) (v:=?vrs9) rfl (by kernel_rfl) (by kernel_rfl) (by kernel_rfl) (fun _ _ _ h => h) (Or.inl ⟨by rfl,?hyrs9⟩) ?restrs9
    case hyrs9 => (intro W hSw;left;(try dsimp only at hSw);have cm0 : W.cell? ⟨g9,0,none⟩=some (.int .i64 md):=hSw.2.2.2.1.cell 0;have cm1 : W.cell? ⟨g9,1,none⟩=some (.int .i64 u0):=hSw.2.2.2.1.cell 1;have cm2 : W.cell? ⟨g9,2,none⟩=some (.int .i64 u1):=hSw.2.2.2.1.cell 2;have cm3 : W.cell? ⟨g9,3,none⟩=some (.string (bs us')):=hSw.2.2.2.1.cell 3;have cm4 : W.cell? ⟨g9,4,none⟩=some (.string (bs gr')):=hSw.2.2.2.1.cell 4;have cm5 : W.cell? ⟨g9,5,none⟩=some (.int .i64 s1):=hSw.2.2.2.1.cell 5;have cm6 : W.cell? ⟨g9,6,none⟩=some (.int .i64 s2):=hSw.2.2.2.1.cell 6;go_simp;try with_reducible rfl)
    simp only [Act.put,List.setIfInBounds_toArray,List.set_cons_zero,List.set_cons_succ,List.getElem_toArray,List.getElem_cons_zero,List.getElem_cons_succ]
    refine wpG_take (i:=9) (v:=?vrs10) rfl (by kernel_rfl) (by kernel_rfl) (by kernel_rfl) (fun _ _ _ h => h) (Or.inl ⟨by rfl,?hyrs10⟩) ?restrs10
    case hyrs10 => (intro W hSw;left;(try dsimp only at hSw);go_simp;try with_reducible rfl)
    simp only [Act.put,List.setIfInBounds_toArray,List.set_cons_zero,List.set_cons_succ,List.getElem_toArray,List.getElem_cons_zero,List.getElem_cons_succ]
    refine wpG_take (i:=10) (v:=?vrs11) rfl (by kernel_rfl) (by kernel_rfl) (by kernel_rfl) (fun _ _ _ h => h) (Or.inl ⟨by rfl,?hyrs11⟩) ?restrs11
    case hyrs11 => (intro W hSw;left;(try dsimp only at hSw);go_simp;try with_reducible rfl)
    simp only [Act.put,List.setIfInBounds_toArray,List.set_cons_zero,List.set_cons_succ,List.getElem_toArray,List.getElem_cons_zero,List.getElem_cons_succ]
    refine wpG_one (i:=11) (by kernel_rfl) rfl (fun Wb hb hS K hK => ?_)
    have hHB : HasBlk Wb (w.heap.size + 1 + 1) 58 11:=hS.2.2.2.2.1
    have z0:=hHB.peek_ (i:=0) (by omega);have f0:=hHB.frozen 0
    have z1:=hHB.peek_ (i:=1) (by omega);have f1:=hHB.frozen 1
    have z2:=hHB.peek_ (i:=2) (by omega);have f2:=hHB.frozen 2
    have z3:=hHB.peek_ (i:=3) (by omega);have f3:=hHB.frozen 3
    have z4:=hHB.peek_ (i:=4) (by omega);have f4:=hHB.frozen 4
    have z5:=hHB.peek_ (i:=5) (by omega);have f5:=hHB.frozen 5
    have z6:=hHB.peek_ (i:=6) (by omega);have f6:=hHB.frozen 6
    have z7:=hHB.peek_ (i:=7) (by omega);have f7:=hHB.frozen 7
    have z8:=hHB.peek_ (i:=8) (by omega);have f8:=hHB.frozen 8
    have z9:=hHB.peek_ (i:=9) (by omega);have f9:=hHB.frozen 9
    have z10:=hHB.peek_ (i:=10) (by omega);have f10:=hHB.frozen 10
    go_simp
    try go_wp2_with fail
    clear z0 f0 z1 f1 z2 f2 z3 f3 z4 f4 z5 f5 z6 f6 z7 f7 z8 f8 z9 f9 z10 f10
    obtain ⟨WE,hWE⟩ : ∃ WE,WE=setAll Wb (w.heap.size + 1 + 1) 0 [(.string (bs pa')),(.int .i64 (kindT ty)),(.string (bs lk')),(.int .i64 md),(.int .i64 u0),(.int .i64 u1),(.string (bs us')),(.string (bs gr')),(.int .i64 s1),(.int .i64 s2),(.slice A n c)]:=⟨_,rfl⟩
    have hk:=hHB.fill [(.string (bs pa')),(.int .i64 (kindT ty)),(.string (bs lk')),(.int .i64 md),(.int .i64 u0),(.int .i64 u1),(.string (bs us')),(.string (bs gr')),(.int .i64 s1),(.int .i64 s2),(.slice A n c)] rfl
    have hSE:=hS.fill [(.string (bs pa')),(.int .i64 (kindT ty)),(.string (bs lk')),(.int .i64 md),(.int .i64 u0),(.int .i64 u1),(.string (bs us')),(.string (bs gr')),(.int .i64 s1),(.int .i64 s2),(.slice A n c)]
    rw [← hWE] at hk
    replace hSE : UpSt w g9 #[(.string (bs nm)),(.string (bs pr)),(.string (bs lk)),(.int .i64 md),(.int .i64 ui),(.int .i64 gi),(.int .i64 sz),(.int .i64 tm),(.int .u8 ty.toNat),(.string (bs us)),(.string (bs gr))] #[.slice Al l.length cl] #[(.int .i64 md),(.int .i64 u0),(.int .i64 u1),(.string (bs us')),(.string (bs gr')),(.int .i64 s1),(.int .i64 s2)] WE:=by rw [hWE];exact hSE
    simp only [setAll,Nat.zero_add,Nat.reduceAdd] at hWE
    rw [← hWE]
    refine hK.out _ _ hSE ?_
    clear hK K hWE hb hS hHB
    try simp only [Act.put,List.setIfInBounds_toArray,List.set_cons_zero,List.set_cons_succ,List.getElem_toArray,List.getElem_cons_zero,List.getElem_cons_succ]
    refine wpG_done (by kernel_rfl) (fun W9 hb hS => ?_) _
    have hk9:=hk.below hb hk.lt
    have HB9:=Lib.hid hS.1
    clear hk hSE hb hS
    go_wp2_with fail
    refine bodyPost_ret (results_cell_row rfl _ _ (w.heap.size + 1 + 1) 58 _ (0,0) _ rfl hk9 Tryz.underlying58 rfl (by kernel_rfl)) rfl ?_
    rw [HEE.out]
    exact ⟨rfl,HB9.out⟩
end
section
open Go.RowKit
theorem memB_first {x : EntP} (h : EntOk x) (m : List UInt8) : ∃ (H0 : PHead) (d0 r0 : List UInt8),HeadOk H0∧d0.length=H0.size∧H0.size≤5000∧memB x ++ m=headW H0 ++ (padB d0 ++ r0)∧r0.length≤100000 + m.length ∧
    ((((H0.type.toNat : Int) == 120)=false∧H0=packH x∧d0=x.data∧r0=m∧packR x=[])∨(((H0.type.toNat : Int) == 120)=true∧d0=paxT (packR x)∧packR x≠[]∧r0=headW (packH x) ++ (padB x.data ++ m))):=by
  have hd:=h.data.1
  have hl:=(memB_blocks h).2.2.2
  rcases memB_whole (x:=x) with ⟨hR,e⟩ | ⟨hR,e⟩
  · refine ⟨packH x,x.data,m,packH_ok h,rfl,by show x.data.length≤5000;omega,by rw [e,List.append_assoc],by omega,.inl ⟨?_,rfl,rfl,rfl,hR⟩⟩
    show (((typeK x.kind).toNat : Int) == 120)=false
    rcases h.kind with k | k | k | k <;> rw [k] <;> decide
  · have h1:=paxT_len (packR_ok h)
    have h2:=packR_len x
    have h3 : (packR x).length * 703≤7 * 703:=Nat.mul_le_mul_right _ h2
    refine ⟨paxH (paxT (packR x)).length,paxT (packR x),headW (packH x) ++ (padB x.data ++ m),paxH_ok _ (by omega),rfl,by show (paxT (packR x)).length≤5000;omega,by rw [e];simp only [List.append_assoc],?_,.inr ⟨by rfl,rfl,hR,rfl⟩⟩
    rw [e] at hl
    simp only [List.length_append] at hl ⊢
    omega
theorem atoi_pack {x : EntP} (h : EntOk x) : (∀ v,findK (packR x) uidK=some v→v.length≤18∧∃ m,Lib.atoi v=some m)∧(∀ v,findK (packR x) gidK=some v→v.length≤18∧∃ m,Lib.atoi v=some m):=by
  have key : ∀ (n : Nat),n≤1125899906842624→∀ v,v=Lib.decDigits n→v.length≤18∧∃ m,Lib.atoi v=some m:=fun n hn v e => by
    subst e
    exact ⟨by have:=dec_len50 hn;omega,_,atoi_dec n⟩
  obtain ⟨m3,m4⟩:=h.mt.uid
  obtain ⟨m5,m6⟩:=h.mt.gid
  constructor
  · intro v hv
    have q6 : findK (packR x) uidK=if bigN x.mt.uid=true then some (Lib.decDigits x.mt.uid.toNat) else none:=by
      unfold packR
      simp only [findK_say,findK_say1,and_true,show (gidK=uidK)=False from eq_false (by decide),show (gnameK=uidK)=False from eq_false (by decide),show (linkK=uidK)=False from eq_false (by decide),show (mtimeK=uidK)=False from eq_false (by decide),show (pathK=uidK)=False from eq_false (by decide),show (unameK=uidK)=False from eq_false (by decide),and_false,if_false]
    rw [q6] at hv
    split at hv
    · exact key _ (by omega) v (Option.some.inj hv).symm
    · cases hv
  · intro v hv
    have q1 : findK (packR x) gidK=if bigN x.mt.gid=true then some (Lib.decDigits x.mt.gid.toNat) else none:=by
      unfold packR
      simp only [findK_say,findK_say1,and_true,show (gnameK=gidK)=False from eq_false (by decide),show (linkK=gidK)=False from eq_false (by decide),show (mtimeK=gidK)=False from eq_false (by decide),show (pathK=gidK)=False from eq_false (by decide),show (uidK=gidK)=False from eq_false (by decide),show (unameK=gidK)=False from eq_false (by decide),and_false,if_false]
    rw [q1] at hv
    split at hv
    · exact key _ (by omega) v (Option.some.inj hv).symm
    · cases hv
def entZA : Array Value:=#[(.string ⟨#[]⟩),(.int .i64 0),(.string ⟨#[]⟩),(.int .i64 0),(.int .i64 0),(.int .i64 0),(.string ⟨#[]⟩),(.string ⟨#[]⟩),(.int .i64 0),(.int .i64 0),(.slice none 0 0)]
theorem entZ_blk (w : World) : Blk (w.alloc (.cells #[(.string ⟨#[]⟩),(.int .i64 0),(.string ⟨#[]⟩),(.int .i64 0),(.int .i64 0),(.int .i64 0),(.string ⟨#[]⟩),(.string ⟨#[]⟩),(.int .i64 0),(.int .i64 0),(.slice none 0 0)] 58)) w.heap.size 58 #[(.string ⟨#[]⟩),(.int .i64 0),(.string ⟨#[]⟩),(.int .i64 0),(.int .i64 0),(.int .i64 0),(.string ⟨#[]⟩),(.string ⟨#[]⟩),(.int .i64 0),(.int .i64 0),(.slice none 0 0)]∧Below w.heap.size w (w.alloc (.cells #[(.string ⟨#[]⟩),(.int .i64 0),(.string ⟨#[]⟩),(.int .i64 0),(.int .i64 0),(.int .i64 0),(.string ⟨#[]⟩),(.string ⟨#[]⟩),(.int .i64 0),(.int .i64 0),(.slice none 0 0)] 58)):=⟨Blk.new _ _ _,(Below.refl _ _).alloc (Nat.le_refl _) _⟩
def RdSt (w0 : World) (g5 : Nat) (hc : Array Value) (W : World) : Prop:=Blk W w0.heap.size 58 #[(.string ⟨#[]⟩),(.int .i64 0),(.string ⟨#[]⟩),(.int .i64 0),(.int .i64 0),(.int .i64 0),(.string ⟨#[]⟩),(.string ⟨#[]⟩),(.int .i64 0),(.int .i64 0),(.slice none 0 0)]∧Blk W g5 107 hc∧Below w0.heap.size w0 W
theorem RdSt.below {w0 W W' : World} {g5 : Nat} {hc : Array Value} (h : RdSt w0 g5 hc W) (hb : Below W.heap.size W W') : RdSt w0 g5 hc W':=⟨h.1.below hb h.1.lt,h.2.1.below hb h.2.1.lt,h.2.2.trans (hb.mono h.2.2.size)⟩
theorem heap_setAll_ {g k : Nat} (hk : k≠g) : ∀ (vs : List Value) (i : Nat) {W : World},(setAll W g i vs).heap[k]?=W.heap[k]?
  | [],_,_ => rfl
  | v :: vs,i,W => (heap_setAll_ hk vs (i + 1)).trans (Below.heap_setCell W ⟨g,i,none⟩ v k hk)
theorem ownsRow_setAll {w : World} {base : Nat} {e : TypeId} {size n : Nat} {v : Value} {xs : List Value} (h : w.ownsRow base e size v n xs) {g : Nat} {t : TypeId} {cs : Array Value} (hb : Blk w g t cs) (hne : e≠t) (vs : List Value) (i : Nat) : (setAll w g i vs).ownsRow base e size v n xs:=by
  obtain ⟨h1,h2⟩:=h
  refine ⟨h1,?_⟩
  rcases h2 with h | ⟨g',cap,cur,hv,hb',hg,r⟩
  · exact .inl h
  · refine .inr ⟨g',cap,cur,hv,hb',(heap_setAll_ ?_ vs i).trans hg,r⟩
    intro e2
    subst e2
    have hb:=hb.symm.trans hg
    injection hb with hb
    injection hb with _ ht
    exact hne ht.symm
set_option maxRecDepth 100000 in
set_option maxHeartbeats 8000000 in
theorem MRead_good (x : EntP) (h : EntOk x) (m : List UInt8) (hml : m.length≤4000000) (v : Value) (w : World) (hm : ∀ W,Below w.heap.size w W→ML W) (h10 : ∀ W,Below w.heap.size w W→P10 W) (hv : BytesAt w w.heap.size v (memB x ++ m)) :
    Calls Tryz.prog 16 #[v] w fun e w' => ∃ A c,e=.returned (.tuple #[.agg (entC x (.slice A x.data.length c)).toArray,.int .i64 (memB x).length,.int .i64 0])∧DataAt w' w.heap.size (.slice A x.data.length c) x.data∧Below w.heap.size w w':=by
  obtain ⟨H0,d0,r0,hH0,hd0,hz0,he,hrl,hcase⟩:=memB_first h m
  have HV:=Lib.hid (fun W (hb : Below w.heap.size w W) => hv.below hb)
  have HBK:=Lib.hid (fun W (hb : Below w.heap.size w W) => Block_good v H0 hH0 d0 r0 hd0 W (by rw [← he];exact (hv.below hb).more hb.size) (by omega) (by omega))
  have HB2:=Lib.hid (fun W v' (hl : BytesAt W W.heap.size v' (headW (packH x) ++ (padB x.data ++ m))) => Block_good v' (packH x) (packH_ok h) x.data m rfl W hl (by omega) (by show x.data.length≤5000000;have:=h.data.1;omega))
  have HPX:=Lib.hid (fun W (hb : Below w.heap.size w W) => PxRead_any (packR x) W (hm W hb) (h10 W hb) (packR_ok h) (by have:=packR_len x;omega))
  have HAS:=Lib.hid (packR_asc x)
  have HUN : Hid (∀ W lv A n c,Below w.heap.size w W→RecsAt W lv (packR x)→Calls Tryz.prog 54 #[headV (packH x),lv,.slice A n c] W fun e w' => e=.returned (.agg (entC x (.slice A n c)).toArray)∧Below W.heap.size W w'):=Lib.hid (fun W lv A n c hb hl => by
    have e : entC x (.slice A n c)=entC (unpackP (packH x) (packR x) []) (.slice A n c):=by
      rw [show entC (unpackP (packH x) (packR x) []) (.slice A n c)=entC (unpackP (packH x) (packR x) x.data) (.slice A n c) from rfl,unpack_pack h]
    rw [e]
    have hk:=packH_ok h
    exact Unpack_any (packH x) lv (packR x) A n c W (hm W hb) (h10 W hb) hl (by have:=packR_len x;omega) (fun r hr => by have:=(packR_ok h r hr).v1;omega) (by have:=hk.pre;omega) (by have:=hk.name;omega) (atoi_pack h).1 (atoi_pack h).2)
  have HWR:=Lib.hid (fun W A c (hb : Below w.heap.size w W) hd => MWrite_ok x h A c W (hm W hb) (h10 W hb) hd)
  have hbl:=(memB_blocks h).2.2.2
  have HLB:=Lib.hid (rfl : (memB x).length=(memB x).length)
  obtain ⟨A0,c0,ev,hlc,hcm,hA0,-⟩:=id hv
  rw [List.length_map] at ev hlc
  have hne : 0 < (memB x ++ m).length:=by rw [he,List.length_append,headW_length hH0];omega
  rcases A0 with _ | ad
  · exfalso
    have:=hA0 rfl
    omega
  subst ev
  have HFR : Hid (∀ W,Below w.heap.size w W→(convert 27 9 (.slice (some ad) (memB x).length c0)).run Tryz.prog W=.ok (.string (bs (memB x))) W):=Lib.hid (fun W hb => by
    have hf:=BytesAt.front (show BytesAt W w.heap.size _ _ from hv.below hb) (memB x).length (by rw [List.length_append];omega)
    rw [List.take_left] at hf
    exact conv_str hf)
  have hLL : (memB x ++ m).length=(memB x).length + m.length:=List.length_append
  rw [hLL] at hlc HV HBK ⊢
  unfold maxLen at hcm
  have hMB : (memB x).length=(memB x).length:=rfl
  obtain ⟨lb,hlb⟩ : ∃ lb,lb=(memB x).length:=⟨_,rfl⟩
  rw [← hlb] at HFR hlc HV HBK hbl hLL ⊢
  have HL2:=Lib.hid hlb
  clear hlb hMB HLB hv he hA0 hne hLL hm h10
  obtain ⟨ml,hmlen⟩ : ∃ ml,ml=m.length:=⟨_,rfl⟩
  rw [← hmlen] at hlc HV HBK hrl hml ⊢
  have HML2:=Lib.hid hmlen
  clear hmlen
  have i1 : (0 : Int)≤(lb : Int):=by omega
  have i2 : (lb : Int)≤(c0 : Int):=by omega
  have i3 : (((lb + ml : Nat) : Int) - (ml : Int))=(lb : Int):=by omega
  have i4 : IntKind.i64.wrap (lb : Int)=(lb : Int):=IntWalk.i64_in _ ⟨by omega,by omega⟩
  have i5 : lb≤c0:=by omega
  obtain ⟨w0,hw0⟩ : ∃ w0,w0=w.alloc (.cells #[(.string ⟨#[]⟩),(.int .i64 0),(.string ⟨#[]⟩),(.int .i64 0),(.int .i64 0),(.int .i64 0),(.string ⟨#[]⟩),(.string ⟨#[]⟩),(.int .i64 0),(.int .i64 0),(.slice none 0 0)] 58):=⟨_,rfl⟩
  have hS:=entZ_blk w
  rw [← hw0] at hS
  have HS:=Lib.hid hS
  clear hS
  generalize hPX : packH x=PX at *
  have HPXE:=Lib.hid hPX
  clear hPX
  generalize hRX : packR x=RX at *
  have HRXE:=Lib.hid hRX
  clear hRX
  obtain ⟨T,hT⟩ : ∃ T,T=H0.type:=⟨_,rfl⟩
  rw [← hT] at hcase
  obtain ⟨tx,htx⟩ : ∃ tx,tx=((T.toNat : Int) == 120):=⟨_,rfl⟩
  rw [← htx] at hcase
  have HCS:=Lib.hid hcase
  clear hcase
  clear hd0
  obtain ⟨nm,pr,lk,md,ui,gi,sz,tm,ty,us,gr⟩:=PX
  obtain ⟨xp,xk,xt,⟨m1,m2,m3,m4,m5,m6,m7⟩,xd⟩:=x
  unfold headV headCells entC at HUN
  unfold headV headCells at HB2
  unfold entC at HWR ⊢
  simp only at HUN HB2 HWR HCS ⊢
  obtain ⟨an,ap,al,am,au,ag,az,at_,ay,as_,ar⟩:=H0
  simp only at hT
  subst hT
  replace htx:=htx.symm
  unfold headV headCells at HBK
  simp only at HBK
  go_enter Tryz.func16,Tryz.ntmps16
  go_upto_region 1 with fail
  rw [← hw0]
  clear hw0
  go_wp2_with fail
  refine (HBK.out _ HS.out.2).mono ?_
  rintro e w1 ⟨v1,v2,rfl,hv1,hv2,b1⟩
  obtain ⟨W1,hW1⟩ : ∃ W1,W1=w1.alloc (.cells #[(.string (bs an)),(.string (bs ap)),(.string (bs al)),(.int .i64 am),(.int .i64 au),(.int .i64 ag),(.int .i64 az),(.int .i64 at_),(.int .u8 T.toNat),(.string (bs as_)),(.string (bs ar))] 107):=⟨_,rfl⟩
  obtain ⟨g5,hg5⟩ : ∃ g5,g5=w1.heap.size:=⟨_,rfl⟩
  have hk5 : Blk W1 g5 107 #[(.string (bs an)),(.string (bs ap)),(.string (bs al)),(.int .i64 am),(.int .i64 au),(.int .i64 ag),(.int .i64 az),(.int .i64 at_),(.int .u8 T.toNat),(.string (bs as_)),(.string (bs ar))]:=by rw [hW1,hg5];exact Blk.new _ _ _
  have hb1 : Below w1.heap.size w1 W1:=by rw [hW1];exact (Below.refl _ _).alloc (Nat.le_refl _) _
  have hR1 : RdSt w g5 #[(.string (bs an)),(.string (bs ap)),(.string (bs al)),(.int .i64 am),(.int .i64 au),(.int .i64 ag),(.int .i64 az),(.int .i64 at_),(.int .u8 T.toNat),(.string (bs as_)),(.string (bs ar))] W1:=⟨(HS.out.1.below b1 HS.out.1.lt).below hb1 (HS.out.1.below b1 HS.out.1.lt).lt,hk5,HS.out.2.trans ((b1.trans (hb1.mono b1.size)).mono HS.out.2.size)⟩
  have HR1:=Lib.hid hR1
  have HGE : Hid (w.heap.size≤g5):=Lib.hid (by rw [hg5];exact Nat.le_trans HS.out.2.size b1.size)
  have HV1:=Lib.hid ((hv1.mono HS.out.2.size).below hb1)
  have HV2:=Lib.hid ((hv2.mono HS.out.2.size).below hb1)
  obtain ⟨A1,c1,rfl,-⟩:=hv1
  obtain ⟨A2,c2,rfl,-⟩:=hv2
  clear hk5 hb1 hR1 b1 HBK HS
  have y8 : W1.cell? ⟨g5,8,none⟩=some (.int .u8 T.toNat):=HR1.out.2.1.cell 8
  go_upto_region 2 with fail
  rw [← hW1,← hg5]
  clear hW1 hg5
  have HGT : Hid (w.heap.size < g5):=Lib.hid (by have h1:=HR1.out.1.lt;have h2:=HR1.out.1;have h3:=HR1.out.2.1;have h4:=Blk.ne_ h2 h3 (by decide);have:=HGE.out;omega)
  go_upto_if 27 with fail
  go_cut [6,7,8,9] from 28 to 49 (fun s6 s7 s8 s9 wx => ∃ A1 c1 A2 c2,s6=.slice A1 xd.length c1∧s7=.slice A2 ml c2∧Hid (RdSt w g5 #[(.string (bs nm)),(.string (bs pr)),(.string (bs lk)),(.int .i64 md),(.int .i64 ui),(.int .i64 gi),(.int .i64 sz),(.int .i64 tm),(.int .u8 ty.toNat),(.string (bs us)),(.string (bs gr))] wx∧DataAt wx w.heap.size (.slice A1 xd.length c1) xd∧DataAt wx w.heap.size (.slice A2 ml c2) m∧RecsAt wx s9 RX))
  case first =>
    cases tx with
    | false =>
      have hcs:=HCS.out
      simp only [Bool.false_eq_true,false_and,or_false,true_and] at hcs
      obtain ⟨hh,rfl,rfl,hR⟩:=hcs
      cases hh
      subst hR
      clear HCS
      go_wp2_with fail
      go_meet
      case rel => exact ⟨A1,c1,A2,c2,rfl,by rw [HML2.out],Lib.hid ⟨HR1.out,HV1.out,by rw [HML2.out];exact HV2.out,RecsAt.nil _⟩⟩
    | true =>
      have hcs:=HCS.out
      simp only [Bool.true_eq_false,false_and,false_or,true_and] at hcs
      obtain ⟨hd0,hne,hr0⟩:=hcs
      rw [← hd0] at HPX
      rw [← hr0] at HB2
      have hcv:=conv_str HV1.out.bytes
      clear HCS hne hd0 hr0
      have hPT:=bs_size d0
      go_wp2_with fail
      refine (HPX.out _ HR1.out.2.2).mono ?_
      rintro e w2 ⟨lv,cc,rfl,hcc,b2⟩
      rcases hcc with ⟨rfl,-,hown⟩ | ⟨-,hno,-⟩
      case inr => exact absurd HAS.out hno
      have HR2:=Lib.hid (HR1.out.below b2)
      have HV22:=Lib.hid (HV2.out.below b2)
      have HO2:=Lib.hid hown
      clear hown b2 hcv hPT
      go_wp2_with fail
      refine (HB2.out _ _ HV22.out.bytes).mono ?_
      rintro e w3 ⟨v3,v4,rfl,d3,d4,b3⟩
      have hR3:=HR2.out.below b3
      have HO3:=Lib.hid (HO2.out.below b3)
      have HD3:=Lib.hid (d3.mono HR2.out.2.2.size)
      have HD4:=Lib.hid (d4.mono HR2.out.2.2.size)
      obtain ⟨A3,c3,rfl,-⟩:=d3
      obtain ⟨A4,c4,rfl,-⟩:=d4
      have HR3:=Lib.hid hR3
      clear b3 hR3
      have z0:=HR3.out.2.1.cell 0;have f0:=HR3.out.2.1.frozen 0
      have z1:=HR3.out.2.1.cell 1;have f1:=HR3.out.2.1.frozen 1
      have z2:=HR3.out.2.1.cell 2;have f2:=HR3.out.2.1.frozen 2
      have z3:=HR3.out.2.1.cell 3;have f3:=HR3.out.2.1.frozen 3
      have z4:=HR3.out.2.1.cell 4;have f4:=HR3.out.2.1.frozen 4
      have z5:=HR3.out.2.1.cell 5;have f5:=HR3.out.2.1.frozen 5
      have z6:=HR3.out.2.1.cell 6;have f6:=HR3.out.2.1.frozen 6
      have z7:=HR3.out.2.1.cell 7;have f7:=HR3.out.2.1.frozen 7
      have z8:=HR3.out.2.1.cell 8;have f8:=HR3.out.2.1.frozen 8
      have z9:=HR3.out.2.1.cell 9;have f9:=HR3.out.2.1.frozen 9
      have z10:=HR3.out.2.1.cell 10;have f10:=HR3.out.2.1.frozen 10
      obtain ⟨W4,hW4⟩ : ∃ W4,W4=setAll w3 g5 0 [(.string (bs nm)),(.string (bs pr)),(.string (bs lk)),(.int .i64 md),(.int .i64 ui),(.int .i64 gi),(.int .i64 sz),(.int .i64 tm),(.int .u8 ty.toNat),(.string (bs us)),(.string (bs gr))]:=⟨_,rfl⟩
      have hR4 : RdSt w g5 #[(.string (bs nm)),(.string (bs pr)),(.string (bs lk)),(.int .i64 md),(.int .i64 ui),(.int .i64 gi),(.int .i64 sz),(.int .i64 tm),(.int .u8 ty.toNat),(.string (bs us)),(.string (bs gr))] (setAll w3 g5 0 [(.string (bs nm)),(.string (bs pr)),(.string (bs lk)),(.int .i64 md),(.int .i64 ui),(.int .i64 gi),(.int .i64 sz),(.int .i64 tm),(.int .u8 ty.toNat),(.string (bs us)),(.string (bs gr))]):=⟨Blk.far_setAll (Nat.ne_of_lt HGT.out) _ 0 HR3.out.1,HR3.out.2.1.fill [(.string (bs nm)),(.string (bs pr)),(.string (bs lk)),(.int .i64 md),(.int .i64 ui),(.int .i64 gi),(.int .i64 sz),(.int .i64 tm),(.int .u8 ty.toNat),(.string (bs us)),(.string (bs gr))] rfl,Below.setAll (Nat.le_of_lt HGT.out) _ 0 HR3.out.2.2⟩
      have hHB : HasBlk w3 g5 107 11:=⟨_,rfl,HR3.out.2.1⟩
      have hO4:=ownsRow_setAll HO3.out HR3.out.2.1 (by decide) [(.string (bs nm)),(.string (bs pr)),(.string (bs lk)),(.int .i64 md),(.int .i64 ui),(.int .i64 gi),(.int .i64 sz),(.int .i64 tm),(.int .u8 ty.toNat),(.string (bs us)),(.string (bs gr))] 0
      have hD3:=HD3.out.kept (U8Kept.setAll (by decide) [(.string (bs nm)),(.string (bs pr)),(.string (bs lk)),(.int .i64 md),(.int .i64 ui),(.int .i64 gi),(.int .i64 sz),(.int .i64 tm),(.int .u8 ty.toNat),(.string (bs us)),(.string (bs gr))] 0 hHB)
      have hD4:=HD4.out.kept (U8Kept.setAll (by decide) [(.string (bs nm)),(.string (bs pr)),(.string (bs lk)),(.int .i64 md),(.int .i64 ui),(.int .i64 gi),(.int .i64 sz),(.int .i64 tm),(.int .u8 ty.toNat),(.string (bs us)),(.string (bs gr))] 0 hHB)
      rw [← hW4] at hR4 hO4 hD3 hD4
      have HR4:=Lib.hid hR4
      have HO4:=Lib.hid (RecsOwn.at_ (show RecsOwn W4 _ lv RX from hO4))
      have HD5:=Lib.hid hD3
      have HD6:=Lib.hid hD4
      simp only [setAll,Nat.zero_add,Nat.reduceAdd] at hW4
      clear hR4 hO4 hD3 hD4 hHB
      go_upto_region 10 with fail
      rw [← hW4]
      clear hW4 z0 f0 z1 f1 z2 f2 z3 f3 z4 f4 z5 f5 z6 f6 z7 f7 z8 f8 z9 f9 z10 f10
      go_wp2_with fail
      go_meet
      case rel => exact ⟨A3,c3,A4,c4,rfl,by rw [HML2.out],Lib.hid ⟨HR4.out,HD5.out,by rw [HML2.out];exact HD6.out,HO4.out⟩⟩
  case rest =>
    obtain ⟨A1,c1,A2,c2,rfl,rfl,HX⟩:=hcut
    have HRc:=Lib.hid HX.out.1
    have HDc:=Lib.hid HX.out.2.1
    have HLc:=Lib.hid HX.out.2.2.2
    clear HX HR1 HV1 HV2 HCS HPX HB2 HAS htx y8 hrl hml
    have y0 : wc.cell? ⟨g5,0,none⟩=some (.string (bs nm)):=HRc.out.2.1.cell 0
    have y1 : wc.cell? ⟨g5,1,none⟩=some (.string (bs pr)):=HRc.out.2.1.cell 1
    have y2 : wc.cell? ⟨g5,2,none⟩=some (.string (bs lk)):=HRc.out.2.1.cell 2
    have y3 : wc.cell? ⟨g5,3,none⟩=some (.int .i64 md):=HRc.out.2.1.cell 3
    have y4 : wc.cell? ⟨g5,4,none⟩=some (.int .i64 ui):=HRc.out.2.1.cell 4
    have y5 : wc.cell? ⟨g5,5,none⟩=some (.int .i64 gi):=HRc.out.2.1.cell 5
    have y6 : wc.cell? ⟨g5,6,none⟩=some (.int .i64 sz):=HRc.out.2.1.cell 6
    have y7 : wc.cell? ⟨g5,7,none⟩=some (.int .i64 tm):=HRc.out.2.1.cell 7
    have y8 : wc.cell? ⟨g5,8,none⟩=some (.int .u8 ty.toNat):=HRc.out.2.1.cell 8
    have y9 : wc.cell? ⟨g5,9,none⟩=some (.string (bs us)):=HRc.out.2.1.cell 9
    have y10 : wc.cell? ⟨g5,10,none⟩=some (.string (bs gr)):=HRc.out.2.1.cell 10
    go_wp2_with fail
    refine (HUN.out _ _ _ _ _ HRc.out.2.2 HLc.out).mono ?_
    rintro e w5 ⟨rfl,b5⟩
    obtain ⟨W6,hW6⟩ : ∃ W6,W6=w5.alloc (.cells #[(.string (bs xp)),(.int .i64 xk),(.string (bs xt)),(.int .i64 m1),(.int .i64 m2),(.int .i64 m3),(.string (bs m4)),(.string (bs m5)),(.int .i64 m6),(.int .i64 m7),(.slice A1 xd.length c1)] 58):=⟨_,rfl⟩
    obtain ⟨ge,hge⟩ : ∃ ge,ge=w5.heap.size:=⟨_,rfl⟩
    have hke : Blk W6 ge 58 #[(.string (bs xp)),(.int .i64 xk),(.string (bs xt)),(.int .i64 m1),(.int .i64 m2),(.int .i64 m3),(.string (bs m4)),(.string (bs m5)),(.int .i64 m6),(.int .i64 m7),(.slice A1 xd.length c1)]:=by rw [hW6,hge];exact Blk.new _ _ _
    have b6 : Below wc.heap.size wc W6:=by rw [hW6];exact b5.alloc b5.size _
    have HKE:=Lib.hid hke
    have HR6:=Lib.hid (HRc.out.below b6)
    have HD6:=Lib.hid (HDc.out.below b6)
    have HNE : Hid (ge≠w.heap.size):=Lib.hid (by have h1:=HRc.out.1.lt;have h2:=b5.size;omega)
    clear b5 b6 hke HRc HDc HLc HUN y0 y1 y2 y3 y4 y5 y6 y7 y8 y9 y10
    go_upto_region 13 with fail
    rw [← hW6,← hge]
    clear hW6 hge
    have e0 : W6.cell? ⟨ge,0,none⟩=some (.string (bs xp)):=HKE.out.cell 0
    have e1 : W6.cell? ⟨ge,1,none⟩=some (.int .i64 xk):=HKE.out.cell 1
    have e2 : W6.cell? ⟨ge,2,none⟩=some (.string (bs xt)):=HKE.out.cell 2
    have e3 : W6.cell? ⟨ge,3,none⟩=some (.int .i64 m1):=HKE.out.cell 3
    have e4 : W6.cell? ⟨ge,4,none⟩=some (.int .i64 m2):=HKE.out.cell 4
    have e5 : W6.cell? ⟨ge,5,none⟩=some (.int .i64 m3):=HKE.out.cell 5
    have e6 : W6.cell? ⟨ge,6,none⟩=some (.string (bs m4)):=HKE.out.cell 6
    have e7 : W6.cell? ⟨ge,7,none⟩=some (.string (bs m5)):=HKE.out.cell 7
    have e8 : W6.cell? ⟨ge,8,none⟩=some (.int .i64 m6):=HKE.out.cell 8
    have e9 : W6.cell? ⟨ge,9,none⟩=some (.int .i64 m7):=HKE.out.cell 9
    have e10 : W6.cell? ⟨ge,10,none⟩=some (.slice A1 xd.length c1):=HKE.out.cell 10
    go_wp2_with fail
    refine (HWR.out _ _ _ HR6.out.2.2 HD6.out.bytes).mono ?_
    rintro e w7 ⟨bv,rfl,hbv,b7⟩
    have HBV:=Lib.hid hbv
    obtain ⟨Ab,cb,rfl,-⟩:=hbv.at_
    have HR7:=Lib.hid (HR6.out.below b7)
    have HD7:=Lib.hid (HD6.out.below b7)
    have HK7:=Lib.hid (HKE.out.below b7 HKE.out.lt)
    clear hbv b7 HR6 HD6 HKE HWR e0 e1 e2 e3 e4 e5 e6 e7 e8 e9 e10
    have HAG : Hid (∀ W,Below w7.heap.size w7 W→(convert 27 9 (.slice Ab lb cb)).run Tryz.prog W=.ok (.string (bs (memB ⟨xp,xk,xt,⟨m1,m2,m3,m4,m5,m6,m7⟩,xd⟩))) W):=Lib.hid (fun W hb => by
      have h1:=conv_str (HBV.out.at_.below hb)
      rw [List.length_map] at h1
      rw [HL2.out]
      exact h1)
    have HFW : Hid (∀ W,Below w7.heap.size w7 W→(convert 27 9 (.slice (some ad) lb c0)).run Tryz.prog W=.ok (.string (bs (memB ⟨xp,xk,xt,⟨m1,m2,m3,m4,m5,m6,m7⟩,xd⟩))) W):=Lib.hid (fun W hb => HFR.out W (HR7.out.2.2.trans (hb.mono HR7.out.2.2.size)))
    clear HFR HBV
    rw [List.length_map,← HL2.out]
    obtain ⟨MM,hMM⟩ : ∃ MM,MM=bs (memB ⟨xp,xk,xt,⟨m1,m2,m3,m4,m5,m6,m7⟩,xd⟩):=⟨_,rfl⟩
    rw [← hMM] at HAG HFW
    clear hMM
    have hmn : (MM.toList != MM.toList)=false:=by simp
    go_upto_region 15 with fail
    refine wp_region_G (S:=fun W => Below w7.heap.size w7 W) (by kernel_rfl) (Below.refl _ _).drew ?_
    refine wpG_take (i:=0) (v:=?vm1) rfl (by kernel_rfl) (by kernel_rfl) (by kernel_rfl) (fun _ _ _ h => h) (Or.inl ⟨by rfl,?hym1⟩) ?restm1
    case hym1 => (intro W hSw;left;(try dsimp only at hSw);go_simp;try with_reducible rfl)
    simp only [Act.put,List.setIfInBounds_toArray,List.set_cons_zero,List.set_cons_succ,List.getElem_toArray,List.getElem_cons_zero,List.getElem_cons_succ]
    refine wpG_take (i:=1) (v:=?vm2) rfl (by kernel_rfl) (by kernel_rfl) (by kernel_rfl) (fun _ _ _ h => h) (Or.inl ⟨by rfl,?hym2⟩) ?restm2
    case hym2 => (intro W hSw;left;(try dsimp only at hSw);go_simp;try with_reducible rfl)
    simp only [Act.put,List.setIfInBounds_toArray,List.set_cons_zero,List.set_cons_succ,List.getElem_toArray,List.getElem_cons_zero,List.getElem_cons_succ]
    refine wpG_take (i:=2) (v:=?vm3) rfl (by kernel_rfl) (by kernel_rfl) (by kernel_rfl) (fun _ _ _ h => h) (Or.inl ⟨by rfl,?hym3⟩) ?restm3
    case hym3 => (intro W hSw;left;(try dsimp only at hSw);go_simp;try with_reducible rfl)
    simp only [Act.put,List.setIfInBounds_toArray,List.set_cons_zero,List.set_cons_succ,List.getElem_toArray,List.getElem_cons_zero,List.getElem_cons_succ]
    refine wpG_take (i:=3) (v:=?vm4) rfl (by kernel_rfl) (by kernel_rfl) (by kernel_rfl) (fun _ _ _ h => h) (Or.inl ⟨by rfl,?hym4⟩) ?restm4
    case hym4 => (intro W hSw;left;(try dsimp only at hSw);go_simp;try with_reducible rfl)
    simp only [Act.put,List.setIfInBounds_toArray,List.set_cons_zero,List.set_cons_succ,List.getElem_toArray,List.getElem_cons_zero,List.getElem_cons_succ]
    refine wpG_take (i:=4) (v:=?vm5) rfl (by kernel_rfl) (by kernel_rfl) (by kernel_rfl) (fun _ _ _ h => h) (Or.inl ⟨by rfl,?hym5⟩) ?restm5
    case hym5 => (intro W hSw;left;(try dsimp only at hSw);have hcA:=HAG.out _ hSw;go_simp;try with_reducible rfl)
    simp only [Act.put,List.setIfInBounds_toArray,List.set_cons_zero,List.set_cons_succ,List.getElem_toArray,List.getElem_cons_zero,List.getElem_cons_succ]
    refine wpG_take (i:=5) (v:=?vm6) rfl (by kernel_rfl) (by kernel_rfl) (by kernel_rfl) (fun _ _ _ h => h) (Or.inl ⟨by rfl,?hym6⟩) ?restm6
    case hym6 => (intro W hSw;left;(try dsimp only at hSw);go_simp;try with_reducible rfl)
    simp only [Act.put,List.setIfInBounds_toArray,List.set_cons_zero,List.set_cons_succ,List.getElem_toArray,List.getElem_cons_zero,List.getElem_cons_succ]
    refine wpG_take (i:=6) (v:=?vm7) rfl (by kernel_rfl) (by kernel_rfl) (by kernel_rfl) (fun _ _ _ h => h) (Or.inl ⟨by rfl,?hym7⟩) ?restm7
    case hym7 => (intro W hSw;left;(try dsimp only at hSw);go_simp;try with_reducible rfl)
    simp only [Act.put,List.setIfInBounds_toArray,List.set_cons_zero,List.set_cons_succ,List.getElem_toArray,List.getElem_cons_zero,List.getElem_cons_succ]
    refine wpG_take (i:=7) (v:=?vm8) rfl (by kernel_rfl) (by kernel_rfl) (by kernel_rfl) (fun _ _ _ h => h) (Or.inl ⟨by rfl,?hym8⟩) ?restm8
    case hym8 => (intro W hSw;left;(try dsimp only at hSw);go_simp;try with_reducible rfl)
    simp only [Act.put,List.setIfInBounds_toArray,List.set_cons_zero,List.set_cons_succ,List.getElem_toArray,List.getElem_cons_zero,List.getElem_cons_succ]
    refine wpG_take (i:=8) (v:=?vm9) rfl (by kernel_rfl) (by kernel_rfl) (by kernel_rfl) (fun _ _ _ h => h) (Or.inl ⟨by rfl,?hym9⟩) ?restm9
    case hym9 => (intro W hSw;left;(try dsimp only at hSw);have hcF:=HFW.out _ hSw;go_simp;try with_reducible rfl)
    simp only [Act.put,List.setIfInBounds_toArray,List.set_cons_zero,List.set_cons_succ,List.getElem_toArray,List.getElem_cons_zero,List.getElem_cons_succ]
    refine wpG_take (i:=9) (v:=?vm10) rfl (by kernel_rfl) (by kernel_rfl) (by kernel_rfl) (fun _ _ _ h => h) (Or.inl ⟨by rfl,?hym10⟩) ?restm10
    case hym10 => (intro W hSw;left;(try dsimp only at hSw);go_simp;try with_reducible rfl)
    simp only [Act.put,List.setIfInBounds_toArray,List.set_cons_zero,List.set_cons_succ,List.getElem_toArray,List.getElem_cons_zero,List.getElem_cons_succ]
    refine wpG_take (i:=10) (v:=?vm11) rfl (by kernel_rfl) (by kernel_rfl) (by kernel_rfl) (fun _ _ _ h => h) (Or.inl ⟨by rfl,?hym11⟩) ?restm11
    case hym11 => (intro W hSw;left;(try dsimp only at hSw);go_simp;try with_reducible rfl)
    simp only [Act.put,List.setIfInBounds_toArray,List.set_cons_zero,List.set_cons_succ,List.getElem_toArray,List.getElem_cons_zero,List.getElem_cons_succ]
    refine wpG_done (by kernel_rfl) (fun w8 hb hS => ?_) _
    have HR8:=Lib.hid (HR7.out.below hS)
    have HD8:=Lib.hid (HD7.out.below hS)
    have HK8:=Lib.hid (HK7.out.below hS HK7.out.lt)
    clear hb hS HAG HFW HR7 HD7 HK7 hmn
    have e0 : w8.cell? ⟨ge,0,none⟩=some (.string (bs xp)):=HK8.out.cell 0
    have e1 : w8.cell? ⟨ge,1,none⟩=some (.int .i64 xk):=HK8.out.cell 1
    have e2 : w8.cell? ⟨ge,2,none⟩=some (.string (bs xt)):=HK8.out.cell 2
    have e3 : w8.cell? ⟨ge,3,none⟩=some (.int .i64 m1):=HK8.out.cell 3
    have e4 : w8.cell? ⟨ge,4,none⟩=some (.int .i64 m2):=HK8.out.cell 4
    have e5 : w8.cell? ⟨ge,5,none⟩=some (.int .i64 m3):=HK8.out.cell 5
    have e6 : w8.cell? ⟨ge,6,none⟩=some (.string (bs m4)):=HK8.out.cell 6
    have e7 : w8.cell? ⟨ge,7,none⟩=some (.string (bs m5)):=HK8.out.cell 7
    have e8 : w8.cell? ⟨ge,8,none⟩=some (.int .i64 m6):=HK8.out.cell 8
    have e9 : w8.cell? ⟨ge,9,none⟩=some (.int .i64 m7):=HK8.out.cell 9
    have e10 : w8.cell? ⟨ge,10,none⟩=some (.slice A1 xd.length c1):=HK8.out.cell 10
    have z0 : w8.cell? ⟨w.heap.size,0,none⟩=some (.string ⟨#[]⟩):=HR8.out.1.cell 0;have f0:=HR8.out.1.frozen 0
    have z1 : w8.cell? ⟨w.heap.size,1,none⟩=some (.int .i64 0):=HR8.out.1.cell 1;have f1:=HR8.out.1.frozen 1
    have z2 : w8.cell? ⟨w.heap.size,2,none⟩=some (.string ⟨#[]⟩):=HR8.out.1.cell 2;have f2:=HR8.out.1.frozen 2
    have z3 : w8.cell? ⟨w.heap.size,3,none⟩=some (.int .i64 0):=HR8.out.1.cell 3;have f3:=HR8.out.1.frozen 3
    have z4 : w8.cell? ⟨w.heap.size,4,none⟩=some (.int .i64 0):=HR8.out.1.cell 4;have f4:=HR8.out.1.frozen 4
    have z5 : w8.cell? ⟨w.heap.size,5,none⟩=some (.int .i64 0):=HR8.out.1.cell 5;have f5:=HR8.out.1.frozen 5
    have z6 : w8.cell? ⟨w.heap.size,6,none⟩=some (.string ⟨#[]⟩):=HR8.out.1.cell 6;have f6:=HR8.out.1.frozen 6
    have z7 : w8.cell? ⟨w.heap.size,7,none⟩=some (.string ⟨#[]⟩):=HR8.out.1.cell 7;have f7:=HR8.out.1.frozen 7
    have z8 : w8.cell? ⟨w.heap.size,8,none⟩=some (.int .i64 0):=HR8.out.1.cell 8;have f8:=HR8.out.1.frozen 8
    have z9 : w8.cell? ⟨w.heap.size,9,none⟩=some (.int .i64 0):=HR8.out.1.cell 9;have f9:=HR8.out.1.frozen 9
    have z10 : w8.cell? ⟨w.heap.size,10,none⟩=some (.slice none 0 0):=HR8.out.1.cell 10;have f10:=HR8.out.1.frozen 10
    go_wp2_with fail
    clear e0 z0 f0 e1 z1 f1 e2 z2 f2 e3 z3 f3 e4 z4 f4 e5 z5 f5 e6 z6 f6 e7 z7 f7 e8 z8 f8 e9 z9 f9 e10 z10 f10
    have hHB : HasBlk w8 w.heap.size 58 11:=⟨_,rfl,HR8.out.1⟩
    obtain ⟨WE,hWE⟩ : ∃ WE,WE=setAll w8 w.heap.size 0 [(.string (bs xp)),(.int .i64 xk),(.string (bs xt)),(.int .i64 m1),(.int .i64 m2),(.int .i64 m3),(.string (bs m4)),(.string (bs m5)),(.int .i64 m6),(.int .i64 m7),(.slice A1 xd.length c1)]:=⟨_,rfl⟩
    have hk:=hHB.fill [(.string (bs xp)),(.int .i64 xk),(.string (bs xt)),(.int .i64 m1),(.int .i64 m2),(.int .i64 m3),(.string (bs m4)),(.string (bs m5)),(.int .i64 m6),(.int .i64 m7),(.slice A1 xd.length c1)] rfl
    have hD:=HD8.out.kept (U8Kept.setAll (by decide) [(.string (bs xp)),(.int .i64 xk),(.string (bs xt)),(.int .i64 m1),(.int .i64 m2),(.int .i64 m3),(.string (bs m4)),(.string (bs m5)),(.int .i64 m6),(.int .i64 m7),(.slice A1 xd.length c1)] 0 hHB)
    have hBE:=Below.setAll (B:=w.heap.size) (g:=w.heap.size) (Nat.le_refl _) [(.string (bs xp)),(.int .i64 xk),(.string (bs xt)),(.int .i64 m1),(.int .i64 m2),(.int .i64 m3),(.string (bs m4)),(.string (bs m5)),(.int .i64 m6),(.int .i64 m7),(.slice A1 xd.length c1)] 0 HR8.out.2.2
    rw [← hWE] at hk hBE hD
    simp only [setAll,Nat.zero_add,Nat.reduceAdd] at hWE
    rw [← hWE]
    clear hWE hHB
    have x0 : WE.cell? ⟨w.heap.size,0,none⟩=some (.string (bs xp)):=hk.cell 0
    have x1 : WE.cell? ⟨w.heap.size,1,none⟩=some (.int .i64 xk):=hk.cell 1
    have x2 : WE.cell? ⟨w.heap.size,2,none⟩=some (.string (bs xt)):=hk.cell 2
    have x3 : WE.cell? ⟨w.heap.size,3,none⟩=some (.int .i64 m1):=hk.cell 3
    have x4 : WE.cell? ⟨w.heap.size,4,none⟩=some (.int .i64 m2):=hk.cell 4
    have x5 : WE.cell? ⟨w.heap.size,5,none⟩=some (.int .i64 m3):=hk.cell 5
    have x6 : WE.cell? ⟨w.heap.size,6,none⟩=some (.string (bs m4)):=hk.cell 6
    have x7 : WE.cell? ⟨w.heap.size,7,none⟩=some (.string (bs m5)):=hk.cell 7
    have x8 : WE.cell? ⟨w.heap.size,8,none⟩=some (.int .i64 m6):=hk.cell 8
    have x9 : WE.cell? ⟨w.heap.size,9,none⟩=some (.int .i64 m7):=hk.cell 9
    have x10 : WE.cell? ⟨w.heap.size,10,none⟩=some (.slice A1 xd.length c1):=hk.cell 10
    exact bodyPost_ret (v:=.tuple #[.agg #[(.string (bs xp)),(.int .i64 xk),(.string (bs xt)),(.int .i64 m1),(.int .i64 m2),(.int .i64 m3),(.string (bs m4)),(.string (bs m5)),(.int .i64 m6),(.int .i64 m7),(.slice A1 xd.length c1)],.int .i64 lb,.int .i64 0]) (by simp [results,Tryz.results16,go_sem,x0,x1,x2,x3,x4,x5,x6,x7,x8,x9,x10]) rfl ⟨_,_,rfl,hD,hBE⟩
end
section
open Go.RowKit
theorem Block_torn (v : Value) (l : List UInt8) (ht : Torn l) (w : World) (hv : BytesAt w w.heap.size v l) :
    Calls Tryz.prog 52 #[v] w fun e w' => ∃ H,e=.returned (.tuple #[headV H,.slice none 0 0,.slice none 0 0,.int .i64 7])∧Below w.heap.size w w':=by
  rcases ht with ht | ⟨H,r,hH,hs,rfl,hr⟩
  · exact (Block_low v l w hv ht).mono fun _ _ ⟨h1,h2⟩ => ⟨_,h1,h2⟩
  · exact (Block_short v H hH r w hv hr (by omega)).mono fun _ _ ⟨h1,h2⟩ => ⟨_,h1,h2⟩
set_option maxRecDepth 100000 in
set_option maxHeartbeats 4000000 in
theorem MRead_torn1 (l : List UInt8) (ht : Torn l) (v : Value) (w : World) (hv : BytesAt w w.heap.size v l) :
    Calls Tryz.prog 16 #[v] w fun e w' => e=.returned (.tuple #[.agg entZA,.int .i64 0,.int .i64 7])∧Below w.heap.size w w':=by
  have HBK:=Lib.hid (fun W (hb : Below w.heap.size w W) => Block_torn v l ht W ((hv.below hb).more hb.size))
  obtain ⟨A0,c0,ev,-⟩:=hv
  rw [List.length_map] at ev
  subst ev
  obtain ⟨w0,hw0⟩ : ∃ w0,w0=w.alloc (.cells #[(.string ⟨#[]⟩),(.int .i64 0),(.string ⟨#[]⟩),(.int .i64 0),(.int .i64 0),(.int .i64 0),(.string ⟨#[]⟩),(.string ⟨#[]⟩),(.int .i64 0),(.int .i64 0),(.slice none 0 0)] 58):=⟨_,rfl⟩
  have hS:=entZ_blk w
  rw [← hw0] at hS
  have HS:=Lib.hid hS
  clear hS ht
  unfold entZA
  go_enter Tryz.func16,Tryz.ntmps16
  go_upto_region 1 with fail
  rw [← hw0]
  clear hw0
  go_wp2_with fail
  refine (HBK.out _ HS.out.2).mono ?_
  rintro e w1 ⟨H,he,b1⟩
  obtain ⟨hn,hp,hl,hm,hu,hg,hz,ht,hy,hs,hr⟩:=H
  unfold headV headCells at he
  simp only at he
  subst he
  obtain ⟨W1,hW1⟩ : ∃ W1,W1=w1.alloc (.cells #[(.string (bs hn)),(.string (bs hp)),(.string (bs hl)),(.int .i64 hm),(.int .i64 hu),(.int .i64 hg),(.int .i64 hz),(.int .i64 ht),(.int .u8 hy.toNat),(.string (bs hs)),(.string (bs hr))] 107):=⟨_,rfl⟩
  obtain ⟨g5,hg5⟩ : ∃ g5,g5=w1.heap.size:=⟨_,rfl⟩
  have hb1 : Below w0.heap.size w0 W1:=by rw [hW1];exact b1.alloc b1.size _
  have HB1:=Lib.hid (HS.out.2.trans (hb1.mono HS.out.2.size))
  have HZ1:=Lib.hid (HS.out.1.below hb1 HS.out.1.lt)
  clear hb1 b1 HBK HS
  go_upto_region 2 with fail
  rw [← hW1,← hg5]
  clear hW1 hg5
  have z0 : W1.cell? ⟨w.heap.size,0,none⟩=some (.string ⟨#[]⟩):=HZ1.out.cell 0;have f0:=HZ1.out.frozen 0
  have z1 : W1.cell? ⟨w.heap.size,1,none⟩=some (.int .i64 0):=HZ1.out.cell 1;have f1:=HZ1.out.frozen 1
  have z2 : W1.cell? ⟨w.heap.size,2,none⟩=some (.string ⟨#[]⟩):=HZ1.out.cell 2;have f2:=HZ1.out.frozen 2
  have z3 : W1.cell? ⟨w.heap.size,3,none⟩=some (.int .i64 0):=HZ1.out.cell 3;have f3:=HZ1.out.frozen 3
  have z4 : W1.cell? ⟨w.heap.size,4,none⟩=some (.int .i64 0):=HZ1.out.cell 4;have f4:=HZ1.out.frozen 4
  have z5 : W1.cell? ⟨w.heap.size,5,none⟩=some (.int .i64 0):=HZ1.out.cell 5;have f5:=HZ1.out.frozen 5
  have z6 : W1.cell? ⟨w.heap.size,6,none⟩=some (.string ⟨#[]⟩):=HZ1.out.cell 6;have f6:=HZ1.out.frozen 6
  have z7 : W1.cell? ⟨w.heap.size,7,none⟩=some (.string ⟨#[]⟩):=HZ1.out.cell 7;have f7:=HZ1.out.frozen 7
  have z8 : W1.cell? ⟨w.heap.size,8,none⟩=some (.int .i64 0):=HZ1.out.cell 8;have f8:=HZ1.out.frozen 8
  have z9 : W1.cell? ⟨w.heap.size,9,none⟩=some (.int .i64 0):=HZ1.out.cell 9;have f9:=HZ1.out.frozen 9
  have z10 : W1.cell? ⟨w.heap.size,10,none⟩=some (.slice none 0 0):=HZ1.out.cell 10;have f10:=HZ1.out.frozen 10
  go_wp2_with fail
  clear z0 f0 z1 f1 z2 f2 z3 f3 z4 f4 z5 f5 z6 f6 z7 f7 z8 f8 z9 f9 z10 f10
  have hHB : HasBlk W1 w.heap.size 58 11:=⟨_,rfl,HZ1.out⟩
  obtain ⟨WE,hWE⟩ : ∃ WE,WE=setAll W1 w.heap.size 0 [(.string ⟨#[]⟩),(.int .i64 0),(.string ⟨#[]⟩),(.int .i64 0),(.int .i64 0),(.int .i64 0),(.string ⟨#[]⟩),(.string ⟨#[]⟩),(.int .i64 0),(.int .i64 0),(.slice none 0 0)]:=⟨_,rfl⟩
  have hk:=hHB.fill [(.string ⟨#[]⟩),(.int .i64 0),(.string ⟨#[]⟩),(.int .i64 0),(.int .i64 0),(.int .i64 0),(.string ⟨#[]⟩),(.string ⟨#[]⟩),(.int .i64 0),(.int .i64 0),(.slice none 0 0)] rfl
  have hBE:=Below.setAll (B:=w.heap.size) (g:=w.heap.size) (Nat.le_refl _) [(.string ⟨#[]⟩),(.int .i64 0),(.string ⟨#[]⟩),(.int .i64 0),(.int .i64 0),(.int .i64 0),(.string ⟨#[]⟩),(.string ⟨#[]⟩),(.int .i64 0),(.int .i64 0),(.slice none 0 0)] 0 HB1.out
  rw [← hWE] at hk hBE
  simp only [setAll,Nat.zero_add,Nat.reduceAdd] at hWE
  rw [← hWE]
  clear hWE hHB
  have x0 : WE.cell? ⟨w.heap.size,0,none⟩=some (.string ⟨#[]⟩):=hk.cell 0
  have x1 : WE.cell? ⟨w.heap.size,1,none⟩=some (.int .i64 0):=hk.cell 1
  have x2 : WE.cell? ⟨w.heap.size,2,none⟩=some (.string ⟨#[]⟩):=hk.cell 2
  have x3 : WE.cell? ⟨w.heap.size,3,none⟩=some (.int .i64 0):=hk.cell 3
  have x4 : WE.cell? ⟨w.heap.size,4,none⟩=some (.int .i64 0):=hk.cell 4
  have x5 : WE.cell? ⟨w.heap.size,5,none⟩=some (.int .i64 0):=hk.cell 5
  have x6 : WE.cell? ⟨w.heap.size,6,none⟩=some (.string ⟨#[]⟩):=hk.cell 6
  have x7 : WE.cell? ⟨w.heap.size,7,none⟩=some (.string ⟨#[]⟩):=hk.cell 7
  have x8 : WE.cell? ⟨w.heap.size,8,none⟩=some (.int .i64 0):=hk.cell 8
  have x9 : WE.cell? ⟨w.heap.size,9,none⟩=some (.int .i64 0):=hk.cell 9
  have x10 : WE.cell? ⟨w.heap.size,10,none⟩=some (.slice none 0 0):=hk.cell 10
  exact bodyPost_ret (v:=.tuple #[.agg #[(.string ⟨#[]⟩),(.int .i64 0),(.string ⟨#[]⟩),(.int .i64 0),(.int .i64 0),(.int .i64 0),(.string ⟨#[]⟩),(.string ⟨#[]⟩),(.int .i64 0),(.int .i64 0),(.slice none 0 0)],.int .i64 0,.int .i64 7]) (by simp [results,Tryz.results16,go_sem,x0,x1,x2,x3,x4,x5,x6,x7,x8,x9,x10]) rfl ⟨rfl,hBE⟩
set_option maxRecDepth 100000 in
set_option maxHeartbeats 4000000 in
theorem MRead_torn2 (x : EntP) (h : EntOk x) (hR : packR x≠[]) (l m : List UInt8) (he : l=headW (paxH (paxT (packR x)).length) ++ (padB (paxT (packR x)) ++ m)) (hml : m.length≤4000000) (ht : Torn m) (v : Value) (w : World) (hm : ∀ W,Below w.heap.size w W→ML W) (h10 : ∀ W,Below w.heap.size w W→P10 W) (hv : BytesAt w w.heap.size v l) :
    Calls Tryz.prog 16 #[v] w fun e w' => e=.returned (.tuple #[.agg entZA,.int .i64 0,.int .i64 7])∧Below w.heap.size w w':=by
  have h1:=paxT_len (packR_ok h)
  have h2:=packR_len x
  have h3 : (packR x).length * 703≤7 * 703:=Nat.mul_le_mul_right _ h2
  have HBK:=Lib.hid (fun W (hb : Below w.heap.size w W) => Block_good v (paxH (paxT (packR x)).length) (paxH_ok _ (by omega)) (paxT (packR x)) m rfl W (by rw [← he];exact (hv.below hb).more hb.size) (by omega) (by show (paxT (packR x)).length≤5000000;omega))
  have HB2:=Lib.hid (fun W v' (hl : BytesAt W W.heap.size v' m) => Block_torn v' m ht W hl)
  have HPX:=Lib.hid (fun W (hb : Below w.heap.size w W) => PxRead_any (packR x) W (hm W hb) (h10 W hb) (packR_ok h) (by omega))
  have HAS:=Lib.hid (packR_asc x)
  clear he ht hm h10 h1 h2 h3 hR h
  obtain ⟨A0,c0,ev,-⟩:=hv
  rw [List.length_map] at ev
  subst ev
  generalize packR x=RX at *
  have hPT:=bs_size (paxT RX)
  generalize paxT RX=d0 at *
  unfold headV headCells paxH paxN at HBK
  simp only at HBK
  rw [show bs [64,112,97,120]=⟨#[64,112,97,120]⟩ from rfl,show bs []=⟨#[]⟩ from rfl] at HBK
  obtain ⟨w0,hw0⟩ : ∃ w0,w0=w.alloc (.cells #[(.string ⟨#[]⟩),(.int .i64 0),(.string ⟨#[]⟩),(.int .i64 0),(.int .i64 0),(.int .i64 0),(.string ⟨#[]⟩),(.string ⟨#[]⟩),(.int .i64 0),(.int .i64 0),(.slice none 0 0)] 58):=⟨_,rfl⟩
  have hS:=entZ_blk w
  rw [← hw0] at hS
  have HS:=Lib.hid hS
  clear hS
  unfold entZA
  go_enter Tryz.func16,Tryz.ntmps16
  go_upto_region 1 with fail
  rw [← hw0]
  clear hw0
  go_wp2_with fail
  refine (HBK.out _ HS.out.2).mono ?_
  rintro e w1 ⟨v1,v2,rfl,hv1,hv2,b1⟩
  obtain ⟨W1,hW1⟩ : ∃ W1,W1=w1.alloc (.cells #[(.string ⟨#[64,112,97,120]⟩),(.string ⟨#[]⟩),(.string ⟨#[]⟩),(.int .i64 0),(.int .i64 0),(.int .i64 0),(.int .i64 d0.length),(.int .i64 0),(.int .u8 120),(.string ⟨#[]⟩),(.string ⟨#[]⟩)] 107):=⟨_,rfl⟩
  obtain ⟨g5,hg5⟩ : ∃ g5,g5=w1.heap.size:=⟨_,rfl⟩
  have hk5 : Blk W1 g5 107 #[(.string ⟨#[64,112,97,120]⟩),(.string ⟨#[]⟩),(.string ⟨#[]⟩),(.int .i64 0),(.int .i64 0),(.int .i64 0),(.int .i64 d0.length),(.int .i64 0),(.int .u8 120),(.string ⟨#[]⟩),(.string ⟨#[]⟩)]:=by rw [hW1,hg5];exact Blk.new _ _ _
  have hb1 : Below w1.heap.size w1 W1:=by rw [hW1];exact (Below.refl _ _).alloc (Nat.le_refl _) _
  have hb0 : Below w0.heap.size w0 W1:=b1.trans (hb1.mono b1.size)
  have HB1:=Lib.hid (HS.out.2.trans (hb0.mono HS.out.2.size))
  have HZ1:=Lib.hid (HS.out.1.below hb0 HS.out.1.lt)
  have HK5:=Lib.hid hk5
  have HGT : Hid (w.heap.size < g5):=Lib.hid (by have h1:=HS.out.1.lt;have h2:=b1.size;omega)
  have HV1:=Lib.hid (hv1.below hb1)
  have HV2:=Lib.hid (hv2.below hb1)
  obtain ⟨A1,c1,rfl,-⟩:=hv1
  obtain ⟨A2,c2,rfl,-⟩:=hv2
  clear hk5 hb1 hb0 b1 HBK HS
  have y8 : W1.cell? ⟨g5,8,none⟩=some (.int .u8 120):=HK5.out.cell 8
  have hcv:=conv_str HV1.out.bytes
  go_upto_region 2 with fail
  rw [← hW1,← hg5]
  clear hW1 hg5
  go_wp2_with fail
  refine (HPX.out _ HB1.out).mono ?_
  rintro e w2 ⟨lv,cc,rfl,hcc,b2⟩
  rcases hcc with ⟨rfl,-,-⟩ | ⟨-,hno,-⟩
  case inr => exact absurd HAS.out hno
  have HB22:=Lib.hid (HB1.out.trans (b2.mono HB1.out.size))
  have HZ2:=Lib.hid (HZ1.out.below b2 HZ1.out.lt)
  have HK2:=Lib.hid (HK5.out.below b2 HK5.out.lt)
  have HV22:=Lib.hid (HV2.out.below b2)
  clear b2 hcv hPT HB1 HZ1 HK5 HV1 HV2 HPX HAS
  go_wp2_with fail
  refine (HB2.out _ _ HV22.out.bytes).mono ?_
  rintro e w3 ⟨H,he,b3⟩
  obtain ⟨hn,hp,hl,hm,hu,hg,hz,ht,hy,hs,hr⟩:=H
  unfold headV headCells at he
  simp only at he
  subst he
  have HB3:=Lib.hid (HB22.out.trans (b3.mono HB22.out.size))
  have HZ3:=Lib.hid (HZ2.out.below b3 HZ2.out.lt)
  have HK3:=Lib.hid (HK2.out.below b3 HK2.out.lt)
  clear b3 HB22 HZ2 HK2 HV22 HB2 y8
  have z0:=HK3.out.cell 0;have f0:=HK3.out.frozen 0
  have z1:=HK3.out.cell 1;have f1:=HK3.out.frozen 1
  have z2:=HK3.out.cell 2;have f2:=HK3.out.frozen 2
  have z3:=HK3.out.cell 3;have f3:=HK3.out.frozen 3
  have z4:=HK3.out.cell 4;have f4:=HK3.out.frozen 4
  have z5:=HK3.out.cell 5;have f5:=HK3.out.frozen 5
  have z6:=HK3.out.cell 6;have f6:=HK3.out.frozen 6
  have z7:=HK3.out.cell 7;have f7:=HK3.out.frozen 7
  have z8:=HK3.out.cell 8;have f8:=HK3.out.frozen 8
  have z9:=HK3.out.cell 9;have f9:=HK3.out.frozen 9
  have z10:=HK3.out.cell 10;have f10:=HK3.out.frozen 10
  obtain ⟨W4,hW4⟩ : ∃ W4,W4=setAll w3 g5 0 [(.string (bs hn)),(.string (bs hp)),(.string (bs hl)),(.int .i64 hm),(.int .i64 hu),(.int .i64 hg),(.int .i64 hz),(.int .i64 ht),(.int .u8 hy.toNat),(.string (bs hs)),(.string (bs hr))]:=⟨_,rfl⟩
  have hZ4:=Blk.far_setAll (Nat.ne_of_lt HGT.out) [(.string (bs hn)),(.string (bs hp)),(.string (bs hl)),(.int .i64 hm),(.int .i64 hu),(.int .i64 hg),(.int .i64 hz),(.int .i64 ht),(.int .u8 hy.toNat),(.string (bs hs)),(.string (bs hr))] 0 HZ3.out
  have hB4:=Below.setAll (B:=w.heap.size) (g:=g5) (Nat.le_of_lt HGT.out) [(.string (bs hn)),(.string (bs hp)),(.string (bs hl)),(.int .i64 hm),(.int .i64 hu),(.int .i64 hg),(.int .i64 hz),(.int .i64 ht),(.int .u8 hy.toNat),(.string (bs hs)),(.string (bs hr))] 0 HB3.out
  rw [← hW4] at hZ4 hB4
  have HZ4:=Lib.hid hZ4
  have HB4:=Lib.hid hB4
  simp only [setAll,Nat.zero_add,Nat.reduceAdd] at hW4
  clear hZ4 hB4 HZ3 HB3 HK3
  go_upto_region 10 with fail
  rw [← hW4]
  clear hW4 z0 f0 z1 f1 z2 f2 z3 f3 z4 f4 z5 f5 z6 f6 z7 f7 z8 f8 z9 f9 z10 f10
  have z0 : W4.cell? ⟨w.heap.size,0,none⟩=some (.string ⟨#[]⟩):=HZ4.out.cell 0;have f0:=HZ4.out.frozen 0
  have z1 : W4.cell? ⟨w.heap.size,1,none⟩=some (.int .i64 0):=HZ4.out.cell 1;have f1:=HZ4.out.frozen 1
  have z2 : W4.cell? ⟨w.heap.size,2,none⟩=some (.string ⟨#[]⟩):=HZ4.out.cell 2;have f2:=HZ4.out.frozen 2
  have z3 : W4.cell? ⟨w.heap.size,3,none⟩=some (.int .i64 0):=HZ4.out.cell 3;have f3:=HZ4.out.frozen 3
  have z4 : W4.cell? ⟨w.heap.size,4,none⟩=some (.int .i64 0):=HZ4.out.cell 4;have f4:=HZ4.out.frozen 4
  have z5 : W4.cell? ⟨w.heap.size,5,none⟩=some (.int .i64 0):=HZ4.out.cell 5;have f5:=HZ4.out.frozen 5
  have z6 : W4.cell? ⟨w.heap.size,6,none⟩=some (.string ⟨#[]⟩):=HZ4.out.cell 6;have f6:=HZ4.out.frozen 6
  have z7 : W4.cell? ⟨w.heap.size,7,none⟩=some (.string ⟨#[]⟩):=HZ4.out.cell 7;have f7:=HZ4.out.frozen 7
  have z8 : W4.cell? ⟨w.heap.size,8,none⟩=some (.int .i64 0):=HZ4.out.cell 8;have f8:=HZ4.out.frozen 8
  have z9 : W4.cell? ⟨w.heap.size,9,none⟩=some (.int .i64 0):=HZ4.out.cell 9;have f9:=HZ4.out.frozen 9
  have z10 : W4.cell? ⟨w.heap.size,10,none⟩=some (.slice none 0 0):=HZ4.out.cell 10;have f10:=HZ4.out.frozen 10
  go_wp2_with fail
  clear z0 f0 z1 f1 z2 f2 z3 f3 z4 f4 z5 f5 z6 f6 z7 f7 z8 f8 z9 f9 z10 f10
  have hHB : HasBlk W4 w.heap.size 58 11:=⟨_,rfl,HZ4.out⟩
  obtain ⟨WE,hWE⟩ : ∃ WE,WE=setAll W4 w.heap.size 0 [(.string ⟨#[]⟩),(.int .i64 0),(.string ⟨#[]⟩),(.int .i64 0),(.int .i64 0),(.int .i64 0),(.string ⟨#[]⟩),(.string ⟨#[]⟩),(.int .i64 0),(.int .i64 0),(.slice none 0 0)]:=⟨_,rfl⟩
  have hk:=hHB.fill [(.string ⟨#[]⟩),(.int .i64 0),(.string ⟨#[]⟩),(.int .i64 0),(.int .i64 0),(.int .i64 0),(.string ⟨#[]⟩),(.string ⟨#[]⟩),(.int .i64 0),(.int .i64 0),(.slice none 0 0)] rfl
  have hBE:=Below.setAll (B:=w.heap.size) (g:=w.heap.size) (Nat.le_refl _) [(.string ⟨#[]⟩),(.int .i64 0),(.string ⟨#[]⟩),(.int .i64 0),(.int .i64 0),(.int .i64 0),(.string ⟨#[]⟩),(.string ⟨#[]⟩),(.int .i64 0),(.int .i64 0),(.slice none 0 0)] 0 HB4.out
  rw [← hWE] at hk hBE
  simp only [setAll,Nat.zero_add,Nat.reduceAdd] at hWE
  rw [← hWE]
  clear hWE hHB
  have x0 : WE.cell? ⟨w.heap.size,0,none⟩=some (.string ⟨#[]⟩):=hk.cell 0
  have x1 : WE.cell? ⟨w.heap.size,1,none⟩=some (.int .i64 0):=hk.cell 1
  have x2 : WE.cell? ⟨w.heap.size,2,none⟩=some (.string ⟨#[]⟩):=hk.cell 2
  have x3 : WE.cell? ⟨w.heap.size,3,none⟩=some (.int .i64 0):=hk.cell 3
  have x4 : WE.cell? ⟨w.heap.size,4,none⟩=some (.int .i64 0):=hk.cell 4
  have x5 : WE.cell? ⟨w.heap.size,5,none⟩=some (.int .i64 0):=hk.cell 5
  have x6 : WE.cell? ⟨w.heap.size,6,none⟩=some (.string ⟨#[]⟩):=hk.cell 6
  have x7 : WE.cell? ⟨w.heap.size,7,none⟩=some (.string ⟨#[]⟩):=hk.cell 7
  have x8 : WE.cell? ⟨w.heap.size,8,none⟩=some (.int .i64 0):=hk.cell 8
  have x9 : WE.cell? ⟨w.heap.size,9,none⟩=some (.int .i64 0):=hk.cell 9
  have x10 : WE.cell? ⟨w.heap.size,10,none⟩=some (.slice none 0 0):=hk.cell 10
  exact bodyPost_ret (v:=.tuple #[.agg #[(.string ⟨#[]⟩),(.int .i64 0),(.string ⟨#[]⟩),(.int .i64 0),(.int .i64 0),(.int .i64 0),(.string ⟨#[]⟩),(.string ⟨#[]⟩),(.int .i64 0),(.int .i64 0),(.slice none 0 0)],.int .i64 0,.int .i64 7]) (by simp [results,Tryz.results16,go_sem,x0,x1,x2,x3,x4,x5,x6,x7,x8,x9,x10]) rfl ⟨rfl,hBE⟩
theorem MRead_torn (x : EntP) (h : EntOk x) (k : Nat) (hk : k < (memB x).length) (v : Value) (w : World) (hm : ∀ W,Below w.heap.size w W→ML W) (h10 : ∀ W,Below w.heap.size w W→P10 W) (hv : BytesAt w w.heap.size v ((memB x).take k)) :
    Calls Tryz.prog 16 #[v] w fun e w' => e=.returned (.tuple #[.agg entZA,.int .i64 0,.int .i64 7])∧Below w.heap.size w w':=by
  rcases memB_torn h hk with ht | ⟨m,hR,he,ht,hml⟩
  · exact MRead_torn1 _ ht v w hv
  · exact MRead_torn2 x h hR _ m he (by have:=(memB_blocks h).2.2.2;omega) ht v w hm h10 hv
end
end Go.Proofs.YtphmhmdcaafmdaaGreatDoor
