import Derived.Test.YtphmhmdcaafmdaaGreatDoorMReads
import Derived.Test.YtphmhmdcaafmdaaGreatDoorHeadA
namespace Go.Proofs.YtphmhmdcaafmdaaGreatDoor
set_option linter.all false
open Go.RowKit
theorem Blocks_big (n : Nat) (h : n < 8589934592) (w : World) :
    Calls Tryz.prog 154 #[.int .i64 n] w fun e w' => e=.returned (.tuple #[.int .i64 (kN n),.int .i64 0])∧w=w' :=
  (Blocks_ok n (by omega) (by omega) w).mono fun e w' ⟨h1,h2⟩ => ⟨by rw [h1,blocks_nat],h2⟩
set_option maxRecDepth 100000 in
set_option maxHeartbeats 400000 in
theorem PCut_low (v : Value) (l : List UInt8) (n B : Nat) (w : World) (hl : BytesAt w B v l) (hn : n < 8589934592) (hlen : l.length < kN n * 512) :
    Calls Tryz.prog 104 #[v,.int .i64 n] w fun e w' => e=.returned (.tuple #[.slice none 0 0,.slice none 0 0,.int .i64 7])∧w=w':=by
  obtain ⟨A,c,rfl,_⟩:=hl
  rw [List.length_map]
  have hk : kN n≤16777216:=by unfold kN;omega
  have hB:=Lib.hid (fun w => Blocks_big n hn w)
  generalize kN n=k at *
  go_enter Tryz.func104,Tryz.ntmps104
  go_wp2_with fail
  refine (hB.out _).mono ?_
  rintro e w' ⟨rfl,rfl⟩
  go_wp2_with fail
  go_ret3
  exact ⟨rfl,rfl⟩
theorem PCut_all (v : Value) (l : List UInt8) (n : Nat) (w : World) (hl : BytesAt w w.heap.size v l) (hn : n < 8589934592) (hll : l.length≤5000000) :
    Calls Tryz.prog 104 #[v,.int .i64 n] w fun e w' => ∃ (A1 : Option Addr) (n1 c1 : Nat) (A2 : Option Addr) (n2 c2 : Nat) (c : Int),e=.returned (.tuple #[.slice A1 n1 c1,.slice A2 n2 c2,.int .i64 c])∧Below w.heap.size w w' ∧
      (c=0→kN n * 512≤l.length∧DataAt w' w.heap.size (.slice A1 n1 c1) (l.take n)∧DataAt w' w.heap.size (.slice A2 n2 c2) (l.drop (kN n * 512))):=by
  by_cases hs : l.length < kN n * 512
  · exact (PCut_low v l n _ w hl hn hs).mono fun e w' ⟨h1,h2⟩ => ⟨none,0,0,none,0,0,7,h1,by rw [← h2];exact Below.refl _ _,fun h => by cases h⟩
  · have hn5 : n≤5000000:=by unfold kN at hs;omega
    obtain ⟨A,c,e,hlc,hcm,h0,hr⟩:=id hl
    rw [List.length_map] at e hlc
    rcases A with _ | ad
    · have hc:=h0 rfl
      obtain rfl : l=[]:=List.eq_nil_of_length_eq_zero (by omega)
      obtain rfl : n=0:=by unfold kN at hs;simp at hs;omega
      subst hc e
      exact (PCut_nil w).mono fun e w' ⟨h1,h2⟩ => ⟨none,0,0,none,0,0,0,h1,h2,fun _ => ⟨by simp [kN],DataAt.nil _ _,DataAt.nil _ _⟩⟩
    · subst e
      by_cases hz : ∀ b∈(l.drop n).take (kN n * 512 - n),b=0
      · refine (PCut_own ad l n c w hl (by omega) (by omega) (by omega) hz).mono fun e w' ⟨v1,v2,h1,h2,h3,h4⟩ => ?_
        have d1:=DataAt.of_own h2
        have d2:=DataAt.of_own h3
        obtain ⟨A1,c1,rfl,-⟩:=id d1
        obtain ⟨A2,c2,rfl,-⟩:=id d2
        exact ⟨A1,_,c1,A2,_,c2,0,h1,h4,fun _ => ⟨by omega,d1,d2⟩⟩
      · exact (PCut_form ad l n c w hl (by omega) (by omega) (by omega) hz).mono fun e w' ⟨h1,h2⟩ => ⟨none,0,0,none,0,0,3,h1,h2,fun h => by cases h⟩
def BlkPost (w : World) (d : List UInt8) (e : Ending) (w' : World) : Prop :=
  ∃ (h : PHead) (A1 : Option Addr) (n1 c1 : Nat) (A2 : Option Addr) (n2 c2 : Nat) (c : Int),e=.returned (.tuple #[headV h,.slice A1 n1 c1,.slice A2 n2 c2,.int .i64 c])∧Below w.heap.size w w' ∧
    (c=0→HeadIn h∧512 + kN h.size * 512≤d.length∧DataAt w' w.heap.size (.slice A1 n1 c1) ((d.drop 512).take h.size)∧DataAt w' w.heap.size (.slice A2 n2 c2) ((d.drop 512).drop (kN h.size * 512)))
set_option maxRecDepth 100000 in
set_option maxHeartbeats 8000000 in
theorem Block_all (v : Value) (d : List UInt8) (w : World) (hv : BytesAt w w.heap.size v d) (hdl : d.length≤5000000) :
    Calls Tryz.prog 52 #[v] w fun e w' => BlkPost w d e w':=by
  by_cases hlow : d.length < 512
  · exact (Block_low v d w hv hlow).mono fun e w' ⟨h1,h2⟩ => ⟨noH,none,0,0,none,0,0,7,h1,h2,fun h => by cases h⟩
  obtain ⟨hb,r,rfl,hlen,hrl⟩:=cut_front d 512 (by omega)
  have hdrop : (hb ++ r).drop 512=r:=by rw [← hlen];exact List.drop_left
  have HRD:=Lib.hid (fun W => HRead_all hb hlen W)
  obtain ⟨A,c,e,hlc,hcm,h0,hr⟩:=id hv
  rw [List.length_map] at e hlc
  rcases A with _ | ad
  · exfalso
    have:=h0 rfl
    omega
  subst e
  have hf:=hv.front 512 (by omega)
  have ht : (hb ++ r).take 512=hb:=by rw [← hlen];exact List.take_left
  have hp:=hv.part 512 (hb ++ r).length (by omega) (Nat.le_refl _)
  have hd' : ((hb ++ r).drop 512).take ((hb ++ r).length - 512)=r:=by
    rw [hdrop]
    exact List.take_of_length_le (by rw [List.length_append];omega)
  rw [ht] at hf
  rw [hd'] at hp
  unfold BlkPost
  rw [hdrop]
  have hL : (hb ++ r).length=r.length + 512:=by rw [List.length_append];omega
  rw [hL] at hlc hp hdl ⊢
  unfold maxLen at hcm
  clear hr hv h0 hd' ht hL hlow hdrop
  have HLE : Hid (∀ q,q≤r.length→512 + q≤r.length + 512):=Lib.hid (fun q hq => by omega)
  have HCU:=Lib.hid (fun W v' n (hl : BytesAt W W.heap.size v' r) (hn : n < 8589934592) => PCut_all v' r n W hl hn (by omega))
  have hS:=headZ_blk w
  have HS:=Lib.hid hS
  have hcv:=conv_str (hf.below hS.2)
  have HP:=Lib.hid hp
  clear hS hf hp hrl
  have d1 : ¬ ((r.length + 512 : Nat) : Int) < 512:=by omega
  have d2 : decide (((r.length + 512 : Nat) : Int) < 512)=false:=decide_eq_false d1
  have i1 : (512 : Int)≤((r.length + 512 : Nat) : Int):=by omega
  have i2 : (512 : Int)≤(c : Int):=by omega
  have i3 : ((r.length + 512 : Nat) : Int)≤(c : Int):=by omega
  have i4 : 512≤c:=by omega
  have i5 : 512≤r.length + 512:=by omega
  generalize bs hb=bh at *
  unfold headV headCells at HRD
  unfold headV headCells
  clear hlen
  generalize r.length + 512=L at *
  go_enter Tryz.func52,Tryz.ntmps52
  unfold headNone at *
  go_wp2_with fail
  refine (HRD.out _).mono ?_
  rintro e w1 ⟨hres,b1⟩
  have HB1:=Lib.hid (HS.out.2.trans (b1.mono HS.out.2.size))
  have HZ1:=Lib.hid (HS.out.1.below b1 HS.out.1.lt)
  clear b1 hcv HRD
  rcases hres with ⟨⟨nm,pr,lk,md,ui,gi,sz,tm,ty,us,gr⟩,hin,rfl⟩ | ⟨q,hq,rfl⟩
  case inr =>
    have hq1 : (q == 0)=false:=beq_eq_false_iff_ne.2 hq
    have hq2 : (q != 0)=true:=by simp [hq]
    have HQ:=Lib.hid hq
    clear hq HP HCU HLE
    obtain ⟨W1,hW1⟩ : ∃ W1,W1=w1.alloc (.cells #[(.string ⟨#[]⟩),(.string ⟨#[]⟩),(.string ⟨#[]⟩),(.int .i64 0),(.int .i64 0),(.int .i64 0),(.int .i64 0),(.int .i64 0),(.int .u8 0),(.string ⟨#[]⟩),(.string ⟨#[]⟩)] 107):=⟨_,rfl⟩
    have hb1 : Below w1.heap.size w1 W1:=by rw [hW1];exact (Below.refl _ _).alloc (Nat.le_refl _) _
    have HB2:=Lib.hid (HB1.out.trans (hb1.mono HB1.out.size))
    have HZ2:=Lib.hid (HZ1.out.below hb1 HZ1.out.lt)
    clear hb1 HB1 HZ1
    go_upto_region 4 with fail
    rw [← hW1]
    clear hW1
    have z0 : W1.cell? ⟨w.heap.size,0,none⟩=some (.string ⟨#[]⟩):=HZ2.out.cell 0;have f0:=HZ2.out.frozen 0
    have z1 : W1.cell? ⟨w.heap.size,1,none⟩=some (.string ⟨#[]⟩):=HZ2.out.cell 1;have f1:=HZ2.out.frozen 1
    have z2 : W1.cell? ⟨w.heap.size,2,none⟩=some (.string ⟨#[]⟩):=HZ2.out.cell 2;have f2:=HZ2.out.frozen 2
    have z3 : W1.cell? ⟨w.heap.size,3,none⟩=some (.int .i64 0):=HZ2.out.cell 3;have f3:=HZ2.out.frozen 3
    have z4 : W1.cell? ⟨w.heap.size,4,none⟩=some (.int .i64 0):=HZ2.out.cell 4;have f4:=HZ2.out.frozen 4
    have z5 : W1.cell? ⟨w.heap.size,5,none⟩=some (.int .i64 0):=HZ2.out.cell 5;have f5:=HZ2.out.frozen 5
    have z6 : W1.cell? ⟨w.heap.size,6,none⟩=some (.int .i64 0):=HZ2.out.cell 6;have f6:=HZ2.out.frozen 6
    have z7 : W1.cell? ⟨w.heap.size,7,none⟩=some (.int .i64 0):=HZ2.out.cell 7;have f7:=HZ2.out.frozen 7
    have z8 : W1.cell? ⟨w.heap.size,8,none⟩=some (.int .u8 0):=HZ2.out.cell 8;have f8:=HZ2.out.frozen 8
    have z9 : W1.cell? ⟨w.heap.size,9,none⟩=some (.string ⟨#[]⟩):=HZ2.out.cell 9;have f9:=HZ2.out.frozen 9
    have z10 : W1.cell? ⟨w.heap.size,10,none⟩=some (.string ⟨#[]⟩):=HZ2.out.cell 10;have f10:=HZ2.out.frozen 10
    go_wp2_with fail
    clear z0 f0 z1 f1 z2 f2 z3 f3 z4 f4 z5 f5 z6 f6 z7 f7 z8 f8 z9 f9 z10 f10
    have hHB : HasBlk W1 w.heap.size 107 11:=⟨_,rfl,HZ2.out⟩
    obtain ⟨WE,hWE⟩ : ∃ WE,WE=setAll W1 w.heap.size 0 [(.string ⟨#[]⟩),(.string ⟨#[]⟩),(.string ⟨#[]⟩),(.int .i64 0),(.int .i64 0),(.int .i64 0),(.int .i64 0),(.int .i64 0),(.int .u8 0),(.string ⟨#[]⟩),(.string ⟨#[]⟩)]:=⟨_,rfl⟩
    have hk:=hHB.fill [(.string ⟨#[]⟩),(.string ⟨#[]⟩),(.string ⟨#[]⟩),(.int .i64 0),(.int .i64 0),(.int .i64 0),(.int .i64 0),(.int .i64 0),(.int .u8 0),(.string ⟨#[]⟩),(.string ⟨#[]⟩)] rfl
    have hBE:=Below.setAll (B:=w.heap.size) (g:=w.heap.size) (Nat.le_refl _) [(.string ⟨#[]⟩),(.string ⟨#[]⟩),(.string ⟨#[]⟩),(.int .i64 0),(.int .i64 0),(.int .i64 0),(.int .i64 0),(.int .i64 0),(.int .u8 0),(.string ⟨#[]⟩),(.string ⟨#[]⟩)] 0 HB2.out
    rw [← hWE] at hk hBE
    simp only [setAll,Nat.zero_add,Nat.reduceAdd] at hWE
    rw [← hWE]
    clear hWE hHB
    have x0 : WE.cell? ⟨w.heap.size,0,none⟩=some (.string ⟨#[]⟩):=hk.cell 0
    have x1 : WE.cell? ⟨w.heap.size,1,none⟩=some (.string ⟨#[]⟩):=hk.cell 1
    have x2 : WE.cell? ⟨w.heap.size,2,none⟩=some (.string ⟨#[]⟩):=hk.cell 2
    have x3 : WE.cell? ⟨w.heap.size,3,none⟩=some (.int .i64 0):=hk.cell 3
    have x4 : WE.cell? ⟨w.heap.size,4,none⟩=some (.int .i64 0):=hk.cell 4
    have x5 : WE.cell? ⟨w.heap.size,5,none⟩=some (.int .i64 0):=hk.cell 5
    have x6 : WE.cell? ⟨w.heap.size,6,none⟩=some (.int .i64 0):=hk.cell 6
    have x7 : WE.cell? ⟨w.heap.size,7,none⟩=some (.int .i64 0):=hk.cell 7
    have x8 : WE.cell? ⟨w.heap.size,8,none⟩=some (.int .u8 0):=hk.cell 8
    have x9 : WE.cell? ⟨w.heap.size,9,none⟩=some (.string ⟨#[]⟩):=hk.cell 9
    have x10 : WE.cell? ⟨w.heap.size,10,none⟩=some (.string ⟨#[]⟩):=hk.cell 10
    exact bodyPost_ret (v:=.tuple #[.agg #[(.string ⟨#[]⟩),(.string ⟨#[]⟩),(.string ⟨#[]⟩),(.int .i64 0),(.int .i64 0),(.int .i64 0),(.int .i64 0),(.int .i64 0),(.int .u8 0),(.string ⟨#[]⟩),(.string ⟨#[]⟩)],.slice none 0 0,.slice none 0 0,.int .i64 q]) (by simp [results,Tryz.results52,go_sem,x0,x1,x2,x3,x4,x5,x6,x7,x8,x9,x10]) rfl ⟨noH,none,0,0,none,0,0,q,rfl,hBE,fun h => absurd h HQ.out⟩
  have HIN:=Lib.hid hin
  have hszb:=hin.size
  simp only at hszb
  have HSZ:=Lib.hid hszb
  clear hin hszb
  obtain ⟨W1,hW1⟩ : ∃ W1,W1=w1.alloc (.cells #[(.string (bs nm)),(.string (bs pr)),(.string (bs lk)),(.int .i64 md),(.int .i64 ui),(.int .i64 gi),(.int .i64 sz),(.int .i64 tm),(.int .u8 ty.toNat),(.string (bs us)),(.string (bs gr))] 107):=⟨_,rfl⟩
  obtain ⟨g6,hg6⟩ : ∃ g6,g6=w1.heap.size:=⟨_,rfl⟩
  have hk1 : Blk W1 g6 107 #[(.string (bs nm)),(.string (bs pr)),(.string (bs lk)),(.int .i64 md),(.int .i64 ui),(.int .i64 gi),(.int .i64 sz),(.int .i64 tm),(.int .u8 ty.toNat),(.string (bs us)),(.string (bs gr))]:=by rw [hW1,hg6];exact Blk.new _ _ _
  have hb1 : Below w1.heap.size w1 W1:=by rw [hW1];exact (Below.refl _ _).alloc (Nat.le_refl _) _
  have HB2:=Lib.hid (HB1.out.trans (hb1.mono HB1.out.size))
  have HZ2:=Lib.hid (HZ1.out.below hb1 HZ1.out.lt)
  have HK1:=Lib.hid hk1
  clear hb1 hk1 HB1 HZ1
  go_upto_region 4 with fail
  rw [← hW1,← hg6]
  clear hW1 hg6
  have HC6 : Hid (∀ W,Below W1.heap.size W1 W→W.cell? ⟨g6,6,none⟩=some (.int .i64 sz)):=Lib.hid (fun W hb => (HK1.out.below hb HK1.out.lt).cell 6)
  have c6 : W1.cell? ⟨g6,6,none⟩=some (.int .i64 sz):=HK1.out.cell 6
  have HW2 : Hid (∀ W,Below W1.heap.size W1 W→Below w.heap.size w W):=Lib.hid (fun W hb => HB2.out.trans (hb.mono HB2.out.size))
  by_cases hc5 : c=512
  · subst hc5
    obtain rfl : L=512:=by omega
    rw [if_pos rfl] at HP
    have HQ : Hid (∀ W,Below w.heap.size w W→BytesAt W W.heap.size (.slice (some ad) 0 0) r):=Lib.hid (fun W hb => (HP.out.below hb).more hb.size)
    go_upto_region 6 with fail
    refine wp_region_G (S:=fun W => Below W1.heap.size W1 W) (by kernel_rfl) (Below.refl _ _).drew ?_
    refine wpG_take (i:=0) (v:=?vb1) rfl (by kernel_rfl) (by kernel_rfl) (by kernel_rfl) (fun _ _ _ h => h) (Or.inl ⟨by rfl,?hyb1⟩) ?restb1
    case hyb1 => (intro W hSw;left;(try dsimp only at hSw);go_simp;try with_reducible rfl)
    simp only [Act.put,List.setIfInBounds_toArray,List.set_cons_zero,List.set_cons_succ,List.getElem_toArray,List.getElem_cons_zero,List.getElem_cons_succ]
    refine wpG_take (i:=1) (v:=?vb2) rfl (by kernel_rfl) (by kernel_rfl) (by kernel_rfl) (fun _ _ _ h => h) (Or.inl ⟨by rfl,?hyb2⟩) ?restb2
    case hyb2 => (intro W hSw;left;(try dsimp only at hSw);go_simp;try with_reducible rfl)
    simp only [Act.put,List.setIfInBounds_toArray,List.set_cons_zero,List.set_cons_succ,List.getElem_toArray,List.getElem_cons_zero,List.getElem_cons_succ]
    refine wpG_take (i:=2) (v:=?vb3) rfl (by kernel_rfl) (by kernel_rfl) (by kernel_rfl) (fun _ _ _ h => h) (Or.inl ⟨by rfl,?hyb3⟩) ?restb3
    case hyb3 => (intro W hSw;left;(try dsimp only at hSw);go_simp;try with_reducible rfl)
    simp only [Act.put,List.setIfInBounds_toArray,List.set_cons_zero,List.set_cons_succ,List.getElem_toArray,List.getElem_cons_zero,List.getElem_cons_succ]
    refine wpG_take (i:=3) (v:=?vb4) rfl (by kernel_rfl) (by kernel_rfl) (by kernel_rfl) (fun _ _ _ h => h) (Or.inl ⟨by rfl,?hyb4⟩) ?restb4
    case hyb4 => (intro W hSw;left;(try dsimp only at hSw);have c6:=HC6.out _ hSw;go_simp;try with_reducible rfl)
    simp only [Act.put,List.setIfInBounds_toArray,List.set_cons_zero,List.set_cons_succ,List.getElem_toArray,List.getElem_cons_zero,List.getElem_cons_succ]
    refine wpG_one (i:=4) (by kernel_rfl) rfl (fun Wc hb hS K hK => ?_)
    go_simp
    refine (HCU.out _ _ sz (HQ.out _ (HW2.out _ hS)) HSZ.out).mono ?_
    rintro e w9 ⟨A1,n1,c1,A2,n2,c2,cc,rfl,b9,hcc⟩
    have hS9 : Below W1.heap.size W1 w9:=hS.trans (b9.mono hS.size)
    have HCC:=Lib.hid hcc
    have HWc:=Lib.hid (HW2.out _ hS)
    clear hcc b9
    refine hK.out _ _ hS9 ?_
    clear hK K hS hb hS9
    try simp only [Act.put,List.setIfInBounds_toArray,List.set_cons_zero,List.set_cons_succ,List.getElem_toArray,List.getElem_cons_zero,List.getElem_cons_succ]
    refine wpG_take (i:=5) (v:=?vb5) rfl (by kernel_rfl) (by kernel_rfl) (by kernel_rfl) (fun _ _ _ h => h) (Or.inl ⟨by rfl,?hyb5⟩) ?restb5
    case hyb5 => (intro W hSw;left;(try dsimp only at hSw);go_simp;try with_reducible rfl)
    simp only [Act.put,List.setIfInBounds_toArray,List.set_cons_zero,List.set_cons_succ,List.getElem_toArray,List.getElem_cons_zero,List.getElem_cons_succ]
    refine wpG_take (i:=6) (v:=?vb6) rfl (by kernel_rfl) (by kernel_rfl) (by kernel_rfl) (fun _ _ _ h => h) (Or.inl ⟨by rfl,?hyb6⟩) ?restb6
    case hyb6 => (intro W hSw;left;(try dsimp only at hSw);go_simp;try with_reducible rfl)
    simp only [Act.put,List.setIfInBounds_toArray,List.set_cons_zero,List.set_cons_succ,List.getElem_toArray,List.getElem_cons_zero,List.getElem_cons_succ]
    refine wpG_take (i:=7) (v:=?vb7) rfl (by kernel_rfl) (by kernel_rfl) (by kernel_rfl) (fun _ _ _ h => h) (Or.inl ⟨by rfl,?hyb7⟩) ?restb7
    case hyb7 => (intro W hSw;left;(try dsimp only at hSw);go_simp;try with_reducible rfl)
    simp only [Act.put,List.setIfInBounds_toArray,List.set_cons_zero,List.set_cons_succ,List.getElem_toArray,List.getElem_cons_zero,List.getElem_cons_succ]
    refine wpG_take (i:=8) (v:=?vb8) rfl (by kernel_rfl) (by kernel_rfl) (by kernel_rfl) (fun _ _ _ h => h) (Or.inl ⟨by rfl,?hyb8⟩) ?restb8
    case hyb8 => (intro W hSw;left;(try dsimp only at hSw);go_simp;try with_reducible rfl)
    simp only [Act.put,List.setIfInBounds_toArray,List.set_cons_zero,List.set_cons_succ,List.getElem_toArray,List.getElem_cons_zero,List.getElem_cons_succ]
    refine wpG_take (i:=9) (v:=?vb9) rfl (by kernel_rfl) (by kernel_rfl) (by kernel_rfl) (fun _ _ _ h => h) (Or.inl ⟨by rfl,?hyb9⟩) ?restb9
    case hyb9 => (intro W hSw;left;(try dsimp only at hSw);go_simp;try with_reducible rfl)
    simp only [Act.put,List.setIfInBounds_toArray,List.set_cons_zero,List.set_cons_succ,List.getElem_toArray,List.getElem_cons_zero,List.getElem_cons_succ]
    refine wpG_take (i:=10) (v:=?vb10) rfl (by kernel_rfl) (by kernel_rfl) (by kernel_rfl) (fun _ _ _ h => h) (Or.inl ⟨by rfl,?hyb10⟩) ?restb10
    case hyb10 => (intro W hSw;left;(try dsimp only at hSw);go_simp;try with_reducible rfl)
    simp only [Act.put,List.setIfInBounds_toArray,List.set_cons_zero,List.set_cons_succ,List.getElem_toArray,List.getElem_cons_zero,List.getElem_cons_succ]
    refine wpG_take (i:=11) (v:=?vb11) rfl (by kernel_rfl) (by kernel_rfl) (by kernel_rfl) (fun _ _ _ h => h) (Or.inl ⟨by rfl,?hyb11⟩) ?restb11
    case hyb11 => (intro W hSw;left;(try dsimp only at hSw);go_simp;try with_reducible rfl)
    simp only [Act.put,List.setIfInBounds_toArray,List.set_cons_zero,List.set_cons_succ,List.getElem_toArray,List.getElem_cons_zero,List.getElem_cons_succ]
    refine wpG_done (by kernel_rfl) (fun w' hb hS => ?_) _
    clear HCU HP HQ
    have HF:=Lib.hid (HK1.out.below hS HK1.out.lt)
    have HZ:=Lib.hid (HZ2.out.below hS HZ2.out.lt)
    have HBF:=Lib.hid (HW2.out _ hS)
    have HCD:=Lib.hid (fun h => (show kN sz * 512≤r.length∧DataAt w' w.heap.size (.slice A1 n1 c1) (r.take sz)∧DataAt w' w.heap.size (.slice A2 n2 c2) (r.drop (kN sz * 512)) from ⟨(HCC.out h).1,((HCC.out h).2.1.mono HWc.out.size).below hb,((HCC.out h).2.2.mono HWc.out.size).below hb⟩))
    clear HCC HWc
    clear hS hb HW2 HC6 c6
    have p0:=HF.out.cell 0
    have p1:=HF.out.cell 1
    have p2:=HF.out.cell 2
    have p3:=HF.out.cell 3
    have p4:=HF.out.cell 4
    have p5:=HF.out.cell 5
    have p6:=HF.out.cell 6
    have p7:=HF.out.cell 7
    have p8:=HF.out.cell 8
    have p9:=HF.out.cell 9
    have p10:=HF.out.cell 10
    have z0 : w'.cell? ⟨w.heap.size,0,none⟩=some (.string ⟨#[]⟩):=HZ.out.cell 0;have f0:=HZ.out.frozen 0
    have z1 : w'.cell? ⟨w.heap.size,1,none⟩=some (.string ⟨#[]⟩):=HZ.out.cell 1;have f1:=HZ.out.frozen 1
    have z2 : w'.cell? ⟨w.heap.size,2,none⟩=some (.string ⟨#[]⟩):=HZ.out.cell 2;have f2:=HZ.out.frozen 2
    have z3 : w'.cell? ⟨w.heap.size,3,none⟩=some (.int .i64 0):=HZ.out.cell 3;have f3:=HZ.out.frozen 3
    have z4 : w'.cell? ⟨w.heap.size,4,none⟩=some (.int .i64 0):=HZ.out.cell 4;have f4:=HZ.out.frozen 4
    have z5 : w'.cell? ⟨w.heap.size,5,none⟩=some (.int .i64 0):=HZ.out.cell 5;have f5:=HZ.out.frozen 5
    have z6 : w'.cell? ⟨w.heap.size,6,none⟩=some (.int .i64 0):=HZ.out.cell 6;have f6:=HZ.out.frozen 6
    have z7 : w'.cell? ⟨w.heap.size,7,none⟩=some (.int .i64 0):=HZ.out.cell 7;have f7:=HZ.out.frozen 7
    have z8 : w'.cell? ⟨w.heap.size,8,none⟩=some (.int .u8 0):=HZ.out.cell 8;have f8:=HZ.out.frozen 8
    have z9 : w'.cell? ⟨w.heap.size,9,none⟩=some (.string ⟨#[]⟩):=HZ.out.cell 9;have f9:=HZ.out.frozen 9
    have z10 : w'.cell? ⟨w.heap.size,10,none⟩=some (.string ⟨#[]⟩):=HZ.out.cell 10;have f10:=HZ.out.frozen 10
    go_wp2_with fail
    clear p0 z0 f0 p1 z1 f1 p2 z2 f2 p3 z3 f3 p4 z4 f4 p5 z5 f5 p6 z6 f6 p7 z7 f7 p8 z8 f8 p9 z9 f9 p10 z10 f10
    have hHB : HasBlk w' w.heap.size 107 11:=⟨_,rfl,HZ.out⟩
    obtain ⟨WE,hWE⟩ : ∃ WE,WE=setAll w' w.heap.size 0 [(.string (bs nm)),(.string (bs pr)),(.string (bs lk)),(.int .i64 md),(.int .i64 ui),(.int .i64 gi),(.int .i64 sz),(.int .i64 tm),(.int .u8 ty.toNat),(.string (bs us)),(.string (bs gr))]:=⟨_,rfl⟩
    have hk:=hHB.fill [(.string (bs nm)),(.string (bs pr)),(.string (bs lk)),(.int .i64 md),(.int .i64 ui),(.int .i64 gi),(.int .i64 sz),(.int .i64 tm),(.int .u8 ty.toNat),(.string (bs us)),(.string (bs gr))] rfl
    have hKE:=Lib.hid (U8Kept.setAll (by decide) [(.string (bs nm)),(.string (bs pr)),(.string (bs lk)),(.int .i64 md),(.int .i64 ui),(.int .i64 gi),(.int .i64 sz),(.int .i64 tm),(.int .u8 ty.toNat),(.string (bs us)),(.string (bs gr))] 0 hHB)
    have hBE:=Below.setAll (B:=w.heap.size) (g:=w.heap.size) (Nat.le_refl _) [(.string (bs nm)),(.string (bs pr)),(.string (bs lk)),(.int .i64 md),(.int .i64 ui),(.int .i64 gi),(.int .i64 sz),(.int .i64 tm),(.int .u8 ty.toNat),(.string (bs us)),(.string (bs gr))] 0 HBF.out
    rw [← hWE] at hk hBE hKE
    simp only [setAll,Nat.zero_add,Nat.reduceAdd] at hWE
    rw [← hWE]
    clear hWE hHB
    have x0 : WE.cell? ⟨w.heap.size,0,none⟩=some (.string (bs nm)):=hk.cell 0
    have x1 : WE.cell? ⟨w.heap.size,1,none⟩=some (.string (bs pr)):=hk.cell 1
    have x2 : WE.cell? ⟨w.heap.size,2,none⟩=some (.string (bs lk)):=hk.cell 2
    have x3 : WE.cell? ⟨w.heap.size,3,none⟩=some (.int .i64 md):=hk.cell 3
    have x4 : WE.cell? ⟨w.heap.size,4,none⟩=some (.int .i64 ui):=hk.cell 4
    have x5 : WE.cell? ⟨w.heap.size,5,none⟩=some (.int .i64 gi):=hk.cell 5
    have x6 : WE.cell? ⟨w.heap.size,6,none⟩=some (.int .i64 sz):=hk.cell 6
    have x7 : WE.cell? ⟨w.heap.size,7,none⟩=some (.int .i64 tm):=hk.cell 7
    have x8 : WE.cell? ⟨w.heap.size,8,none⟩=some (.int .u8 ty.toNat):=hk.cell 8
    have x9 : WE.cell? ⟨w.heap.size,9,none⟩=some (.string (bs us)):=hk.cell 9
    have x10 : WE.cell? ⟨w.heap.size,10,none⟩=some (.string (bs gr)):=hk.cell 10
    exact bodyPost_ret (v:=.tuple #[.agg #[(.string (bs nm)),(.string (bs pr)),(.string (bs lk)),(.int .i64 md),(.int .i64 ui),(.int .i64 gi),(.int .i64 sz),(.int .i64 tm),(.int .u8 ty.toNat),(.string (bs us)),(.string (bs gr))],.slice A1 n1 c1,.slice A2 n2 c2,.int .i64 cc]) (by simp [results,Tryz.results52,go_sem,x0,x1,x2,x3,x4,x5,x6,x7,x8,x9,x10]) rfl ⟨⟨nm,pr,lk,md,ui,gi,sz,tm,ty,us,gr⟩,A1,n1,c1,A2,n2,c2,cc,rfl,hBE,fun h => ⟨HIN.out,HLE.out _ (HCD.out h).1,(HCD.out h).2.1.kept hKE.out,(HCD.out h).2.2.kept hKE.out⟩⟩
  · rw [if_neg hc5] at HP
    have HQ : Hid (∀ W,Below w.heap.size w W→BytesAt W W.heap.size (.slice (some ⟨ad.block,ad.off + 512,none⟩) (L - 512) (c - 512)) r):=Lib.hid (fun W hb => (HP.out.below hb).more hb.size)
    go_upto_region 6 with fail
    refine wp_region_G (S:=fun W => Below W1.heap.size W1 W) (by kernel_rfl) (Below.refl _ _).drew ?_
    refine wpG_take (i:=0) (v:=?vc1) rfl (by kernel_rfl) (by kernel_rfl) (by kernel_rfl) (fun _ _ _ h => h) (Or.inl ⟨by rfl,?hyc1⟩) ?restc1
    case hyc1 => (intro W hSw;left;(try dsimp only at hSw);go_simp;try with_reducible rfl)
    simp only [Act.put,List.setIfInBounds_toArray,List.set_cons_zero,List.set_cons_succ,List.getElem_toArray,List.getElem_cons_zero,List.getElem_cons_succ]
    refine wpG_take (i:=1) (v:=?vc2) rfl (by kernel_rfl) (by kernel_rfl) (by kernel_rfl) (fun _ _ _ h => h) (Or.inl ⟨by rfl,?hyc2⟩) ?restc2
    case hyc2 => (intro W hSw;left;(try dsimp only at hSw);go_simp;try with_reducible rfl)
    simp only [Act.put,List.setIfInBounds_toArray,List.set_cons_zero,List.set_cons_succ,List.getElem_toArray,List.getElem_cons_zero,List.getElem_cons_succ]
    refine wpG_take (i:=2) (v:=?vc3) rfl (by kernel_rfl) (by kernel_rfl) (by kernel_rfl) (fun _ _ _ h => h) (Or.inl ⟨by rfl,?hyc3⟩) ?restc3
    case hyc3 => (intro W hSw;left;(try dsimp only at hSw);go_simp;try with_reducible rfl)
    simp only [Act.put,List.setIfInBounds_toArray,List.set_cons_zero,List.set_cons_succ,List.getElem_toArray,List.getElem_cons_zero,List.getElem_cons_succ]
    refine wpG_take (i:=3) (v:=?vc4) rfl (by kernel_rfl) (by kernel_rfl) (by kernel_rfl) (fun _ _ _ h => h) (Or.inl ⟨by rfl,?hyc4⟩) ?restc4
    case hyc4 => (intro W hSw;left;(try dsimp only at hSw);have c6:=HC6.out _ hSw;go_simp;try with_reducible rfl)
    simp only [Act.put,List.setIfInBounds_toArray,List.set_cons_zero,List.set_cons_succ,List.getElem_toArray,List.getElem_cons_zero,List.getElem_cons_succ]
    refine wpG_one (i:=4) (by kernel_rfl) rfl (fun Wc hb hS K hK => ?_)
    go_simp
    refine (HCU.out _ _ sz (HQ.out _ (HW2.out _ hS)) HSZ.out).mono ?_
    rintro e w9 ⟨A1,n1,c1,A2,n2,c2,cc,rfl,b9,hcc⟩
    have hS9 : Below W1.heap.size W1 w9:=hS.trans (b9.mono hS.size)
    have HCC:=Lib.hid hcc
    have HWc:=Lib.hid (HW2.out _ hS)
    clear hcc b9
    refine hK.out _ _ hS9 ?_
    clear hK K hS hb hS9
    try simp only [Act.put,List.setIfInBounds_toArray,List.set_cons_zero,List.set_cons_succ,List.getElem_toArray,List.getElem_cons_zero,List.getElem_cons_succ]
    refine wpG_take (i:=5) (v:=?vc5) rfl (by kernel_rfl) (by kernel_rfl) (by kernel_rfl) (fun _ _ _ h => h) (Or.inl ⟨by rfl,?hyc5⟩) ?restc5
    case hyc5 => (intro W hSw;left;(try dsimp only at hSw);go_simp;try with_reducible rfl)
    simp only [Act.put,List.setIfInBounds_toArray,List.set_cons_zero,List.set_cons_succ,List.getElem_toArray,List.getElem_cons_zero,List.getElem_cons_succ]
    refine wpG_take (i:=6) (v:=?vc6) rfl (by kernel_rfl) (by kernel_rfl) (by kernel_rfl) (fun _ _ _ h => h) (Or.inl ⟨by rfl,?hyc6⟩) ?restc6
    case hyc6 => (intro W hSw;left;(try dsimp only at hSw);go_simp;try with_reducible rfl)
    simp only [Act.put,List.setIfInBounds_toArray,List.set_cons_zero,List.set_cons_succ,List.getElem_toArray,List.getElem_cons_zero,List.getElem_cons_succ]
    refine wpG_take (i:=7) (v:=?vc7) rfl (by kernel_rfl) (by kernel_rfl) (by kernel_rfl) (fun _ _ _ h => h) (Or.inl ⟨by rfl,?hyc7⟩) ?restc7
    case hyc7 => (intro W hSw;left;(try dsimp only at hSw);go_simp;try with_reducible rfl)
    simp only [Act.put,List.setIfInBounds_toArray,List.set_cons_zero,List.set_cons_succ,List.getElem_toArray,List.getElem_cons_zero,List.getElem_cons_succ]
    refine wpG_take (i:=8) (v:=?vc8) rfl (by kernel_rfl) (by kernel_rfl) (by kernel_rfl) (fun _ _ _ h => h) (Or.inl ⟨by rfl,?hyc8⟩) ?restc8
    case hyc8 => (intro W hSw;left;(try dsimp only at hSw);go_simp;try with_reducible rfl)
    simp only [Act.put,List.setIfInBounds_toArray,List.set_cons_zero,List.set_cons_succ,List.getElem_toArray,List.getElem_cons_zero,List.getElem_cons_succ]
    refine wpG_take (i:=9) (v:=?vc9) rfl (by kernel_rfl) (by kernel_rfl) (by kernel_rfl) (fun _ _ _ h => h) (Or.inl ⟨by rfl,?hyc9⟩) ?restc9
    case hyc9 => (intro W hSw;left;(try dsimp only at hSw);go_simp;try with_reducible rfl)
    simp only [Act.put,List.setIfInBounds_toArray,List.set_cons_zero,List.set_cons_succ,List.getElem_toArray,List.getElem_cons_zero,List.getElem_cons_succ]
    refine wpG_take (i:=10) (v:=?vc10) rfl (by kernel_rfl) (by kernel_rfl) (by kernel_rfl) (fun _ _ _ h => h) (Or.inl ⟨by rfl,?hyc10⟩) ?restc10
    case hyc10 => (intro W hSw;left;(try dsimp only at hSw);go_simp;try with_reducible rfl)
    simp only [Act.put,List.setIfInBounds_toArray,List.set_cons_zero,List.set_cons_succ,List.getElem_toArray,List.getElem_cons_zero,List.getElem_cons_succ]
    refine wpG_take (i:=11) (v:=?vc11) rfl (by kernel_rfl) (by kernel_rfl) (by kernel_rfl) (fun _ _ _ h => h) (Or.inl ⟨by rfl,?hyc11⟩) ?restc11
    case hyc11 => (intro W hSw;left;(try dsimp only at hSw);go_simp;try with_reducible rfl)
    simp only [Act.put,List.setIfInBounds_toArray,List.set_cons_zero,List.set_cons_succ,List.getElem_toArray,List.getElem_cons_zero,List.getElem_cons_succ]
    refine wpG_done (by kernel_rfl) (fun w' hb hS => ?_) _
    clear HCU HP HQ
    have HF:=Lib.hid (HK1.out.below hS HK1.out.lt)
    have HZ:=Lib.hid (HZ2.out.below hS HZ2.out.lt)
    have HBF:=Lib.hid (HW2.out _ hS)
    have HCD:=Lib.hid (fun h => (show kN sz * 512≤r.length∧DataAt w' w.heap.size (.slice A1 n1 c1) (r.take sz)∧DataAt w' w.heap.size (.slice A2 n2 c2) (r.drop (kN sz * 512)) from ⟨(HCC.out h).1,((HCC.out h).2.1.mono HWc.out.size).below hb,((HCC.out h).2.2.mono HWc.out.size).below hb⟩))
    clear HCC HWc
    clear hS hb HW2 HC6 c6
    have p0:=HF.out.cell 0
    have p1:=HF.out.cell 1
    have p2:=HF.out.cell 2
    have p3:=HF.out.cell 3
    have p4:=HF.out.cell 4
    have p5:=HF.out.cell 5
    have p6:=HF.out.cell 6
    have p7:=HF.out.cell 7
    have p8:=HF.out.cell 8
    have p9:=HF.out.cell 9
    have p10:=HF.out.cell 10
    have z0 : w'.cell? ⟨w.heap.size,0,none⟩=some (.string ⟨#[]⟩):=HZ.out.cell 0;have f0:=HZ.out.frozen 0
    have z1 : w'.cell? ⟨w.heap.size,1,none⟩=some (.string ⟨#[]⟩):=HZ.out.cell 1;have f1:=HZ.out.frozen 1
    have z2 : w'.cell? ⟨w.heap.size,2,none⟩=some (.string ⟨#[]⟩):=HZ.out.cell 2;have f2:=HZ.out.frozen 2
    have z3 : w'.cell? ⟨w.heap.size,3,none⟩=some (.int .i64 0):=HZ.out.cell 3;have f3:=HZ.out.frozen 3
    have z4 : w'.cell? ⟨w.heap.size,4,none⟩=some (.int .i64 0):=HZ.out.cell 4;have f4:=HZ.out.frozen 4
    have z5 : w'.cell? ⟨w.heap.size,5,none⟩=some (.int .i64 0):=HZ.out.cell 5;have f5:=HZ.out.frozen 5
    have z6 : w'.cell? ⟨w.heap.size,6,none⟩=some (.int .i64 0):=HZ.out.cell 6;have f6:=HZ.out.frozen 6
    have z7 : w'.cell? ⟨w.heap.size,7,none⟩=some (.int .i64 0):=HZ.out.cell 7;have f7:=HZ.out.frozen 7
    have z8 : w'.cell? ⟨w.heap.size,8,none⟩=some (.int .u8 0):=HZ.out.cell 8;have f8:=HZ.out.frozen 8
    have z9 : w'.cell? ⟨w.heap.size,9,none⟩=some (.string ⟨#[]⟩):=HZ.out.cell 9;have f9:=HZ.out.frozen 9
    have z10 : w'.cell? ⟨w.heap.size,10,none⟩=some (.string ⟨#[]⟩):=HZ.out.cell 10;have f10:=HZ.out.frozen 10
    go_wp2_with fail
    clear p0 z0 f0 p1 z1 f1 p2 z2 f2 p3 z3 f3 p4 z4 f4 p5 z5 f5 p6 z6 f6 p7 z7 f7 p8 z8 f8 p9 z9 f9 p10 z10 f10
    have hHB : HasBlk w' w.heap.size 107 11:=⟨_,rfl,HZ.out⟩
    obtain ⟨WE,hWE⟩ : ∃ WE,WE=setAll w' w.heap.size 0 [(.string (bs nm)),(.string (bs pr)),(.string (bs lk)),(.int .i64 md),(.int .i64 ui),(.int .i64 gi),(.int .i64 sz),(.int .i64 tm),(.int .u8 ty.toNat),(.string (bs us)),(.string (bs gr))]:=⟨_,rfl⟩
    have hk:=hHB.fill [(.string (bs nm)),(.string (bs pr)),(.string (bs lk)),(.int .i64 md),(.int .i64 ui),(.int .i64 gi),(.int .i64 sz),(.int .i64 tm),(.int .u8 ty.toNat),(.string (bs us)),(.string (bs gr))] rfl
    have hKE:=Lib.hid (U8Kept.setAll (by decide) [(.string (bs nm)),(.string (bs pr)),(.string (bs lk)),(.int .i64 md),(.int .i64 ui),(.int .i64 gi),(.int .i64 sz),(.int .i64 tm),(.int .u8 ty.toNat),(.string (bs us)),(.string (bs gr))] 0 hHB)
    have hBE:=Below.setAll (B:=w.heap.size) (g:=w.heap.size) (Nat.le_refl _) [(.string (bs nm)),(.string (bs pr)),(.string (bs lk)),(.int .i64 md),(.int .i64 ui),(.int .i64 gi),(.int .i64 sz),(.int .i64 tm),(.int .u8 ty.toNat),(.string (bs us)),(.string (bs gr))] 0 HBF.out
    rw [← hWE] at hk hBE hKE
    simp only [setAll,Nat.zero_add,Nat.reduceAdd] at hWE
    rw [← hWE]
    clear hWE hHB
    have x0 : WE.cell? ⟨w.heap.size,0,none⟩=some (.string (bs nm)):=hk.cell 0
    have x1 : WE.cell? ⟨w.heap.size,1,none⟩=some (.string (bs pr)):=hk.cell 1
    have x2 : WE.cell? ⟨w.heap.size,2,none⟩=some (.string (bs lk)):=hk.cell 2
    have x3 : WE.cell? ⟨w.heap.size,3,none⟩=some (.int .i64 md):=hk.cell 3
    have x4 : WE.cell? ⟨w.heap.size,4,none⟩=some (.int .i64 ui):=hk.cell 4
    have x5 : WE.cell? ⟨w.heap.size,5,none⟩=some (.int .i64 gi):=hk.cell 5
    have x6 : WE.cell? ⟨w.heap.size,6,none⟩=some (.int .i64 sz):=hk.cell 6
    have x7 : WE.cell? ⟨w.heap.size,7,none⟩=some (.int .i64 tm):=hk.cell 7
    have x8 : WE.cell? ⟨w.heap.size,8,none⟩=some (.int .u8 ty.toNat):=hk.cell 8
    have x9 : WE.cell? ⟨w.heap.size,9,none⟩=some (.string (bs us)):=hk.cell 9
    have x10 : WE.cell? ⟨w.heap.size,10,none⟩=some (.string (bs gr)):=hk.cell 10
    exact bodyPost_ret (v:=.tuple #[.agg #[(.string (bs nm)),(.string (bs pr)),(.string (bs lk)),(.int .i64 md),(.int .i64 ui),(.int .i64 gi),(.int .i64 sz),(.int .i64 tm),(.int .u8 ty.toNat),(.string (bs us)),(.string (bs gr))],.slice A1 n1 c1,.slice A2 n2 c2,.int .i64 cc]) (by simp [results,Tryz.results52,go_sem,x0,x1,x2,x3,x4,x5,x6,x7,x8,x9,x10]) rfl ⟨⟨nm,pr,lk,md,ui,gi,sz,tm,ty,us,gr⟩,A1,n1,c1,A2,n2,c2,cc,rfl,hBE,fun h => ⟨HIN.out,HLE.out _ (HCD.out h).1,(HCD.out h).2.1.kept hKE.out,(HCD.out h).2.2.kept hKE.out⟩⟩
end Go.Proofs.YtphmhmdcaafmdaaGreatDoor
