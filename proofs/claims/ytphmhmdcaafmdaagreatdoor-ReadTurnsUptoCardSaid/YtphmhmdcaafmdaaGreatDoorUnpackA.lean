import Derived.Test.YtphmhmdcaafmdaaGreatDoorHeadP
import Derived.Test.YtphmhmdcaafmdaaGreatDoorMReads
namespace Go.Proofs.YtphmhmdcaafmdaaGreatDoor
set_option linter.all false
open Go.RowKit
def numA (l : List RecS) (k : List UInt8) (n : Int) : Int:=match findK l k with | some v => atoiV v | none => n
def unpackA (h : PHead) (l : List RecS) : EntP :=
  ⟨(findK l pathK).getD (oneS h.pre h.name).1,kindT h.type,(findK l linkK).getD h.link,⟨h.mode,numA l uidK h.uid,numA l gidK h.gid,(findK l unameK).getD h.user,(findK l gnameK).getD h.group,(match findK l mtimeK with | some v => (parseT v).1 | none => h.time),(match findK l mtimeK with | some v => (parseT v).2.1 | none => 0)⟩,[]⟩
theorem findK_mem {l : List RecS} {k v : List UInt8} (h : findK l k=some v) : ∃ r∈l,r.value=v:=by
  unfold findK at h
  obtain ⟨r,hr,rfl⟩:=Option.map_eq_some_iff.1 h
  exact ⟨r,List.mem_of_find?_eq_some hr,rfl⟩
set_option maxRecDepth 100000 in
theorem Num_all (g : Nat) (lv : Value) (l : List RecS) (key : List UInt8) (n : Int) (w : World) (hc : w.cell? ⟨g,0,none⟩=some lv) (hl : RecsAt w lv l) (hn : l.length≤100) (hv : ∀ r∈l,r.value.length≤1000) (hs : Sent w) :
    Calls Tryz.prog 108 #[.string (bs key),.int .i64 n,.pointer (some ⟨g,0,none⟩)] w fun e w' => e=.returned (.int .i64 (numA l key n))∧Below w.heap.size w w':=by
  have HF:=Lib.hid (PxFind_any lv l key w hl hn)
  obtain ⟨A,c,rfl,-⟩:=hl
  unfold numA
  cases hf : findK l key with
  | none =>
    rw [hf] at HF
    simp only [Option.getD_none,Option.isSome_none] at HF ⊢
    clear hf
    go_enter Tryz.func108,Tryz.ntmps108
    go_wp2_with fail
    refine HF.out.mono ?_
    rintro e w1 ⟨rfl,b1⟩
    go_wp2_with fail
    go_ret
    exact ⟨rfl,b1⟩
  | some v =>
    obtain ⟨r,hr,rfl⟩:=findK_mem hf
    have hvl:=hv r hr
    rw [hf] at HF
    simp only [Option.getD_some,Option.isSome_some] at HF ⊢
    have HAT:=Lib.hid (fun W (hb : Below w.heap.size w W) => Atoi_all r.value (by omega) W (hs.below hb))
    generalize r.value=v at *
    generalize atoiV v=m at *
    clear hf hs
    go_enter Tryz.func108,Tryz.ntmps108
    go_wp2_with fail
    refine HF.out.mono ?_
    rintro e w1 ⟨rfl,b1⟩
    go_wp2_with fail
    refine (HAT.out _ b1).mono ?_
    rintro e w2 ⟨ev,rfl,b2⟩
    go_wp2_with fail
    go_ret
    exact ⟨rfl,b1.trans (b2.mono b1.size)⟩
set_option maxRecDepth 100000 in
set_option maxHeartbeats 8000000 in
theorem Unpack_all (h : PHead) (lv : Value) (l : List RecS) (A : Option Addr) (n c : Nat) (w : World) (hm : ML w) (h10 : P10 w) (hl : RecsAt w lv l) (hn : l.length≤100) (hv : ∀ r∈l,r.value.length≤1000) (hp : h.pre.length≤1000) (hnm : h.name.length≤1000)
    (hs : Sent w) :
    Calls Tryz.prog 54 #[headV h,lv,.slice A n c] w fun e w' => e=.returned (.agg (entC (unpackA h l) (.slice A n c)).toArray)∧Below w.heap.size w w':=by
  have hmv : ∀ v,findK l mtimeK=some v→v.length≤1000:=fun v hf => by
    unfold findK at hf
    obtain ⟨r,hr,rfl⟩:=Option.map_eq_some_iff.1 hf
    exact hv r (List.mem_of_find?_eq_some hr)
  have HMT:=Lib.hid (fun W (hb : Below w.heap.size w W) => PxFind_any lv l mtimeK W (hl.below hb) hn)
  have HSY:=Lib.hid (fun W g key s (hb : Below w.heap.size w W) (hc : W.cell? ⟨g,0,none⟩=some lv) => Say_any g lv l key s W hc (hl.below hb) hn)
  have HNU:=Lib.hid (fun W g n (hb : Below w.heap.size w W) (hc : W.cell? ⟨g,0,none⟩=some lv) => Num_all g lv l uidK n W hc (hl.below hb) hn hv (hs.below hb))
  have HNG:=Lib.hid (fun W g n (hb : Below w.heap.size w W) (hc : W.cell? ⟨g,0,none⟩=some lv) => Num_all g lv l gidK n W hc (hl.below hb) hn hv (hs.below hb))
  have HON:=Lib.hid (fun W => One_any h.pre h.name (by omega) (by omega) W)
  have HPA:=Lib.hid (fun v (hf : findK l mtimeK=some v) W (hb : Below w.heap.size w W) => Parse_any v (by have:=hmv v hf;omega) W (hm.below hb) (h10.below hb))
  clear hm h10 hv hp hnm hs hmv hn
  obtain ⟨E,hE⟩ : ∃ E,E=entC (unpackA h l) (.slice A n c):=⟨_,rfl⟩
  rw [← hE]
  have HEE : Hid (E=[.string (bs ((findK l pathK).getD (oneS h.pre h.name).1)),.int .i64 (kindT h.type),.string (bs ((findK l linkK).getD h.link)),.int .i64 h.mode,.int .i64 (numA l uidK h.uid),.int .i64 (numA l gidK h.gid),.string (bs ((findK l unameK).getD h.user)),.string (bs ((findK l gnameK).getD h.group)),
      .int .i64 (match findK l mtimeK with | some v => (parseT v).1 | none => h.time),.int .i64 (match findK l mtimeK with | some v => (parseT v).2.1 | none => 0),.slice A n c]):=Lib.hid hE
  clear hE
  obtain ⟨Al,cl,rfl,-⟩:=hl
  obtain ⟨nm,pr,lk,md,ui,gi,sz,tm,ty,us,gr⟩:=h
  simp only at HON HEE
  obtain ⟨u0,hu0⟩ : ∃ u0,u0=numA l uidK ui:=⟨_,rfl⟩
  obtain ⟨u1,hu1⟩ : ∃ u1,u1=numA l gidK gi:=⟨_,rfl⟩
  have HNU:=Lib.hid (fun W g hb hc => HNU.out W g ui hb hc)
  have HNG:=Lib.hid (fun W g hb hc => HNG.out W g gi hb hc)
  rw [← hu0] at HNU HEE
  rw [← hu1] at HNG HEE
  clear hu0 hu1
  have HSU:=Lib.hid (fun W g hb hc => HSY.out W g unameK us hb hc)
  have HSG:=Lib.hid (fun W g hb hc => HSY.out W g gnameK gr hb hc)
  have HSL:=Lib.hid (fun W g hb hc => HSY.out W g linkK lk hb hc)
  have HSP:=Lib.hid (fun W g hb hc => HSY.out W g pathK (oneS pr nm).1 hb hc)
  generalize (findK l unameK).getD us=us' at *
  generalize (findK l gnameK).getD gr=gr' at *
  generalize (findK l linkK).getD lk=lk' at *
  generalize (findK l pathK).getD (oneS pr nm).1=pa' at *
  clear HSY
  unfold headV headCells
  simp only
  obtain ⟨W0,hW0⟩ : ∃ W0,W0=(((w.alloc (.cells #[(.string (bs nm)),(.string (bs pr)),(.string (bs lk)),(.int .i64 md),(.int .i64 ui),(.int .i64 gi),(.int .i64 sz),(.int .i64 tm),(.int .u8 ty.toNat),(.string (bs us)),(.string (bs gr))] 107)).alloc (.cells #[.slice Al l.length cl] 108)).alloc (.cells #[(.string ⟨#[]⟩),(.int .i64 0),(.string ⟨#[]⟩),(.int .i64 0),(.int .i64 0),(.int .i64 0),(.string ⟨#[]⟩),(.string ⟨#[]⟩),(.int .i64 0),(.int .i64 0),(.slice none 0 0)] 58)):=⟨_,rfl⟩
  have hS:=unpack_start w #[(.string (bs nm)),(.string (bs pr)),(.string (bs lk)),(.int .i64 md),(.int .i64 ui),(.int .i64 gi),(.int .i64 sz),(.int .i64 tm),(.int .u8 ty.toNat),(.string (bs us)),(.string (bs gr))] (.slice Al l.length cl)
  rw [← hW0] at hS
  obtain ⟨k3,k4,k6,hb0,hz0⟩:=hS
  have HB0:=Lib.hid hb0
  have HZ0:=Lib.hid hz0
  have HK3:=Lib.hid k3
  have HK4:=Lib.hid k4
  have HK6:=Lib.hid k6
  have HC4 : Hid (∀ W,Below W0.heap.size W0 W→W.cell? ⟨w.heap.size + 1,0,none⟩=some (.slice Al l.length cl)):=Lib.hid (fun W hb => (HK4.out.below hb HK4.out.lt).cell 0)
  have HBW : Hid (∀ W,Below W0.heap.size W0 W→Below w.heap.size w W):=Lib.hid (fun W hb => HB0.out.trans (hb.mono HB0.out.size))
  have HCC : Hid (∀ W W',Below W0.heap.size W0 W→Below W.heap.size W W'→Below W0.heap.size W0 W'):=Lib.hid (fun W W' h1 h2 => h1.trans (h2.mono h1.size))
  have HC3_0 : Hid (∀ W,Below W0.heap.size W0 W→W.cell? ⟨w.heap.size,0,none⟩=some (.string (bs nm))):=Lib.hid (fun W hb => (HK3.out.below hb HK3.out.lt).cell 0)
  have HC3_1 : Hid (∀ W,Below W0.heap.size W0 W→W.cell? ⟨w.heap.size,1,none⟩=some (.string (bs pr))):=Lib.hid (fun W hb => (HK3.out.below hb HK3.out.lt).cell 1)
  have HC3_2 : Hid (∀ W,Below W0.heap.size W0 W→W.cell? ⟨w.heap.size,2,none⟩=some (.string (bs lk))):=Lib.hid (fun W hb => (HK3.out.below hb HK3.out.lt).cell 2)
  have HC3_3 : Hid (∀ W,Below W0.heap.size W0 W→W.cell? ⟨w.heap.size,3,none⟩=some (.int .i64 md)):=Lib.hid (fun W hb => (HK3.out.below hb HK3.out.lt).cell 3)
  have HC3_4 : Hid (∀ W,Below W0.heap.size W0 W→W.cell? ⟨w.heap.size,4,none⟩=some (.int .i64 ui)):=Lib.hid (fun W hb => (HK3.out.below hb HK3.out.lt).cell 4)
  have HC3_5 : Hid (∀ W,Below W0.heap.size W0 W→W.cell? ⟨w.heap.size,5,none⟩=some (.int .i64 gi)):=Lib.hid (fun W hb => (HK3.out.below hb HK3.out.lt).cell 5)
  have HC3_6 : Hid (∀ W,Below W0.heap.size W0 W→W.cell? ⟨w.heap.size,6,none⟩=some (.int .i64 sz)):=Lib.hid (fun W hb => (HK3.out.below hb HK3.out.lt).cell 6)
  have HC3_7 : Hid (∀ W,Below W0.heap.size W0 W→W.cell? ⟨w.heap.size,7,none⟩=some (.int .i64 tm)):=Lib.hid (fun W hb => (HK3.out.below hb HK3.out.lt).cell 7)
  have HC3_8 : Hid (∀ W,Below W0.heap.size W0 W→W.cell? ⟨w.heap.size,8,none⟩=some (.int .u8 ty.toNat)):=Lib.hid (fun W hb => (HK3.out.below hb HK3.out.lt).cell 8)
  have HC3_9 : Hid (∀ W,Below W0.heap.size W0 W→W.cell? ⟨w.heap.size,9,none⟩=some (.string (bs us))):=Lib.hid (fun W hb => (HK3.out.below hb HK3.out.lt).cell 9)
  have HC3_10 : Hid (∀ W,Below W0.heap.size W0 W→W.cell? ⟨w.heap.size,10,none⟩=some (.string (bs gr))):=Lib.hid (fun W hb => (HK3.out.below hb HK3.out.lt).cell 10)
  clear k3 k4 k6 hb0 hz0
  have hu : uidK=[117,105,100]:=rfl
  unfold uidK gidK unameK gnameK linkK pathK mtimeK at *
  clear hu
  rw [show bs [117,105,100]=⟨#[117,105,100]⟩ from rfl] at HNU
  rw [show bs [103,105,100]=⟨#[103,105,100]⟩ from rfl] at HNG
  rw [show bs [117,110,97,109,101]=⟨#[117,110,97,109,101]⟩ from rfl] at HSU
  rw [show bs [103,110,97,109,101]=⟨#[103,110,97,109,101]⟩ from rfl] at HSG
  rw [show bs [108,105,110,107,112,97,116,104]=⟨#[108,105,110,107,112,97,116,104]⟩ from rfl] at HSL
  rw [show bs [112,97,116,104]=⟨#[112,97,116,104]⟩ from rfl] at HSP
  rw [show bs [109,116,105,109,101]=⟨#[109,116,105,109,101]⟩ from rfl] at HMT
  go_enter Tryz.func54,Tryz.ntmps54
  go_upto_region 1 with fail
  rw [← hW0]
  clear hW0
  go_upto_region 3 with fail
  refine wp_region_G (S:=fun W => Below W0.heap.size W0 W) (by kernel_rfl) (Below.refl _ _).drew ?_
  generalize W0.drew=Wd at *
  refine wpG_take (i:=0) (v:=?vu1) rfl (by kernel_rfl) (by kernel_rfl) (by kernel_rfl) (fun _ _ _ h => h) (Or.inl ⟨by rfl,?hyu1⟩) ?restu1
  case hyu1 => (intro W hSw;left;(try dsimp only at hSw);go_simp;try with_reducible rfl)
  simp only [Act.put,List.setIfInBounds_toArray,List.set_cons_zero,List.set_cons_succ,List.getElem_toArray,List.getElem_cons_zero,List.getElem_cons_succ]
  refine wpG_take (i:=1) (v:=?vu2) rfl (by kernel_rfl) (by kernel_rfl) (by kernel_rfl) (fun _ _ _ h => h) (Or.inl ⟨by rfl,?hyu2⟩) ?restu2
  case hyu2 => (intro W hSw;left;(try dsimp only at hSw);have cf3:=HC3_3.out _ hSw;go_simp;try with_reducible rfl)
  simp only [Act.put,List.setIfInBounds_toArray,List.set_cons_zero,List.set_cons_succ,List.getElem_toArray,List.getElem_cons_zero,List.getElem_cons_succ]
  refine wpG_take (i:=2) (v:=?vu3) rfl (by kernel_rfl) (by kernel_rfl) (by kernel_rfl) (fun _ _ _ h => h) (Or.inl ⟨by rfl,?hyu3⟩) ?restu3
  case hyu3 => (intro W hSw;left;(try dsimp only at hSw);go_simp;try with_reducible rfl)
  simp only [Act.put,List.setIfInBounds_toArray,List.set_cons_zero,List.set_cons_succ,List.getElem_toArray,List.getElem_cons_zero,List.getElem_cons_succ]
  refine wpG_take (i:=3) (v:=?vu4) rfl (by kernel_rfl) (by kernel_rfl) (by kernel_rfl) (fun _ _ _ h => h) (Or.inl ⟨by rfl,?hyu4⟩) ?restu4
  case hyu4 => (intro W hSw;left;(try dsimp only at hSw);go_simp;try with_reducible rfl)
  simp only [Act.put,List.setIfInBounds_toArray,List.set_cons_zero,List.set_cons_succ,List.getElem_toArray,List.getElem_cons_zero,List.getElem_cons_succ]
  refine wpG_take (i:=4) (v:=?vu5) rfl (by kernel_rfl) (by kernel_rfl) (by kernel_rfl) (fun _ _ _ h => h) (Or.inl ⟨by rfl,?hyu5⟩) ?restu5
  case hyu5 => (intro W hSw;left;(try dsimp only at hSw);have cf4:=HC3_4.out _ hSw;go_simp;try with_reducible rfl)
  simp only [Act.put,List.setIfInBounds_toArray,List.set_cons_zero,List.set_cons_succ,List.getElem_toArray,List.getElem_cons_zero,List.getElem_cons_succ]
  refine wpG_take (i:=5) (v:=(.int .i64 u0)) rfl (by kernel_rfl) (by kernel_rfl) (by kernel_rfl) (fun _ _ _ h => h) (Or.inl ⟨by rfl,?hyu6⟩) ?restu6
  case hyu6 => (intro W hSw;right;(try dsimp only at hSw);refine ⟨_,_,(by go_simp;try with_reducible rfl),(HNU.out W _ (HBW.out _ hSw) (HC4.out _ hSw)).mono ?_⟩;rintro e w' ⟨rfl,hb⟩;exact ⟨rfl,HCC.out _ _ hSw hb,hb⟩)
  simp only [Act.put,List.setIfInBounds_toArray,List.set_cons_zero,List.set_cons_succ,List.getElem_toArray,List.getElem_cons_zero,List.getElem_cons_succ]
  refine wpG_take (i:=6) (v:=?vu7) rfl (by kernel_rfl) (by kernel_rfl) (by kernel_rfl) (fun _ _ _ h => h) (Or.inl ⟨by rfl,?hyu7⟩) ?restu7
  case hyu7 => (intro W hSw;left;(try dsimp only at hSw);go_simp;try with_reducible rfl)
  simp only [Act.put,List.setIfInBounds_toArray,List.set_cons_zero,List.set_cons_succ,List.getElem_toArray,List.getElem_cons_zero,List.getElem_cons_succ]
  refine wpG_take (i:=7) (v:=?vu8) rfl (by kernel_rfl) (by kernel_rfl) (by kernel_rfl) (fun _ _ _ h => h) (Or.inl ⟨by rfl,?hyu8⟩) ?restu8
  case hyu8 => (intro W hSw;left;(try dsimp only at hSw);go_simp;try with_reducible rfl)
  simp only [Act.put,List.setIfInBounds_toArray,List.set_cons_zero,List.set_cons_succ,List.getElem_toArray,List.getElem_cons_zero,List.getElem_cons_succ]
  refine wpG_take (i:=8) (v:=?vu9) rfl (by kernel_rfl) (by kernel_rfl) (by kernel_rfl) (fun _ _ _ h => h) (Or.inl ⟨by rfl,?hyu9⟩) ?restu9
  case hyu9 => (intro W hSw;left;(try dsimp only at hSw);have cf5:=HC3_5.out _ hSw;go_simp;try with_reducible rfl)
  simp only [Act.put,List.setIfInBounds_toArray,List.set_cons_zero,List.set_cons_succ,List.getElem_toArray,List.getElem_cons_zero,List.getElem_cons_succ]
  refine wpG_take (i:=9) (v:=(.int .i64 u1)) rfl (by kernel_rfl) (by kernel_rfl) (by kernel_rfl) (fun _ _ _ h => h) (Or.inl ⟨by rfl,?hyu10⟩) ?restu10
  case hyu10 => (intro W hSw;right;(try dsimp only at hSw);refine ⟨_,_,(by go_simp;try with_reducible rfl),(HNG.out W _ (HBW.out _ hSw) (HC4.out _ hSw)).mono ?_⟩;rintro e w' ⟨rfl,hb⟩;exact ⟨rfl,HCC.out _ _ hSw hb,hb⟩)
  simp only [Act.put,List.setIfInBounds_toArray,List.set_cons_zero,List.set_cons_succ,List.getElem_toArray,List.getElem_cons_zero,List.getElem_cons_succ]
  refine wpG_take (i:=10) (v:=?vu11) rfl (by kernel_rfl) (by kernel_rfl) (by kernel_rfl) (fun _ _ _ h => h) (Or.inl ⟨by rfl,?hyu11⟩) ?restu11
  case hyu11 => (intro W hSw;left;(try dsimp only at hSw);go_simp;try with_reducible rfl)
  simp only [Act.put,List.setIfInBounds_toArray,List.set_cons_zero,List.set_cons_succ,List.getElem_toArray,List.getElem_cons_zero,List.getElem_cons_succ]
  refine wpG_take (i:=11) (v:=?vu12) rfl (by kernel_rfl) (by kernel_rfl) (by kernel_rfl) (fun _ _ _ h => h) (Or.inl ⟨by rfl,?hyu12⟩) ?restu12
  case hyu12 => (intro W hSw;left;(try dsimp only at hSw);go_simp;try with_reducible rfl)
  simp only [Act.put,List.setIfInBounds_toArray,List.set_cons_zero,List.set_cons_succ,List.getElem_toArray,List.getElem_cons_zero,List.getElem_cons_succ]
  refine wpG_take (i:=12) (v:=?vu13) rfl (by kernel_rfl) (by kernel_rfl) (by kernel_rfl) (fun _ _ _ h => h) (Or.inl ⟨by rfl,?hyu13⟩) ?restu13
  case hyu13 => (intro W hSw;left;(try dsimp only at hSw);have cf9:=HC3_9.out _ hSw;go_simp;try with_reducible rfl)
  simp only [Act.put,List.setIfInBounds_toArray,List.set_cons_zero,List.set_cons_succ,List.getElem_toArray,List.getElem_cons_zero,List.getElem_cons_succ]
  refine wpG_take (i:=13) (v:=(.string (bs us'))) rfl (by kernel_rfl) (by kernel_rfl) (by kernel_rfl) (fun _ _ _ h => h) (Or.inl ⟨by rfl,?hyu14⟩) ?restu14
  case hyu14 => (intro W hSw;right;(try dsimp only at hSw);refine ⟨_,_,(by go_simp;try with_reducible rfl),(HSU.out W _ (HBW.out _ hSw) (HC4.out _ hSw)).mono ?_⟩;rintro e w' ⟨rfl,hb⟩;exact ⟨rfl,HCC.out _ _ hSw hb,hb⟩)
  simp only [Act.put,List.setIfInBounds_toArray,List.set_cons_zero,List.set_cons_succ,List.getElem_toArray,List.getElem_cons_zero,List.getElem_cons_succ]
  refine wpG_take (i:=14) (v:=?vu15) rfl (by kernel_rfl) (by kernel_rfl) (by kernel_rfl) (fun _ _ _ h => h) (Or.inl ⟨by rfl,?hyu15⟩) ?restu15
  case hyu15 => (intro W hSw;left;(try dsimp only at hSw);go_simp;try with_reducible rfl)
  simp only [Act.put,List.setIfInBounds_toArray,List.set_cons_zero,List.set_cons_succ,List.getElem_toArray,List.getElem_cons_zero,List.getElem_cons_succ]
  refine wpG_take (i:=15) (v:=?vu16) rfl (by kernel_rfl) (by kernel_rfl) (by kernel_rfl) (fun _ _ _ h => h) (Or.inl ⟨by rfl,?hyu16⟩) ?restu16
  case hyu16 => (intro W hSw;left;(try dsimp only at hSw);go_simp;try with_reducible rfl)
  simp only [Act.put,List.setIfInBounds_toArray,List.set_cons_zero,List.set_cons_succ,List.getElem_toArray,List.getElem_cons_zero,List.getElem_cons_succ]
  refine wpG_take (i:=16) (v:=?vu17) rfl (by kernel_rfl) (by kernel_rfl) (by kernel_rfl) (fun _ _ _ h => h) (Or.inl ⟨by rfl,?hyu17⟩) ?restu17
  case hyu17 => (intro W hSw;left;(try dsimp only at hSw);have cf10:=HC3_10.out _ hSw;go_simp;try with_reducible rfl)
  simp only [Act.put,List.setIfInBounds_toArray,List.set_cons_zero,List.set_cons_succ,List.getElem_toArray,List.getElem_cons_zero,List.getElem_cons_succ]
  refine wpG_take (i:=17) (v:=(.string (bs gr'))) rfl (by kernel_rfl) (by kernel_rfl) (by kernel_rfl) (fun _ _ _ h => h) (Or.inl ⟨by rfl,?hyu18⟩) ?restu18
  case hyu18 => (intro W hSw;right;(try dsimp only at hSw);refine ⟨_,_,(by go_simp;try with_reducible rfl),(HSG.out W _ (HBW.out _ hSw) (HC4.out _ hSw)).mono ?_⟩;rintro e w' ⟨rfl,hb⟩;exact ⟨rfl,HCC.out _ _ hSw hb,hb⟩)
  simp only [Act.put,List.setIfInBounds_toArray,List.set_cons_zero,List.set_cons_succ,List.getElem_toArray,List.getElem_cons_zero,List.getElem_cons_succ]
  refine wpG_take (i:=18) (v:=?vu19) rfl (by kernel_rfl) (by kernel_rfl) (by kernel_rfl) (fun _ _ _ h => h) (Or.inl ⟨by rfl,?hyu19⟩) ?restu19
  case hyu19 => (intro W hSw;left;(try dsimp only at hSw);go_simp;try with_reducible rfl)
  simp only [Act.put,List.setIfInBounds_toArray,List.set_cons_zero,List.set_cons_succ,List.getElem_toArray,List.getElem_cons_zero,List.getElem_cons_succ]
  refine wpG_take (i:=19) (v:=?vu20) rfl (by kernel_rfl) (by kernel_rfl) (by kernel_rfl) (fun _ _ _ h => h) (Or.inl ⟨by rfl,?hyu20⟩) ?restu20
  case hyu20 => (intro W hSw;left;(try dsimp only at hSw);have cf7:=HC3_7.out _ hSw;go_simp;try with_reducible rfl)
  simp only [Act.put,List.setIfInBounds_toArray,List.set_cons_zero,List.set_cons_succ,List.getElem_toArray,List.getElem_cons_zero,List.getElem_cons_succ]
  refine wpG_take (i:=20) (v:=?vu21) rfl (by kernel_rfl) (by kernel_rfl) (by kernel_rfl) (fun _ _ _ h => h) (Or.inl ⟨by rfl,?hyu21⟩) ?restu21
  case hyu21 => (intro W hSw;left;(try dsimp only at hSw);go_simp;try with_reducible rfl)
  simp only [Act.put,List.setIfInBounds_toArray,List.set_cons_zero,List.set_cons_succ,List.getElem_toArray,List.getElem_cons_zero,List.getElem_cons_succ]
  refine wpG_one (i:=21) (by kernel_rfl) rfl (fun Wa hb hS K hK => ?_)
  go_simp
  try go_wp2_with fail
  obtain ⟨Wm,hWm⟩ : ∃ Wm,Wm=Wa.alloc (.cells #[(.int .i64 0),(.int .i64 0),(.int .i64 0),(.string ⟨#[]⟩),(.string ⟨#[]⟩),(.int .i64 0),(.int .i64 0)] 26):=⟨_,rfl⟩
  obtain ⟨g9,hg9⟩ : ∃ g9,g9=Wa.heap.size:=⟨_,rfl⟩
  have hM : HasBlk Wm g9 26 7:=by rw [hWm,hg9];exact ⟨_,rfl,Blk.new Wa _ _⟩
  have hSm : Below W0.heap.size W0 Wm:=by rw [hWm];exact hS.alloc hS.size _
  have hg : W0.heap.size≤g9:=by rw [hg9];exact hS.size
  rw [← hWm,← hg9]
  refine hK.out _ _ hSm ?_
  clear hK K hWm hg9 hS hb
  try simp only [Act.put,List.setIfInBounds_toArray,List.set_cons_zero,List.set_cons_succ,List.getElem_toArray,List.getElem_cons_zero,List.getElem_cons_succ]
  refine wpG_one (i:=22) (by kernel_rfl) rfl (fun Wb hb hS K hK => ?_)
  have hM:=hM.below hb
  have z0:=hM.peek_ (i:=0) (by omega);have f0:=hM.frozen 0
  have z1:=hM.peek_ (i:=1) (by omega);have f1:=hM.frozen 1
  have z2:=hM.peek_ (i:=2) (by omega);have f2:=hM.frozen 2
  have z3:=hM.peek_ (i:=3) (by omega);have f3:=hM.frozen 3
  have z4:=hM.peek_ (i:=4) (by omega);have f4:=hM.frozen 4
  have z5:=hM.peek_ (i:=5) (by omega);have f5:=hM.frozen 5
  have z6:=hM.peek_ (i:=6) (by omega);have f6:=hM.frozen 6
  go_simp
  try go_wp2_with fail
  clear z0 f0 z1 f1 z2 f2 z3 f3 z4 f4 z5 f5 z6 f6
  obtain ⟨Wf,hWf⟩ : ∃ Wf,Wf=setAll Wb g9 0 [(.int .i64 md),(.int .i64 u0),(.int .i64 u1),(.string (bs us')),(.string (bs gr')),(.int .i64 tm),(.int .i64 0)]:=⟨_,rfl⟩
  have hk:=hM.fill [(.int .i64 md),(.int .i64 u0),(.int .i64 u1),(.string (bs us')),(.string (bs gr')),(.int .i64 tm),(.int .i64 0)] rfl
  have hSf:=Below.setAll (B:=W0.heap.size) hg [(.int .i64 md),(.int .i64 u0),(.int .i64 u1),(.string (bs us')),(.string (bs gr')),(.int .i64 tm),(.int .i64 0)] 0 hS
  rw [← hWf] at hk hSf
  simp only [setAll,Nat.zero_add,Nat.reduceAdd] at hWf
  rw [← hWf]
  refine hK.out _ _ hSf ?_
  clear hK K hWf hM hSm hS hb hSf
  try simp only [Act.put,List.setIfInBounds_toArray,List.set_cons_zero,List.set_cons_succ,List.getElem_toArray,List.getElem_cons_zero,List.getElem_cons_succ]
  refine wpG_done (by kernel_rfl) (fun W3 hb hS => ?_) _
  have HK9:=Lib.hid (hk.below hb hk.lt)
  have HS3:=Lib.hid hS
  have HG:=Lib.hid hg
  clear hk hb hS hg HNU HNG HSU HSG
  have h4:=HC4.out _ HS3.out
  obtain ⟨wl,hwl⟩ : ∃ wl,wl=(oneS pr nm).1:=⟨_,rfl⟩
  obtain ⟨we,hwe⟩ : ∃ we,we=(oneS pr nm).2:=⟨_,rfl⟩
  rw [← hwl] at HSP HON
  rw [← hwe] at HON
  clear hwl hwe
  have hmm:=@run_makeMap Tryz.prog
  go_wp2_with fail
  refine (HMT.out _ (HBW.out _ HS3.out)).mono ?_
  rintro e w4 ⟨rfl,b4⟩
  have HS4:=Lib.hid (HCC.out _ _ HS3.out b4)
  have HKM4:=Lib.hid (HK9.out.below b4 HK9.out.lt)
  clear b4 h4 HS3 HK9 HMT
  cases hf : findK l mtimeK with
  | none =>
    rw [show mtimeK=[109,116,105,109,101] from rfl] at hf
    simp only [hf] at HEE
    simp only [hf,Option.getD_none,Option.isSome_none]
    have y0:=HC3_0.out _ HS4.out
    have y1:=HC3_1.out _ HS4.out
    go_wp2_with fail
    refine (HON.out _).mono ?_
    rintro e w5 ⟨rfl,b5⟩
    have HS5:=Lib.hid (HCC.out _ _ HS4.out b5)
    have HK5:=Lib.hid (HKM4.out.below b5 HKM4.out.lt)
    clear b5 y0 y1 HON
    obtain ⟨gm,hgm⟩ : ∃ gm,gm=w5.heap.size:=⟨_,rfl⟩
    have HM0 : Hid (BMap (w5.alloc (.map #[] 0)) gm []):=Lib.hid (by rw [hgm];exact BMap.new w5)
    have HG0 : Hid (Below w5.heap.size w5 (w5.alloc (.map #[] 0))):=Lib.hid ((Below.refl _ _).alloc (Nat.le_refl _) _)
    have HGM : Hid (w5.heap.size≤gm):=Lib.hid (by rw [hgm];exact Nat.le_refl _)
    go_upto_region 8 with fail
    go_upto_region 9 with ((try rw [← hgm]);(first | ((with_reducible refine wpList_put_bm _ rfl (.tmp 60) (.const (.int .u8 48)) (.const (.int .i64 1)) 196 rfl _ _ Tryz.underlying196 Tryz.underlying5 gm [] rfl HM0.out 48 (.int .i64 1) rfl rfl ?_);intro wm1 hMq hgq;have HM1:=Lib.hid hMq;have HG1:=Lib.hid (HG0.out.grown hgq HG0.out.size (fun k hk => by cases hk;exact HGM.out));clear hMq hgq) | ((with_reducible refine wpList_put_bm _ rfl (.tmp 60) (.const (.int .u8 53)) (.const (.int .i64 2)) 196 rfl _ _ Tryz.underlying196 Tryz.underlying5 gm (mapPut [] 48 (.int .i64 1)) rfl HM1.out 53 (.int .i64 2) rfl rfl ?_);intro wm2 hMq hgq;have HM2:=Lib.hid hMq;have HG2:=Lib.hid (HG1.out.grown hgq HG1.out.size (fun k hk => by cases hk;exact HGM.out));clear hMq hgq) | ((with_reducible refine wpList_put_bm _ rfl (.tmp 60) (.const (.int .u8 50)) (.const (.int .i64 3)) 196 rfl _ _ Tryz.underlying196 Tryz.underlying5 gm (mapPut (mapPut [] 48 (.int .i64 1)) 53 (.int .i64 2)) rfl HM2.out 50 (.int .i64 3) rfl rfl ?_);intro wm3 hMq hgq;have HM3:=Lib.hid hMq;have HG3:=Lib.hid (HG2.out.grown hgq HG2.out.size (fun k hk => by cases hk;exact HGM.out));clear hMq hgq) | ((with_reducible refine wpList_put_bm _ rfl (.tmp 60) (.const (.int .u8 49)) (.const (.int .i64 4)) 196 rfl _ _ Tryz.underlying196 Tryz.underlying5 gm (mapPut (mapPut (mapPut [] 48 (.int .i64 1)) 53 (.int .i64 2)) 50 (.int .i64 3)) rfl HM3.out 49 (.int .i64 4) rfl rfl ?_);intro wm4 hMq hgq;have HM4:=Lib.hid hMq;have HG4:=Lib.hid (HG3.out.grown hgq HG3.out.size (fun k hk => by cases hk;exact HGM.out));clear hMq hgq;have HSq:=Lib.hid (HCC.out _ _ HS5.out HG4.out);have y8:=HC3_8.out _ HSq.out;have HM5 : Hid (BMap wm4 gm kindM):=Lib.hid HM4.out) | ((with_reducible refine wpList_get_bm _ rfl (.tmp 61) (.tmp 63) 196 rfl _ _ Tryz.underlying196 Tryz.underlying5 (.int .i64 0) (zeroI_ _) gm kindM rfl HM5.out (ty.toNat : Int) rfl ?_);rw [kindM_get])))
    have HK9:=Lib.hid (HK5.out.below HG4.out HK5.out.lt)
    have HSQ:=Lib.hid HSq.out
    clear HM0 HM1 HM2 HM3 HM4 HM5 HG0 HG1 HG2 HG3 HG4 HGM HSq HS5 HK5 y8 hgm
    have HU9 : Hid (UpSt w g9 #[(.string (bs nm)),(.string (bs pr)),(.string (bs lk)),(.int .i64 md),(.int .i64 ui),(.int .i64 gi),(.int .i64 sz),(.int .i64 tm),(.int .u8 ty.toNat),(.string (bs us)),(.string (bs gr))] #[.slice Al l.length cl] #[(.int .i64 md),(.int .i64 u0),(.int .i64 u1),(.string (bs us')),(.string (bs gr')),(.int .i64 tm),(.int .i64 0)] wm4):=Lib.hid ⟨HBW.out _ HSQ.out,HK3.out.below HSQ.out HK3.out.lt,HK4.out.below HSQ.out HK4.out.lt,HK9.out,⟨_,rfl,HK6.out.below HSQ.out HK6.out.lt⟩,by have:=HG.out;have:=HZ0.out;omega⟩
    have HC9 : Hid (∀ W W',UpSt w g9 #[(.string (bs nm)),(.string (bs pr)),(.string (bs lk)),(.int .i64 md),(.int .i64 ui),(.int .i64 gi),(.int .i64 sz),(.int .i64 tm),(.int .u8 ty.toNat),(.string (bs us)),(.string (bs gr))] #[.slice Al l.length cl] #[(.int .i64 md),(.int .i64 u0),(.int .i64 u1),(.string (bs us')),(.string (bs gr')),(.int .i64 tm),(.int .i64 0)] W→Below W.heap.size W W'→UpSt w g9 #[(.string (bs nm)),(.string (bs pr)),(.string (bs lk)),(.int .i64 md),(.int .i64 ui),(.int .i64 gi),(.int .i64 sz),(.int .i64 tm),(.int .u8 ty.toNat),(.string (bs us)),(.string (bs gr))] #[.slice Al l.length cl] #[(.int .i64 md),(.int .i64 u0),(.int .i64 u1),(.string (bs us')),(.string (bs gr')),(.int .i64 tm),(.int .i64 0)] W'):=Lib.hid (fun W W' h hb => h.below hb)
    clear HK9 HSQ
    refine wp_region_G (S:=UpSt w g9 #[(.string (bs nm)),(.string (bs pr)),(.string (bs lk)),(.int .i64 md),(.int .i64 ui),(.int .i64 gi),(.int .i64 sz),(.int .i64 tm),(.int .u8 ty.toNat),(.string (bs us)),(.string (bs gr))] #[.slice Al l.length cl] #[(.int .i64 md),(.int .i64 u0),(.int .i64 u1),(.string (bs us')),(.string (bs gr')),(.int .i64 tm),(.int .i64 0)]) (by kernel_rfl) (HC9.out _ _ HU9.out (Below.refl _ _).drew) ?_
    refine wpG_take (i:=0) (v:=?vrn1) rfl (by kernel_rfl) (by kernel_rfl) (by kernel_rfl) (fun _ _ _ h => h) (Or.inl ⟨by rfl,?hyrn1⟩) ?restrn1
    case hyrn1 => (intro W hSw;left;(try dsimp only at hSw);go_simp;try with_reducible rfl)
    simp only [Act.put,List.setIfInBounds_toArray,List.set_cons_zero,List.set_cons_succ,List.getElem_toArray,List.getElem_cons_zero,List.getElem_cons_succ]
    refine wpG_take (i:=1) (v:=?vrn2) rfl (by kernel_rfl) (by kernel_rfl) (by kernel_rfl) (fun _ _ _ h => h) (Or.inl ⟨by rfl,?hyrn2⟩) ?restrn2
    case hyrn2 => (intro W hSw;left;(try dsimp only at hSw);go_simp;try with_reducible rfl)
    simp only [Act.put,List.setIfInBounds_toArray,List.set_cons_zero,List.set_cons_succ,List.getElem_toArray,List.getElem_cons_zero,List.getElem_cons_succ]
    refine wpG_take (i:=2) (v:=(.string (bs pa'))) rfl (by kernel_rfl) (by kernel_rfl) (by kernel_rfl) (fun _ _ _ h => h) (Or.inl ⟨by rfl,?hyrn3⟩) ?restrn3
    case hyrn3 => (intro W hSw;right;(try dsimp only at hSw);refine ⟨_,_,(by go_simp;try with_reducible rfl),(HSP.out W _ hSw.1 (hSw.2.2.1.cell 0)).mono ?_⟩;rintro e w' ⟨rfl,hb⟩;exact ⟨rfl,HC9.out _ _ hSw hb,hb⟩)
    simp only [Act.put,List.setIfInBounds_toArray,List.set_cons_zero,List.set_cons_succ,List.getElem_toArray,List.getElem_cons_zero,List.getElem_cons_succ]
    refine wpG_take (i:=3) (v:=?vrn4) rfl (by kernel_rfl) (by kernel_rfl) (by kernel_rfl) (fun _ _ _ h => h) (Or.inl ⟨by rfl,?hyrn4⟩) ?restrn4
    case hyrn4 => (intro W hSw;left;(try dsimp only at hSw);go_simp;try with_reducible rfl)
    simp only [Act.put,List.setIfInBounds_toArray,List.set_cons_zero,List.set_cons_succ,List.getElem_toArray,List.getElem_cons_zero,List.getElem_cons_succ]
    refine wpG_take (i:=4) (v:=?vrn5) rfl (by kernel_rfl) (by kernel_rfl) (by kernel_rfl) (fun _ _ _ h => h) (Or.inl ⟨by rfl,?hyrn5⟩) ?restrn5
    case hyrn5 => (intro W hSw;left;(try dsimp only at hSw);go_simp;try with_reducible rfl)
    simp only [Act.put,List.setIfInBounds_toArray,List.set_cons_zero,List.set_cons_succ,List.getElem_toArray,List.getElem_cons_zero,List.getElem_cons_succ]
    refine wpG_take (i:=5) (v:=?vrn6) rfl (by kernel_rfl) (by kernel_rfl) (by kernel_rfl) (fun _ _ _ h => h) (Or.inl ⟨by rfl,?hyrn6⟩) ?restrn6
    case hyrn6 => (intro W hSw;left;(try dsimp only at hSw);go_simp;try with_reducible rfl)
    simp only [Act.put,List.setIfInBounds_toArray,List.set_cons_zero,List.set_cons_succ,List.getElem_toArray,List.getElem_cons_zero,List.getElem_cons_succ]
    refine wpG_take (i:=6) (v:=?vrn7) rfl (by kernel_rfl) (by kernel_rfl) (by kernel_rfl) (fun _ _ _ h => h) (Or.inl ⟨by rfl,?hyrn7⟩) ?restrn7
    case hyrn7 => (intro W hSw;left;(try dsimp only at hSw);have cf2 : W.cell? ⟨w.heap.size,2,none⟩=some (.string (bs lk)):=hSw.2.1.cell 2;go_simp;try with_reducible rfl)
    simp only [Act.put,List.setIfInBounds_toArray,List.set_cons_zero,List.set_cons_succ,List.getElem_toArray,List.getElem_cons_zero,List.getElem_cons_succ]
    refine wpG_take (i:=7) (v:=(.string (bs lk'))) rfl (by kernel_rfl) (by kernel_rfl) (by kernel_rfl) (fun _ _ _ h => h) (Or.inl ⟨by rfl,?hyrn8⟩) ?restrn8
    case hyrn8 => (intro W hSw;right;(try dsimp only at hSw);refine ⟨_,_,(by go_simp;try with_reducible rfl),(HSL.out W _ hSw.1 (hSw.2.2.1.cell 0)).mono ?_⟩;rintro e w' ⟨rfl,hb⟩;exact ⟨rfl,HC9.out _ _ hSw hb,hb⟩)
    simp only [Act.put,List.setIfInBounds_toArray,List.set_cons_zero,List.set_cons_succ,List.getElem_toArray,List.getElem_cons_zero,List.getElem_cons_succ]
    refine wpG_take (i:=8) (v:=?vrn9) rfl (by kernel_rfl) (by kernel_rfl) (by kernel_rfl) (fun _ _ _ h => h) (Or.inl ⟨by rfl,?hyrn9⟩) ?restrn9
    case hyrn9 => (intro W hSw;left;(try dsimp only at hSw);have cm0 : W.cell? ⟨g9,0,none⟩=some (.int .i64 md):=hSw.2.2.2.1.cell 0;have cm1 : W.cell? ⟨g9,1,none⟩=some (.int .i64 u0):=hSw.2.2.2.1.cell 1;have cm2 : W.cell? ⟨g9,2,none⟩=some (.int .i64 u1):=hSw.2.2.2.1.cell 2;have cm3 : W.cell? ⟨g9,3,none⟩=some (.string (bs us')):=hSw.2.2.2.1.cell 3;have cm4 : W.cell? ⟨g9,4,none⟩=some (.string (bs gr')):=hSw.2.2.2.1.cell 4;have cm5 : W.cell? ⟨g9,5,none⟩=some (.int .i64 tm):=hSw.2.2.2.1.cell 5;have cm6 : W.cell? ⟨g9,6,none⟩=some (.int .i64 0):=hSw.2.2.2.1.cell 6;go_simp;try with_reducible rfl)
    simp only [Act.put,List.setIfInBounds_toArray,List.set_cons_zero,List.set_cons_succ,List.getElem_toArray,List.getElem_cons_zero,List.getElem_cons_succ]
    refine wpG_take (i:=9) (v:=?vrn10) rfl (by kernel_rfl) (by kernel_rfl) (by kernel_rfl) (fun _ _ _ h => h) (Or.inl ⟨by rfl,?hyrn10⟩) ?restrn10
    case hyrn10 => (intro W hSw;left;(try dsimp only at hSw);go_simp;try with_reducible rfl)
    simp only [Act.put,List.setIfInBounds_toArray,List.set_cons_zero,List.set_cons_succ,List.getElem_toArray,List.getElem_cons_zero,List.getElem_cons_succ]
    refine wpG_take (i:=10) (v:=?vrn11) rfl (by kernel_rfl) (by kernel_rfl) (by kernel_rfl) (fun _ _ _ h => h) (Or.inl ⟨by rfl,?hyrn11⟩) ?restrn11
    case hyrn11 => (intro W hSw;left;(try dsimp only at hSw);go_simp;try with_reducible rfl)
    simp only [Act.put,List.setIfInBounds_toArray,List.set_cons_zero,List.set_cons_succ,List.getElem_toArray,List.getElem_cons_zero,List.getElem_cons_succ]
    refine wpG_one (i:=11) (by kernel_rfl) rfl (fun Wb hb hS K hK => ?_)
    have hHB : HasBlk Wb (w.heap.size + 1 + 1) 58 11:=hS.2.2.2.2.1
    have z0:=hHB.peek_ (i:=0) (by omega);have f0:=hHB.frozen 0
    have z1:=hHB.peek_ (i:=1) (by omega);have f1:=hHB.frozen 1
    have z2:=hHB.peek_ (i:=2) (by omega);have f2:=hHB.frozen 2
    have z3:=hHB.peek_ (i:=3) (by omega);have f3:=hHB.frozen 3
    have z4:=hHB.peek_ (i:=4) (by omega);have f4:=hHB.frozen 4
    have z5:=hHB.peek_ (i:=5) (by omega);have f5:=hHB.frozen 5
    have z6:=hHB.peek_ (i:=6) (by omega);have f6:=hHB.frozen 6
    have z7:=hHB.peek_ (i:=7) (by omega);have f7:=hHB.frozen 7
    have z8:=hHB.peek_ (i:=8) (by omega);have f8:=hHB.frozen 8
    have z9:=hHB.peek_ (i:=9) (by omega);have f9:=hHB.frozen 9
    have z10:=hHB.peek_ (i:=10) (by omega);have f10:=hHB.frozen 10
    go_simp
    try go_wp2_with fail
    clear z0 f0 z1 f1 z2 f2 z3 f3 z4 f4 z5 f5 z6 f6 z7 f7 z8 f8 z9 f9 z10 f10
    obtain ⟨WE,hWE⟩ : ∃ WE,WE=setAll Wb (w.heap.size + 1 + 1) 0 [(.string (bs pa')),(.int .i64 (kindT ty)),(.string (bs lk')),(.int .i64 md),(.int .i64 u0),(.int .i64 u1),(.string (bs us')),(.string (bs gr')),(.int .i64 tm),(.int .i64 0),(.slice A n c)]:=⟨_,rfl⟩
    have hk:=hHB.fill [(.string (bs pa')),(.int .i64 (kindT ty)),(.string (bs lk')),(.int .i64 md),(.int .i64 u0),(.int .i64 u1),(.string (bs us')),(.string (bs gr')),(.int .i64 tm),(.int .i64 0),(.slice A n c)] rfl
    have hSE:=hS.fill [(.string (bs pa')),(.int .i64 (kindT ty)),(.string (bs lk')),(.int .i64 md),(.int .i64 u0),(.int .i64 u1),(.string (bs us')),(.string (bs gr')),(.int .i64 tm),(.int .i64 0),(.slice A n c)]
    rw [← hWE] at hk
    replace hSE : UpSt w g9 #[(.string (bs nm)),(.string (bs pr)),(.string (bs lk)),(.int .i64 md),(.int .i64 ui),(.int .i64 gi),(.int .i64 sz),(.int .i64 tm),(.int .u8 ty.toNat),(.string (bs us)),(.string (bs gr))] #[.slice Al l.length cl] #[(.int .i64 md),(.int .i64 u0),(.int .i64 u1),(.string (bs us')),(.string (bs gr')),(.int .i64 tm),(.int .i64 0)] WE:=by rw [hWE];exact hSE
    simp only [setAll,Nat.zero_add,Nat.reduceAdd] at hWE
    rw [← hWE]
    refine hK.out _ _ hSE ?_
    clear hK K hWE hb hS hHB
    try simp only [Act.put,List.setIfInBounds_toArray,List.set_cons_zero,List.set_cons_succ,List.getElem_toArray,List.getElem_cons_zero,List.getElem_cons_succ]
    refine wpG_done (by kernel_rfl) (fun W9 hb hS => ?_) _
    have hk9:=hk.below hb hk.lt
    have HB9:=Lib.hid hS.1
    clear hk hSE hb hS
    go_wp2_with fail
    refine bodyPost_ret (results_cell_row rfl _ _ (w.heap.size + 1 + 1) 58 _ (0,0) _ rfl hk9 Tryz.underlying58 rfl (by kernel_rfl)) rfl ?_
    rw [HEE.out]
    exact ⟨rfl,HB9.out⟩
  | some tv =>
    have HPT:=Lib.hid (fun W hb => HPA.out tv hf W hb)
    rw [show mtimeK=[109,116,105,109,101] from rfl] at hf
    simp only [hf] at HEE
    simp only [hf,Option.getD_some,Option.isSome_some]
    unfold PR at HPT
    obtain ⟨s1,hs1⟩ : ∃ s1,s1=(parseT tv).1:=⟨_,rfl⟩
    obtain ⟨s2,hs2⟩ : ∃ s2,s2=(parseT tv).2.1:=⟨_,rfl⟩
    rw [← hs1] at HPT HEE
    rw [← hs2] at HPT HEE
    clear hs1 hs2 hf HPA
    go_wp2_with fail
    refine (HPT.out _ (HBW.out _ HS4.out)).mono ?_
    rintro e w6 ⟨rfl,b6⟩
    have HS6:=Lib.hid (HCC.out _ _ HS4.out b6)
    have hk6:=HKM4.out.below b6 HKM4.out.lt
    have m5:=hk6.cell 5;have n5:=hk6.frozen 5;have m6:=hk6.cell 6;have n6:=hk6.frozen 6
    obtain ⟨w7,hw7⟩ : ∃ w7,w7=(w6.setCell ⟨g9,5,none⟩ (.int .i64 s1)).setCell ⟨g9,6,none⟩ (.int .i64 s2):=⟨_,rfl⟩
    have hk7:=(hk6.set_ 5 (.int .i64 s1)).set_ 6 (.int .i64 s2)
    have hS7 : Below W0.heap.size W0 w7:=by rw [hw7];exact (HS6.out.setCell (p:=⟨g9,5,none⟩) HG.out _).setCell (p:=⟨g9,6,none⟩) HG.out _
    rw [← hw7] at hk7
    replace hk7 : Blk w7 g9 26 #[(.int .i64 md),(.int .i64 u0),(.int .i64 u1),(.string (bs us')),(.string (bs gr')),(.int .i64 s1),(.int .i64 s2)]:=hk7
    have HS7:=Lib.hid hS7
    have HKM7:=Lib.hid hk7
    clear b6 hk6 hk7 hS7 HS4 HKM4 HS6 HPT
    go_upto_region 7 with fail
    rw [← hw7]
    clear hw7 m5 n5 m6 n6
    have y0:=HC3_0.out _ HS7.out
    have y1:=HC3_1.out _ HS7.out
    go_wp2_with fail
    refine (HON.out _).mono ?_
    rintro e w5 ⟨rfl,b5⟩
    have HS5:=Lib.hid (HCC.out _ _ HS7.out b5)
    have HK5:=Lib.hid (HKM7.out.below b5 HKM7.out.lt)
    clear b5 y0 y1 HON
    obtain ⟨gm,hgm⟩ : ∃ gm,gm=w5.heap.size:=⟨_,rfl⟩
    have HM0 : Hid (BMap (w5.alloc (.map #[] 0)) gm []):=Lib.hid (by rw [hgm];exact BMap.new w5)
    have HG0 : Hid (Below w5.heap.size w5 (w5.alloc (.map #[] 0))):=Lib.hid ((Below.refl _ _).alloc (Nat.le_refl _) _)
    have HGM : Hid (w5.heap.size≤gm):=Lib.hid (by rw [hgm];exact Nat.le_refl _)
    go_upto_region 8 with fail
    go_upto_region 9 with ((try rw [← hgm]);(first | ((with_reducible refine wpList_put_bm _ rfl (.tmp 60) (.const (.int .u8 48)) (.const (.int .i64 1)) 196 rfl _ _ Tryz.underlying196 Tryz.underlying5 gm [] rfl HM0.out 48 (.int .i64 1) rfl rfl ?_);intro wm1 hMq hgq;have HM1:=Lib.hid hMq;have HG1:=Lib.hid (HG0.out.grown hgq HG0.out.size (fun k hk => by cases hk;exact HGM.out));clear hMq hgq) | ((with_reducible refine wpList_put_bm _ rfl (.tmp 60) (.const (.int .u8 53)) (.const (.int .i64 2)) 196 rfl _ _ Tryz.underlying196 Tryz.underlying5 gm (mapPut [] 48 (.int .i64 1)) rfl HM1.out 53 (.int .i64 2) rfl rfl ?_);intro wm2 hMq hgq;have HM2:=Lib.hid hMq;have HG2:=Lib.hid (HG1.out.grown hgq HG1.out.size (fun k hk => by cases hk;exact HGM.out));clear hMq hgq) | ((with_reducible refine wpList_put_bm _ rfl (.tmp 60) (.const (.int .u8 50)) (.const (.int .i64 3)) 196 rfl _ _ Tryz.underlying196 Tryz.underlying5 gm (mapPut (mapPut [] 48 (.int .i64 1)) 53 (.int .i64 2)) rfl HM2.out 50 (.int .i64 3) rfl rfl ?_);intro wm3 hMq hgq;have HM3:=Lib.hid hMq;have HG3:=Lib.hid (HG2.out.grown hgq HG2.out.size (fun k hk => by cases hk;exact HGM.out));clear hMq hgq) | ((with_reducible refine wpList_put_bm _ rfl (.tmp 60) (.const (.int .u8 49)) (.const (.int .i64 4)) 196 rfl _ _ Tryz.underlying196 Tryz.underlying5 gm (mapPut (mapPut (mapPut [] 48 (.int .i64 1)) 53 (.int .i64 2)) 50 (.int .i64 3)) rfl HM3.out 49 (.int .i64 4) rfl rfl ?_);intro wm4 hMq hgq;have HM4:=Lib.hid hMq;have HG4:=Lib.hid (HG3.out.grown hgq HG3.out.size (fun k hk => by cases hk;exact HGM.out));clear hMq hgq;have HSq:=Lib.hid (HCC.out _ _ HS5.out HG4.out);have y8:=HC3_8.out _ HSq.out;have HM5 : Hid (BMap wm4 gm kindM):=Lib.hid HM4.out) | ((with_reducible refine wpList_get_bm _ rfl (.tmp 61) (.tmp 63) 196 rfl _ _ Tryz.underlying196 Tryz.underlying5 (.int .i64 0) (zeroI_ _) gm kindM rfl HM5.out (ty.toNat : Int) rfl ?_);rw [kindM_get])))
    have HK9:=Lib.hid (HK5.out.below HG4.out HK5.out.lt)
    have HSQ:=Lib.hid HSq.out
    clear HM0 HM1 HM2 HM3 HM4 HM5 HG0 HG1 HG2 HG3 HG4 HGM HSq HS5 HK5 y8 hgm
    have HU9 : Hid (UpSt w g9 #[(.string (bs nm)),(.string (bs pr)),(.string (bs lk)),(.int .i64 md),(.int .i64 ui),(.int .i64 gi),(.int .i64 sz),(.int .i64 tm),(.int .u8 ty.toNat),(.string (bs us)),(.string (bs gr))] #[.slice Al l.length cl] #[(.int .i64 md),(.int .i64 u0),(.int .i64 u1),(.string (bs us')),(.string (bs gr')),(.int .i64 s1),(.int .i64 s2)] wm4):=Lib.hid ⟨HBW.out _ HSQ.out,HK3.out.below HSQ.out HK3.out.lt,HK4.out.below HSQ.out HK4.out.lt,HK9.out,⟨_,rfl,HK6.out.below HSQ.out HK6.out.lt⟩,by have:=HG.out;have:=HZ0.out;omega⟩
    have HC9 : Hid (∀ W W',UpSt w g9 #[(.string (bs nm)),(.string (bs pr)),(.string (bs lk)),(.int .i64 md),(.int .i64 ui),(.int .i64 gi),(.int .i64 sz),(.int .i64 tm),(.int .u8 ty.toNat),(.string (bs us)),(.string (bs gr))] #[.slice Al l.length cl] #[(.int .i64 md),(.int .i64 u0),(.int .i64 u1),(.string (bs us')),(.string (bs gr')),(.int .i64 s1),(.int .i64 s2)] W→Below W.heap.size W W'→UpSt w g9 #[(.string (bs nm)),(.string (bs pr)),(.string (bs lk)),(.int .i64 md),(.int .i64 ui),(.int .i64 gi),(.int .i64 sz),(.int .i64 tm),(.int .u8 ty.toNat),(.string (bs us)),(.string (bs gr))] #[.slice Al l.length cl] #[(.int .i64 md),(.int .i64 u0),(.int .i64 u1),(.string (bs us')),(.string (bs gr')),(.int .i64 s1),(.int .i64 s2)] W'):=Lib.hid (fun W W' h hb => h.below hb)
    clear HK9 HSQ
    refine wp_region_G (S:=UpSt w g9 #[(.string (bs nm)),(.string (bs pr)),(.string (bs lk)),(.int .i64 md),(.int .i64 ui),(.int .i64 gi),(.int .i64 sz),(.int .i64 tm),(.int .u8 ty.toNat),(.string (bs us)),(.string (bs gr))] #[.slice Al l.length cl] #[(.int .i64 md),(.int .i64 u0),(.int .i64 u1),(.string (bs us')),(.string (bs gr')),(.int .i64 s1),(.int .i64 s2)]) (by kernel_rfl) (HC9.out _ _ HU9.out (Below.refl _ _).drew) ?_
    refine wpG_take (i:=0) (v:=?vrs1) rfl (by kernel_rfl) (by kernel_rfl) (by kernel_rfl) (fun _ _ _ h => h) (Or.inl ⟨by rfl,?hyrs1⟩) ?restrs1
    case hyrs1 => (intro W hSw;left;(try dsimp only at hSw);go_simp;try with_reducible rfl)
    simp only [Act.put,List.setIfInBounds_toArray,List.set_cons_zero,List.set_cons_succ,List.getElem_toArray,List.getElem_cons_zero,List.getElem_cons_succ]
    refine wpG_take (i:=1) (v:=?vrs2) rfl (by kernel_rfl) (by kernel_rfl) (by kernel_rfl) (fun _ _ _ h => h) (Or.inl ⟨by rfl,?hyrs2⟩) ?restrs2
    case hyrs2 => (intro W hSw;left;(try dsimp only at hSw);go_simp;try with_reducible rfl)
    simp only [Act.put,List.setIfInBounds_toArray,List.set_cons_zero,List.set_cons_succ,List.getElem_toArray,List.getElem_cons_zero,List.getElem_cons_succ]
    refine wpG_take (i:=2) (v:=(.string (bs pa'))) rfl (by kernel_rfl) (by kernel_rfl) (by kernel_rfl) (fun _ _ _ h => h) (Or.inl ⟨by rfl,?hyrs3⟩) ?restrs3
    case hyrs3 => (intro W hSw;right;(try dsimp only at hSw);refine ⟨_,_,(by go_simp;try with_reducible rfl),(HSP.out W _ hSw.1 (hSw.2.2.1.cell 0)).mono ?_⟩;rintro e w' ⟨rfl,hb⟩;exact ⟨rfl,HC9.out _ _ hSw hb,hb⟩)
    simp only [Act.put,List.setIfInBounds_toArray,List.set_cons_zero,List.set_cons_succ,List.getElem_toArray,List.getElem_cons_zero,List.getElem_cons_succ]
    refine wpG_take (i:=3) (v:=?vrs4) rfl (by kernel_rfl) (by kernel_rfl) (by kernel_rfl) (fun _ _ _ h => h) (Or.inl ⟨by rfl,?hyrs4⟩) ?restrs4
    case hyrs4 => (intro W hSw;left;(try dsimp only at hSw);go_simp;try with_reducible rfl)
    simp only [Act.put,List.setIfInBounds_toArray,List.set_cons_zero,List.set_cons_succ,List.getElem_toArray,List.getElem_cons_zero,List.getElem_cons_succ]
    refine wpG_take (i:=4) (v:=?vrs5) rfl (by kernel_rfl) (by kernel_rfl) (by kernel_rfl) (fun _ _ _ h => h) (Or.inl ⟨by rfl,?hyrs5⟩) ?restrs5
    case hyrs5 => (intro W hSw;left;(try dsimp only at hSw);go_simp;try with_reducible rfl)
    simp only [Act.put,List.setIfInBounds_toArray,List.set_cons_zero,List.set_cons_succ,List.getElem_toArray,List.getElem_cons_zero,List.getElem_cons_succ]
    refine wpG_take (i:=5) (v:=?vrs6) rfl (by kernel_rfl) (by kernel_rfl) (by kernel_rfl) (fun _ _ _ h => h) (Or.inl ⟨by rfl,?hyrs6⟩) ?restrs6
    case hyrs6 => (intro W hSw;left;(try dsimp only at hSw);go_simp;try with_reducible rfl)
    simp only [Act.put,List.setIfInBounds_toArray,List.set_cons_zero,List.set_cons_succ,List.getElem_toArray,List.getElem_cons_zero,List.getElem_cons_succ]
    refine wpG_take (i:=6) (v:=?vrs7) rfl (by kernel_rfl) (by kernel_rfl) (by kernel_rfl) (fun _ _ _ h => h) (Or.inl ⟨by rfl,?hyrs7⟩) ?restrs7
    case hyrs7 => (intro W hSw;left;(try dsimp only at hSw);have cf2 : W.cell? ⟨w.heap.size,2,none⟩=some (.string (bs lk)):=hSw.2.1.cell 2;go_simp;try with_reducible rfl)
    simp only [Act.put,List.setIfInBounds_toArray,List.set_cons_zero,List.set_cons_succ,List.getElem_toArray,List.getElem_cons_zero,List.getElem_cons_succ]
    refine wpG_take (i:=7) (v:=(.string (bs lk'))) rfl (by kernel_rfl) (by kernel_rfl) (by kernel_rfl) (fun _ _ _ h => h) (Or.inl ⟨by rfl,?hyrs8⟩) ?restrs8
    case hyrs8 => (intro W hSw;right;(try dsimp only at hSw);refine ⟨_,_,(by go_simp;try with_reducible rfl),(HSL.out W _ hSw.1 (hSw.2.2.1.cell 0)).mono ?_⟩;rintro e w' ⟨rfl,hb⟩;exact ⟨rfl,HC9.out _ _ hSw hb,hb⟩)
    simp only [Act.put,List.setIfInBounds_toArray,List.set_cons_zero,List.set_cons_succ,List.getElem_toArray,List.getElem_cons_zero,List.getElem_cons_succ]
    refine wpG_take (i:=8) (v:=?vrs9) rfl (by kernel_rfl) (by kernel_rfl) (by kernel_rfl) (fun _ _ _ h => h) (Or.inl ⟨by rfl,?hyrs9⟩) ?restrs9
    case hyrs9 => (intro W hSw;left;(try dsimp only at hSw);have cm0 : W.cell? ⟨g9,0,none⟩=some (.int .i64 md):=hSw.2.2.2.1.cell 0;have cm1 : W.cell? ⟨g9,1,none⟩=some (.int .i64 u0):=hSw.2.2.2.1.cell 1;have cm2 : W.cell? ⟨g9,2,none⟩=some (.int .i64 u1):=hSw.2.2.2.1.cell 2;have cm3 : W.cell? ⟨g9,3,none⟩=some (.string (bs us')):=hSw.2.2.2.1.cell 3;have cm4 : W.cell? ⟨g9,4,none⟩=some (.string (bs gr')):=hSw.2.2.2.1.cell 4;have cm5 : W.cell? ⟨g9,5,none⟩=some (.int .i64 s1):=hSw.2.2.2.1.cell 5;have cm6 : W.cell? ⟨g9,6,none⟩=some (.int .i64 s2):=hSw.2.2.2.1.cell 6;go_simp;try with_reducible rfl)
    simp only [Act.put,List.setIfInBounds_toArray,List.set_cons_zero,List.set_cons_succ,List.getElem_toArray,List.getElem_cons_zero,List.getElem_cons_succ]
    refine wpG_take (i:=9) (v:=?vrs10) rfl (by kernel_rfl) (by kernel_rfl) (by kernel_rfl) (fun _ _ _ h => h) (Or.inl ⟨by rfl,?hyrs10⟩) ?restrs10
    case hyrs10 => (intro W hSw;left;(try dsimp only at hSw);go_simp;try with_reducible rfl)
    simp only [Act.put,List.setIfInBounds_toArray,List.set_cons_zero,List.set_cons_succ,List.getElem_toArray,List.getElem_cons_zero,List.getElem_cons_succ]
    refine wpG_take (i:=10) (v:=?vrs11) rfl (by kernel_rfl) (by kernel_rfl) (by kernel_rfl) (fun _ _ _ h => h) (Or.inl ⟨by rfl,?hyrs11⟩) ?restrs11
    case hyrs11 => (intro W hSw;left;(try dsimp only at hSw);go_simp;try with_reducible rfl)
    simp only [Act.put,List.setIfInBounds_toArray,List.set_cons_zero,List.set_cons_succ,List.getElem_toArray,List.getElem_cons_zero,List.getElem_cons_succ]
    refine wpG_one (i:=11) (by kernel_rfl) rfl (fun Wb hb hS K hK => ?_)
    have hHB : HasBlk Wb (w.heap.size + 1 + 1) 58 11:=hS.2.2.2.2.1
    have z0:=hHB.peek_ (i:=0) (by omega);have f0:=hHB.frozen 0
    have z1:=hHB.peek_ (i:=1) (by omega);have f1:=hHB.frozen 1
    have z2:=hHB.peek_ (i:=2) (by omega);have f2:=hHB.frozen 2
    have z3:=hHB.peek_ (i:=3) (by omega);have f3:=hHB.frozen 3
    have z4:=hHB.peek_ (i:=4) (by omega);have f4:=hHB.frozen 4
    have z5:=hHB.peek_ (i:=5) (by omega);have f5:=hHB.frozen 5
    have z6:=hHB.peek_ (i:=6) (by omega);have f6:=hHB.frozen 6
    have z7:=hHB.peek_ (i:=7) (by omega);have f7:=hHB.frozen 7
    have z8:=hHB.peek_ (i:=8) (by omega);have f8:=hHB.frozen 8
    have z9:=hHB.peek_ (i:=9) (by omega);have f9:=hHB.frozen 9
    have z10:=hHB.peek_ (i:=10) (by omega);have f10:=hHB.frozen 10
    go_simp
    try go_wp2_with fail
    clear z0 f0 z1 f1 z2 f2 z3 f3 z4 f4 z5 f5 z6 f6 z7 f7 z8 f8 z9 f9 z10 f10
    obtain ⟨WE,hWE⟩ : ∃ WE,WE=setAll Wb (w.heap.size + 1 + 1) 0 [(.string (bs pa')),(.int .i64 (kindT ty)),(.string (bs lk')),(.int .i64 md),(.int .i64 u0),(.int .i64 u1),(.string (bs us')),(.string (bs gr')),(.int .i64 s1),(.int .i64 s2),(.slice A n c)]:=⟨_,rfl⟩
    have hk:=hHB.fill [(.string (bs pa')),(.int .i64 (kindT ty)),(.string (bs lk')),(.int .i64 md),(.int .i64 u0),(.int .i64 u1),(.string (bs us')),(.string (bs gr')),(.int .i64 s1),(.int .i64 s2),(.slice A n c)] rfl
    have hSE:=hS.fill [(.string (bs pa')),(.int .i64 (kindT ty)),(.string (bs lk')),(.int .i64 md),(.int .i64 u0),(.int .i64 u1),(.string (bs us')),(.string (bs gr')),(.int .i64 s1),(.int .i64 s2),(.slice A n c)]
    rw [← hWE] at hk
    replace hSE : UpSt w g9 #[(.string (bs nm)),(.string (bs pr)),(.string (bs lk)),(.int .i64 md),(.int .i64 ui),(.int .i64 gi),(.int .i64 sz),(.int .i64 tm),(.int .u8 ty.toNat),(.string (bs us)),(.string (bs gr))] #[.slice Al l.length cl] #[(.int .i64 md),(.int .i64 u0),(.int .i64 u1),(.string (bs us')),(.string (bs gr')),(.int .i64 s1),(.int .i64 s2)] WE:=by rw [hWE];exact hSE
    simp only [setAll,Nat.zero_add,Nat.reduceAdd] at hWE
    rw [← hWE]
    refine hK.out _ _ hSE ?_
    clear hK K hWE hb hS hHB
    try simp only [Act.put,List.setIfInBounds_toArray,List.set_cons_zero,List.set_cons_succ,List.getElem_toArray,List.getElem_cons_zero,List.getElem_cons_succ]
    refine wpG_done (by kernel_rfl) (fun W9 hb hS => ?_) _
    have hk9:=hk.below hb hk.lt
    have HB9:=Lib.hid hS.1
    clear hk hSE hb hS
    go_wp2_with fail
    refine bodyPost_ret (results_cell_row rfl _ _ (w.heap.size + 1 + 1) 58 _ (0,0) _ rfl hk9 Tryz.underlying58 rfl (by kernel_rfl)) rfl ?_
    rw [HEE.out]
    exact ⟨rfl,HB9.out⟩
end Go.Proofs.YtphmhmdcaafmdaaGreatDoor
