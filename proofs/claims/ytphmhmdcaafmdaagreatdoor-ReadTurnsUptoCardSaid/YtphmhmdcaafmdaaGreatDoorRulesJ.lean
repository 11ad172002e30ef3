import Derived.Test.YtphmhmdcaafmdaaGreatDoorPathW
import Derived.Test.YtphmhmdcaafmdaaGreatDoorSortN
import Derived.Test.YtphmhmdcaafmdaaGreatDoorGlobC
import Derived.Test.YtphmhmdcaafmdaaGreatDoorWilds
import Derived.Lib.QuietBelow
import Derived.Test.YtphmhmdcaafmdaaGreatDoorPaths
import Derived.Deep.RegionHeld3
namespace Go.Proofs.YtphmhmdcaafmdaaGreatDoor
set_option linter.all false
section
theorem splitC_append (c : UInt8) : ∀ (a r : List UInt8),splitC c (a ++ c :: r)=splitC c a ++ splitC c r:=by
  intro a
  induction a with
  | nil => intro r;rw [List.nil_append,splitC];simp [splitC]
  | cons b a ih =>
    intro r
    rw [List.cons_append,splitC,splitC,ih r]
    by_cases e : b=c
    · rw [if_pos e,if_pos e];rfl
    · rw [if_neg e,if_neg e]
      cases h : splitC c a with
      | nil => exact absurd h (splitC_ne c a)
      | cons x y => rfl
theorem cmpL_front : ∀ (a : List (List UInt8)) {b : List (List UInt8)},b≠[]→cmpL a (a ++ b)=-1
  | [],b,h => by cases b with | nil => exact absurd rfl h | cons x y => rfl
  | x :: a,b,h => by rw [List.cons_append,cmpL,if_pos (cmpB_self x)];exact cmpL_front a h
theorem inB_iff {e d : List UInt8} (hd : d≠[]) : inB e d=true ↔ ∃ r,e=d ++ 47 :: r:=by
  have h1 : inB e d=Lib.hasPrefix e (d ++ [47]):=by
    unfold inB
    cases d with
    | nil => exact absurd rfl hd
    | cons b d => simp
  rw [h1]
  constructor
  · intro h
    have h2 : (d ++ [47]).isPrefixOf e=true:=h
    rw [List.isPrefixOf_iff_prefix] at h2
    obtain ⟨r,hr⟩:=h2
    exact ⟨r,by rw [← hr];simp⟩
  · rintro ⟨r,rfl⟩
    have:=hasPrefix_append_in (d ++ [47]) r
    rwa [List.append_assoc] at this
theorem near_less {e d : List UInt8} (hd : d≠[]) (h : inB e d=true) : cmpP d e=-1:=by
  obtain ⟨r,rfl⟩:=(inB_iff hd).1 h
  unfold cmpP partsS
  rw [if_neg hd,if_neg (by simp),splitC_append]
  exact cmpL_front _ (splitC_ne _ _)
end
section
open Go.RowKit
def PartsOk (p : List UInt8) : Prop:=p≠[]∧∀ q∈splitC 47 p,q∈namesL
theorem namesL_ok : ∀ n∈namesL,n≠[]∧(47 : UInt8) ∉ n∧(0 : UInt8) ∉ n∧n≠[46]∧n≠[46,46]∧(91 : UInt8) ∉ n∧(42 : UInt8) ∉ n∧(63 : UInt8) ∉ n:=by
  intro n hn
  simp only [namesL,List.mem_cons,List.mem_nil_iff,or_false] at hn
  rcases hn with rfl | rfl | rfl | rfl | rfl | rfl | rfl | rfl | rfl | rfl | rfl
  all_goals first | decide | (refine ⟨by simp,?_,?_,?_,?_,?_,?_,?_⟩ <;> first | (rw [List.mem_replicate];simp) | (intro h;have:=congrArg List.length h;simp at this))
theorem names_mem (r : RawS) : namesL.getD (pick r.a 11).toNat []∈namesL:=by
  have h:=pick_bd r.a 11 (by omega)
  rw [List.getD_eq_getElem?_getD,List.getElem?_eq_getElem (by rw [show namesL.length=11 from rfl];omega)]
  exact List.getElem_mem _
theorem growPath_ok {dirs : List (List UInt8)} (hd : ∀ d∈dirs,d=[]∨PartsOk d) (r : RawS) : PartsOk (growPath dirs r):=by
  have hn:=names_mem r
  obtain ⟨n1,n2,_⟩:=namesL_ok _ hn
  unfold growPath
  generalize namesL.getD (pick r.a 11).toNat []=n at *
  have hdd : dirs.getD (pick r.b dirs.length).toNat []=[]∨PartsOk (dirs.getD (pick r.b dirs.length).toNat []):=by
    rw [List.getD_eq_getElem?_getD]
    rcases hq : dirs[(pick r.b dirs.length).toNat]? with _ | d
    · exact .inl rfl
    · exact hd d (List.mem_of_getElem? hq)
  generalize dirs.getD (pick r.b dirs.length).toNat []=d at *
  unfold upS
  split
  · rw [List.nil_append]
    refine ⟨n1,fun q hq => ?_⟩
    rw [splitC_miss n2,List.mem_singleton] at hq
    rw [hq];exact hn
  · next hne =>
    rcases hdd with h | ⟨_,h⟩
    · exact absurd h hne
    · rw [List.append_assoc,List.singleton_append]
      refine ⟨by simp,fun q hq => ?_⟩
      rw [splitC_append,splitC_miss n2] at hq
      rcases List.mem_append.1 hq with hq | hq
      · exact h q hq
      · rw [List.mem_singleton] at hq
        rw [hq];exact hn
structure GrowPOk (s : TreeS) : Prop where
  paths : ∀ x∈s.t,PartsOk x.path
  dirs : ∀ d∈s.dirs,d=[]∨PartsOk d
theorem growPOk_step {most : Nat} {s : TreeS} (h : GrowPOk s) (r : RawS) : GrowPOk (growStep most s r):=by
  unfold growStep
  split
  · exact h
  · split
    · exact h
    · obtain ⟨j,y,n,ds,e,hn,hds,hy⟩:=growKind_form s r (growPath s.dirs r) (pick r.kind 7).toNat
      have hp:=growPath_ok h.dirs r
      rw [e]
      have hm : (s.t.set j y ++ [n]).map (·.path)=s.t.map (·.path) ++ [growPath s.dirs r]:=by rw [List.map_append,set_paths hy,List.map_cons,hn];rfl
      refine ⟨fun x hx => ?_,fun d hd => ?_⟩
      · have hx2 : x.path∈(s.t.set j y ++ [n]).map (·.path):=List.mem_map_of_mem hx
        rw [hm] at hx2
        rcases List.mem_append.1 hx2 with a | a
        · obtain ⟨z,hz,ez⟩:=List.mem_map.1 a
          rw [← ez];exact h.paths z hz
        · rw [List.mem_singleton] at a;rw [a];exact hp
      · rcases List.mem_append.1 hd with hd | hd
        · exact h.dirs d hd
        · rcases hds with rfl | rfl
          · simp at hd
          · rw [List.mem_singleton] at hd;subst hd;exact .inr hp
theorem growPOk_all (most : Nat) : ∀ (l : List RawS) {s : TreeS},GrowPOk s→GrowPOk (l.foldl (growStep most) s)
  | [],_,h => h
  | r :: l,_,h => growPOk_all most l (growPOk_step h r)
theorem treeP_parts (l : List RawS) (most : Nat) : ∀ x∈treeP l most,PartsOk x.path∧x.path.length≤400:=fun x hx => by
  have hx2:=(treeP_perm l most).subset hx
  exact ⟨(growPOk_all most l (s:=⟨[],[[]]⟩) ⟨by simp,by simp⟩).paths x hx2,(growOk_all most l (growOk_start most)).path x hx2⟩
end
end Go.Proofs.YtphmhmdcaafmdaaGreatDoor
namespace Go.Proofs.YtphmhmdcaafmdaaGreatDoor
set_option linter.all false
section
open Go.RowKit
theorem star_text (q : Piece) : ((bs (textP q)).toList == [42])=starP q:=by
  rw [bs_toList]
  rcases q with b | ⟨neg,x,body⟩
  · show ([b] == [42])=(b == 42)
    simp
  · show (setT neg x body == [42])=false
    rw [beq_eq_false_iff_ne]
    intro e
    have:=congrArg List.length e
    cases neg <;> simp [setT] at this
structure Held (W : World) (g : Nat) (l : List (List UInt8)) : Prop where
  ex : ∃ A c,W.cell? ⟨g,0,none⟩=some (.slice A l.length c)∧∀ k,k < l.length→∃ ad,A=some ad∧W.cell? (ad.add k)=some (.string (bs (l.getD k [])))
theorem Held.below {w W : World} {g : Nat} {l : List (List UInt8)} (h : Held w g l) (hb : Below w.heap.size w W) : Held W g l:=by
  obtain ⟨A,c,h1,h2⟩:=h.ex
  have lt : ∀ {a : Addr} {v : Value},w.cell? a=some v→a.block < w.heap.size:=by
    intro a v ha
    rcases Nat.lt_or_ge a.block w.heap.size with h | h
    · exact h
    · simp [World.cell?,Array.getElem?_eq_none h] at ha
  refine ⟨A,c,(hb.cell (lt h1)).trans h1,fun k hk => ?_⟩
  obtain ⟨ad,e,hc⟩:=h2 k hk
  exact ⟨ad,e,(hb.cell (lt hc)).trans hc⟩
theorem held_of {W : World} {g B : Nat} {v : Value} {l : List (List UInt8)} (h1 : W.cell? ⟨g,0,none⟩=some v) (h2 : StrsAt W B v l) : Held W g l:=by
  obtain ⟨A,c,rfl,_,_,_,hr⟩:=h2
  refine ⟨A,c,h1,fun k hk => ?_⟩
  obtain ⟨ad,u,e,_,hu,hc⟩:=hr.at_ hk
  rw [List.getElem?_map,List.getElem?_eq_getElem hk] at hu
  refine ⟨ad,e,?_⟩
  rw [hc,List.getD_eq_getElem?_getD,List.getElem?_eq_getElem hk]
  simpa using hu.symm
set_option maxHeartbeats 400000 in
theorem part1_any (ps : List Piece) (i : Nat) (hi : i < ps.length) (g : Nat) (W : World) (hh : Held W g (ps.map textP)) (_hl : ps.length≤1000) :
    Calls Tryz.prog 256 #[.int .i64 i,.pointer (some ⟨g,0,none⟩)] W fun e w' => e=.returned (.bool (starP ps[i]))∧Below W.heap.size W w':=by
  obtain ⟨A,c,h1,h2⟩:=hh.ex
  obtain ⟨ad,rfl,h3⟩:=h2 i (by rw [List.length_map];exact hi)
  have e : (ps.map textP).getD i []=textP ps[i]:=by rw [List.getD_eq_getElem?_getD,List.getElem?_map,List.getElem?_eq_getElem hi];rfl
  rw [e] at h3
  have fin:=Lib.hid (star_text ps[i])
  rw [List.length_map] at h1
  clear h2 e hh
  generalize textP ps[i]=t at *
  generalize starP ps[i]=b at *
  generalize bs t=s at *
  go_enter Tryz.func256,Tryz.ntmps256
  go_wp2_with fail
  go_ret
  exact ⟨ret_bool (by rw [← fin.out]),Below.refl _ _⟩
set_option maxHeartbeats 400000 in
theorem parts1_any (ps : List (List Piece)) (i : Nat) (hi : i < ps.length) (g : Nat) (W : World) (hh : Held W g (ps.map textPs)) (_hl : ps.length≤1000) :
    Calls Tryz.prog 242 #[.int .i64 i,.pointer (some ⟨g,0,none⟩)] W fun e w' => e=.returned (.bool (textPs ps[i] == [42,42]))∧Below W.heap.size W w':=by
  obtain ⟨A,c,h1,h2⟩:=hh.ex
  obtain ⟨ad,rfl,h3⟩:=h2 i (by rw [List.length_map];exact hi)
  have e : (ps.map textPs).getD i []=textPs ps[i]:=by rw [List.getD_eq_getElem?_getD,List.getElem?_map,List.getElem?_eq_getElem hi];rfl
  rw [e] at h3
  have fin:=Lib.hid (show ((bs (textPs ps[i])).toList == [42,42])=(textPs ps[i] == [42,42]) by rw [bs_toList])
  rw [List.length_map] at h1
  clear h2 e hh
  generalize (textPs ps[i] == [42,42])=b at *
  generalize bs (textPs ps[i])=s at *
  go_enter Tryz.func242,Tryz.ntmps242
  go_wp2_with fail
  go_ret
  exact ⟨ret_bool (by rw [← fin.out]),Below.refl _ _⟩
set_option maxHeartbeats 400000 in
theorem part2_any (ps : List Piece) (hp : ∀ q∈ps,okP q) (s : List UInt8) (i k : Nat) (hi : i < ps.length) (hk : k < s.length) (g g2 : Nat) (W : World) (hh : Held W g (ps.map textP)) (h0 : W.cell? ⟨g2,0,none⟩=some (.string (bs s))) (_hl : ps.length≤1000) (_hs : s.length≤1000) :
    Calls Tryz.prog 257 #[.int .i64 i,.int .i64 k,.pointer (some ⟨g,0,none⟩),.pointer (some ⟨g2,0,none⟩)] W fun e w' => e=.returned (.bool (fitsP ps[i] s[k]))∧Below W.heap.size W w':=by
  obtain ⟨A,c,h1,h2⟩:=hh.ex
  obtain ⟨ad,rfl,h3⟩:=h2 i (by rw [List.length_map];exact hi)
  have e : (ps.map textP).getD i []=textP ps[i]:=by rw [List.getD_eq_getElem?_getD,List.getElem?_map,List.getElem?_eq_getElem hi];rfl
  rw [e] at h3
  rw [List.length_map] at h1
  have z:=bs_size s
  have hk2 : k < (bs s).size:=by rw [z];exact hk
  have hc : (((bs s)[k]'hk2).toNat : Int)=s[k].toNat:=by
    rw [bs_get,List.getD_eq_getElem?_getD,List.getElem?_eq_getElem hk];rfl
  have hS:=Lib.hid (fun w => sign_any ps[i] (hp _ (List.getElem_mem hi)) s[k] w)
  clear h2 e hh hp
  have i1 : (i : Int) < ps.length:=by omega
  have i2 : (0 : Int)≤i:=by omega
  have k1 : (k : Int) < s.length:=by omega
  have k2 : (0 : Int)≤k:=by omega
  generalize fitsP ps[i] s[k]=b at *
  generalize bs (textP ps[i])=sp at *
  generalize (s[k].toNat : Int)=C at *
  generalize bs s=bS at *
  go_enter Tryz.func257,Tryz.ntmps257
  go_wp2_with fail
  go_quiet ((go_at_call 258;exact Calls.quiet_of (hS.out _)))
  go_wp2_with fail
  go_ret
  exact ⟨rfl,below_drewN (Below.refl _ _) _⟩
theorem box_lt {W : World} {g : Nat} {v : Value} (h : W.cell? ⟨g,0,none⟩=some v) : g < W.heap.size:=by
  rcases Nat.lt_or_ge g W.heap.size with h' | h'
  · exact h'
  · simp [World.cell?,Array.getElem?_eq_none h'] at h
set_option maxRecDepth 100000 in
set_option maxHeartbeats 1000000 in
theorem part_any (ps : List Piece) (hp : ∀ q∈ps,okP q) (hl : (textPs ps).length≤400) (s : List UInt8) (hs : s.length≤400) (w : World) :
    Calls Tryz.prog 244 #[.string (bs (textPs ps)),.string (bs s)] w fun e w' => e=.returned (.bool (globs.glob starP fitsP ps s))∧Below w.heap.size w w':=by
  have hz:=bs_size s
  have hpl : ps.length≤400:=by
    have : ∀ l : List Piece,l.length≤(textPs l).length:=by
      intro l
      induction l with
      | nil => simp
      | cons q l ih =>
        rw [textPs_cons,List.length_append,List.length_cons]
        have:=List.length_pos_iff.2 (textP_ne q)
        omega
    have:=this ps
    omega
  have hS:=Lib.hid (fun w => split_any ps hp (by omega) w)
  have HP:=Lib.hid hp
  clear hp
  go_enter Tryz.func244,Tryz.ntmps244
  go_wp2_with fail
  refine (hS.out _).mono ?_
  rintro e w1 ⟨v,rfl,hv,hb⟩
  have hv0:=hv
  obtain ⟨A,c,rfl,h11,h12,h13,hr⟩:=hv
  rw [List.length_map] at hv0
  have hB0:=Blk.new w 9 #[.string (bs s)]
  have hlt : w.heap.size < w1.heap.size:=by have:=hb.size;simp at this;omega
  have hbox : w1.cell? ⟨w.heap.size,0,none⟩=some (.string (bs s)):=(hb.cell (p:=⟨w.heap.size,0,none⟩) (by simp)).trans (hB0.cell 0)
  have hbox2 : ∀ o,(w1.alloc o).cell? ⟨w.heap.size,0,none⟩=some (.string (bs s)):=fun o => (World.cell?_alloc_lt w1 o _ hlt).trans hbox
  have hB1:=Blk.new w1 70 #[.slice A ps.length c]
  have hH : Held (w1.alloc (.cells #[.slice A ps.length c] 70)) w1.heap.size (ps.map textP):=by
    refine held_of (B:=w1.heap.size) (hB1.cell 0) ?_
    exact (hv0.below ((Below.refl _ w1).alloc (Nat.le_refl _) _))
  have hX:=hbox2 (.cells #[.slice A ps.length c] 70)
  have HW:=Lib.hid (wild_part starP fitsP ps s (.pointer (some ⟨w1.heap.size,0,none⟩)) (.pointer (some ⟨w.heap.size,0,none⟩)) _ (by omega) (by omega)
    (fun i h W hb2 => part1_any ps i h _ W (hH.below hb2) (by omega))
    (fun i k h h2 W hb2 => part2_any ps HP.out s i k h h2 _ _ W (hH.below hb2) ((hb2.cell (p:=⟨w.heap.size,0,none⟩) (box_lt hX)).trans hX) (by omega) (by omega)))
  clear hr hv0 hH hX hB0 hB1
  go_wp2_with fail
  refine HW.out.mono ?_
  rintro e w2 ⟨rfl,hb2⟩
  go_wp2_with fail
  go_ret
  refine ⟨rfl,?_⟩
  have b1 : Below w.heap.size w w1:=((Below.refl _ w).alloc (Nat.le_refl _) _).trans (hb.mono (by simp))
  exact (b1.alloc b1.size _).trans (hb2.mono (by simp;omega))
set_option maxHeartbeats 1000000 in
theorem parts2_any (ps : List (List Piece)) (hp : ∀ l∈ps,∀ q∈l,okP q) (hpt : ∀ l∈ps,(textPs l).length≤400) (ss : List (List UInt8)) (hst : ∀ s∈ss,s.length≤400) (i k : Nat) (hi : i < ps.length) (hk : k < ss.length) (g g2 : Nat) (W : World) (hh : Held W g (ps.map textPs)) (hh2 : Held W g2 ss) (_hl : ps.length≤1000) (_hs : ss.length≤1000) :
    Calls Tryz.prog 243 #[.int .i64 i,.int .i64 k,.pointer (some ⟨g,0,none⟩),.pointer (some ⟨g2,0,none⟩)] W fun e w' => e=.returned (.bool (globs.glob starP fitsP ps[i] ss[k]))∧Below W.heap.size W w':=by
  obtain ⟨A,c,h1,h2⟩:=hh.ex
  obtain ⟨ad,rfl,h3⟩:=h2 i (by rw [List.length_map];exact hi)
  have e : (ps.map textPs).getD i []=textPs ps[i]:=by rw [List.getD_eq_getElem?_getD,List.getElem?_map,List.getElem?_eq_getElem hi];rfl
  rw [e] at h3
  rw [List.length_map] at h1
  obtain ⟨A2,c2,j1,j2⟩:=hh2.ex
  obtain ⟨ad2,rfl,j3⟩:=j2 k hk
  have e2 : ss.getD k []=ss[k]:=by rw [List.getD_eq_getElem?_getD,List.getElem?_eq_getElem hk];rfl
  rw [e2] at j3
  have hS:=Lib.hid (fun d os => Calls.regrown_of (w:=W) (d:=d) (os:=os) (part_any ps[i] (hp _ (List.getElem_mem hi)) (hpt _ (List.getElem_mem hi)) ss[k] (hst _ (List.getElem_mem hk)) _))
  have f1:=fun d os => cell_regrown h1 d os
  have f3:=fun d os => cell_regrown h3 d os
  have g1:=fun d os => cell_regrown j1 d os
  have g3:=fun d os => cell_regrown j3 d os
  clear h2 e hh hh2 hp hpt hst j2 e2
  have i1 : (i : Int) < ps.length:=by omega
  have i2 : (0 : Int)≤i:=by omega
  have k1 : (k : Int) < ss.length:=by omega
  have k2 : (0 : Int)≤k:=by omega
  generalize globs.glob starP fitsP ps[i] ss[k]=b at *
  generalize bs (textPs ps[i])=sp at *
  generalize bs ss[k]=sq at *
  have mixed : Tryz.prog.follows .mixedOrders=true:=by kernel_rfl
  go_enter Tryz.func243,Tryz.ntmps243
  go_wp2_with fail
  refine wp_region_quiet_below mixed (by kernel_rfl) ?_
  repeat (quiet_step (exact hS.out _ _))
  refine wpQuiet_nil ?_
  intro _ hw'
  obtain ⟨⟨dq,osq⟩,hw''⟩:=hw'
  subst hw''
  go_wp2_with fail
  go_ret
  exact ⟨rfl,below_regrown W dq osq⟩
def starQ (l : List Piece) : Bool:=textPs l == [42,42]
def fitsQ (l : List Piece) (s : List UInt8) : Bool:=globs.glob starP fitsP l s
set_option maxRecDepth 100000 in
set_option maxHeartbeats 1000000 in
theorem parts_any (ps : List (List Piece)) (hp : ∀ l∈ps,∀ q∈l,okP q) (hpt : ∀ l∈ps,(textPs l).length≤400) (ss : List (List UInt8)) (hst : ∀ s∈ss,s.length≤400) (hl : ps.length≤1000) (hs : ss.length≤1000) (v1 v2 : Value) (w : World) (h1 : StrsAt w w.heap.size v1 (ps.map textPs)) (h2 : StrsAt w w.heap.size v2 ss) :
    Calls Tryz.prog 219 #[v1,v2] w fun e w' => e=.returned (.bool (globs.glob starQ fitsQ ps ss))∧Below w.heap.size w w':=by
  have h10:=h1
  have h20:=h2
  obtain ⟨A1,c1,rfl,_,_,_,_⟩:=h1
  obtain ⟨A2,c2,rfl,_,_,_,_⟩:=h2
  rw [List.length_map] at h10 ⊢
  have b1 : Below w.heap.size w (w.alloc (.cells #[.slice A1 ps.length c1] 70)):=(Below.refl _ w).alloc (Nat.le_refl _) _
  have b2 : Below w.heap.size w ((w.alloc (.cells #[.slice A1 ps.length c1] 70)).alloc (.cells #[.slice A2 ss.length c2] 70)):=b1.alloc b1.size _
  have hB1:=Blk.new w 70 #[.slice A1 ps.length c1]
  have hB2:=Blk.new (w.alloc (.cells #[.slice A1 ps.length c1] 70)) 70 #[.slice A2 ss.length c2]
  have hB1':=hB1.alloc (.cells #[.slice A2 ss.length c2] 70)
  have e1 : (w.alloc (.cells #[.slice A1 ps.length c1] 70)).heap.size=w.heap.size + 1:=by simp
  rw [e1] at hB2
  have hH1 : Held ((w.alloc (.cells #[.slice A1 ps.length c1] 70)).alloc (.cells #[.slice A2 ss.length c2] 70)) w.heap.size (ps.map textPs):=held_of (hB1'.cell 0) (h10.below b2)
  have hH2 : Held ((w.alloc (.cells #[.slice A1 ps.length c1] 70)).alloc (.cells #[.slice A2 ss.length c2] 70)) (w.heap.size + 1) ss:=held_of (hB2.cell 0) (h20.below b2)
  have HW:=Lib.hid (wild_parts starQ fitsQ ps ss (.pointer (some ⟨w.heap.size,0,none⟩)) (.pointer (some ⟨w.heap.size + 1,0,none⟩)) _ (by omega) (by omega)
    (fun i h W hb2 => parts1_any ps i h _ W (hH1.below hb2) (by omega))
    (fun i k h h2 W hb2 => parts2_any ps hp hpt ss hst i k h h2 _ _ W (hH1.below hb2) (hH2.below hb2) (by omega) (by omega)))
  have B2:=Lib.hid b2
  clear hB1 hB2 hB1' e1 hH1 hH2 h10 h20 b1 b2 hp hpt hst
  go_enter Tryz.func219,Tryz.ntmps219
  go_wp2_with fail
  refine HW.out.mono ?_
  rintro e w2 ⟨rfl,hb2⟩
  go_wp2_with fail
  go_ret
  exact ⟨rfl,B2.out.trans (hb2.mono B2.out.size)⟩
structure Pattern (p : List UInt8) (ps : List (List Piece)) : Prop where
  len1 : 1≤p.length
  len2 : p.length≤400
  split : splitC 47 p=ps.map textPs
  ok : ∀ l∈ps,l≠[]∧∀ q∈l,okP q
theorem splitC_len {c : UInt8} : ∀ {l : List UInt8},∀ s∈splitC c l,s.length≤l.length
  | [],s,h => by simp [splitC] at h;simp [h]
  | b :: l,s,h => by
    unfold splitC at h
    have ih:=splitC_len (c:=c) (l:=l)
    split at h
    · rcases List.mem_cons.1 h with rfl | h
      · simp
      · have:=ih s h;simp;omega
    · have hne:=splitC_ne c l
      cases hsp : splitC c l with
      | nil => exact absurd hsp hne
      | cons x y =>
        rw [hsp] at h ih
        rcases List.mem_cons.1 h with rfl | h
        · have:=ih x (by simp);simp at this ⊢;omega
        · have:=ih s (by simp at h;simp [h]);simp;omega
theorem textPs_ne {l : List Piece} (h : l≠[]) : textPs l≠[]:=by
  cases l with
  | nil => exact absurd rfl h
  | cons q l => rw [textPs_cons];simp [textP_ne q]
set_option maxHeartbeats 1000000 in
theorem Fits_ok (p : List UInt8) (ps : List (List Piece)) (hp : Pattern p ps) (s : List UInt8) (hs : checkS s=0) (w : World) (hm : ML w) :
    Calls Tryz.prog 181 #[.string (bs p),.string (bs s)] w fun e w' => e=.returned (.tuple #[.bool (globs.glob starQ fitsQ ps (splitC 47 s)),.int .i64 0])∧Below w.heap.size w w':=by
  have hsl : 1≤s.length∧s.length≤400:=by
    unfold checkS at hs
    split at hs
    · cases hs
    · omega
  obtain ⟨s1,s2⟩:=hsl
  have hpne : p≠[]:=fun e => by have:=hp.len1;rw [e] at this;simp at this
  have hsne : s≠[]:=fun e => by rw [e] at s1;simp at s1
  have hpl2:=hp.len2
  have hmem : ∀ l∈ps,textPs l∈splitC 47 p:=fun l hl => by rw [hp.split];exact List.mem_map_of_mem hl
  have hC:=Lib.hid (fun w hm => GCheck_ok p hp.len1 hp.len2 (fun t ht => by
    rw [hp.split] at ht
    obtain ⟨l,hl,rfl⟩:=List.mem_map.1 ht
    exact ⟨textPs_ne (hp.ok l hl).1,l,rfl,(hp.ok l hl).2⟩) (fun t ht => Nat.le_trans (splitC_len t ht) hp.len2) w hm)
  have hK:=Lib.hid (fun w hm => Check_any s w (by omega) hm)
  rw [hs] at hK
  have hP1:=Lib.hid (fun w hm => Parts_own p w hpne (by omega) hm)
  have hP2:=Lib.hid (fun w hm => Parts_own s w hsne (by omega) hm)
  have hsp1:=splitC_length 47 p
  have hsp2:=splitC_length 47 s
  rw [hp.split,List.length_map] at hsp1
  rw [hp.split] at hP1
  have hPA:=Lib.hid (fun v1 v2 w a b => parts_any ps (fun l hl => (hp.ok l hl).2) (fun l hl => Nat.le_trans (splitC_len _ (hmem l hl)) hp.len2) (splitC 47 s) (fun t ht => Nat.le_trans (splitC_len t ht) s2) (by omega) (by omega) v1 v2 w a b)
  clear hp hmem
  go_enter Tryz.func181,Tryz.ntmps181
  go_wp2_with fail
  refine (hC.out _ hm).mono ?_
  rintro e w1 ⟨rfl,b1⟩
  go_wp2_with fail
  refine (hK.out _ (hm.below b1)).mono ?_
  rintro e w2 ⟨rfl,b2⟩
  have b12:=b1.trans (b2.mono b1.size)
  clear b1 b2
  go_wp2_with fail
  refine (hP1.out _ (hm.below b12)).mono ?_
  rintro e w3 ⟨v1,rfl,hv1,b3⟩
  have b13:=b12.trans (b3.mono b12.size)
  clear b12 b3
  go_wp2_with fail
  refine (hP2.out _ (hm.below b13)).mono ?_
  rintro e w4 ⟨v2,rfl,hv2,b4⟩
  have b14:=b13.trans (b4.mono b13.size)
  have hv1':=(hv1.below (Nat.le_refl _) b4).at_
  have hv2':=hv2.at_
  clear b13 b4 hv1 hv2
  go_wp2_with fail
  refine (hPA.out _ _ _ hv1' hv2').mono ?_
  rintro e w5 ⟨rfl,b5⟩
  go_wp2_with fail
  go_ret2
  exact ⟨rfl,b14.trans (b5.mono b14.size)⟩
end
section
def stars : Nat→List UInt8
  | 0 => [42]
  | n + 1 => 42 :: 47 :: stars n
end
end Go.Proofs.YtphmhmdcaafmdaaGreatDoor
namespace Go.Proofs.YtphmhmdcaafmdaaGreatDoor
set_option linter.all false
section
open Go.RowKit
def patternsL : List (List UInt8):=[[97],[42,42],[42],[97,47,42,42],[42,42,47,98],[63],[91,97,45,98,93],[91,33,97,93,42],[42,42,47,42,46,116,120,116],[120,42],[97,98,47,42],[42,42,47,110,42]]
abbrev RuleP:=Bool × List UInt8
def ruleC (x : RuleP) : List Value:=[.bool x.1,.string (bs x.2)]
theorem ruleC_length (x : RuleP) : (ruleC x).length=2:=rfl
def RulesOwn (w : World) (base : Nat) (v : Value) (rs : List RuleP) : Prop:=w.ownsRow base 279 2 v rs.length (rs.flatMap ruleC)
theorem RulesOwn.below {w w' : World} {base : Nat} {v : Value} {rs : List RuleP} (h : RulesOwn w base v rs) (hb : Below w.heap.size w w') : RulesOwn w' base v rs:=ownsRow_below h hb
def RuSt (w0 : World) (v : Value) (rs : List RuleP) (w : World) : Prop:=Below w0.heap.size w0 w∧RulesOwn w w0.heap.size v rs∧Blk w w0.heap.size 9 (patternsL.map fun p => Value.string (bs p)).toArray
theorem RuSt.below {w0 w w' : World} {v : Value} {rs : List RuleP} (h : RuSt w0 v rs w) (hb : Below w.heap.size w w') : RuSt w0 v rs w':=⟨h.1.trans (hb.mono h.1.size),h.2.1.below hb,h.2.2.below hb h.2.2.lt⟩
theorem RuSt.snoc {w0 w w' : World} {v v' : Value} {rs : List RuleP} {x : RuleP} (h : RuSt w0 v rs w) (hg : w.grownBy w' v.ownBlock) (ho : w'.ownsRow w0.heap.size 279 2 v' (rs.length + 1) (rs.flatMap ruleC ++ ruleC x)) : RuSt w0 v' (rs ++ [x]) w':=by
  have ht : ∀ g,v.ownBlock=some g→w0.heap.size≤g∧∃ C fr,w.heap[g]?=some (.cells C 279 fr):=fun g e => own_typed h.2.1 e
  refine ⟨h.1.grown hg h.1.size (fun k e => (ht k e).1),?_,h.2.2.grown hg (fun e => ?_)⟩
  · unfold RulesOwn
    rw [List.length_append,List.flatMap_append]
    simpa using ho
  · obtain ⟨_,C,fr,hC⟩:=ht _ e.symm
    have h2:=h.2.2
    unfold Blk at h2
    rw [h2] at hC
    injection hC with hC
    injection hC with _ ht
    exact absurd ht (by decide)
end
section
open Go.RowKit
theorem RulesOwn.row {w : World} {base : Nat} {v : Value} {l : List RuleP} (h : RulesOwn w base v l) (hl : 0 < l.length) : ∃ g c,v=.slice (some ⟨g,0,none⟩) l.length c∧g < w.heap.size∧l.length≤c∧c≤maxLen ∧
    ∀ j,(hj : j < l.length)→w.cell? ⟨g,j * 2,none⟩=some (.bool l[j].1)∧w.cell? ⟨g,j * 2 + 1,none⟩=some (.string (bs l[j].2)):=by
  rcases id h.2 with ⟨_,h4⟩ | ⟨g,cap,cur,rfl,hb,hg,hn,hm,_⟩
  · omega
  · refine ⟨g,cap,rfl,heap_lt hg,hn,hm,fun j hj => ?_⟩
    have key : ∀ i,i < 2→w.cell? ⟨g,j * 2 + i,none⟩=(ruleC l[j])[i]?:=fun i hi => by
      have h3 : (l.flatMap ruleC)[j * 2 + i]?=(ruleC l[j])[i]?:=by
        rw [flat_get ruleC_length l j i hi,List.getElem?_eq_getElem hj];rfl
      have hl2 : i < (ruleC l[j]).length:=hi
      rw [List.getElem?_eq_getElem hl2] at h3 ⊢
      have h4:=World.ownsRow.cells h (g:=g) rfl (j * 2 + i) _ h3
      rwa [add_flat,Nat.zero_add] at h4
    exact ⟨key 0 (by omega),key 1 (by omega)⟩
end
end Go.Proofs.YtphmhmdcaafmdaaGreatDoor
