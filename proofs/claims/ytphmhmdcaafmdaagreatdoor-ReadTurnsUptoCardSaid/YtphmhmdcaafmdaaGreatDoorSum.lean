import Derived.Test.YtphmhmdcaafmdaaGreatDoorWords
namespace Go.Proofs.YtphmhmdcaafmdaaGreatDoor
set_option linter.all false
open Go.RowKit
set_option maxHeartbeats 400000 in
theorem Clone_nil (w : World) :
    Calls Tryz.prog 29 #[.slice none 0 0] w fun e w' => e=.returned (.slice none 0 0)∧w=w':=by
  have e1:=fun W : World => Lib.run_eql_slice_nil (P:=Tryz.prog) W 27 5 none 0 0 0 0 Tryz.underlying27
  go_enter Tryz.func29,Tryz.ntmps29
  go_wp2
  go_ret
  exact ⟨rfl,rfl⟩
set_option maxHeartbeats 400000 in
theorem Clone_some (ad : Addr) (n c : Nat) (l : List Int) (w : World) (hr : Reads w w.heap.size 1 (some ad) n (l.map (.int .u8))) (hn : n≤reachBytes) :
    Calls Tryz.prog 29 #[.slice (some ad) n c] w fun e w' => ∃ v,e=.returned v∧w'.ownsRow w.heap.size 5 1 v n (l.map (.int .u8))∧Below w.heap.size w w':=by
  have hrb : reachBytes≤140737488355328:=by decide
  have h1:=one_u8 l
  have e1:=fun W : World => Lib.run_eql_slice_nil (P:=Tryz.prog) W 27 5 (some ad) n c 0 0 Tryz.underlying27
  go_enter Tryz.func29,Tryz.ntmps29
  obtain ⟨i0,hi0,hz0,hz1,hz2⟩:=info_parts u8_info
  go_wp2_with (at_builtin
               refine wpList_append_any _ rfl (.tmp 5) (.tmp 6) _ rfl w.heap.size 5 i0 _ 1 1 Tryz.underlying27 hi0 hz0 hz1 hz2 rfl (by omega) (.slice (some ⟨w.heap.size,0,none⟩) 0 0) 0 [] rfl
                 (World.ownsRow_made w #[] 0 (Nat.le_refl _) (by simp) (by simp)) w.heap.size (some ad) n c (l.map (.int .u8)) rfl ((hr.alloc (Nat.le_refl _) _)) h1 (by simp only [maxLen];omega) (by omega) (by simp) ?_
               intro v1 w1 hown1 hg1 hat1)
  go_ret
  exact ⟨v1,rfl,by simpa using hown1,((Below.refl _ _).alloc (Nat.le_refl _) _).grown hg1 (by simp) (fun k hk => by simp [Value.ownBlock] at hk;omega)⟩
theorem Clone_any (v : Value) (l : List Int) (w : World) (hl : IntsAt .u8 w w.heap.size v l) (hn : l.length≤reachBytes) :
    Calls Tryz.prog 29 #[v] w fun e w' => ∃ v',e=.returned v'∧w'.ownsRow w.heap.size 5 1 v' l.length (l.map (.int .u8))∧Below w.heap.size w w':=by
  obtain ⟨A,c,rfl,hlc,hc,hA,hr⟩:=hl
  rcases A with _ | ad
  · obtain rfl : c=0:=hA rfl
    obtain rfl : l=[]:=List.eq_nil_of_length_eq_zero (by omega)
    refine (Clone_nil w).mono ?_
    rintro e w' ⟨rfl,rfl⟩
    exact ⟨_,rfl,World.ownsRow_nil _ _ _ _,Below.refl _ _⟩
  · exact Clone_some ad l.length c l w hr hn
def x8 (a b : Int) : Int:=bits .xor .u8 a b
theorem ofInt_u8 (a : Nat) (ha : a < 256) : (BitVec.ofInt 8 (a : Int)).toNat=a:=by
  rw [BitVec.ofInt_natCast,BitVec.toNat_ofNat];exact Nat.mod_eq_of_lt (by omega)
theorem x8_nat (a b : Nat) (ha : a < 256) (hb : b < 256) : x8 (a : Int) (b : Int)=((a ^^^ b : Nat) : Int):=by
  have hx : a ^^^ b < 2 ^ 8:=Nat.xor_lt_two_pow (by omega) (by omega)
  show IntKind.u8.wrap ((BitVec.ofInt 8 (a : Int) ^^^ BitVec.ofInt 8 (b : Int)).toNat : Int)=_
  rw [BitVec.toNat_xor,ofInt_u8 a ha,ofInt_u8 b hb]
  simp [IntKind.wrap,IntKind.bits,IntKind.signed]
  omega
theorem x8_bd {a b : Int} (ha : U8 a) (hb : U8 b) : U8 (x8 a b):=by
  obtain ⟨a,rfl⟩:=Int.eq_ofNat_of_zero_le ha.1
  obtain ⟨b,rfl⟩:=Int.eq_ofNat_of_zero_le hb.1
  obtain ⟨_,ha⟩:=ha
  obtain ⟨_,hb⟩:=hb
  rw [x8_nat a b (by omega) (by omega)]
  have hx : a ^^^ b < 2 ^ 8:=Nat.xor_lt_two_pow (by omega) (by omega)
  exact ⟨by omega,by omega⟩
theorem x8_ne {a b : Int} (ha : U8 a) (hb : U8 b) (h : 1≤b) : x8 a b≠a:=by
  obtain ⟨a,rfl⟩:=Int.eq_ofNat_of_zero_le ha.1
  obtain ⟨b,rfl⟩:=Int.eq_ofNat_of_zero_le hb.1
  obtain ⟨_,ha⟩:=ha
  obtain ⟨_,hb⟩:=hb
  rw [x8_nat a b (by omega) (by omega)]
  intro e
  have e : a ^^^ b=a:=by omega
  have : b=0:=by
    have h2 : a ^^^ (a ^^^ b)=b:=by rw [← Nat.xor_assoc,Nat.xor_self,Nat.zero_xor]
    rw [e,Nat.xor_self] at h2
    exact h2.symm
  omega
def turnL (l : List Int) (at_ by_ : Int) : List Int :=
  if l=[] then [] else l.set (pick at_ l.length).toNat (x8 (l.getD (pick at_ l.length).toNat 0) (if by_ < 1 then 1 else by_))
set_option maxHeartbeats 400000 in
theorem Turned_any (v : Value) (l : List Int) (at_ by_ : Int) (w : World) (hl : IntsAt .u8 w w.heap.size v l) (hlb : ∀ n∈l,U8 n) (hn : l.length≤reachBytes) (hat : I64 at_) (_hby : U8 by_) :
    Calls Tryz.prog 15 #[v,.int .i64 at_,.int .u8 by_] w fun e w' => ∃ v',e=.returned v'∧IntsAt .u8 w' w'.heap.size v' (turnL l at_ by_)∧Below w.heap.size w w':=by
  have hrb : reachBytes≤140737488355328:=by decide
  rcases List.eq_nil_or_concat l with rfl | hne
  · go_enter Tryz.func15,Tryz.ntmps15
    go_wp2_with fail
    refine (Clone_any _ _ _ hl hn).mono ?_
    rintro e w1 ⟨v1,rfl,hown,hb⟩
    rcases hown.2 with ⟨rfl,_⟩ | ⟨g,cap,cur,rfl,_⟩
    · go_wp2_with fail
      go_ret
      exact ⟨_,rfl,⟨none,0,rfl,by simp [turnL],by simp,fun _ => rfl,Reads.none_⟩,hb⟩
    · go_wp2_with fail
      go_ret
      exact ⟨_,rfl,IntsAt.of_own (e:=5) (base:=w.heap.size) (by simpa [turnL] using hown),hb⟩
  · have hpos : 0 < l.length:=by obtain ⟨l',c,rfl⟩:=hne;simp
    go_enter Tryz.func15,Tryz.ntmps15
    go_wp2_with fail
    refine (Clone_any _ _ _ hl hn).mono ?_
    rintro e w1 ⟨v1,rfl,hown,hb⟩
    obtain ⟨g,cap,rfl,hg1,hg2⟩:=hown.form hpos
    obtain ⟨p1,p2⟩:=pick_bd at_ l.length (by omega)
    go_wp2_with fail
    refine (picked_any at_ l.length hat (by omega) (by omega) _).mono ?_
    rintro e w' ⟨rfl,rfl⟩
    have hT : turnL l at_ by_=l.set (pick at_ l.length).toNat (x8 (l.getD (pick at_ l.length).toNat 0) (if by_ < 1 then 1 else by_)):=by
      rw [turnL,if_neg (by intro e;subst e;simp at hpos)]
    generalize pick at_ l.length=p at *
    obtain ⟨k,rfl⟩:=Int.eq_ofNat_of_zero_le p1
    have hk : k < l.length:=by omega
    have HT:=Lib.hid hT
    clear hT
    have hcell : w1.cell? ⟨g,k,none⟩=some (.int .u8 l[k]):=by
      rw [hown.cellAt k (by omega),List.getElem?_map,List.getElem?_eq_getElem hk];rfl
    have hfz:=hown.frozenAt k
    have hst:=hown.stored k
    generalize hz : l[k]=z at *
    have HZ:=Lib.hid hz
    clear hz
    by_cases hb1 : by_ < 1
    all_goals
      go_wp2_with fail
      go_ret
      refine ⟨_,rfl,?_,hb.setCell hg1 _⟩
      have hl' : turnL l at_ by_=l.set k _:=HT.out
      have h2:=(hst (.int .u8 (x8 z (if by_ < 1 then 1 else by_)))).1
      first | rw [if_pos hb1] at h2 | rw [if_neg (by omega)] at h2
      rw [← List.map_set] at h2
      rw [hl']
      first | rw [if_pos hb1] | rw [if_neg (by omega)]
      refine IntsAt.of_own (e:=5) (base:=w.heap.size) ?_
      rw [Int.toNat_natCast,List.getD_eq_getElem?_getD,List.getElem?_eq_getElem hk,HZ.out,List.length_set]
      exact h2
theorem turnL_bd (l : List Int) (at_ by_ : Int) (h : ∀ n∈l,U8 n) (hb : U8 by_) : ∀ n∈turnL l at_ by_,U8 n:=by
  intro n hn
  unfold turnL at hn
  split at hn
  · cases hn
  · rename_i hne
    rcases List.mem_or_eq_of_mem_set hn with h1 | rfl
    · exact h _ h1
    · have hpos : 0 < l.length:=List.length_pos_iff.2 hne
      have ⟨p1,p2⟩:=pick_bd at_ l.length (by omega)
      refine x8_bd ?_ ?_
      · rw [List.getD_eq_getElem?_getD,List.getElem?_eq_getElem (by omega)]
        exact h _ (List.getElem_mem _)
      · split
        · exact ⟨by omega,by omega⟩
        · exact hb
theorem turnL_length (l : List Int) (at_ by_ : Int) : (turnL l at_ by_).length=l.length:=by
  unfold turnL
  split
  · rename_i h;rw [h]
  · simp
theorem turnL_at (l : List Int) (at_ by_ : Int) (h : ∀ n∈l,U8 n) (hb : U8 by_) (hne : l≠[]) :
    ∃ (a b : List Int) (x y : Int),l=a ++ x :: b∧turnL l at_ by_=a ++ y :: b∧x≠y∧U8 x∧U8 y∧a.length=(pick at_ l.length).toNat:=by
  have hpos : 0 < l.length:=List.length_pos_iff.2 hne
  have ⟨p1,p2⟩:=pick_bd at_ l.length (by omega)
  have hk : (pick at_ l.length).toNat < l.length:=by omega
  have hx : U8 (l[(pick at_ l.length).toNat]):=h _ (List.getElem_mem _)
  have hby : U8 (if by_ < 1 then 1 else by_):=by
    split
    · exact ⟨by omega,by omega⟩
    · exact hb
  have h1 : 1≤(if by_ < 1 then 1 else by_):=by split <;> omega
  refine ⟨l.take (pick at_ l.length).toNat,l.drop ((pick at_ l.length).toNat + 1),l[(pick at_ l.length).toNat],x8 l[(pick at_ l.length).toNat] (if by_ < 1 then 1 else by_),?_,?_,?_,hx,x8_bd hx hby,?_⟩
  · rw [List.getElem_cons_drop];simp
  · rw [turnL,if_neg hne,List.getD_eq_getElem?_getD,List.getElem?_eq_getElem hk,List.set_eq_take_append_cons_drop,if_pos hk]
    rfl
  · exact (x8_ne hx hby h1).symm
  · rw [List.length_take];omega
end Go.Proofs.YtphmhmdcaafmdaaGreatDoor
