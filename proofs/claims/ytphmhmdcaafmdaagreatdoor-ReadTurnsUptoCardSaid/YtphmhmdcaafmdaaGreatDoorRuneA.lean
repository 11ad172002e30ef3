import Derived.Test.YtphmhmdcaafmdaaGreatDoorRecd
import Derived.Test.YtphmhmdcaafmdaaGreatDoorMapsT
import Derived.Laws.Runes
import Derived.WalkMore
namespace Go.Proofs.YtphmhmdcaafmdaaGreatDoor
set_option linter.all false
open Go.RowKit
def eqnl : ByteArray:=⟨#[61,10]⟩
set_option maxRecDepth 100000 in
set_option maxHeartbeats 2000000 in
theorem IndexRune_eqnl (r : Int) (w : World) :
    Calls Tryz.prog 236 #[.string eqnl,.int .i32 r] w fun e w' => ∃ i : Int,e=.returned (.int .i64 i)∧Below w.heap.size w w':=by
  by_cases h1 : 0≤r∧r < 128
  · refine (Tryz.strings_IndexRune_ascii eqnl r w h1.1 h1.2).mono ?_
    rintro e w' ⟨rfl,rfl⟩
    exact ⟨_,rfl,Below.refl _ _⟩
  have hz : eqnl.size=2:=rfl
  have hg0 : decide (0≤r)=true→decide (r < 128)=false:=fun h => decide_eq_false (by have:=of_decide_eq_true h;omega)
  by_cases h2 : r=65533
  · subst h2
    clear hg0 h1
    go_enter Tryz.func236,Tryz.ntmps236
    go_wp2_with fail
    go_loopw [5,6] (fun _ _ wr => ∃ pos : Nat,wr.heap[w.heap.size]?=some (.stringIter eqnl pos)∧Below w.heap.size w wr) (fun _ _ wr => 2 - wr.iterPos w.heap.size)
    case atStart => exact ⟨0,World.iter_heap w eqnl 0,(Below.refl _ _).alloc (Nat.le_refl _) _⟩
    case round =>
      obtain ⟨pos,hit,hbw⟩:=hrel
      have hpos0:=iterPos_of hit
      by_cases hp : pos < 2
      · have hp2 : pos < eqnl.size:=hp
        have hnx : ∀ ty,(Instr.next (.pointer (some ⟨w.heap.size,0,none⟩)) true ty).run Tryz.prog wr=_:=fun ty => Lib.run_next_any_at wr w.heap.size eqnl pos ty hit hp2
        have hdc : (Utf8.decode eqnl pos).1 < 128∧(Utf8.decode eqnl pos).2=1:=by
          obtain rfl | rfl : pos=0∨pos=1:=by omega
          · rw [decode_ascii eqnl 0 (by decide) (by decide)];exact ⟨by decide,rfl⟩
          · rw [decode_ascii eqnl 1 (by decide) (by decide)];exact ⟨by decide,rfl⟩
        obtain ⟨hd1,hd2⟩:=hdc
        have hit2:=Lib.iterAt_heap wr w.heap.size eqnl pos (pos + (Utf8.decode eqnl pos).2) hit
        have hbw2:=Lib.below_iterAt hbw (k:=w.heap.size) (Nat.le_refl _) eqnl (pos + (Utf8.decode eqnl pos).2)
        rw [hd2] at hnx hit2 hbw2
        generalize (Utf8.decode eqnl pos).1=rn at *
        have hrn : ((rn : Int) == 65533)=false:=beq_eq_false_iff_ne.2 (by omega)
        obtain ⟨W1,hW1⟩ : ∃ W1,W1=wr.iterAt w.heap.size eqnl (pos + 1):=⟨_,rfl⟩
        rw [← hW1] at hnx hit2 hbw2
        clear hW1 hd1 hd2
        have hpos2:=iterPos_of hit2
        have HP0:=Lib.hid hpos0;have HP2:=Lib.hid hpos2
        clear hpos0 hpos2
        go_wp2_with fail
        go_roundw
        case rel => exact ⟨_,hit2,hbw2⟩
        case measure => rw [HP0.out,HP2.out];omega
      · have hnx : ∀ ty,(Instr.next (.pointer (some ⟨w.heap.size,0,none⟩)) true ty).run Tryz.prog wr=_:=fun ty => Lib.run_next_end_at wr w.heap.size eqnl pos ty hit hp
        go_wp2_with fail
        go_ret
        exact ⟨_,rfl,hbw⟩
  have h2b : (r == 65533)=false:=beq_eq_false_iff_ne.2 h2
  have HV:=Lib.hid (fun w => Tryz.utf8_ValidRune r w)
  by_cases hv : Lib.validRune r=true
  · rw [hv] at HV
    have h128 : 128≤r:=by
      by_cases h0 : 0≤r
      · omega
      · exfalso
        unfold Lib.validRune at hv
        simp at hv
        omega
    obtain ⟨e1,e2,e3⟩:=encode_facts r (by rw [validRune_eq];exact hv) h128
    have h0r : decide (0≤r)=true:=decide_eq_true (by omega)
    have h1r : decide (r < 128)=false:=decide_eq_false (by omega)
    clear hg0 h1 h2 hv
    obtain ⟨E,hE⟩ : ∃ E,E=Utf8.encode r:=⟨_,rfl⟩
    rw [← hE] at e1 e2 e3
    have hcv : ∀ W,(convert 21 9 (.int .i32 r)).run Tryz.prog W=.ok (.string E) W:=fun W => by rw [hE];exact run_convert_int_string W _ _ _ r (by kernel_rfl) Tryz.underlying9
    obtain ⟨n,hn⟩ : ∃ n,E.size=n + 1:=⟨E.size - 1,by omega⟩
    obtain ⟨b,hb⟩ : ∃ b : UInt8,E[n]'(by omega)=b:=⟨_,rfl⟩
    have hb8 : 128≤b.toNat:=by
      have:=e3 (by omega)
      simp only [hn,Nat.add_sub_cancel] at this
      rw [← hb];exact this
    have hix : ∀ hh : n < E.size,((E[n]'hh).toNat : Int)=(b.toNat : Int):=fun hh => by rw [hb]
    have n1 : 1≤n:=by omega
    have n2 : n≤3:=by omega
    have hb10 : ((10 : Int) == (b.toNat : Int))=false:=beq_eq_false_iff_ne.2 (by omega)
    clear e1 e2 e3 hE hb
    go_enter Tryz.func236,Tryz.ntmps236
    go_wp2_with fail
    refine (HV.out _).mono ?_
    rintro e w' ⟨rfl,rfl⟩
    go_wp2_with fail
    go_step3
    go_wp2_with fail
    have HIX : Hid (∀ hh : n < E.size,((E[n]'hh).toNat : Int)=(b.toNat : Int)):=Lib.hid hix
    have HX10 : Hid (∀ hh : 1 < eqnl.size,((eqnl[1]'hh).toNat : Int)=10):=Lib.hid (fun _ => rfl)
    have HIB:=Lib.hid (fun W => (show Calls Tryz.prog 89 #[.string ByteArray.empty,.int .u8 b.toNat] W fun e w1 => e=Ending.returned (.int .i64 (-1))∧Below W.heap.size W w1 from (IndexByte_of [] b W).mono fun e w1 ⟨h1,h2⟩ => ⟨h1,by rw [← h2];exact Below.refl _ _⟩))
    have HCC : Hid (∀ W W' : World,Below w'.heap.size w' W→Below W.heap.size W W'→Below w'.heap.size w' W'):=Lib.hid (fun W W' h1 h2 => h1.trans (h2.mono h1.size))
    clear hix
    go_loopg [9] 1 (fun gg s9 wr => s9=.int .i64 n∧wr=w')
    case atStart => exact ⟨rfl,rfl⟩
    case round =>
      obtain ⟨rfl,rfl⟩:=hrel
      by_cases hn1 : n=1
      · subst hn1
        have k2 : IntKind.i64.wrap 2=2:=by decide
        have k3 : eqnl.extract 2 2=ByteArray.empty:=by decide
        go_wp2_with fail
        go_step3
        go_upto_region 6 with fail
        refine wp_region_G (S:=fun W => Below wr.heap.size wr W) (by kernel_rfl) (Below.refl _ _).drew ?_
        refine wpG_take (i:=0) (v:=?vs1) rfl (by kernel_rfl) (by kernel_rfl) (by kernel_rfl) (fun _ _ _ h => h) (Or.inl ⟨by rfl,?hys1⟩) ?rests1
        case hys1 => (intro W hSw;left;(try dsimp only at hSw);go_simp;try with_reducible rfl)
        simp only [Act.put,List.setIfInBounds_toArray,List.set_cons_zero,List.set_cons_succ,List.getElem_toArray,List.getElem_cons_zero,List.getElem_cons_succ]
        refine wpG_take (i:=1) (v:=?vs2) rfl (by kernel_rfl) (by kernel_rfl) (by kernel_rfl) (fun _ _ _ h => h) (Or.inl ⟨by rfl,?hys2⟩) ?rests2
        case hys2 => (intro W hSw;left;(try dsimp only at hSw);go_simp;try with_reducible rfl)
        simp only [Act.put,List.setIfInBounds_toArray,List.set_cons_zero,List.set_cons_succ,List.getElem_toArray,List.getElem_cons_zero,List.getElem_cons_succ]
        refine wpG_take (i:=2) (v:=?vs3) rfl (by kernel_rfl) (by kernel_rfl) (by kernel_rfl) (fun _ _ _ h => h) (Or.inl ⟨by rfl,?hys3⟩) ?rests3
        case hys3 => (intro W hSw;left;(try dsimp only at hSw);have hx6:=HX10.out;go_simp;try with_reducible rfl)
        simp only [Act.put,List.setIfInBounds_toArray,List.set_cons_zero,List.set_cons_succ,List.getElem_toArray,List.getElem_cons_zero,List.getElem_cons_succ]
        refine wpG_take (i:=3) (v:=?vs4) rfl (by kernel_rfl) (by kernel_rfl) (by kernel_rfl) (fun _ _ _ h => h) (Or.inl ⟨by rfl,?hys4⟩) ?rests4
        case hys4 => (intro W hSw;left;(try dsimp only at hSw);go_simp;try with_reducible rfl)
        simp only [Act.put,List.setIfInBounds_toArray,List.set_cons_zero,List.set_cons_succ,List.getElem_toArray,List.getElem_cons_zero,List.getElem_cons_succ]
        refine wpG_take (i:=4) (v:=?vs5) rfl (by kernel_rfl) (by kernel_rfl) (by kernel_rfl) (fun _ _ _ h => h) (Or.inl ⟨by rfl,?hys5⟩) ?rests5
        case hys5 => (intro W hSw;left;(try dsimp only at hSw);go_simp;try with_reducible rfl)
        simp only [Act.put,List.setIfInBounds_toArray,List.set_cons_zero,List.set_cons_succ,List.getElem_toArray,List.getElem_cons_zero,List.getElem_cons_succ]
        refine wpG_take (i:=5) (v:=?vs6) rfl (by kernel_rfl) (by kernel_rfl) (by kernel_rfl) (fun _ _ _ h => h) (Or.inl ⟨by rfl,?hys6⟩) ?rests6
        case hys6 => (intro W hSw;left;(try dsimp only at hSw);have hx5:=HIX.out;go_simp;try with_reducible rfl)
        simp only [Act.put,List.setIfInBounds_toArray,List.set_cons_zero,List.set_cons_succ,List.getElem_toArray,List.getElem_cons_zero,List.getElem_cons_succ]
        refine wpG_take (i:=6) (v:=?vs7) rfl (by kernel_rfl) (by kernel_rfl) (by kernel_rfl) (fun _ _ _ h => h) (Or.inl ⟨by rfl,?hys7⟩) ?rests7
        case hys7 => (intro W hSw;left;(try dsimp only at hSw);go_simp;try with_reducible rfl)
        simp only [Act.put,List.setIfInBounds_toArray,List.set_cons_zero,List.set_cons_succ,List.getElem_toArray,List.getElem_cons_zero,List.getElem_cons_succ]
        refine wpG_done (by kernel_rfl) (fun w6 hb hS => ?_) _
        have HS6:=Lib.hid hS
        have HC6 : Hid (∀ W W' : World,Below w6.heap.size w6 W→Below W.heap.size W W'→Below w6.heap.size w6 W'):=Lib.hid (fun W W' h1 h2 => h1.trans (h2.mono h1.size))
        clear hS hb
        go_upto_region 7 with fail
        refine wp_region_G (S:=fun W => Below w6.heap.size w6 W) (by kernel_rfl) (Below.refl _ _).drew ?_
        refine wpG_take (i:=0) (v:=?vt1) rfl (by kernel_rfl) (by kernel_rfl) (by kernel_rfl) (fun _ _ _ h => h) (Or.inl ⟨by rfl,?hyt1⟩) ?restt1
        case hyt1 => (intro W hSw;left;(try dsimp only at hSw);go_simp;try with_reducible rfl)
        simp only [Act.put,List.setIfInBounds_toArray,List.set_cons_zero,List.set_cons_succ,List.getElem_toArray,List.getElem_cons_zero,List.getElem_cons_succ]
        refine wpG_take (i:=1) (v:=?vt2) rfl (by kernel_rfl) (by kernel_rfl) (by kernel_rfl) (fun _ _ _ h => h) (Or.inl ⟨by rfl,?hyt2⟩) ?restt2
        case hyt2 => (intro W hSw;left;(try dsimp only at hSw);go_simp;try with_reducible rfl)
        simp only [Act.put,List.setIfInBounds_toArray,List.set_cons_zero,List.set_cons_succ,List.getElem_toArray,List.getElem_cons_zero,List.getElem_cons_succ]
        refine wpG_take (i:=2) (v:=?vt3) rfl (by kernel_rfl) (by kernel_rfl) (by kernel_rfl) (fun _ _ _ h => h) (Or.inl ⟨by rfl,?hyt3⟩) ?restt3
        case hyt3 => (intro W hSw;left;(try dsimp only at hSw);go_simp;try with_reducible rfl)
        simp only [Act.put,List.setIfInBounds_toArray,List.set_cons_zero,List.set_cons_succ,List.getElem_toArray,List.getElem_cons_zero,List.getElem_cons_succ]
        refine wpG_take (i:=3) (v:=?vt4) rfl (by kernel_rfl) (by kernel_rfl) (by kernel_rfl) (fun _ _ _ h => h) (Or.inl ⟨by rfl,?hyt4⟩) ?restt4
        case hyt4 => (intro W hSw;left;(try dsimp only at hSw);go_simp;try with_reducible rfl)
        simp only [Act.put,List.setIfInBounds_toArray,List.set_cons_zero,List.set_cons_succ,List.getElem_toArray,List.getElem_cons_zero,List.getElem_cons_succ]
        refine wpG_take (i:=4) (v:=?vt5) rfl (by kernel_rfl) (by kernel_rfl) (by kernel_rfl) (fun _ _ _ h => h) (Or.inl ⟨by rfl,?hyt5⟩) ?restt5
        case hyt5 => (intro W hSw;left;(try dsimp only at hSw);go_simp;try with_reducible rfl)
        simp only [Act.put,List.setIfInBounds_toArray,List.set_cons_zero,List.set_cons_succ,List.getElem_toArray,List.getElem_cons_zero,List.getElem_cons_succ]
        refine wpG_take (i:=5) (v:=?vt6) rfl (by kernel_rfl) (by kernel_rfl) (by kernel_rfl) (fun _ _ _ h => h) (Or.inl ⟨by rfl,?hyt6⟩) ?restt6
        case hyt6 => (intro W hSw;left;(try dsimp only at hSw);go_simp;try with_reducible rfl)
        simp only [Act.put,List.setIfInBounds_toArray,List.set_cons_zero,List.set_cons_succ,List.getElem_toArray,List.getElem_cons_zero,List.getElem_cons_succ]
        refine wpG_take (i:=6) (v:=?vt7) rfl (by kernel_rfl) (by kernel_rfl) (by kernel_rfl) (fun _ _ _ h => h) (Or.inl ⟨by rfl,?hyt7⟩) ?restt7
        case hyt7 => (intro W hSw;left;(try dsimp only at hSw);have hx5:=HIX.out;go_simp;try with_reducible rfl)
        simp only [Act.put,List.setIfInBounds_toArray,List.set_cons_zero,List.set_cons_succ,List.getElem_toArray,List.getElem_cons_zero,List.getElem_cons_succ]
        refine wpG_take (i:=7) (v:=(.int .i64 (-1))) rfl (by kernel_rfl) (by kernel_rfl) (by kernel_rfl) (fun _ _ _ h => h) (Or.inl ⟨by rfl,?hyt8⟩) ?restt8
        case hyt8 => (intro W hSw;right;(try dsimp only at hSw);refine ⟨_,_,(by go_simp;try with_reducible rfl),(HIB.out W).mono ?_⟩;rintro e w' ⟨rfl,hb⟩;exact ⟨rfl,HC6.out _ _ hSw hb,hb⟩)
        simp only [Act.put,List.setIfInBounds_toArray,List.set_cons_zero,List.set_cons_succ,List.getElem_toArray,List.getElem_cons_zero,List.getElem_cons_succ]
        refine wpG_take (i:=8) (v:=?vt9) rfl (by kernel_rfl) (by kernel_rfl) (by kernel_rfl) (fun _ _ _ h => h) (Or.inl ⟨by rfl,?hyt9⟩) ?restt9
        case hyt9 => (intro W hSw;left;(try dsimp only at hSw);go_simp;try with_reducible rfl)
        simp only [Act.put,List.setIfInBounds_toArray,List.set_cons_zero,List.set_cons_succ,List.getElem_toArray,List.getElem_cons_zero,List.getElem_cons_succ]
        refine wpG_done (by kernel_rfl) (fun w7 hb hS => ?_) _
        have HS7:=Lib.hid (HS6.out.trans (hS.mono HS6.out.size))
        clear hS hb
        go_wp2_with fail
        rw [Exit.noGoto_ret]
        go_wp2_with fail
        rw [Exit.noGoto_ret]
        go_ret
        exact ⟨_,rfl,HS7.out⟩
      · have q1 : decide ((n : Int) < 2)=false:=decide_eq_false (by omega)
        have q2 : ¬ n < 2:=by omega
        go_wp2_with fail
        rw [Exit.noGoto_ret]
        go_ret
        exact ⟨_,rfl,Below.refl _ _⟩
  · have hv : Lib.validRune r=false:=by simpa using hv
    rw [hv] at HV
    clear h2 h1
    cases h0 : decide (0≤r) with
    | true =>
      have h1r:=hg0 h0
      go_enter Tryz.func236,Tryz.ntmps236
      go_wp2_with fail
      refine (HV.out _).mono ?_
      rintro e w' ⟨rfl,rfl⟩
      go_wp2_with fail
      go_ret
      exact ⟨_,rfl,Below.refl _ _⟩
    | false =>
      go_enter Tryz.func236,Tryz.ntmps236
      go_wp2_with fail
      refine (HV.out _).mono ?_
      rintro e w' ⟨rfl,rfl⟩
      go_wp2_with fail
      go_ret
      exact ⟨_,rfl,Below.refl _ _⟩
theorem asciiset_info : (Tryz.prog.info? 260).map (fun i => (i.zero,i.size))=some (some (.agg (Array.replicate 256 (.bool false))),256):=by kernel_rfl
set_option maxRecDepth 100000 in
set_option maxHeartbeats 2000000 in
theorem IndexAny_eqnl (l : List UInt8) (hl : l.length≤100000) (w : World) :
    Calls Tryz.prog 232 #[.string (bs l),.string eqnl] w fun e w' => ∃ i : Int,e=.returned (.int .i64 i)∧Below w.heap.size w w':=by
  have hz:=bs_size l
  by_cases h8 : 8 < l.length
  · refine (Tryz.strings_IndexAny_long (zero_of_info asciiset_info).1 (bs l) eqnl w (by decide) (by omega) (by omega) (by decide) (fun j b hb => ?_)).mono ?_
    · have : b∈[(61 : UInt8),10]:=List.mem_of_getElem? hb
      rcases List.mem_cons.1 this with rfl | h
      · decide
      · rw [List.mem_singleton] at h;subst h;decide
    · rintro e w' ⟨rfl,rfl⟩
      exact ⟨_,rfl,((Below.refl _ _).alloc (Nat.le_refl _) _).alloc (by simp) _⟩
  have HR:=Lib.hid (fun r W => IndexRune_eqnl r W)
  have hez : eqnl.size=2:=rfl
  have het : eqnl.toList.isEmpty=false:=by rw [show eqnl=bs [61,10] from rfl,bs_toList];rfl
  have h8z : decide ((8 : Int) < (l.length : Int))=false:=decide_eq_false (by omega)
  go_enter Tryz.func232,Tryz.ntmps232
  go_wp2_with fail
  refine (Tryz.strings_shouldUseASCIISet _ _).mono ?_
  rintro e w' ⟨rfl,rfl⟩
  rw [h8z]
  go_wp2_with fail
  go_loopw [9,10] (fun _ _ wr => ∃ pos : Nat,wr.heap[w'.heap.size]?=some (.stringIter (bs l) pos)∧Below w'.heap.size w' wr) (fun _ _ wr => l.length - wr.iterPos w'.heap.size)
  case atStart => exact ⟨0,World.iter_heap w' (bs l) 0,(Below.refl _ _).alloc (Nat.le_refl _) _⟩
  case round =>
    obtain ⟨pos,hit,hbw⟩:=hrel
    have hpos0:=iterPos_of hit
    by_cases hp : pos < l.length
    · have hp2 : pos < (bs l).size:=by omega
      have hnx : ∀ ty,(Instr.next (.pointer (some ⟨w'.heap.size,0,none⟩)) true ty).run Tryz.prog wr=_:=fun ty => Lib.run_next_any_at wr w'.heap.size (bs l) pos ty hit hp2
      have hwd:=(decode_width (bs l) pos).1
      have hit2:=Lib.iterAt_heap wr w'.heap.size (bs l) pos (pos + (Utf8.decode (bs l) pos).2) hit
      have hbw2:=Lib.below_iterAt hbw (k:=w'.heap.size) (Nat.le_refl _) (bs l) (pos + (Utf8.decode (bs l) pos).2)
      generalize (Utf8.decode (bs l) pos).2=wd at *
      generalize (Utf8.decode (bs l) pos).1=rn at *
      obtain ⟨W1,hW1⟩ : ∃ W1,W1=wr.iterAt w'.heap.size (bs l) (pos + wd):=⟨_,rfl⟩
      rw [← hW1] at hnx hit2 hbw2
      clear hW1
      have hpos2:=iterPos_of hit2
      have HP0:=Lib.hid hpos0;have HP2:=Lib.hid hpos2
      have HIT:=Lib.hid hit2;have HBW:=Lib.hid hbw2
      have HLT:=Lib.hid hit2
      clear hpos0 hpos2 hit2 hbw2 hit hbw
      go_wp2_with fail
      refine (HR.out _ _).mono ?_
      rintro e w2 ⟨i,rfl,b2⟩
      have hlt2 : w'.heap.size < W1.heap.size:=by
        rcases Nat.lt_or_ge w'.heap.size W1.heap.size with h | h
        · exact h
        · have:=HIT.out;rw [Array.getElem?_eq_none h] at this;cases this
      have hit3:=(b2.block _ hlt2).trans HIT.out
      have HB3:=Lib.hid (HBW.out.trans (b2.mono HBW.out.size))
      have HI3:=Lib.hid hit3
      have hpos3:=iterPos_of hit3
      have HP3:=Lib.hid hpos3
      clear b2 hlt2 hit3 hpos3 HIT HBW
      by_cases hi : 0≤i
      · go_wp2_with fail
        go_ret
        exact ⟨_,rfl,HB3.out⟩
      · have hi1 : decide (i ≥ 0)=false:=decide_eq_false hi
        go_wp2_with fail
        go_roundw
        case rel => exact ⟨_,HI3.out,HB3.out⟩
        case measure => rw [HP0.out,HP3.out];omega
    · have hnx : ∀ ty,(Instr.next (.pointer (some ⟨w'.heap.size,0,none⟩)) true ty).run Tryz.prog wr=_:=fun ty => Lib.run_next_end_at wr w'.heap.size (bs l) pos ty hit (by rw [hz];exact hp)
      go_wp2_with fail
      go_ret
      exact ⟨_,rfl,hbw⟩
set_option maxRecDepth 100000 in
theorem ContainsAny_eqnl (l : List UInt8) (hl : l.length≤100000) (w : World) :
    Calls Tryz.prog 201 #[.string (bs l),.string ⟨#[61,10]⟩] w fun e w' => ∃ b : Bool,e=.returned (.bool b)∧Below w.heap.size w w':=by
  have HI:=Lib.hid (IndexAny_eqnl l hl w)
  unfold eqnl at HI
  go_enter Tryz.func201,Tryz.ntmps201
  go_wp2_with fail
  refine HI.out.mono ?_
  rintro e w2 ⟨i,rfl,b2⟩
  go_wp2_with fail
  go_ret
  exact ⟨_,rfl,b2⟩
end Go.Proofs.YtphmhmdcaafmdaaGreatDoor
