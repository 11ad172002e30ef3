import Derived.Test.YtphmhmdcaafmdaaGreatDoorSortN
import Derived.Test.YtphmhmdcaafmdaaGreatDoorTreeE
import Derived.Deep.RegionHeld3
namespace Go.Proofs.YtphmhmdcaafmdaaGreatDoor
set_option linter.all false
open Go.RowKit
def regionAt (n : Nat) : Code→Option Code
  | .loop c => regionAt n c
  | .seq a b => match regionAt n a with
    | some c => some c
    | none => regionAt n b
  | .block _ c => regionAt n c
  | .scope c => regionAt n c
  | .cond _ a b => match regionAt n a with
    | some c => some c
    | none => regionAt n b
  | .region k ops b => if k=n then some (.region k ops b) else none
  | _ => none
noncomputable def code11 : Code:=((Tryz.f7.body.bind (regionAt 11)).getD .skip)
noncomputable def code13 : Code:=((Tryz.f7.body.bind (regionAt 13)).getD .skip)
set_option maxRecDepth 1000000 in
set_option maxHeartbeats 4000000 in
theorem reg11 (w : World) (gs : TreeS) (D : Value) (g9 : Nat) (r : RawS) (hrk : RawOk r) (bu : ByteArray) (hbu : bu.size≤531) (W1 : World) (hS : TrBl w gs D g9 55 #[.int .i64 r.kind,.int .i64 r.a,.int .i64 r.b,.string (bs r.text)] W1) (K K1 K2 K3 : Act→World→Prop) (R0 : Ending→World→Prop)
    (c0 c1 c2 c3 c4 c5 c6 c7 c8 c11 c12 c13 c14 c15 c16 c17 c18 c19 c20 c21 c22 c23 c24 c25 c26 c27 c28 c29 c30 c31 c32 c33 c34 c35 c36 c37 c38 c39 c40 c41 c42 c43 c44 c45 c46 c47 c48 c49 c50 c51 c52 c53 c54 c55 c56 c57 c58 c59 c60 c61 c62 c63 c64 c65 c66 c67 c68 c69 c70 c71 c72 c73 c74 c75 c76 c77 c78 c79 c80 c81 c82 c83 c84 c85 c86 c87 c88 c89 c90 c91 c92 c93 c94 c95 c96 c97 c98 c99 c100 c101 c102 c103 c104 c105 c106 c107 c108 c109 c110 c111 c112 c113 c114 c115 c116 c117 c118 c119 c120 c121 c122 c123 c124 c125 c126 c127 c128 c129 c130 c131 c132 c133 c134 c135 c136 c137 c138 c139 c140 c141 c142 c143 : Value)
    (hK : ∀ (v37 v38 v39 v40 v41 v42 v43 v44 v45 v46 : Value) (wx : World),TrBl w gs D g9 55 #[.int .i64 r.kind,.int .i64 r.a,.int .i64 r.b,.string (bs r.text)] wx→K ⟨#[c0,c1,c2,c3,c4,c5,c6,c7,c8,.pointer (some ⟨g9,0,none⟩),.string (bu ++ bs (namesL.getD (pick r.a 11).toNat [])),c11,c12,c13,c14,c15,c16,c17,c18,c19,c20,c21,c22,c23,c24,c25,c26,c27,c28,c29,c30,c31,c32,c33,c34,c35,c36,v37,v38,v39,v40,v41,v42,v43,v44,v45,v46,c47,c48,c49,c50,c51,c52,c53,c54,c55,c56,c57,c58,c59,c60,c61,c62,c63,c64,c65,c66,c67,c68,c69,c70,c71,c72,c73,c74,c75,c76,c77,c78,c79,c80,c81,c82,c83,c84,c85,c86,c87,c88,c89,c90,c91,c92,c93,c94,c95,c96,c97,c98,c99,c100,c101,c102,c103,c104,c105,c106,c107,c108,c109,c110,c111,c112,c113,c114,c115,c116,c117,c118,c119,c120,c121,c122,c123,c124,c125,c126,c127,c128,c129,c130,c131,c132,c133,c134,c135,c136,c137,c138,c139,c140,c141,c142,c143],[]⟩ wx) :
    Code.wp Tryz.prog code11 (Exit.then K (Exit.inBlock 1 (Exit.then K1 (Exit.then K2 (Exit.inBlock 0 (Exit.then K3 (bodyPost Tryz.prog Tryz.f7 R0))))))) ⟨#[c0,c1,c2,c3,c4,c5,c6,c7,c8,.pointer (some ⟨g9,0,none⟩),.string bu,c11,c12,c13,c14,c15,c16,c17,c18,c19,c20,c21,c22,c23,c24,c25,c26,c27,c28,c29,c30,c31,c32,c33,c34,c35,c36,c37,c38,c39,c40,c41,c42,c43,c44,c45,c46,c47,c48,c49,c50,c51,c52,c53,c54,c55,c56,c57,c58,c59,c60,c61,c62,c63,c64,c65,c66,c67,c68,c69,c70,c71,c72,c73,c74,c75,c76,c77,c78,c79,c80,c81,c82,c83,c84,c85,c86,c87,c88,c89,c90,c91,c92,c93,c94,c95,c96,c97,c98,c99,c100,c101,c102,c103,c104,c105,c106,c107,c108,c109,c110,c111,c112,c113,c114,c115,c116,c117,c118,c119,c120,c121,c122,c123,c124,c125,c126,c127,c128,c129,c130,c131,c132,c133,c134,c135,c136,c137,c138,c139,c140,c141,c142,c143],[]⟩ W1:=by
  obtain ⟨ia,hia,bia⟩:=pick_nat r.a 11 (by omega)
  have hia : pick r.a 11=(ia : Int):=hia
  have Pia:=Lib.hid (fun w => picked_any r.a 11 hrk.a (by omega) (by omega) w)
  rw [hia] at Pia
  have HN:=Lib.hid (fun w => names_any w)
  rw [hia,Int.toNat_natCast] at hK
  have hmem:=namesL_bd (namesL.getD ia []) (by
    rw [List.getD_eq_getElem?_getD,List.getElem?_eq_getElem (by rw [namesL_length];exact bia)]
    exact List.getElem_mem _)
  have hz2 : (bs (namesL.getD ia [])).size≤130:=by rw [bs_size];exact hmem
  have nk : ¬ 9223372036854775807 < bu.size + (bs (namesL.getD ia [])).size:=by omega
  have HKB : Hid (∀ wx wy,(TrBl w gs D g9 55 #[.int .i64 r.kind,.int .i64 r.a,.int .i64 r.b,.string (bs r.text)]) wx→Below wx.heap.size wx wy→(TrBl w gs D g9 55 #[.int .i64 r.kind,.int .i64 r.a,.int .i64 r.b,.string (bs r.text)]) wy):=Lib.hid (fun wx wy h hb => h.below hb)
  have HNC : Hid (∀ wx b v,StrsOwn wx b v namesL→∃ gN cN,v=.slice (some ⟨gN,0,none⟩) 11 cN∧11≤cN∧cN≤maxLen∧gN < wx.heap.size∧wx.cell? ⟨gN,ia,none⟩=some (.string (bs (namesL.getD ia [])))):=Lib.hid (by
    rintro wx b v ⟨gN,cN,rfl,_,h2,h3,h4,h5⟩
    refine ⟨gN,cN,rfl,h3,h4,h2,h5 ia _ ?_⟩
    rw [List.getElem?_map,List.getD_eq_getElem?_getD,List.getElem?_eq_getElem (by rw [namesL_length];exact bia)]
    rfl)
  have HSr:=Lib.hid hS
  have c_1:=hS.2.cell 1
  have HK:=Lib.hid hK
  clear hia hmem hS hK
  generalize bs (namesL.getD ia [])=bn at *
  conv => arg 2;whnf
  go_region_with (first
    | (go_at_call 24;(with_reducible refine (Pia.out _).mono ?_);rintro e w' ⟨rfl,rfl⟩)
    | (go_at_call 25;(with_reducible refine (HN.out _).mono ?_);rintro e w' ⟨v2,rfl,hv2,hb2⟩;have hst2:=HKB.out _ w' hst1 ⟨hb2.os,hb2.tape,hb2.output,hb2.size,hb2.block⟩;have e2:=hst2.2.cell 1;obtain ⟨gM,cM,rfl,m1,m2,m3,m4⟩:=HNC.out _ _ _ hv2;have n5:=(Below.cell (p:=⟨gN,ia,none⟩) ⟨hb2.os,hb2.tape,hb2.output,hb2.size,hb2.block⟩ n3).trans n4;clear hv2 m4)
    | (go_at_call 25;(with_reducible refine (HN.out _).mono ?_);rintro e w' ⟨v,rfl,hv,hb⟩;have hst1:=HKB.out _ w' HSr.out ⟨hb.os,hb.tape,hb.output,hb.size,hb.block⟩;have e1:=hst1.2.cell 1;obtain ⟨gN,cN,rfl,n1,n2,n3,n4⟩:=HNC.out _ _ _ hv;clear hv))
  all_goals (simp only [Act.put,List.setIfInBounds_toArray])
  all_goals exact HK.out _ _ _ _ _ _ _ _ _ _ _ hst2
set_option maxRecDepth 1000000 in
set_option maxHeartbeats 8000000 in
theorem reg13 (w2 : World) (hML : ML w2) (g9 : Nat) (r : RawS) (hrk : RawOk r) (p : List UInt8) (hS : RSt w2 g9 r.kind r.a r.b (bs r.text) w2) (K K1 K2 K3 : Act→World→Prop) (R0 : Ending→World→Prop)
    (c0 c1 c2 c3 c4 c5 c6 c7 c8 c11 c12 c13 c14 c15 c16 c17 c18 c19 c20 c21 c22 c23 c24 c25 c26 c27 c28 c29 c30 c31 c32 c33 c34 c35 c36 c37 c38 c39 c40 c41 c42 c43 c44 c45 c46 c47 c48 c49 c50 c51 c52 c53 c54 c55 c56 c57 c58 c59 c60 c61 c62 c63 c64 c65 c66 c67 c68 c69 c70 c71 c72 c73 c74 c75 c76 c77 c78 c79 c80 c81 c82 c83 c84 c85 c86 c87 c88 c89 c90 c91 c92 c93 c94 c95 c96 c97 c98 c99 c100 c101 c102 c103 c104 c105 c106 c107 c108 c109 c110 c111 c112 c113 c114 c115 c116 c117 c118 c119 c120 c121 c122 c123 c124 c125 c126 c127 c128 c129 c130 c131 c132 c133 c134 c135 c136 c137 c138 c139 c140 c141 c142 c143 : Value)
    (hK : ∀ (v56 v57 v58 v59 v60 v61 v62 v63 v64 v65 v66 v67 : Value) (g11 : Nat) (dv : Value) (wx : World),w2.heap.size≤g11→RSt w2 g9 r.kind r.a r.b (bs r.text) wx→Blk wx g11 29 (nodeC (plainN r p,dv)).toArray→DataAt wx w2.heap.size dv (plainN r p).data→K ⟨#[c0,c1,c2,c3,c4,c5,c6,c7,c8,.pointer (some ⟨g9,0,none⟩),.string (bs p),.pointer (some ⟨g11,0,none⟩),c12,c13,c14,c15,c16,c17,c18,c19,c20,c21,c22,c23,c24,c25,c26,c27,c28,c29,c30,c31,c32,c33,c34,c35,c36,c37,c38,c39,c40,c41,c42,c43,c44,c45,c46,c47,c48,c49,c50,c51,c52,c53,c54,c55,v56,v57,v58,v59,v60,v61,v62,v63,v64,v65,v66,v67,c68,c69,c70,c71,c72,c73,c74,c75,c76,c77,c78,c79,c80,c81,c82,c83,c84,c85,c86,c87,c88,c89,c90,c91,c92,c93,c94,c95,c96,c97,c98,c99,c100,c101,c102,c103,c104,c105,c106,c107,c108,c109,c110,c111,c112,c113,c114,c115,c116,c117,c118,c119,c120,c121,c122,c123,c124,c125,c126,c127,c128,c129,c130,c131,c132,c133,c134,c135,c136,c137,c138,c139,c140,c141,c142,c143],[]⟩ wx) :
    Code.wp Tryz.prog code13 (Exit.then K (Exit.inBlock 1 (Exit.then K1 (Exit.then K2 (Exit.inBlock 0 (Exit.then K3 (bodyPost Tryz.prog Tryz.f7 R0))))))) ⟨#[c0,c1,c2,c3,c4,c5,c6,c7,c8,.pointer (some ⟨g9,0,none⟩),.string (bs p),c11,c12,c13,c14,c15,c16,c17,c18,c19,c20,c21,c22,c23,c24,c25,c26,c27,c28,c29,c30,c31,c32,c33,c34,c35,c36,c37,c38,c39,c40,c41,c42,c43,c44,c45,c46,c47,c48,c49,c50,c51,c52,c53,c54,c55,c56,c57,c58,c59,c60,c61,c62,c63,c64,c65,c66,c67,c68,c69,c70,c71,c72,c73,c74,c75,c76,c77,c78,c79,c80,c81,c82,c83,c84,c85,c86,c87,c88,c89,c90,c91,c92,c93,c94,c95,c96,c97,c98,c99,c100,c101,c102,c103,c104,c105,c106,c107,c108,c109,c110,c111,c112,c113,c114,c115,c116,c117,c118,c119,c120,c121,c122,c123,c124,c125,c126,c127,c128,c129,c130,c131,c132,c133,c134,c135,c136,c137,c138,c139,c140,c141,c142,c143],[]⟩ w2:=by
  obtain ⟨mm,hmm⟩ : ∃ mm,mm=metaOf r:=⟨_,rfl⟩
  obtain ⟨m1,m2,m3,m4,m5,m6,m7⟩:=mm
  have HMM:=Lib.hid hmm
  have HMt : Hid (∀ W,ML W→Calls Tryz.prog 26 #[.agg #[.int .i64 r.kind,.int .i64 r.a,.int .i64 r.b,.string (bs r.text)]] W fun e w' => e=.returned (.agg #[.int .i64 m1,.int .i64 m2,.int .i64 m3,.string (bs m4),.string (bs m5),.int .i64 m6,.int .i64 m7])∧Below W.heap.size W w'):=Lib.hid (fun W hm => by
    have h:=Meta_any r hrk W hm
    rw [← hmm] at h
    exact h)
  have C40 : Hid (∀ W,ML W→Calls Tryz.prog 28 #[.string (bs r.text),.int .i64 40] W fun e w' => e=.returned (.string (bs (cleanS r.text 40)))∧Below W.heap.size W w'):=Lib.hid (fun W hm => clean_any r.text 40 W (by have:=hrk.text;omega) (by omega) hm)
  obtain ⟨i30,hi30,bi30⟩:=pick_nat r.b 30 (by omega)
  have hi30 : pick r.b 30=(i30 : Int):=hi30
  have P30:=Lib.hid (fun w => picked_any r.b 30 hrk.b (by omega) (by omega) w)
  rw [hi30] at P30
  have hcl:=cleanS_length r.text 40
  have hrl : (Lib.repeatL (cleanS r.text 40) i30).length≤4611686018427387904:=by
    have h1 : (Lib.repeatL (cleanS r.text 40) i30).length=(cleanS r.text 40).length * i30:=(Lib.repeatL_length _ _).trans (Nat.mul_comm _ _)
    have h2 : (cleanS r.text 40).length * i30≤40 * 30:=Nat.mul_le_mul hcl (by omega)
    omega
  have HRp : Hid (∀ W,Calls Tryz.prog 27 #[.string (bs (cleanS r.text 40)),.int .i64 i30] W fun e w' => e=.returned (.string (bs (Lib.repeatL (cleanS r.text 40) i30)))∧Below W.heap.size W w'):=Lib.hid (fun W => Repeat_of _ _ W (by
    have h2 : (cleanS r.text 40).length * i30≤40 * 30:=Nat.mul_le_mul hcl (by omega)
    omega) (by omega))
  have HDAT : Hid (plainN r p=⟨p,1,0,[],⟨m1,m2,m3,m4,m5,m6,m7⟩,Lib.repeatL (cleanS r.text 40) i30⟩):=Lib.hid (by
    unfold plainN
    rw [hi30,← hmm,Int.toNat_natCast])
  rw [HDAT.out] at hK
  clear hmm hi30 hcl
  generalize Lib.repeatL (cleanS r.text 40) i30=dat at *
  have HDL:=Lib.hid hrl
  generalize bs (cleanS r.text 40)=bcl at *
  generalize bs r.text=bt at *
  have HS0:=Lib.hid (fun (_ : Unit) => hS.drew)
  have HK : Hid (∀ wx wy,RSt w2 g9 r.kind r.a r.b bt wx→Below wx.heap.size wx wy→RSt w2 g9 r.kind r.a r.b bt wy):=Lib.hid (fun wx wy h hb => h.below hb)
  have HA : Hid (∀ wx o,RSt w2 g9 r.kind r.a r.b bt wx→RSt w2 g9 r.kind r.a r.b bt (wx.alloc o)):=Lib.hid (fun wx o h => h.alloc o)
  have HA0 : Hid (∀ o,RSt w2 g9 r.kind r.a r.b bt (w2.alloc o).drew):=Lib.hid (fun o => (hS.alloc o).drew)
  have HSA : Hid (∀ wx n x0 x1 x2 x3 x4 x5 x6 x7 x8 x9 x10 x11,w2.heap.size≤n→RSt w2 g9 r.kind r.a r.b bt wx→RSt w2 g9 r.kind r.a r.b bt ((((((((((((wx.setCell ⟨n,0,none⟩ x0).setCell ⟨n,1,none⟩ x1).setCell ⟨n,2,none⟩ x2).setCell ⟨n,3,none⟩ x3).setCell ⟨n,4,none⟩ x4).setCell ⟨n,5,none⟩ x5).setCell ⟨n,6,none⟩ x6).setCell ⟨n,7,none⟩ x7).setCell ⟨n,8,none⟩ x8).setCell ⟨n,9,none⟩ x9).setCell ⟨n,10,none⟩ x10).setCell ⟨n,11,none⟩ x11)):=Lib.hid (fun wx n x0 x1 x2 x3 x4 x5 x6 x7 x8 x9 x10 x11 hn h => RSt.setAll hn [x0,x1,x2,x3,x4,x5,x6,x7,x8,x9,x10,x11] 0 h)
  have HKD : Hid (∀ wx wy dv,RSt w2 g9 r.kind r.a r.b bt wx→Below wx.heap.size wx wy→DataAt wy wx.heap.size dv dat→DataAt wy w2.heap.size dv dat):=Lib.hid (fun wx wy dv h hb hd => hd.mono h.2.2.2.2.2.size)
  have HMx : Hid (∀ wx,RSt w2 g9 r.kind r.a r.b bt wx→ML wx):=Lib.hid (fun wx h => hML.below h.2.2.2.2.2)
  have HN1 : Hid (∀ W wy : World,Below (W.alloc (.cells #[.string ⟨#[]⟩,.int .i64 0,.int .i64 0,.string ⟨#[]⟩,.int .i64 0,.int .i64 0,.int .i64 0,.string ⟨#[]⟩,.string ⟨#[]⟩,.int .i64 0,.int .i64 0,.slice none 0 0] 29)).heap.size (W.alloc (.cells #[.string ⟨#[]⟩,.int .i64 0,.int .i64 0,.string ⟨#[]⟩,.int .i64 0,.int .i64 0,.int .i64 0,.string ⟨#[]⟩,.string ⟨#[]⟩,.int .i64 0,.int .i64 0,.slice none 0 0] 29)) wy→RSt w2 g9 r.kind r.a r.b bt W→HasBlk wy W.heap.size 29 12∧w2.heap.size≤W.heap.size):=Lib.hid (fun W wy hb h => ⟨(HasBlk.newN W).below hb,h.2.2.2.2.2.size⟩)
  have HN0 : Hid (∀ wy : World,Below (w2.alloc (.cells #[.string ⟨#[]⟩,.int .i64 0,.int .i64 0,.string ⟨#[]⟩,.int .i64 0,.int .i64 0,.int .i64 0,.string ⟨#[]⟩,.string ⟨#[]⟩,.int .i64 0,.int .i64 0,.slice none 0 0] 29)).drew.heap.size (w2.alloc (.cells #[.string ⟨#[]⟩,.int .i64 0,.int .i64 0,.string ⟨#[]⟩,.int .i64 0,.int .i64 0,.int .i64 0,.string ⟨#[]⟩,.string ⟨#[]⟩,.int .i64 0,.int .i64 0,.slice none 0 0] 29)).drew wy→HasBlk wy w2.heap.size 29 12∧w2.heap.size≤w2.heap.size):=Lib.hid (fun wy hb => ⟨HasBlk.below (w:=(w2.alloc (.cells #[.string ⟨#[]⟩,.int .i64 0,.int .i64 0,.string ⟨#[]⟩,.int .i64 0,.int .i64 0,.int .i64 0,.string ⟨#[]⟩,.string ⟨#[]⟩,.int .i64 0,.int .i64 0,.slice none 0 0] 29)).drew) (HasBlk.newN w2) hb,Nat.le_refl _⟩)
  clear hrl
  have q0:=hS.1
  have q1:=hS.2.1
  have q2:=hS.2.2.1
  have q3:=hS.2.2.2.1
  have HKK:=Lib.hid hK
  clear hS hK hML
  conv => arg 2;whnf
  go_region_held (fun w' => w'.cell? ⟨g9,0,none⟩=some (.int .i64 r.kind)∧w'.cell? ⟨g9,1,none⟩=some (.int .i64 r.a)∧w'.cell? ⟨g9,2,none⟩=some (.int .i64 r.b)∧w'.cell? ⟨g9,3,none⟩=some (.string bt)∧g9 < w2.heap.size∧Below w2.heap.size w2 w')
    (first | (with_reducible assumption) | (with_reducible exact HS0.out ()) | (with_reducible exact HA0.out _) | (with_reducible exact HA.out _ _ (by with_reducible assumption)) | (with_reducible exact HSA.out _ _ _ _ _ _ _ _ _ _ _ _ _ _ (by with_reducible assumption) (by with_reducible assumption)) | go_keep)
    (first
      | (go_at_call 24;(with_reducible refine (P30.out _).mono ?_);rintro e w' ⟨rfl,rfl⟩)
      | (go_at_call 26;(with_reducible refine (HMt.out _ (HMx.out _ (by with_reducible assumption))).mono ?_);rintro e w' ⟨rfl,hb1⟩;have hbn:=HK.out _ _ (by with_reducible assumption) hb1;(try (first | (with_reducible have hnw:=HN1.out _ _ hb1 (by with_reducible assumption)) | (with_reducible have hnw:=HN0.out _ hb1));obtain ⟨hnew,hgl⟩:=hnw);clear hb1)
      | (go_at_call 28;(with_reducible refine (C40.out _ (HMx.out _ (by with_reducible assumption))).mono ?_);rintro e w' ⟨rfl,hb1⟩;have hbn:=HK.out _ _ (by with_reducible assumption) hb1;(first | (have hnew:=HasBlk.below hnew hb1) | (try (first | (with_reducible have hnw:=HN1.out _ _ hb1 (by with_reducible assumption)) | (with_reducible have hnw:=HN0.out _ hb1));obtain ⟨hnew,hgl⟩:=hnw) | skip);clear hb1)
      | (go_at_call 27;(with_reducible refine (HRp.out _).mono ?_);rintro e w' ⟨rfl,hb1⟩;have hbn:=HK.out _ _ (by with_reducible assumption) hb1;(first | (have hnew:=HasBlk.below hnew hb1) | (try (first | (with_reducible have hnw:=HN1.out _ _ hb1 (by with_reducible assumption)) | (with_reducible have hnw:=HN0.out _ hb1));obtain ⟨hnew,hgl⟩:=hnw) | skip);clear hb1)
      | ((with_reducible refine upon_conv dat HDL.out ?_);intro Ad cad wd hdv hb1;have hbn:=HK.out _ _ (by with_reducible assumption) hb1;(first | (have hnew:=HasBlk.below hnew hb1) | (try (first | (with_reducible have hnw:=HN1.out _ _ hb1 (by with_reducible assumption)) | (with_reducible have hnw:=HN0.out _ hb1));obtain ⟨hnew,hgl⟩:=hnw) | skip);(try (have n0:=hnew.peek_ (i:=0) (by omega);have n1:=hnew.peek_ (i:=1) (by omega);have n2:=hnew.peek_ (i:=2) (by omega);have n3:=hnew.peek_ (i:=3) (by omega);have n4:=hnew.peek_ (i:=4) (by omega);have n5:=hnew.peek_ (i:=5) (by omega);have n6:=hnew.peek_ (i:=6) (by omega);have n7:=hnew.peek_ (i:=7) (by omega);have n8:=hnew.peek_ (i:=8) (by omega);have n9:=hnew.peek_ (i:=9) (by omega);have n10:=hnew.peek_ (i:=10) (by omega);have n11:=hnew.peek_ (i:=11) (by omega);have z0:=hnew.frozen 0;have z1:=hnew.frozen 1;have z2:=hnew.frozen 2;have z3:=hnew.frozen 3;have z4:=hnew.frozen 4;have z5:=hnew.frozen 5;have z6:=hnew.frozen 6;have z7:=hnew.frozen 7;have z8:=hnew.frozen 8;have z9:=hnew.frozen 9;have z10:=hnew.frozen 10;have z11:=hnew.frozen 11;have hltn:=hnew.lt));have hdd:=Lib.hid (HKD.out _ _ _ (by with_reducible assumption) hb1 hdv);clear hdv hb1))
  all_goals (try simp only [Act.put,List.setIfInBounds_toArray,List.set_cons_zero,List.set_cons_succ])
  all_goals first
    | (exact HKK.out _ _ _ _ _ _ _ _ _ _ _ _ _ _ _ hbn.2.2.2.2.2.size (hbn.alloc _) (Blk.new _ _ _) (hdd.out.below ((Below.refl _ _).alloc (Nat.le_refl _) _)))
    | (exact HKK.out _ _ _ _ _ _ _ _ _ _ _ _ _ _ _ hgl (RSt.setAll hgl [.string (bs p),.int .i64 1,.int .i64 0,.string ⟨#[]⟩,.int .i64 m1,.int .i64 m2,.int .i64 m3,.string (bs m4),.string (bs m5),.int .i64 m6,.int .i64 m7,.slice Ad dat.length cad] 0 hbn) (hnew.node [.string (bs p),.int .i64 1,.int .i64 0,.string ⟨#[]⟩,.int .i64 m1,.int .i64 m2,.int .i64 m3,.string (bs m4),.string (bs m5),.int .i64 m6,.int .i64 m7,.slice Ad dat.length cad] rfl).1 (hdd.out.kept (hnew.node [.string (bs p),.int .i64 1,.int .i64 0,.string ⟨#[]⟩,.int .i64 m1,.int .i64 m2,.int .i64 m3,.string (bs m4),.string (bs m5),.int .i64 m6,.int .i64 m7,.slice Ad dat.length cad] rfl).2))
end Go.Proofs.YtphmhmdcaafmdaaGreatDoor
