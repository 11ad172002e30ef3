import Derived.Test.YtphmhmdcaafmdaaGreatDoorRecsQ
import Derived.Test.YtphmhmdcaafmdaaGreatDoorHeadP
import Derived.Test.YtphmhmdcaafmdaaGreatDoorEnts
import Derived.Test.YtphmhmdcaafmdaaGreatDoorCut
import Derived.Test.YtphmhmdcaafmdaaGreatDoorStampQ
import Derived.Test.YtphmhmdcaafmdaaGreatDoorPadsQ
namespace Go.Proofs.YtphmhmdcaafmdaaGreatDoor
set_option linter.all false
open Go.RowKit
def gidK : List UInt8:=[103,105,100]
def gnameK : List UInt8:=[103,110,97,109,101]
def linkK : List UInt8:=[108,105,110,107,112,97,116,104]
def mtimeK : List UInt8:=[109,116,105,109,101]
def pathK : List UInt8:=[112,97,116,104]
def uidK : List UInt8:=[117,105,100]
def unameK : List UInt8:=[117,110,97,109,101]
def longS : List UInt8:=[64,108,111,110,103]
def bigN (n : Int) : Bool:=decide (2097151 < n)
def sayIf (b : Bool) (k v : List UInt8) : List RecS:=if b then [⟨k,v⟩] else []
def timeBig (m : MetaP) : Bool:=decide (0 < m.nano∨m.second < 0∨8589934591 < m.second)
def pathBig (p : List UInt8) : Bool:=decide ((twoS p).2.2≠0)
def packR (x : EntP) : List RecS :=
  sayIf (bigN x.mt.gid) gidK (Lib.decDigits x.mt.gid.toNat) ++ (sayIf (decide (31 < x.mt.group.length)) gnameK x.mt.group ++ (sayIf (decide (100 < x.target.length)) linkK x.target ++ (sayIf (timeBig x.mt) mtimeK (textT x.mt.second x.mt.nano) ++
    (sayIf (pathBig x.path) pathK x.path ++ (sayIf (bigN x.mt.uid) uidK (Lib.decDigits x.mt.uid.toNat) ++ sayIf (decide (31 < x.mt.user.length)) unameK x.mt.user)))))
def typeK (k : Int) : UInt8:=if k=1 then 48 else if k=2 then 53 else if k=3 then 50 else 49
def kindT (c : UInt8) : Int:=if c=48 then 1 else if c=53 then 2 else if c=50 then 3 else if c=49 then 4 else 0
def packH (x : EntP) : PHead :=
  ⟨if pathBig x.path then longS else (twoS x.path).2.1,(twoS x.path).1,if 100 < x.target.length then longS else x.target,x.mt.mode.toNat,if bigN x.mt.uid then 0 else x.mt.uid.toNat,if bigN x.mt.gid then 0 else x.mt.gid.toNat,x.data.length,
    if timeBig x.mt then 0 else x.mt.second.toNat,typeK x.kind,if 31 < x.mt.user.length then [] else x.mt.user,if 31 < x.mt.group.length then [] else x.mt.group⟩
theorem type_in {k : Int} (h : k=1∨k=2∨k=3∨k=4) : typeK k∈[48,49,50,53,(120 : UInt8)]:=by
  rcases h with rfl | rfl | rfl | rfl <;> decide
theorem EntOk.path_ne {x : EntP} (h : EntOk x) : x.path≠[]∧(0 : UInt8) ∉ x.path:=by
  have h1:=h.path.1
  unfold checkS at h1
  constructor
  · intro e;rw [e] at h1;simp at h1
  · intro e
    rw [if_pos e] at h1
    split at h1 <;> simp at h1
theorem two_parts {p : List UInt8} (hne : p≠[]) (h0 : (0 : UInt8) ∉ p) : (twoS p).2.1.length≤100∧(twoS p).1.length≤155∧(0 : UInt8) ∉ (twoS p).1∧(0 : UInt8) ∉ (twoS p).2.1∧((twoS p).2.2≠0→(twoS p).1=[]∧100 < p.length):=by
  have hsub : (∀ b∈(twoS p).1,b∈p)∧(∀ b∈(twoS p).2.1,b∈p)∧((twoS p).2.2≠0→100 < p.length):=by
    unfold twoS
    rw [if_neg (by simp [hne,h0])]
    split
    · exact ⟨by simp,fun b hb => hb,by simp⟩
    · split
      · exact ⟨fun b hb => List.mem_of_mem_take hb,fun b hb => List.mem_of_mem_drop hb,by simp⟩
      · exact ⟨by simp,by simp,fun _ => by omega⟩
  refine ⟨?_,?_,fun h => h0 (hsub.1 _ h),fun h => h0 (hsub.2.1 _ h),fun h => ⟨(two_no h).1,hsub.2.2 h⟩⟩
  all_goals
    by_cases he : (twoS p).2.2=0
    · have:=two_one (l:=p) (p:=(twoS p).1) (n:=(twoS p).2.1) (by rw [← he])
      omega
    · simp [(two_no he).1,(two_no he).2]
theorem bigN_false {n : Int} (h : ¬ bigN n=true) : n≤2097151:=by unfold bigN at h;simp only [decide_eq_true_eq] at h;omega
theorem timeBig_false {m : MetaP} (h : ¬ timeBig m=true) : ¬ (0 < m.nano∨m.second < 0∨8589934591 < m.second):=by unfold timeBig at h;simpa only [decide_eq_true_eq] using h
theorem packH_ok {x : EntP} (h : EntOk x) : HeadOk (packH x):=by
  obtain ⟨hne,h0⟩:=h.path_ne
  obtain ⟨t1,t2,t3,t4,_⟩:=two_parts hne h0
  obtain ⟨m1,m2⟩:=h.mt.mode
  obtain ⟨m3,m4⟩:=h.mt.uid
  obtain ⟨m5,m6⟩:=h.mt.gid
  obtain ⟨u1,u2⟩:=h.mt.user
  obtain ⟨g1,g2⟩:=h.mt.group
  have hd:=h.data.1
  have ht0 : (0 : UInt8) ∉ x.target:=by
    rcases h.kind with e | e | e | e
    · rw [h.none (.inl e)];simp
    · rw [h.none (.inr e)];simp
    · exact (h.target.2.1 (.inl e)).2
    · exact (h.target.2.1 (.inr e)).2
  have l0 : (0 : UInt8) ∉ longS:=by decide
  have l1 : longS.length=5:=rfl
  unfold packH
  constructor
  all_goals (simp only;try unfold bigN timeBig)
  · split
    · omega
    · exact t1
  · split
    · exact l0
    · exact t4
  · exact t2
  · exact t3
  · split <;> omega
  · split
    · exact l0
    · exact ht0
  · omega
  · split
    · omega
    · next hh => have:=bigN_false hh;omega
  · split
    · omega
    · next hh => have:=bigN_false hh;omega
  · omega
  · split
    · omega
    · next hh => have:=timeBig_false hh;omega
  · exact type_in h.kind
  · split
    · simp
    · omega
  · split
    · simp
    · exact u2
  · split
    · simp
    · omega
  · split
    · simp
    · exact g2
theorem sayIf_mem {b : Bool} {k v : List UInt8} {r : RecS} (h : r∈sayIf b k v) : b=true∧r=⟨k,v⟩:=by
  unfold sayIf at h
  cases b with
  | true => exact ⟨rfl,by simpa using h⟩
  | false => simp at h
theorem sayIf_len (b : Bool) (k v : List UInt8) : (sayIf b k v).length≤1:=by cases b <;> simp [sayIf]
theorem packR_len (x : EntP) : (packR x).length≤7:=by
  unfold packR
  simp only [List.length_append]
  have:=sayIf_len
  have a1:=this (bigN x.mt.gid) gidK (Lib.decDigits x.mt.gid.toNat)
  have a2:=this (decide (31 < x.mt.group.length)) gnameK x.mt.group
  have a3:=this (decide (100 < x.target.length)) linkK x.target
  have a4:=this (timeBig x.mt) mtimeK (textT x.mt.second x.mt.nano)
  have a5:=this (pathBig x.path) pathK x.path
  have a6:=this (bigN x.mt.uid) uidK (Lib.decDigits x.mt.uid.toNat)
  have a7:=this (decide (31 < x.mt.user.length)) unameK x.mt.user
  omega
def keysL : List (List UInt8):=[gidK,gnameK,linkK,mtimeK,pathK,uidK,unameK]
theorem rec_key {k v : List UInt8} (hk : k∈keysL) (hv : v.length≤500) (h0 : (0 : UInt8) ∉ v) : RecOk ⟨k,v⟩:=by
  have key : ∀ k∈keysL,1≤k.length∧k.length≤60∧(61 : UInt8) ∉ k∧(10 : UInt8) ∉ k∧∀ b∈k,b.toNat < 128:=by decide
  obtain ⟨h1,h2,h3,h4,h5⟩:=key k hk
  exact ⟨h1,h2,hv,h3,h4,h5,h0⟩
theorem text_no_nul (x y : Int) : (0 : UInt8) ∉ textT x y:=by
  intro hb
  have hd : ∀ n : Nat,(0 : UInt8) ∉ Lib.decDigits n:=fun n => dec_not (by decide)
  have hp : ∀ n : Nat,(0 : UInt8) ∉ frac n:=fun n hf => by
    have h1 : (0 : UInt8)∈pad9 n:=by
      unfold frac at hf
      obtain ⟨k,e,_⟩:=trimR_split 48 (pad9 n)
      rw [e];exact List.mem_append_left _ hf
    unfold pad9 at h1
    rcases List.mem_append.1 h1 with h1 | h1
    · exact absurd (List.eq_of_mem_replicate h1) (by decide)
    · exact hd n h1
  unfold textT bodyS at hb
  rcases List.mem_append.1 hb with hb | hb
  · split at hb <;> simp at hb
  · rcases List.mem_append.1 hb with hb | hb
    · exact hd _ hb
    · split at hb
      · simp at hb
      · rcases List.mem_cons.1 hb with hb | hb
        · exact absurd hb (by decide)
        · exact hp _ hb
theorem dec_len50 {n : Nat} (h : n≤1125899906842624) : (Lib.decDigits n).length≤16:=dec_len 15 n (by omega)
theorem packR_ok {x : EntP} (h : EntOk x) : ∀ r∈packR x,RecOk r:=by
  obtain ⟨hne,h0⟩:=h.path_ne
  have hp:=h.path.2
  obtain ⟨m3,m4⟩:=h.mt.uid
  obtain ⟨m5,m6⟩:=h.mt.gid
  obtain ⟨u1,u2⟩:=h.mt.user
  obtain ⟨g1,g2⟩:=h.mt.group
  have ht:=h.target.1
  have ht0 : (0 : UInt8) ∉ x.target:=by
    rcases h.kind with e | e | e | e
    · rw [h.none (.inl e)];simp
    · rw [h.none (.inr e)];simp
    · exact (h.target.2.1 (.inl e)).2
    · exact (h.target.2.1 (.inr e)).2
  have d1:=dec_len50 (n:=x.mt.gid.toNat) (by omega)
  have d2:=dec_len50 (n:=x.mt.uid.toNat) (by omega)
  have dn : ∀ n : Nat,(0 : UInt8) ∉ Lib.decDigits n:=fun n => dec_not (by decide)
  have tl:=text_len x.mt.second x.mt.nano h.mt.time
  have t0:=text_no_nul x.mt.second x.mt.nano
  intro r hr
  unfold packR at hr
  simp only [List.mem_append] at hr
  rcases hr with hr | hr | hr | hr | hr | hr | hr <;> (obtain ⟨_,rfl⟩:=sayIf_mem hr)
  · exact rec_key (by decide) (by omega) (dn _)
  · exact rec_key (by decide) (by omega) g2
  · exact rec_key (by decide) (by omega) ht0
  · exact rec_key (by decide) (by omega) t0
  · exact rec_key (by decide) (by omega) h0
  · exact rec_key (by decide) (by omega) (dn _)
  · exact rec_key (by decide) (by omega) u2
theorem sayIf_keys (b : Bool) (k v : List UInt8) : ((sayIf b k v).map (·.key)).Sublist [k]:=by cases b <;> simp [sayIf]
theorem packR_keys (x : EntP) : ((packR x).map (·.key)).Sublist keysL:=by
  unfold packR
  simp only [List.map_append]
  exact (sayIf_keys _ _ _).append ((sayIf_keys _ _ _).append ((sayIf_keys _ _ _).append ((sayIf_keys _ _ _).append ((sayIf_keys _ _ _).append ((sayIf_keys _ _ _).append (sayIf_keys _ _ _))))))
theorem packR_asc (x : EntP) : Asc (packR x):=asc_of_keys (packR_keys x) (by decide)
def paxN : List UInt8:=[64,112,97,120]
def paxH (n : Nat) : PHead:=⟨paxN,[],[],0,0,0,n,0,120,[],[]⟩
def memR (l : List RecS) : List UInt8:=if l=[] then [] else headW (paxH (paxT l).length) ++ padB (paxT l)
def memB (x : EntP) : List UInt8:=memR (packR x) ++ (headW (packH x) ++ padB x.data)
end Go.Proofs.YtphmhmdcaafmdaaGreatDoor
