import Derived.Test.YtphmhmdcaafmdaaGreatDoorWords
namespace Go.Proofs.YtphmhmdcaafmdaaGreatDoor
set_option linter.all false
section
namespace globs
section
variable {π α : Type} (star : π→Bool) (fits : π→α→Bool)
def glob : List π→List α→Bool
  | [],t => t.isEmpty
  | p :: ps,t => if star p then (List.range (t.length + 1)).any (fun j => glob ps (t.drop j)) else
      (match t.head? with | none => false | some a => fits p a) && glob ps t.tail
variable {star : π→Bool} {fits : π→α→Bool}
theorem glob_star {p : π} {ps : List π} {t : List α} (h : star p=true) : glob star fits (p :: ps) t=true ↔ ∃ j,j≤t.length∧glob star fits ps (t.drop j)=true:=by
  simp only [glob,if_pos h,List.any_eq_true]
  constructor
  · rintro ⟨j,hj,h⟩;rw [List.mem_range] at hj;exact ⟨j,by omega,h⟩
  · rintro ⟨j,hj,h⟩;exact ⟨j,List.mem_range.2 (by omega),h⟩
theorem glob_sign {p : π} {ps : List π} {a : α} {t : List α} (h : star p=false) : glob star fits (p :: ps) (a :: t)=(fits p a && glob star fits ps t):=by
  simp [glob,h]
theorem glob_sign_nil {p : π} {ps : List π} (h : star p=false) : glob star fits (p :: ps) ([] : List α)=false:=by
  simp [glob,h]
theorem glob_takes : ∀ (d : Nat) {ps : List π} {t : List α},(∀ x∈ps.take d,star x=false)→d≤ps.length→glob star fits ps t=true→d≤t.length∧glob star fits (ps.drop d) (t.drop d)=true
  | 0,ps,t,_,_,h => ⟨Nat.zero_le _,by simpa using h⟩
  | d + 1,[],t,_,hd,h => by simp at hd
  | d + 1,p :: ps,t,hs,hd,h => by
    have hp : star p=false:=hs p (by simp)
    cases t with
    | nil => rw [glob_sign_nil hp] at h;cases h
    | cons a t =>
      rw [glob_sign hp,Bool.and_eq_true] at h
      have:=glob_takes d (ps:=ps) (t:=t) (fun x hx => hs x (by simp [hx])) (by simpa using hd) h.2
      exact ⟨by simp;exact this.1,by simpa using this.2⟩
theorem drop_more {β : Type} (l : List β) {a b : Nat} (h : a≤b) : (l.drop a).drop (b - a)=l.drop b:=by
  rw [List.drop_drop];congr 1;omega
theorem glob_star_more {P : List π} {T : List α} {i k k2 : Nat} (hi : i < P.length) (hs : star P[i]=true) (hk : k≤k2) (h2 : k2≤T.length)
    (h : glob star fits (P.drop i) (T.drop k2)=true) : glob star fits (P.drop i) (T.drop k)=true:=by
  rw [List.drop_eq_getElem_cons hi] at h ⊢
  obtain ⟨j,hj,hg⟩:=(glob_star hs).1 h
  rw [List.drop_drop] at hg
  refine (glob_star hs).2 ⟨j + (k2 - k),?_,?_⟩
  · rw [List.length_drop] at hj ⊢;omega
  · rw [List.drop_drop];rw [← hg];congr 2;omega
def Later (star : π→Bool) (fits : π→α→Bool) (P : List π) (T : List α) (last : Option Nat) (from_ : Nat) : Prop :=
  ∃ l,last=some l∧∃ j,from_ < j∧j≤T.length∧glob star fits (P.drop (l + 1)) (T.drop j)=true
structure Inv (star : π→Bool) (fits : π→α→Bool) (P : List π) (T : List α) (i k : Nat) (last : Option Nat) (from_ : Nat) : Prop where
  hi : i≤P.length
  hk : k≤T.length
  hf : from_≤k
  hl : ∀ l,last=some l→l < i∧i - (l + 1)=k - from_∧∀ x∈(P.drop (l + 1)).take (i - (l + 1)),star x=false
  ans : glob star fits P T=true ↔ glob star fits (P.drop i) (T.drop k)=true∨Later star fits P T last from_
theorem Inv.start (P : List π) (T : List α) : Inv star fits P T 0 0 none 0 :=
  ⟨Nat.zero_le _,Nat.zero_le _,Nat.le_refl _,(fun l h => by cases h),by
    simp only [List.drop_zero]
    constructor
    · exact Or.inl
    · rintro (h | ⟨l,h,_⟩)
      · exact h
      · cases h⟩
theorem Inv.later {P : List π} {T : List α} {i k : Nat} {last : Option Nat} {from_ : Nat} (h : Inv star fits P T i k last from_) (hl : Later star fits P T last from_) :
    ∃ k2,k < k2∧k2≤T.length∧glob star fits (P.drop i) (T.drop k2)=true:=by
  obtain ⟨l,rfl,j,hj,hjT,hg⟩:=hl
  obtain ⟨h1,h2,h3⟩:=h.hl l rfl
  have hi:=h.hi
  have hf:=h.hf
  have ht:=glob_takes (i - (l + 1)) h3 (by rw [List.length_drop];omega) hg
  rw [drop_more _ (by omega),List.drop_drop,List.length_drop] at ht
  exact ⟨j + (i - (l + 1)),by omega,by omega,ht.2⟩
theorem Inv.onStar {P : List π} {T : List α} {i k : Nat} {last : Option Nat} {from_ : Nat} (h : Inv star fits P T i k last from_) (hi : i < P.length) (hs : star P[i]=true) :
    Inv star fits P T (i + 1) k (some i) k:=by
  have hk:=h.hk
  refine ⟨by omega,h.hk,Nat.le_refl _,?_,?_⟩
  · rintro l hl;cases hl
    refine ⟨by omega,by omega,?_⟩
    rw [Nat.sub_self];simp
  · have e : glob star fits (P.drop i) (T.drop k)=true ↔ glob star fits (P.drop (i + 1)) (T.drop k)=true∨Later star fits P T (some i) k:=by
      rw [List.drop_eq_getElem_cons hi,glob_star hs]
      constructor
      · rintro ⟨j,hj,hg⟩
        rw [List.drop_drop] at hg
        rw [List.length_drop] at hj
        rcases Nat.eq_zero_or_pos j with rfl | h0
        · exact .inl hg
        · exact .inr ⟨i,rfl,k + j,by omega,by omega,hg⟩
      · rintro (hg | ⟨l,hl,j,h1,h2,hg⟩)
        · exact ⟨0,Nat.zero_le _,by simpa using hg⟩
        · cases hl
          refine ⟨j - k,by rw [List.length_drop];omega,?_⟩
          rw [drop_more _ (by omega)];exact hg
    rw [h.ans,← e]
    constructor
    · rintro (hg | hg)
      · exact hg
      · obtain ⟨k2,h1,h2,h3⟩:=h.later hg
        exact glob_star_more hi hs (by omega) h2 h3
    · exact Or.inl
theorem Inv.step {P : List π} {T : List α} {i k : Nat} {last : Option Nat} {from_ : Nat} (h : Inv star fits P T i k last from_) (hi : i < P.length) (hk : k < T.length) (hs : star P[i]=false) (hf : fits P[i] T[k]=true) :
    Inv star fits P T (i + 1) (k + 1) last from_:=by
  have hf2:=h.hf
  refine ⟨by omega,by omega,by omega,?_,?_⟩
  · intro l hl
    obtain ⟨h1,h2,h3⟩:=h.hl l hl
    refine ⟨by omega,by omega,?_⟩
    rw [show i + 1 - (l + 1)=(i - (l + 1)) + 1 from by omega]
    have hlt : i - (l + 1) < (P.drop (l + 1)).length:=by rw [List.length_drop];omega
    rw [List.take_succ_eq_append_getElem hlt]
    intro x hx
    rcases List.mem_append.1 hx with hx | hx
    · exact h3 x hx
    · rw [List.mem_singleton] at hx
      rw [hx,List.getElem_drop]
      have e : l + 1 + (i - (l + 1))=i:=by omega
      simp only [e]
      exact hs
  · rw [h.ans,List.drop_eq_getElem_cons hi,List.drop_eq_getElem_cons hk,glob_sign hs,hf,Bool.true_and]
theorem Inv.back {P : List π} {T : List α} {i k l : Nat} {from_ : Nat} (h : Inv star fits P T i k (some l) from_) (hk : k < T.length) (hno : glob star fits (P.drop i) (T.drop k)=false) :
    Inv star fits P T (l + 1) (from_ + 1) (some l) (from_ + 1):=by
  obtain ⟨h1,h2,_⟩:=h.hl l rfl
  have hf:=h.hf
  have hi:=h.hi
  refine ⟨by omega,by omega,Nat.le_refl _,?_,?_⟩
  · intro l' e;cases e
    refine ⟨by omega,by omega,?_⟩
    rw [Nat.sub_self];simp
  · rw [h.ans,hno]
    constructor
    · rintro (hg | ⟨l',hl,j,h3,h4,hg⟩)
      · cases hg
      · cases hl
        rcases Nat.lt_or_ge (from_ + 1) j with h5 | h5
        · exact .inr ⟨l,rfl,j,h5,h4,hg⟩
        · obtain rfl : j=from_ + 1:=by omega
          exact .inl hg
    · rintro (hg | ⟨l',hl,j,h3,h4,hg⟩)
      · exact .inr ⟨l,rfl,from_ + 1,by omega,by omega,hg⟩
      · cases hl
        exact .inr ⟨l,rfl,j,by omega,h4,hg⟩
theorem Inv.fail {P : List π} {T : List α} {i k : Nat} {from_ : Nat} (h : Inv star fits P T i k none from_) (hno : glob star fits (P.drop i) (T.drop k)=false) : glob star fits P T=false:=by
  rw [Bool.eq_false_iff]
  intro hg
  rcases h.ans.1 hg with h1 | ⟨l,hl,_⟩
  · rw [hno] at h1;cases h1
  · cases hl
theorem Inv.done {P : List π} {T : List α} {i : Nat} {last : Option Nat} {from_ : Nat} (h : Inv star fits P T i T.length last from_) : glob star fits P T=glob star fits (P.drop i) []:=by
  rw [Bool.eq_iff_iff,h.ans,List.drop_length]
  constructor
  · rintro (hg | hg)
    · exact hg
    · obtain ⟨k2,h1,h2,_⟩:=h.later hg
      omega
  · exact Or.inl
theorem no_end {P : List π} {T : List α} {k : Nat} (hk : k < T.length) : glob star fits (P.drop P.length) (T.drop k)=false:=by
  rw [List.drop_length,List.drop_eq_getElem_cons hk];rfl
theorem no_sign {P : List π} {T : List α} {i k : Nat} (hi : i < P.length) (hk : k < T.length) (hs : star P[i]=false) (hf : fits P[i] T[k]=false) : glob star fits (P.drop i) (T.drop k)=false:=by
  rw [List.drop_eq_getElem_cons hi,List.drop_eq_getElem_cons hk,glob_sign hs,hf];rfl
theorem tail_star {P : List π} {i : Nat} (hi : i < P.length) (hs : star P[i]=true) : glob star fits (P.drop i) ([] : List α)=glob star fits (P.drop (i + 1)) []:=by
  rw [Bool.eq_iff_iff,List.drop_eq_getElem_cons hi,glob_star hs]
  constructor
  · rintro ⟨j,_,h⟩;simpa using h
  · intro h;exact ⟨0,Nat.zero_le _,by simpa using h⟩
theorem tail_sign {P : List π} {i : Nat} (hi : i < P.length) (hs : star P[i]=false) : glob star fits (P.drop i) ([] : List α)=false:=by
  rw [List.drop_eq_getElem_cons hi,glob_sign_nil hs]
theorem tail_end (P : List π) : glob star fits (P.drop P.length) ([] : List α)=true:=by rw [List.drop_length];rfl
end
def nx (last : Option Nat) : Nat:=(last.map (· + 1)).getD 0
def rank (n m : Nat) (last : Option Nat) (from_ k : Nat) : Nat:=(n + 1 - nx last) * ((m + 2) * (m + 2)) + (m + 1 - from_) * (m + 2) + (m - k)
theorem rank_star {n m i k f from_ k' : Nat} {last : Option Nat} (hi : i < n) (hl : ∀ l,last=some l→l < i) (hk' : k'≤m) : rank n m (some i) f k' < rank n m last from_ k:=by
  have h1 : (n + 1 - (i + 1)) + 1≤n + 1 - nx last:=by
    cases last with
    | none => simp only [nx,Option.map_none,Option.getD_none];omega
    | some l => have:=hl l rfl;simp only [nx,Option.map_some,Option.getD_some];omega
  have e : nx (some i)=i + 1:=rfl
  unfold rank
  rw [e]
  generalize n + 1 - nx last=b at *
  generalize n + 1 - (i + 1)=a at *
  have h2 : (a + 1) * ((m + 2) * (m + 2))≤b * ((m + 2) * (m + 2)):=Nat.mul_le_mul_right _ h1
  have h3 : (m + 1 - f) * (m + 2)≤(m + 1) * (m + 2):=Nat.mul_le_mul_right _ (by omega)
  have h4 : (m + 2) * (m + 2)=(m + 1) * (m + 2) + (m + 2):=Nat.succ_mul (m + 1) (m + 2)
  rw [Nat.succ_mul] at h2
  generalize a * ((m + 2) * (m + 2))=A at *
  generalize b * ((m + 2) * (m + 2))=B at *
  generalize (m + 1 - f) * (m + 2)=C at *
  generalize (m + 1 - from_) * (m + 2)=D at *
  generalize (m + 2) * (m + 2)=G at *
  generalize (m + 1) * (m + 2)=E at *
  omega
theorem rank_step {n m f k : Nat} {last : Option Nat} (hk : k < m) : rank n m last f (k + 1) < rank n m last f k:=by unfold rank;omega
theorem rank_back {n m f k : Nat} {last : Option Nat} (hf : f≤k) (hk : k < m) : rank n m last (f + 1) (f + 1) < rank n m last f k:=by
  unfold rank
  have h1 : m + 1 - f=(m + 1 - (f + 1)) + 1:=by omega
  rw [h1,Nat.succ_mul (m + 1 - (f + 1))]
  omega
end globs
end
section
open Go.RowKit
def lastI (L : Option Nat) : Int:=match L with | none => -1 | some l => l
def rankI (n m : Nat) (la fr k : Int) : Nat:=(n + 1 - (la + 1).toNat) * ((m + 2) * (m + 2)) + (m + 1 - fr.toNat) * (m + 2) + (m - k.toNat)
theorem rankI_eq (n m F K : Nat) (L : Option Nat) : rankI n m (lastI L) F K=globs.rank n m L F K:=by
  unfold rankI globs.rank globs.nx lastI
  cases L with
  | none => simp
  | some l => simp
set_option maxRecDepth 100000 in
set_option maxHeartbeats 4000000 in
theorem wild_part {π α : Type} (star : π→Bool) (fits : π→α→Bool) (P : List π) (T : List α) (pl pt : Value) (w : World) (hn : P.length≤1000) (hm : T.length≤1000)
    (hstar : ∀ (i : Nat) (h : i < P.length) (W : World),Below w.heap.size w W→Calls Tryz.prog 256 #[.int .i64 i,pl] W fun e w' => e=.returned (.bool (star P[i]))∧Below W.heap.size W w')
    (hfits : ∀ (i k : Nat) (h : i < P.length) (h2 : k < T.length) (W : World),Below w.heap.size w W→Calls Tryz.prog 257 #[.int .i64 i,.int .i64 k,pl,pt] W fun e w' => e=.returned (.bool (fits P[i] T[k]))∧Below W.heap.size W w') :
    Calls Tryz.prog 241 #[.int .i64 P.length,.int .i64 T.length,.func (Fn.func 256) #[] #[pl],.func (Fn.func 257) #[] #[pl,pt]] w fun e w' => e=.returned (.bool (globs.glob star fits P T))∧Below w.heap.size w w':=by
  have HS:=Lib.hid hstar
  have HF:=Lib.hid hfits
  clear hstar hfits
  obtain ⟨n,hnn⟩ : ∃ n,n=P.length:=⟨_,rfl⟩
  obtain ⟨m,hmm⟩ : ∃ m,m=T.length:=⟨_,rfl⟩
  rw [← hnn] at hn ⊢
  rw [← hmm] at hm ⊢
  have HN:=Lib.hid hnn
  have HM:=Lib.hid hmm
  clear hnn hmm
  obtain ⟨G,hG⟩ : ∃ G,G=w.heap.size:=⟨_,rfl⟩
  rw [← hG] at HS HF ⊢
  have HG:=Lib.hid hG
  clear hG
  go_enter Tryz.func241,Tryz.ntmps241
  go_wp2_with fail
  go_loopw [9,10,11,12] (fun i la fr k wr => ∃ (I K F : Nat) (L : Option Nat),i=.int .i64 I∧la=.int .i64 (lastI L)∧fr=.int .i64 F∧k=.int .i64 K∧Hid (globs.Inv star fits P T I K L F)∧Below G w wr) (fun _ la fr k _ => rankI n m (intOf la) (intOf fr) (intOf k))
  case atStart => exact ⟨0,0,0,none,rfl,rfl,rfl,rfl,Lib.hid (globs.Inv.start P T),Below.refl _ _⟩
  case round =>
    obtain ⟨I,K,F,L,rfl,rfl,rfl,rfl,hI,hb⟩:=hrel
    have hIn : I≤n:=by rw [HN.out];exact hI.out.hi
    have hKm : K≤m:=by rw [HM.out];exact hI.out.hk
    have hFK : F≤K:=hI.out.hf
    have hbs : ∀ {w1 : World},Below wr.heap.size wr w1→Below G w w1:=fun h => hb.trans (h.mono (by rw [HG.out];exact hb.size))
    have HBS:=@hbs
    clear hbs
    have hLb : -1≤lastI L∧lastI L≤1000:=by
      cases hL : L with
      | none => have : lastI none=-1:=rfl;omega
      | some l => have:=(hI.out.hl l hL).1;unfold lastI;simp only;omega
    obtain ⟨lb1,lb2⟩:=hLb
    by_cases hk : K < m
    · have hkT : K < T.length:=by rw [← HM.out];exact hk
      have k1 : decide ((K : Int) < m)=true:=decide_eq_true (by omega)
      have k2 : decide (K < m)=true:=decide_eq_true hk
      by_cases hi : I < n
      · have hiP : I < P.length:=by rw [← HN.out];exact hi
        have i1 : decide ((I : Int) < n)=true:=decide_eq_true (by omega)
        have i2 : decide (I < n)=true:=decide_eq_true hi
        have hS1:=Lib.hid (fun W h => HS.out I hiP W h)
        cases hst : star P[I]
        · rw [hst] at hS1
          have hF1:=Lib.hid (fun W h => HF.out I K hiP hkT W h)
          cases hft : fits P[I] T[K]
          · rw [hft] at hF1
            have hno:=globs.no_sign (star:=star) (fits:=fits) hiP hkT hst hft
            have HNO:=Lib.hid hno
            clear hno hst hft
            cases L with
            | none =>
              have fin:=Lib.hid (hI.out.fail HNO.out)
              have l0 : lastI none=-1:=rfl
              have l1 : decide ((0 : Int)≤lastI none)=false:=decide_eq_false (by omega)
              have l2 : ¬ (0 : Int)≤lastI none:=by omega
              clear l0
              generalize lastI none=la at *
              go_wp2_with fail
              refine (hS1.out _ hb).mono ?_
              rintro e w1 ⟨rfl,b1⟩
              go_wp2_with fail
              refine (hF1.out _ (HBS b1)).mono ?_
              rintro e w2 ⟨rfl,b2⟩
              go_wp2_with fail
              go_ret
              exact ⟨ret_bool (by rw [fin.out]),HBS (b1.trans (b2.mono b1.size))⟩
            | some l =>
              have nx:=Lib.hid (hI.out.back hkT HNO.out)
              have hrk:=globs.rank_back (n:=n) (m:=m) (f:=F) (k:=K) (last:=some l) hFK hk
              rw [← rankI_eq,← rankI_eq] at hrk
              have HRK:=Lib.hid hrk
              have hla : lastI (some l)=(l : Int):=rfl
              have l1 : decide ((0 : Int)≤(l : Int))=true:=decide_eq_true (by omega)
              rw [hla] at HRK lb1 lb2 ⊢
              clear hrk hla
              go_wp2_with fail
              refine (hS1.out _ hb).mono ?_
              rintro e w1 ⟨rfl,b1⟩
              go_wp2_with fail
              refine (hF1.out _ (HBS b1)).mono ?_
              rintro e w2 ⟨rfl,b2⟩
              go_wp2_with fail
              go_roundw
              case rel => exact ⟨l + 1,F + 1,F + 1,some l,by go_num,rfl,by go_num,by go_num,nx,HBS (b1.trans (b2.mono b1.size))⟩
              case measure => have h:=HRK.out;simp [intOf] at h ⊢;exact h
          · rw [hft] at hF1
            have nx:=Lib.hid (hI.out.step hiP hkT hst hft)
            have hrk:=globs.rank_step (n:=n) (m:=m) (f:=F) (k:=K) (last:=L) hk
            rw [← rankI_eq,← rankI_eq] at hrk
            have HRK:=Lib.hid hrk
            clear hrk hst hft
            generalize hla : lastI L=la at *
            have HLA:=Lib.hid hla
            clear hla
            go_wp2_with fail
            refine (hS1.out _ hb).mono ?_
            rintro e w1 ⟨rfl,b1⟩
            go_wp2_with fail
            refine (hF1.out _ (HBS b1)).mono ?_
            rintro e w2 ⟨rfl,b2⟩
            go_wp2_with fail
            go_roundw
            case rel => exact ⟨I + 1,K + 1,F,L,by go_num,by rw [HLA.out],rfl,by go_num,nx,HBS (b1.trans (b2.mono b1.size))⟩
            case measure => have h:=HRK.out;simp [intOf] at h ⊢;exact h
        · rw [hst] at hS1
          have nx:=Lib.hid (hI.out.onStar hiP hst)
          have hrk:=globs.rank_star (n:=n) (m:=m) (i:=I) (k:=K) (f:=K) (from_:=F) (k':=K) (last:=L) hi (fun l hl => (hI.out.hl l hl).1) hKm
          rw [← rankI_eq,← rankI_eq] at hrk
          have HRK:=Lib.hid hrk
          clear hrk hst
          generalize lastI L=la at *
          go_wp2_with fail
          refine (hS1.out _ hb).mono ?_
          rintro e w1 ⟨rfl,b1⟩
          go_wp2_with fail
          go_roundw
          case rel => exact ⟨I + 1,K,K,some I,by go_num,rfl,rfl,rfl,nx,HBS b1⟩
          case measure => have h:=HRK.out;simp [intOf,lastI] at h ⊢;exact h
      · have hIe : I=P.length:=by rw [← HN.out];omega
        have i1 : decide ((I : Int) < n)=false:=decide_eq_false (by omega)
        have i2 : decide (I < n)=false:=decide_eq_false hi
        have HNO : Hid (globs.glob star fits (P.drop I) (T.drop K)=false):=Lib.hid (by rw [hIe];exact globs.no_end hkT)
        clear hIe
        cases L with
        | none =>
          have fin:=Lib.hid (hI.out.fail HNO.out)
          have l0 : lastI none=-1:=rfl
          have l1 : decide ((0 : Int)≤lastI none)=false:=decide_eq_false (by omega)
          have l2 : ¬ (0 : Int)≤lastI none:=by omega
          clear l0
          generalize lastI none=la at *
          go_wp2_with fail
          go_ret
          exact ⟨ret_bool (by rw [fin.out]),hb⟩
        | some l =>
          have nx:=Lib.hid (hI.out.back hkT HNO.out)
          have hrk:=globs.rank_back (n:=n) (m:=m) (f:=F) (k:=K) (last:=some l) hFK hk
          rw [← rankI_eq,← rankI_eq] at hrk
          have HRK:=Lib.hid hrk
          have hla : lastI (some l)=(l : Int):=rfl
          have l1 : decide ((0 : Int)≤(l : Int))=true:=decide_eq_true (by omega)
          rw [hla] at HRK lb1 lb2 ⊢
          clear hrk hla
          go_wp2_with fail
          go_roundw
          case rel => exact ⟨l + 1,F + 1,F + 1,some l,by go_num,rfl,by go_num,by go_num,nx,hb⟩
          case measure => have h:=HRK.out;simp [intOf] at h ⊢;exact h
    · obtain rfl : K=m:=by omega
      have k1 : decide ((K : Int) < K)=false:=decide_eq_false (by omega)
      have hdone : Hid (globs.glob star fits P T=globs.glob star fits (P.drop I) []):=Lib.hid (by
        have h:=hI.out
        rw [HM.out] at h
        exact h.done)
      generalize lastI L=la at *
      go_wp2_with fail
      go_loopw [9] (fun i wq => ∃ J : Nat,J≤n∧i=.int .i64 J∧Hid (globs.glob star fits P T=globs.glob star fits (P.drop J) [])∧Below G w wq) (fun i _ => n - (intOf i).toNat)
      case atStart => exact ⟨I,hIn,rfl,hdone,hb⟩
      case round =>
        obtain ⟨J,hJ,rfl,hd,hbq⟩:=hrel
        have hbs2 : ∀ {w1 : World},Below wr.heap.size wr w1→Below G w w1:=fun h => hbq.trans (h.mono (by rw [HG.out];exact hbq.size))
        have HBS2:=@hbs2
        clear hbs2
        by_cases hj : J < n
        · have hjP : J < P.length:=by rw [← HN.out];exact hj
          have i1 : decide ((J : Int) < n)=true:=decide_eq_true (by omega)
          have i2 : decide (J < n)=true:=decide_eq_true hj
          have hS1:=Lib.hid (fun W h => HS.out J hjP W h)
          cases hst : star P[J]
          · rw [hst] at hS1
            have fin:=Lib.hid (hd.out.trans (globs.tail_sign hjP hst))
            have e1 : ((J : Int) == n)=false:=beq_eq_false_iff_ne.2 (by omega)
            clear hst
            go_wp2_with fail
            refine (hS1.out _ hbq).mono ?_
            rintro e w1 ⟨rfl,b1⟩
            go_wp2_with fail
            go_ret
            exact ⟨ret_bool (by rw [fin.out]),HBS2 b1⟩
          · rw [hst] at hS1
            have nx:=Lib.hid (hd.out.trans (globs.tail_star hjP hst))
            clear hst
            go_wp2_with fail
            refine (hS1.out _ hbq).mono ?_
            rintro e w1 ⟨rfl,b1⟩
            go_wp2_with fail
            go_roundw
            case rel => exact ⟨J + 1,by omega,by go_num,nx,HBS2 b1⟩
            case measure => simp [intOf];omega
        · obtain rfl : J=n:=by omega
          have fin:=Lib.hid (hd.out.trans (show globs.glob star fits (P.drop J) []=true by rw [show J=P.length from HN.out];exact globs.tail_end P))
          have i1 : decide ((J : Int) < J)=false:=decide_eq_false (by omega)
          go_wp2_with fail
          go_ret
          exact ⟨ret_bool (by rw [fin.out]),hbq⟩
set_option maxRecDepth 100000 in
set_option maxHeartbeats 4000000 in
theorem wild_parts {π α : Type} (star : π→Bool) (fits : π→α→Bool) (P : List π) (T : List α) (pl pt : Value) (w : World) (hn : P.length≤1000) (hm : T.length≤1000)
    (hstar : ∀ (i : Nat) (h : i < P.length) (W : World),Below w.heap.size w W→Calls Tryz.prog 242 #[.int .i64 i,pl] W fun e w' => e=.returned (.bool (star P[i]))∧Below W.heap.size W w')
    (hfits : ∀ (i k : Nat) (h : i < P.length) (h2 : k < T.length) (W : World),Below w.heap.size w W→Calls Tryz.prog 243 #[.int .i64 i,.int .i64 k,pl,pt] W fun e w' => e=.returned (.bool (fits P[i] T[k]))∧Below W.heap.size W w') :
    Calls Tryz.prog 241 #[.int .i64 P.length,.int .i64 T.length,.func (Fn.func 242) #[] #[pl],.func (Fn.func 243) #[] #[pl,pt]] w fun e w' => e=.returned (.bool (globs.glob star fits P T))∧Below w.heap.size w w':=by
  have HS:=Lib.hid hstar
  have HF:=Lib.hid hfits
  clear hstar hfits
  obtain ⟨n,hnn⟩ : ∃ n,n=P.length:=⟨_,rfl⟩
  obtain ⟨m,hmm⟩ : ∃ m,m=T.length:=⟨_,rfl⟩
  rw [← hnn] at hn ⊢
  rw [← hmm] at hm ⊢
  have HN:=Lib.hid hnn
  have HM:=Lib.hid hmm
  clear hnn hmm
  obtain ⟨G,hG⟩ : ∃ G,G=w.heap.size:=⟨_,rfl⟩
  rw [← hG] at HS HF ⊢
  have HG:=Lib.hid hG
  clear hG
  go_enter Tryz.func241,Tryz.ntmps241
  go_wp2_with fail
  go_loopw [9,10,11,12] (fun i la fr k wr => ∃ (I K F : Nat) (L : Option Nat),i=.int .i64 I∧la=.int .i64 (lastI L)∧fr=.int .i64 F∧k=.int .i64 K∧Hid (globs.Inv star fits P T I K L F)∧Below G w wr) (fun _ la fr k _ => rankI n m (intOf la) (intOf fr) (intOf k))
  case atStart => exact ⟨0,0,0,none,rfl,rfl,rfl,rfl,Lib.hid (globs.Inv.start P T),Below.refl _ _⟩
  case round =>
    obtain ⟨I,K,F,L,rfl,rfl,rfl,rfl,hI,hb⟩:=hrel
    have hIn : I≤n:=by rw [HN.out];exact hI.out.hi
    have hKm : K≤m:=by rw [HM.out];exact hI.out.hk
    have hFK : F≤K:=hI.out.hf
    have hbs : ∀ {w1 : World},Below wr.heap.size wr w1→Below G w w1:=fun h => hb.trans (h.mono (by rw [HG.out];exact hb.size))
    have HBS:=@hbs
    clear hbs
    have hLb : -1≤lastI L∧lastI L≤1000:=by
      cases hL : L with
      | none => have : lastI none=-1:=rfl;omega
      | some l => have:=(hI.out.hl l hL).1;unfold lastI;simp only;omega
    obtain ⟨lb1,lb2⟩:=hLb
    by_cases hk : K < m
    · have hkT : K < T.length:=by rw [← HM.out];exact hk
      have k1 : decide ((K : Int) < m)=true:=decide_eq_true (by omega)
      have k2 : decide (K < m)=true:=decide_eq_true hk
      by_cases hi : I < n
      · have hiP : I < P.length:=by rw [← HN.out];exact hi
        have i1 : decide ((I : Int) < n)=true:=decide_eq_true (by omega)
        have i2 : decide (I < n)=true:=decide_eq_true hi
        have hS1:=Lib.hid (fun W h => HS.out I hiP W h)
        cases hst : star P[I]
        · rw [hst] at hS1
          have hF1:=Lib.hid (fun W h => HF.out I K hiP hkT W h)
          cases hft : fits P[I] T[K]
          · rw [hft] at hF1
            have hno:=globs.no_sign (star:=star) (fits:=fits) hiP hkT hst hft
            have HNO:=Lib.hid hno
            clear hno hst hft
            cases L with
            | none =>
              have fin:=Lib.hid (hI.out.fail HNO.out)
              have l0 : lastI none=-1:=rfl
              have l1 : decide ((0 : Int)≤lastI none)=false:=decide_eq_false (by omega)
              have l2 : ¬ (0 : Int)≤lastI none:=by omega
              clear l0
              generalize lastI none=la at *
              go_wp2_with fail
              refine (hS1.out _ hb).mono ?_
              rintro e w1 ⟨rfl,b1⟩
              go_wp2_with fail
              refine (hF1.out _ (HBS b1)).mono ?_
              rintro e w2 ⟨rfl,b2⟩
              go_wp2_with fail
              go_ret
              exact ⟨ret_bool (by rw [fin.out]),HBS (b1.trans (b2.mono b1.size))⟩
            | some l =>
              have nx:=Lib.hid (hI.out.back hkT HNO.out)
              have hrk:=globs.rank_back (n:=n) (m:=m) (f:=F) (k:=K) (last:=some l) hFK hk
              rw [← rankI_eq,← rankI_eq] at hrk
              have HRK:=Lib.hid hrk
              have hla : lastI (some l)=(l : Int):=rfl
              have l1 : decide ((0 : Int)≤(l : Int))=true:=decide_eq_true (by omega)
              rw [hla] at HRK lb1 lb2 ⊢
              clear hrk hla
              go_wp2_with fail
              refine (hS1.out _ hb).mono ?_
              rintro e w1 ⟨rfl,b1⟩
              go_wp2_with fail
              refine (hF1.out _ (HBS b1)).mono ?_
              rintro e w2 ⟨rfl,b2⟩
              go_wp2_with fail
              go_roundw
              case rel => exact ⟨l + 1,F + 1,F + 1,some l,by go_num,rfl,by go_num,by go_num,nx,HBS (b1.trans (b2.mono b1.size))⟩
              case measure => have h:=HRK.out;simp [intOf] at h ⊢;exact h
          · rw [hft] at hF1
            have nx:=Lib.hid (hI.out.step hiP hkT hst hft)
            have hrk:=globs.rank_step (n:=n) (m:=m) (f:=F) (k:=K) (last:=L) hk
            rw [← rankI_eq,← rankI_eq] at hrk
            have HRK:=Lib.hid hrk
            clear hrk hst hft
            generalize hla : lastI L=la at *
            have HLA:=Lib.hid hla
            clear hla
            go_wp2_with fail
            refine (hS1.out _ hb).mono ?_
            rintro e w1 ⟨rfl,b1⟩
            go_wp2_with fail
            refine (hF1.out _ (HBS b1)).mono ?_
            rintro e w2 ⟨rfl,b2⟩
            go_wp2_with fail
            go_roundw
            case rel => exact ⟨I + 1,K + 1,F,L,by go_num,by rw [HLA.out],rfl,by go_num,nx,HBS (b1.trans (b2.mono b1.size))⟩
            case measure => have h:=HRK.out;simp [intOf] at h ⊢;exact h
        · rw [hst] at hS1
          have nx:=Lib.hid (hI.out.onStar hiP hst)
          have hrk:=globs.rank_star (n:=n) (m:=m) (i:=I) (k:=K) (f:=K) (from_:=F) (k':=K) (last:=L) hi (fun l hl => (hI.out.hl l hl).1) hKm
          rw [← rankI_eq,← rankI_eq] at hrk
          have HRK:=Lib.hid hrk
          clear hrk hst
          generalize lastI L=la at *
          go_wp2_with fail
          refine (hS1.out _ hb).mono ?_
          rintro e w1 ⟨rfl,b1⟩
          go_wp2_with fail
          go_roundw
          case rel => exact ⟨I + 1,K,K,some I,by go_num,rfl,rfl,rfl,nx,HBS b1⟩
          case measure => have h:=HRK.out;simp [intOf,lastI] at h ⊢;exact h
      · have hIe : I=P.length:=by rw [← HN.out];omega
        have i1 : decide ((I : Int) < n)=false:=decide_eq_false (by omega)
        have i2 : decide (I < n)=false:=decide_eq_false hi
        have HNO : Hid (globs.glob star fits (P.drop I) (T.drop K)=false):=Lib.hid (by rw [hIe];exact globs.no_end hkT)
        clear hIe
        cases L with
        | none =>
          have fin:=Lib.hid (hI.out.fail HNO.out)
          have l0 : lastI none=-1:=rfl
          have l1 : decide ((0 : Int)≤lastI none)=false:=decide_eq_false (by omega)
          have l2 : ¬ (0 : Int)≤lastI none:=by omega
          clear l0
          generalize lastI none=la at *
          go_wp2_with fail
          go_ret
          exact ⟨ret_bool (by rw [fin.out]),hb⟩
        | some l =>
          have nx:=Lib.hid (hI.out.back hkT HNO.out)
          have hrk:=globs.rank_back (n:=n) (m:=m) (f:=F) (k:=K) (last:=some l) hFK hk
          rw [← rankI_eq,← rankI_eq] at hrk
          have HRK:=Lib.hid hrk
          have hla : lastI (some l)=(l : Int):=rfl
          have l1 : decide ((0 : Int)≤(l : Int))=true:=decide_eq_true (by omega)
          rw [hla] at HRK lb1 lb2 ⊢
          clear hrk hla
          go_wp2_with fail
          go_roundw
          case rel => exact ⟨l + 1,F + 1,F + 1,some l,by go_num,rfl,by go_num,by go_num,nx,hb⟩
          case measure => have h:=HRK.out;simp [intOf] at h ⊢;exact h
    · obtain rfl : K=m:=by omega
      have k1 : decide ((K : Int) < K)=false:=decide_eq_false (by omega)
      have hdone : Hid (globs.glob star fits P T=globs.glob star fits (P.drop I) []):=Lib.hid (by
        have h:=hI.out
        rw [HM.out] at h
        exact h.done)
      generalize lastI L=la at *
      go_wp2_with fail
      go_loopw [9] (fun i wq => ∃ J : Nat,J≤n∧i=.int .i64 J∧Hid (globs.glob star fits P T=globs.glob star fits (P.drop J) [])∧Below G w wq) (fun i _ => n - (intOf i).toNat)
      case atStart => exact ⟨I,hIn,rfl,hdone,hb⟩
      case round =>
        obtain ⟨J,hJ,rfl,hd,hbq⟩:=hrel
        have hbs2 : ∀ {w1 : World},Below wr.heap.size wr w1→Below G w w1:=fun h => hbq.trans (h.mono (by rw [HG.out];exact hbq.size))
        have HBS2:=@hbs2
        clear hbs2
        by_cases hj : J < n
        · have hjP : J < P.length:=by rw [← HN.out];exact hj
          have i1 : decide ((J : Int) < n)=true:=decide_eq_true (by omega)
          have i2 : decide (J < n)=true:=decide_eq_true hj
          have hS1:=Lib.hid (fun W h => HS.out J hjP W h)
          cases hst : star P[J]
          · rw [hst] at hS1
            have fin:=Lib.hid (hd.out.trans (globs.tail_sign hjP hst))
            have e1 : ((J : Int) == n)=false:=beq_eq_false_iff_ne.2 (by omega)
            clear hst
            go_wp2_with fail
            refine (hS1.out _ hbq).mono ?_
            rintro e w1 ⟨rfl,b1⟩
            go_wp2_with fail
            go_ret
            exact ⟨ret_bool (by rw [fin.out]),HBS2 b1⟩
          · rw [hst] at hS1
            have nx:=Lib.hid (hd.out.trans (globs.tail_star hjP hst))
            clear hst
            go_wp2_with fail
            refine (hS1.out _ hbq).mono ?_
            rintro e w1 ⟨rfl,b1⟩
            go_wp2_with fail
            go_roundw
            case rel => exact ⟨J + 1,by omega,by go_num,nx,HBS2 b1⟩
            case measure => simp [intOf];omega
        · obtain rfl : J=n:=by omega
          have fin:=Lib.hid (hd.out.trans (show globs.glob star fits (P.drop J) []=true by rw [show J=P.length from HN.out];exact globs.tail_end P))
          have i1 : decide ((J : Int) < J)=false:=decide_eq_false (by omega)
          go_wp2_with fail
          go_ret
          exact ⟨ret_bool (by rw [fin.out]),hbq⟩
end
end Go.Proofs.YtphmhmdcaafmdaaGreatDoor
