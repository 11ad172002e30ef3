import Derived.Test.YtphmhmdcaafmdaaGreatDoorMembers
import Derived.Test.YtphmhmdcaafmdaaGreatDoorTreeV
namespace Go.Proofs.YtphmhmdcaafmdaaGreatDoor
set_option linter.all false
open Go.RowKit
def one (b : Bool) : Nat:=if b then 1 else 0
theorem recT_len1 (r : RecS) : 1≤(recT r).length:=by
  have h : 1≤(restR r).length:=by unfold restR;simp
  unfold recT
  rw [List.length_append]
  omega
theorem paxT_len1 : ∀ {l : List RecS},l≠[]→1≤(paxT l).length
  | [],h => absurd rfl h
  | r :: l,_ => by
    have:=recT_len1 r
    unfold paxT
    rw [List.map_cons,List.flatten_cons,List.length_append]
    omega
theorem memB_blocks {x : EntP} (h : EntOk x) : (packR x=[]→(memB x).length=(1 + kN x.data.length) * 512)∧(packR x≠[]→(kN x.data.length + 3) * 512≤(memB x).length)∧(memB x).length % 512=0∧(memB x).length≤100000:=by
  have h1:=padB_length x.data
  have h2:=headW_length (packH_ok h)
  have h3:=padB_length (paxT (packR x))
  have h5:=paxT_len (packR_ok h)
  have h6 : (packR x).length * 703≤7 * 703:=Nat.mul_le_mul_right _ (packR_len x)
  have h4:=headW_length (paxH_ok (paxT (packR x)).length (by omega))
  have hd:=h.data.1
  have e1 : (memB x).length=(memR (packR x)).length + (512 + kN x.data.length * 512):=by
    unfold memB
    rw [List.length_append,List.length_append,h2,h1]
  rw [e1]
  unfold kN at *
  clear h2 h1 e1
  by_cases he : packR x=[]
  · have e2 : (memR (packR x)).length=0:=by unfold memR;rw [if_pos he];rfl
    rw [e2]
    generalize x.data.length=d at *
    clear h3 h4 h5 h6
    exact ⟨fun _ => by omega,fun h => absurd he h,by omega,by omega⟩
  · have h7:=paxT_len1 he
    have e2 : (memR (packR x)).length=512 + (padB (paxT (packR x))).length:=by unfold memR;rw [if_neg he,List.length_append,h4]
    rw [e2,h3]
    clear h3 h4 e2
    generalize (paxT (packR x)).length=p at *
    generalize x.data.length=d at *
    obtain ⟨q,hq⟩ : ∃ q,q=(p + 511) / 512:=⟨_,rfl⟩
    obtain ⟨f,hf⟩ : ∃ f,f=(d + 511) / 512:=⟨_,rfl⟩
    have q1 : 1≤q:=by omega
    have q2 : q≤12:=by omega
    have q3 : f≤5:=by omega
    rw [← hq,← hf]
    clear hq hf h7 h5 h6 hd
    exact ⟨fun h => absurd h he,fun _ => by omega,by omega,by omega⟩
end Go.Proofs.YtphmhmdcaafmdaaGreatDoor
