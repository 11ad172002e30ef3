import Derived.Test.YtphmhmdcaafmdaaGreatDoorTFR
import Derived.Test.YtphmhmdcaafmdaaGreatDoorTCheck
import Derived.BigQuiet
import Derived.Test.YtphmhmdcaafmdaaGreatDoorNodesG
import Derived.Test.YtphmhmdcaafmdaaGreatDoorCopyS
import Derived.Deep.CutRange
import Derived.Deep.DeepCutAuto
namespace Go.Proofs.YtphmhmdcaafmdaaGreatDoor
set_option linter.all false
open Go.RowKit
theorem Blk.node {W : World} {g : Nat} {np nt nd : List UInt8} {nk ns o1 o2 o3 o6 o7 : Int} {o4 o5 : List UInt8} {dv : Value} (h : Blk W g 29 (nodeC (⟨np,nk,ns,nt,⟨o1,o2,o3,o4,o5,o6,o7⟩,nd⟩,dv)).toArray) :
    W.cell? ⟨g,0,none⟩=some (.string (bs np))∧W.cell? ⟨g,1,none⟩=some (.int .i64 nk)∧W.cell? ⟨g,2,none⟩=some (.int .i64 ns)∧W.cell? ⟨g,3,none⟩=some (.string (bs nt))∧W.cell? ⟨g,4,none⟩=some (.int .i64 o1)∧W.cell? ⟨g,5,none⟩=some (.int .i64 o2)∧W.cell? ⟨g,6,none⟩=some (.int .i64 o3)∧W.cell? ⟨g,7,none⟩=some (.string (bs o4))∧W.cell? ⟨g,8,none⟩=some (.string (bs o5))∧W.cell? ⟨g,9,none⟩=some (.int .i64 o6)∧W.cell? ⟨g,10,none⟩=some (.int .i64 o7)∧W.cell? ⟨g,11,none⟩=some dv :=
  ⟨h.cell 0,h.cell 1,h.cell 2,h.cell 3,h.cell 4,h.cell 5,h.cell 6,h.cell 7,h.cell 8,h.cell 9,h.cell 10,h.cell 11⟩
end Go.Proofs.YtphmhmdcaafmdaaGreatDoor
namespace Go.Proofs.YtphmhmdcaafmdaaGreatDoor
set_option linter.all false
section
open Go.RowKit
end
section
open Go.RowKit
theorem cmpP_trans_lt {a b c : List UInt8} (h1 : cmpP a b < 0) (h2 : cmpP b c≤0) : cmpP a c < 0:=by
  have h3 : cmpP a c≤0:=cmpL_le _ _ _ (by unfold cmpP at h1;omega) h2
  rcases Int.lt_or_eq_of_le h3 with h | h
  · exact h
  · have e : partsS a=partsS c:=cmpL_zero h
    have : cmpP b a=-cmpP a b:=cmpL_neg _ _
    have h4 : cmpP b c=cmpP b a:=by unfold cmpP;rw [e]
    omega
theorem NodesAt.drop {w : World} {A : Option Addr} {n c : Nat} {l : List NodeP} (h : NodesAt w (.slice A n c) l) (k : Nat) (hk : k≤n) : NodesAt w (.slice (if c=k then A else A.map (·.add (k * 12))) (n - k) (c - k)) (l.drop k):=by
  obtain ⟨xs,A',c',h0,h1,h2,h3,h4,h5,h6⟩:=h
  injection h1 with e1 e2 e3
  subst e1 e2 e3
  have hxl : xs.length=l.length:=by rw [← h0,List.length_map]
  refine ⟨xs.drop k,_,_,by rw [List.map_drop,h0],by rw [List.length_drop],by rw [List.length_drop];omega,by omega,?_,?_,fun x hx => h6 x (List.mem_of_mem_drop hx)⟩
  · intro e
    split at e
    · next hc => omega
    · rw [Option.map_eq_none_iff] at e;have:=h4 e;omega
  · have h7:=h5.cut (k:=k) hk h2
    have e : (xs.flatMap nodeC).drop (k * 12)=(xs.drop k).flatMap nodeC:=by
      have h9 : xs.flatMap nodeC=(xs.take k).flatMap nodeC ++ (xs.drop k).flatMap nodeC:=by rw [← List.flatMap_append,List.take_append_drop]
      rw [h9,List.drop_left']
      rw [flat_length nodeC_length,List.length_take];congr 1;omega
    rw [e] at h7
    rw [List.length_drop]
    exact h7
theorem NodesOwn.app {w w' : World} {base : Nat} {tv v' : Value} {l m : List NodeP} {xs ys : List NodeV} (hx : xs.map (·.1)=l) (hy : ys.map (·.1)=m) (hd : ∀ x∈xs,DataAt w base x.2 x.1.data) (hn : ∀ y∈ys,DataAt w base y.2 y.1.data) (h : w.ownsRow base 29 12 tv l.length (xs.flatMap nodeC)) (hg : w.grownBy w' tv.ownBlock)
    (ho : w'.ownsRow base 29 12 v' (l.length + m.length) (xs.flatMap nodeC ++ ys.flatMap nodeC)) : NodesOwn w' base v' (l ++ m):=by
  have hk : U8Kept w w':=U8Kept.grown hg (fun g e => by
    obtain ⟨_,C,fr,hC⟩:=own_typed h e
    exact ⟨C,_,fr,hC,by decide⟩)
  refine ⟨xs ++ ys,by rw [List.map_append,hx,hy],?_,fun x hx2 => ?_⟩
  · rw [List.length_append,List.flatMap_append]
    exact ho
  · rcases List.mem_append.1 hx2 with h1 | h1
    · exact (hd x h1).kept hk
    · exact (hn x h1).kept hk
theorem node_read {w : World} {A : Option Addr} {n c : Nat} {l : List NodeP} (h : NodesAt w (.slice A n c) l) {k : Nat} (hk : k < l.length) :
    ∃ (ad : Addr) (Ax : Option Addr) (cx : Nat),A=some ad∧ad.block < w.heap.size∧DataAt w 0 (.slice Ax l[k].data.length cx) l[k].data ∧
      w.cell? (ad.add (k * 12))=some (.string (bs l[k].path)) ∧
      w.cell? ⟨(ad.add (k * 12)).block,(ad.add (k * 12)).off + 1,none⟩=some (.int .i64 l[k].kind) ∧
      w.cell? ⟨(ad.add (k * 12)).block,(ad.add (k * 12)).off + 2,none⟩=some (.int .i64 l[k].same) ∧
      w.cell? ⟨(ad.add (k * 12)).block,(ad.add (k * 12)).off + 3,none⟩=some (.string (bs l[k].target)) ∧
      w.cell? ⟨(ad.add (k * 12)).block,(ad.add (k * 12)).off + 4,none⟩=some (.int .i64 l[k].mt.mode) ∧
      w.cell? ⟨(ad.add (k * 12)).block,(ad.add (k * 12)).off + 5,none⟩=some (.int .i64 l[k].mt.uid) ∧
      w.cell? ⟨(ad.add (k * 12)).block,(ad.add (k * 12)).off + 6,none⟩=some (.int .i64 l[k].mt.gid) ∧
      w.cell? ⟨(ad.add (k * 12)).block,(ad.add (k * 12)).off + 7,none⟩=some (.string (bs l[k].mt.user)) ∧
      w.cell? ⟨(ad.add (k * 12)).block,(ad.add (k * 12)).off + 8,none⟩=some (.string (bs l[k].mt.group)) ∧
      w.cell? ⟨(ad.add (k * 12)).block,(ad.add (k * 12)).off + 9,none⟩=some (.int .i64 l[k].mt.second) ∧
      w.cell? ⟨(ad.add (k * 12)).block,(ad.add (k * 12)).off + 10,none⟩=some (.int .i64 l[k].mt.nano) ∧
      w.cell? ⟨(ad.add (k * 12)).block,(ad.add (k * 12)).off + 11,none⟩=some (.slice Ax l[k].data.length cx):=by
  obtain ⟨xs,A',c',h0,h1,h2,h3,h4,h5,h6⟩:=h
  injection h1 with e1 e2 e3
  subst e1 e2 e3
  have hxl : xs.length=l.length:=by rw [← h0,List.length_map]
  have hkx : k < xs.length:=by omega
  obtain ⟨ad,e,hb,e0,e1,e2,e3,e4,e5,e6,e7,e8,e9,e10,e11⟩:=load_node h5 hkx hk
  have hxk : xs[k].1=l[k]:=by subst h0;simp
  have hd:=h6 xs[k] (List.getElem_mem _)
  obtain ⟨Ax,cx,hde,-⟩:=id hd
  rw [hde] at hd e11
  rw [hxk] at hd e0 e1 e2 e3 e4 e5 e6 e7 e8 e9 e10 e11
  exact ⟨ad,Ax,cx,e,hb,hd,e0,e1,e2,e3,e4,e5,e6,e7,e8,e9,e10,e11⟩
end
end Go.Proofs.YtphmhmdcaafmdaaGreatDoor
