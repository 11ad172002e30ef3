import Derived.Test.YtphmhmdcaafmdaaGreatDoorTree
namespace Go.Proofs.YtphmhmdcaafmdaaGreatDoor
set_option linter.all false
open Go.RowKit
theorem DirsOwn.typed {w : World} {base : Nat} {v : Value} {l : List (List UInt8)} (h : DirsOwn w base v l) : ∀ g,v.ownBlock=some g→∃ C t fr,w.heap[g]?=some (.cells C t fr)∧t≠29∧t≠5:=fun g e => by
  obtain ⟨_,C,fr,hC⟩:=own_typed h e
  exact ⟨C,_,fr,hC,by decide,by decide⟩
theorem DirsOwn.ge {w : World} {base : Nat} {v : Value} {l : List (List UInt8)} (h : DirsOwn w base v l) : ∀ g,v.ownBlock=some g→base≤g:=fun _ e => (own_typed h e).1
theorem DirsOwn.below {w w' : World} {base : Nat} {v : Value} {l : List (List UInt8)} (h : DirsOwn w base v l) (hb : Below w.heap.size w w') : DirsOwn w' base v l:=ownsRow_below h hb
end Go.Proofs.YtphmhmdcaafmdaaGreatDoor
