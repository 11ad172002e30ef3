/-
  The laws PadBack, PadStrict: what they compute is true. Condition: at most 1048576 bytes.
-/
import Derived.Test.YtjbpoijefkbllaaDoorPads
import Derived.Test.YtjbpoijefkbllaaDoorSum
import Derived.Test.YtjbpoijefkbllaaDoorFields
namespace Go.Proofs.YtjbpoijefkbllaaDoor
open Go.RowKit

def padB (l : List UInt8) : List UInt8 := l ++ List.replicate (lackN l.length) 0
theorem fillL_map (l : List UInt8) : fillL (l.map ofB) = (padB l).map ofB := by
  unfold fillL padB
  rw [List.map_append, List.map_replicate, List.length_map]; rfl
theorem padB_length (l : List UInt8) : (padB l).length = kN l.length * 512 := by
  unfold padB lackN kN; simp; omega
theorem ownL {w : World} {base : Nat} {v : Value} {l : List UInt8} (h : w.ownsRow base 5 1 v l.length ((l.map ofB).map (.int .u8))) : BytesAt w w.heap.size v l := own_at h rfl

theorem Fill_bytes (v : Value) (l : List UInt8) (B : Nat) (w : World) (hl : BytesAt w B v l) (hB : B ≤ w.heap.size) (hn : l.length ≤ 1000000000) :
    Calls Tryd.prog 64 #[v] w fun e w' => ∃ v', e = .returned v' ∧ w'.ownsRow w.heap.size 5 1 v' (padB l).length (((padB l).map ofB).map (.int .u8)) ∧ Below w.heap.size w w' := by
  refine (Fill_any v (l.map ofB) B w hl hB (by rw [List.length_map]; exact hn)).mono fun e w' ⟨v', h1, h2, h3⟩ => ⟨v', h1, ?_, h3⟩
  rw [fillL_map, List.length_map] at h2
  exact h2
end Go.Proofs.YtjbpoijefkbllaaDoor
