/-
  The library's table of powers of ten, as a row lists it; strconv.Itoa. Condition: the table lies as Go laid it.
-/
import Derived.Test.YtbjgfonlamcifaaDoorStr
import Derived.Test.YtbjgfonlamcifaaDoorShelf
import Derived.LaidSub
import Derived.LaidHandle
import Derived.Lib.AppendIntMem
import Derived.Lib.ItoaMem
namespace Go.Proofs.YtbjgfonlamcifaaDoor
open Go.RowKit

def P10 (w : World) : Prop := Lib.TabIs Tryd.prog w "internal/strconv.uint64pow10" .u64 Lib.pow10Tab
theorem P10.below {w w' : World} (h : P10 w) (hb : Below w.heap.size w w') : P10 w' := Lib.tabBelow_of_tabIs h w' hb
def ten (x : String × DataW Unit) : Bool := x.1 == "internal/strconv.uint64pow10"
theorem P10.of_laid {l : List (String × DataW Unit)} {W : World} (h : laidMetH Tryd.prog l W) (hx : l.filter ten = [("internal/strconv.uint64pow10", Lib.tabData .u64 Lib.pow10Tab)]) : P10 W := by
  have h2 := h.filter ten
  rw [hx] at h2
  exact Lib.tabIs_of_head (P := Tryd.prog) (g := 1) (t := 186) (e := 156) (n := 20) (by kernel_rfl) (by kernel_rfl) (by kernel_rfl) (by kernel_rfl) (by kernel_rfl) (by kernel_rfl) h2
theorem Itoa_any (n : Int) (hn : I64 n) (w : World) (h : P10 w) :
    Calls Tryd.prog 18 #[.int .i64 n] w fun e w' => e = .returned (.string (bs (Lib.itoa n))) ∧ Below w.heap.size w w' :=
  (Tryd.strconv_Itoa n hn.1 hn.2 w h).mono fun e w' ⟨h1, k, os, h2⟩ => ⟨h1, by rw [h2]; exact Lib.below_grow _ w (Nat.le_refl _) k os⟩
end Go.Proofs.YtbjgfonlamcifaaDoor
