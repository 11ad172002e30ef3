/-
  The library's table of powers of ten, as a row lists it; strconv.Itoa. Condition: the table lies as Go laid it.
-/
import Derived.Test.YtjglenhhgbokbaaDoorStr
import Derived.Test.YtjglenhhgbokbaaDoorShelf
import Derived.LaidSub
import Derived.LaidHandle
import Derived.Lib.AppendIntMem
import Derived.Lib.ItoaMem
namespace Go.Proofs.YtjglenhhgbokbaaDoor
open Go.RowKit

def P10 (w : World) : Prop := Lib.TabIs Tryd.prog w "internal/strconv.uint64pow10" .u64 Lib.pow10Tab
theorem P10.below {w w' : World} (h : P10 w) (hb : Below w.heap.size w w') : P10 w' := Lib.tabBelow_of_tabIs h w' hb
def ten (x : String × DataW Unit) : Bool := x.1 == "internal/strconv.uint64pow10"
end Go.Proofs.YtjglenhhgbokbaaDoor
