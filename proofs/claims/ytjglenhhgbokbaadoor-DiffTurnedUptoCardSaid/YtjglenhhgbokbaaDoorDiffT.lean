/-
  The changes the other way round, plainly. No program in sight, no condition.
-/
import Derived.Test.YtjglenhhgbokbaaDoorDiffP
namespace Go.Proofs.YtjglenhhgbokbaaDoor
open Go.RowKit

def turnK (k : Int) : Int := if k = 1 then 2 else if k = 2 then 1 else k
theorem stay_comm (x y : NodeP) : stayB y x = stayB x y := by
  rw [Bool.eq_iff_iff, stay_iff, stay_iff]
  exact eq_comm
theorem diffP_turn (a b : List NodeP) : ((diffP b a).map fun c => (c.1, c.2.path)) = (diffP a b).map fun c => (turnK c.1, c.2.path) := by
  induction a, b using diffP.induct with
  | case1 b =>
    cases b with
    | nil => rw [diffP]; rfl
    | cons y b => rw [diffP, diffP, List.map_map, List.map_map]; rfl
  | case2 x a => rw [diffP, diffP, List.map_map, List.map_map]; rfl
  | case3 x a y b h ih =>
    have hc : cmpP y.path x.path = -cmpP x.path y.path := cmpL_neg _ _
    rw [diffP, diffP, if_neg (by omega), if_pos (by omega), if_pos h, List.map_cons, List.map_cons, ih]
    rfl
  | case4 x a y b h1 h2 ih =>
    have hc : cmpP y.path x.path = -cmpP x.path y.path := cmpL_neg _ _
    rw [diffP, diffP, if_pos (by omega), if_neg h1, if_pos h2, List.map_cons, List.map_cons, ih]
    rfl
  | case5 x a y b h1 h2 h3 ih =>
    have hc : cmpP y.path x.path = -cmpP x.path y.path := cmpL_neg _ _
    rw [diffP, diffP, if_neg (by omega), if_neg (by omega), if_pos (by rw [stay_comm]; exact h3), if_neg h1, if_neg h2, if_pos h3, ih]
  | case6 x a y b h1 h2 h3 ih =>
    have hc : cmpP y.path x.path = -cmpP x.path y.path := cmpL_neg _ _
    have he : x.path = y.path := parts_inj (cmpL_zero (show cmpL (partsS x.path) (partsS y.path) = 0 from by have : cmpP x.path y.path = 0 := by omega
                                                                                                             exact this))
    rw [diffP, diffP, if_neg (by omega), if_neg (by omega), if_neg (by rw [stay_comm]; exact h3), if_neg h1, if_neg h2, if_neg h3, List.map_cons, List.map_cons, ih, he]
    rfl
end Go.Proofs.YtjglenhhgbokbaaDoor
