/-
  creelkeep.paths: the paths of a grown tree. Condition: raw things of the second form's bound.
-/
import Derived.Test.YtngkfelhlabloaaDoorTree
namespace Go.Proofs.YtngkfelhlabloaaDoor
open Go.RowKit

def pathsL (l : List RawS) (most : Nat) : List (List UInt8) := [97] :: (treeP l most).map (·.path)
theorem pathsL_length (l : List RawS) (most : Nat) : 1 ≤ (pathsL l most).length ∧ (pathsL l most).length ≤ most + 1 := by
  unfold pathsL
  rw [List.length_cons, List.length_map]
  have := treeP_length l most
  omega
theorem DirsOwn.grown_self {w' : World} {base : Nat} {v' : Value} {l : List (List UInt8)} {p : List UInt8} (h : w'.ownsRow base 9 1 v' (l.length + 1) ((l.map fun d => Value.string (bs d)) ++ [.string (bs p)])) : DirsOwn w' base v' (l ++ [p]) := by
  unfold DirsOwn
  rw [List.length_append, List.map_append]
  exact h
theorem DirsOwn.typed {w : World} {base : Nat} {v : Value} {l : List (List UInt8)} (h : DirsOwn w base v l) : ∀ g, v.ownBlock = some g → ∃ C t fr, w.heap[g]? = some (.cells C t fr) ∧ t ≠ 46 ∧ t ≠ 5 := fun g e => by
  obtain ⟨_, C, fr, hC⟩ := own_typed h e
  exact ⟨C, _, fr, hC, by decide, by decide⟩
theorem DirsOwn.ge {w : World} {base : Nat} {v : Value} {l : List (List UInt8)} (h : DirsOwn w base v l) : ∀ g, v.ownBlock = some g → base ≤ g := fun _ e => (own_typed h e).1
theorem DirsOwn.below {w w' : World} {base : Nat} {v : Value} {l : List (List UInt8)} (h : DirsOwn w base v l) (hb : Below w.heap.size w w') : DirsOwn w' base v l := ownsRow_below h hb
theorem new_row2 (w : World) (o : Obj) (t : TypeId) (vs : List Value) (n size : Nat) (h : vs.length = n * size) : Reads ((w.alloc o).alloc (.cells vs.toArray t)) (w.heap.size + 1 + 1) size (some ⟨w.heap.size + 1, 0, none⟩) n vs := by
  have h2 := new_row (w.alloc o) t vs n size h
  rw [show (w.alloc o).heap.size = w.heap.size + 1 by simp] at h2
  exact h2
/-- in the loop of paths -/
def PaSt (w0 : World) (b1 : Nat) (tv : Value) (t : List NodeP) (pv : Value) (ps : List (List UInt8)) (w : World) : Prop := Below w0.heap.size w0 w ∧ NodesOwn w b1 tv t ∧ DirsOwn w w0.heap.size pv ps
set_option maxRecDepth 100000 in
set_option maxHeartbeats 1000000 in
theorem paths_any (l : List RawS) (v : Value) (most : Nat) (w : World) (hm : ML w) (hl : RawsAt w w.heap.size v l) (hok : ∀ x ∈ l, RawOk x) (hn : l.length ≤ 1048576) (hmost : most ≤ 40) :
    Calls Tryd.prog 15 #[v, .int .i64 most] w fun e w' => ∃ pv, e = .returned pv ∧ DirsOwn w' w.heap.size pv (pathsL l most) ∧ Below w.heap.size w w' := by
  obtain ⟨W1, hW1⟩ : ∃ W1, W1 = w.alloc (.cells #[.string ⟨#[97]⟩] 9) := ⟨_, rfl⟩
  have b1 : Below w.heap.size w W1 := by rw [hW1]; exact (Below.refl _ _).alloc (Nat.le_refl _) _
  have d1 : DirsOwn W1 w.heap.size (.slice (some ⟨w.heap.size, 0, none⟩) 1 1) [[97]] := by
    refine ⟨rfl, .inr ⟨w.heap.size, 1, #[.string ⟨#[97]⟩], rfl, Nat.le_refl _, by rw [hW1]; exact heap_alloc_new _ _, Nat.le_refl _, by simp [maxLen], by simp, rfl⟩⟩
  have HT := Lib.hid (fun (_ : Unit) => Tree_any l v most W1 (hm.below b1) ((hl.below b1).more b1.size) hok hn hmost)
  have hlen := treeP_length l most
  have HD1 := Lib.hid d1
  have HB1 := Lib.hid b1
  clear hm hl hok d1 b1
  have HPL : Hid (pathsL l most = [97] :: (treeP l most).map (·.path)) := Lib.hid rfl
  generalize treeP l most = t at *
  go_enter Tryd.func15, Tryd.ntmps15
  go_wp2_with fail
  rw [← hW1]
  have HW1 := Lib.hid hW1
  clear hW1
  refine (HT.out ()).mono ?_
  rintro e w2 ⟨tv, rfl, hno, b2⟩
  have hst : PaSt w W1.heap.size tv t (.slice (some ⟨w.heap.size, 0, none⟩) 1 1) [[97]] w2 := ⟨HB1.out.trans (b2.mono HB1.out.size), hno, ownsRow_below HD1.out b2⟩
  obtain ⟨xs, hxs, hown, hdat⟩ := id hno
  obtain ⟨At, ct, rfl, hct1, hct2, -⟩ := ownsRow_read hown
  unfold maxLen at hct2
  have HST := Lib.hid hst
  clear hno hst hown hxs hdat b2
  go_wp2_with fail
  go_loopg [5, 13] t.length (fun gg s5 s13 wr => ∃ k : Nat, k ≤ t.length ∧ t.length - k ≤ gg ∧ s13 = .int .i64 k ∧ Hid (PaSt w W1.heap.size (.slice At t.length ct) t s5 ([97] :: (t.take k).map (·.path)) wr))
  case atStart => exact ⟨0, Nat.zero_le _, by omega, rfl, HST⟩
  case round =>
    obtain ⟨k, hk, hg, rfl, HS⟩ := hrel
    by_cases hlt : k < t.length
    · have hltz : (k : Int) < (t.length : Int) := by omega
      obtain ⟨g, c, hve, -, hgl, -, -, -, hrow⟩ := HS.out.2.1.row (by omega)
      obtain ⟨rfl, rfl⟩ : At = some ⟨g, 0, none⟩ ∧ ct = c := by injection hve with h1 _ h2; exact ⟨h1, h2⟩
      clear hve
      obtain ⟨dv, hdv, c0r, hcj⟩ := hrow k hlt
      clear hrow
      obtain ⟨Ad, cd, hde, -⟩ := id hdv
      subst hde
      obtain ⟨x, hx⟩ : ∃ x, x = t[k] := ⟨_, rfl⟩
      rw [← hx] at hcj c0r
      have htk : t.take (k + 1) = t.take k ++ [x] := by rw [hx]; exact List.take_succ_eq_append_getElem hlt
      have HTK := Lib.hid htk
      clear hx htk hdv
      obtain ⟨np, nk, ns, nt, ⟨o1, o2, o3, o4, o5, o6, o7⟩, nd⟩ := x
      have c1 : wr.cell? ⟨g, k * 12 + 1, none⟩ = some (.int .i64 nk) := hcj 1 (by omega)
      have c2 : wr.cell? ⟨g, k * 12 + 2, none⟩ = some (.int .i64 ns) := hcj 2 (by omega)
      have c3 : wr.cell? ⟨g, k * 12 + 3, none⟩ = some (.string (bs nt)) := hcj 3 (by omega)
      have c4 : wr.cell? ⟨g, k * 12 + 4, none⟩ = some (.int .i64 o1) := hcj 4 (by omega)
      have c5 : wr.cell? ⟨g, k * 12 + 5, none⟩ = some (.int .i64 o2) := hcj 5 (by omega)
      have c6 : wr.cell? ⟨g, k * 12 + 6, none⟩ = some (.int .i64 o3) := hcj 6 (by omega)
      have c7 : wr.cell? ⟨g, k * 12 + 7, none⟩ = some (.string (bs o4)) := hcj 7 (by omega)
      have c8 : wr.cell? ⟨g, k * 12 + 8, none⟩ = some (.string (bs o5)) := hcj 8 (by omega)
      have c9 : wr.cell? ⟨g, k * 12 + 9, none⟩ = some (.int .i64 o6) := hcj 9 (by omega)
      have c10 : wr.cell? ⟨g, k * 12 + 10, none⟩ = some (.int .i64 o7) := hcj 10 (by omega)
      have c11 : wr.cell? ⟨g, k * 12 + 11, none⟩ = some (.slice Ad nd.length cd) := hcj 11 (by omega)
      have c0 : wr.cell? ⟨g, k * 12, none⟩ = some (.string (bs np)) := c0r
      clear hcj c0r
      obtain ⟨i9, hi9, hy0, hy1, hy2⟩ := info_parts strinfo
      have hlp : ([97] :: (t.take k).map (·.path)).length = k + 1 := by rw [List.length_cons, List.length_map, List.length_take]; omega
      have HLP := Lib.hid hlp
      clear hlp
      have hdo := HS.out.2.2
      unfold DirsOwn at hdo
      rw [HLP.out] at hdo
      obtain ⟨A5, n5, rfl, -⟩ := ownsRow_read hdo
      have HDO := Lib.hid hdo
      have hsz : w.heap.size ≤ wr.heap.size := HS.out.1.size
      clear hdo
      have bA := fun o1 o2 => ((Below.refl wr.heap.size wr).alloc (Nat.le_refl _) o1).alloc (by simp) o2
      have BA := Lib.hid bA
      clear bA
      go_wp2_with (at_builtin; refine wpList_append_any _ rfl (.tmp 17) (.tmp 20) _ rfl w.heap.size 9 i9 _ 1 16 Tryd.underlying23 hi9 hy0 hy1 hy2 rfl (by omega) _ (k + 1) _ rfl (ownsRow_below HDO.out (BA.out _ _)) (wr.heap.size + 1 + 1) (some ⟨wr.heap.size + 1, 0, none⟩) 1 1 [.string (bs np)] rfl (new_row2 wr _ 9 [.string (bs np)] 1 1 rfl) (by simp [Value.oneCell']) (by simp only [maxLen]; omega) (by omega) (by simp; omega) ?_; intro v5 w5 hown5 hg5 hat5)
      go_roundg (t.length - (k + 1))
      case measure => omega
      case rel =>
        refine ⟨k + 1, by omega, by omega, by go_num, Lib.hid ?_⟩
        rw [HTK.out, List.map_append, ← List.cons_append]
        refine ⟨(HS.out.1.trans ((BA.out _ _).mono hsz)).grown hg5 (by simp; omega) (DirsOwn.ge (v := .slice A5 (k + 1) n5) HS.out.2.2), (HS.out.2.1.below (BA.out _ _)).grown hg5 (DirsOwn.typed (v := .slice A5 (k + 1) n5) (HS.out.2.2.below (BA.out _ _))), DirsOwn.grown_self ?_⟩
        rw [HLP.out]
        exact hown5
    · obtain rfl : k = t.length := by omega
      go_wp2_with fail
      go_ret
      exact ⟨_, rfl, by rw [HPL.out]; have := HS.out.2.2; rw [List.take_length] at this; exact this, HS.out.1⟩
end Go.Proofs.YtngkfelhlabloaaDoor
