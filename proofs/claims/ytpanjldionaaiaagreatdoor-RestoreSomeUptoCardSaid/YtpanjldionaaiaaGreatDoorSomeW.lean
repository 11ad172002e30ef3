/-
  restore.Tree over the archive of a good tree: the tree told anew. Condition: the library's table of powers of ten lies as Go laid it.
  restore.Some over an archived tree: what it keeps. No condition but the tree's own.
-/
import Derived.Test.YtpanjldionaaiaaGreatDoorWriteB
import Derived.Test.YtpanjldionaaiaaGreatDoorPlanTree
import Derived.Test.YtpanjldionaaiaaGreatDoorSomeP
import Derived.Test.YtpanjldionaaiaaGreatDoorFilterQ
namespace Go.Proofs.YtpanjldionaaiaaGreatDoor
set_option linter.all false
open Go.RowKit
set_option maxRecDepth 100000 in
set_option maxHeartbeats 4000000 in
theorem RTree_back (t : List NodeP) (ht : TreeOk t) (v : Value) (w : World) (hm : ∀ W, Below w.heap.size w W → ML W) (h10 : ∀ W, Below w.heap.size w W → P10 W) (hv : BytesAt w w.heap.size v (arcB (planP t) ++ endB)) :
    Calls Tryz.prog 19 #[v] w fun e w' => ∃ tv, e = .returned (.tuple #[tv, .int .i64 0]) ∧ NodesOwn w' w.heap.size tv (anewP t) ∧ Below w.heap.size w w' := by
  have HA := Lib.hid (Archive_back (planP t) (plan_ok ht) v w hm h10 hv)
  have HPT := Lib.hid (fun W lv (hb : Below w.heap.size w W) (h : EntsOwn W w.heap.size lv (planP t)) => (show Calls Tryz.prog 58 #[lv] W fun e w' => ∃ tv, e = .returned (.tuple #[tv, .int .i64 0]) ∧ NodesOwn w' W.heap.size tv (anewP t) ∧ Below W.heap.size W w' by
    obtain ⟨xs, hx⟩ := EntsRow.at_ h
    exact PTree_ok lv t xs W (fun W' hb' => hm W' (hb.trans (hb'.mono hb.size))) hx ht))
  obtain ⟨A, c, ev, -⟩ := hv
  rw [List.length_map] at ev
  subst ev
  generalize (arcB (planP t) ++ endB).length = L at *
  clear hm h10 ht
  generalize planP t = x at *
  generalize anewP t = y at *
  go_enter Tryz.func19, Tryz.ntmps19
  go_wp2_with fail
  refine HA.out.mono ?_
  rintro e w1 ⟨lv, rfl, hlv, b1⟩
  have HL1 := Lib.hid hlv
  obtain ⟨A1, c1, rfl, -⟩ := hlv.slice
  have HB := Lib.hid b1
  clear hlv b1 HA
  go_wp2_with fail
  refine (HPT.out _ _ HB.out HL1.out).mono ?_
  rintro e w2 ⟨tv, rfl, htv, b2⟩
  have HT2 := Lib.hid (htv.mono HB.out.size)
  have HB2 := Lib.hid (HB.out.trans (b2.mono HB.out.size))
  clear htv b2 HPT HL1 HB
  go_wp2_with fail
  go_ret2
  exact ⟨_, rfl, HT2.out, HB2.out⟩
end Go.Proofs.YtpanjldionaaiaaGreatDoor
namespace Go.Proofs.YtpanjldionaaiaaGreatDoor
set_option linter.all false
open Go.RowKit
def RsSt (w : World) (l : List NodeP) (s : List UInt8) (k : Nat) (v : Value) (W : World) : Prop := Below w.heap.size w W ∧ NodesRow W w.heap.size v (someT (l.take k) s)
theorem RsSt.below {w W W' : World} {l : List NodeP} {s : List UInt8} {k : Nat} {v : Value} (h : RsSt w l s k v W) (hb : Below W.heap.size W W') : RsSt w l s k v W' := ⟨h.1.trans (hb.mono h.1.size), h.2.below hb⟩
theorem someT_length (t : List NodeP) (s : List UInt8) : (someT t s).length ≤ t.length := List.length_filter_le _ _
theorem PIn_any (x y : List UInt8) (hy : y.length ≤ 1000) (W : World) : Calls Tryz.prog 26 #[.string (bs x), .string (bs y)] W fun e w' => e = .returned (.bool (inB x y)) ∧ W = w' := by
  have h := In_any (bs x) (bs y) (by rw [bs_size]; omega) W
  rw [bs_data, bs_data] at h
  exact h
theorem some_cases (s p : List UInt8) : (p = s ∧ someB s p = true) ∨ (p ≠ s ∧ inB p s = true ∧ someB s p = true) ∨ (p ≠ s ∧ inB p s = false ∧ inB s p = true ∧ someB s p = true) ∨ (p ≠ s ∧ inB p s = false ∧ inB s p = false ∧ someB s p = false) := by
  unfold someB
  by_cases h : p = s
  · exact .inl ⟨h, by simp [h]⟩
  · have hb : (p == s) = false := by simpa using h
    rw [hb]
    cases h1 : inB p s <;> cases h2 : inB s p <;> simp [h]
set_option maxRecDepth 100000 in
set_option maxHeartbeats 8000000 in
theorem RSome_ok (t : List NodeP) (ht : TreeOk t) (i : Nat) (hi : i < t.length) (v : Value) (w : World) (hm : ∀ W, Below w.heap.size w W → ML W) (h10 : ∀ W, Below w.heap.size w W → P10 W) (hv : BytesAt w w.heap.size v (arcB (planP t) ++ endB)) :
    Calls Tryz.prog 24 #[v, .string (bs t[i].path)] w fun e w' => ∃ tv, e = .returned (.tuple #[tv, .int .i64 0]) ∧ NodesOwn w' w.heap.size tv (someT (anewP t) t[i].path) ∧ Below w.heap.size w w' := by
  have HRT := Lib.hid (RTree_back t ht v w hm h10 hv)
  have hfi := anew_find ht hi
  have hsl := (ht.node t[i] (List.getElem_mem _)).path.2
  have hto := anew_ok ht
  have hlen := hto.len
  obtain ⟨Av, cv, evb, -⟩ := hv
  generalize (List.map ofB (arcB (planP t) ++ endB)).length = nv at evb
  subst evb
  generalize anewP t = a at *
  generalize t[i].path = s at *
  have HFN := Lib.hid (fun W tv (h : NodesAt W tv a) => (show Calls Tryz.prog 27 #[tv, .string (bs s)] W fun e w' => e = .returned (findR (some i)) ∧ Below W.heap.size W w' by
    have h := Find_any tv a s W h
    rw [hfi] at h
    exact h))
  have HOK := Lib.hid hto.node
  have HPI := Lib.hid (fun p W => PIn_any p s (by omega) W)
  have hfl := someT_length a s
  have HFOK : Hid (∀ x ∈ someT a s, x.data.length ≤ 100000) := Lib.hid (fun x hx => by
    have := (HOK.out x ((List.mem_filter.1 hx).1)).data.1
    omega)
  obtain ⟨i9, hi9, hy0, hy1, hy2⟩ := info_parts nodeinfo
  unfold findR at HFN
  clear hfi hm h10 hto ht hi t
  go_enter Tryz.func24, Tryz.ntmps24
  go_wp2_with fail
  refine HRT.out.mono ?_
  rintro e w1 ⟨tv, rfl, htv, b1⟩
  have HB1 := Lib.hid b1
  have HN1 := Lib.hid htv.at_
  obtain ⟨_, A, c, -, hte, hlc, hc, -⟩ := htv.at_
  subst hte
  unfold maxLen at hc
  clear htv b1 HRT
  go_wp2_with fail
  refine (HFN.out _ _ HN1.out).mono ?_
  rintro e w2 ⟨rfl, b2⟩
  have HN := Lib.hid (HN1.out.below b2)
  have HB2 := Lib.hid (HB1.out.trans (b2.mono HB1.out.size))
  have H0 : Hid (RsSt w2 a s 0 (.slice none 0 0) w2) := Lib.hid ⟨Below.refl _ _, by rw [List.take_zero]; exact NodesRow.nil _ _⟩
  clear b2 HB1 HN1 HFN
  go_wp2_with fail
  go_loopg [10, 32] a.length (fun gg s10 s32 wr => ∃ k : Nat, k ≤ a.length ∧ a.length - k ≤ gg ∧ s32 = .int .i64 k ∧ Hid (RsSt w2 a s k s10 wr))
  case atStart => exact ⟨0, Nat.zero_le _, by omega, rfl, H0⟩
  case round =>
    obtain ⟨k, hk, hg, rfl, HS⟩ := hrel
    by_cases hlt : k < a.length
    · have hltz : (k : Int) < (a.length : Int) := by omega
      obtain ⟨ad, Ax, cx, rfl, hb, hdx, e0, e1, e2, e3, e4, e5, e6, e7, e8, e9, e10, e11⟩ := node_read (HN.out.below HS.out.1) hlt
      have hpl := (HOK.out _ (List.getElem_mem hlt)).path.2
      have HST := Lib.hid (someT_snoc a s hlt)
      have hfk := someT_length (a.take k) s
      rw [List.length_take] at hfk
      obtain ⟨x, hx⟩ : ∃ x, x = a[k] := ⟨_, rfl⟩
      rw [← hx] at hdx hpl HST e0 e1 e2 e3 e4 e5 e6 e7 e8 e9 e10 e11
      clear hx
      obtain ⟨_, A8, c8, -, h8e, hc81, hc82, -⟩ := HS.out.2.at_
      unfold maxLen at hc82
      obtain ⟨F, hF⟩ : ∃ F, F = someT (a.take k) s := ⟨_, rfl⟩
      rw [← hF] at HST hfk hc81 h8e
      subst h8e
      have HFE := Lib.hid hF
      clear hF
      obtain ⟨np, nk, ns, nt, ⟨o1, o2, o3, o4, o5, o6, o7⟩, nd⟩ := x
      simp only at hdx hpl HST e0 e1 e2 e3 e4 e5 e6 e7 e8 e9 e10 e11
      obtain ⟨W2, hW2⟩ : ∃ W2, W2 = wr.alloc (.cells #[.string (bs np), .int .i64 nk, .int .i64 ns, .string (bs nt), .int .i64 o1, .int .i64 o2, .int .i64 o3, .string (bs o4), .string (bs o5), .int .i64 o6, .int .i64 o7, .slice Ax nd.length cx] 58) := ⟨_, rfl⟩
      obtain ⟨gn, hgn⟩ : ∃ gn, gn = wr.heap.size := ⟨_, rfl⟩
      have b2 : Below wr.heap.size wr W2 := by rw [hW2]; exact (Below.refl _ _).alloc (Nat.le_refl _) _
      have K2 : Blk W2 gn 58 (nodeC (⟨np, nk, ns, nt, ⟨o1, o2, o3, o4, o5, o6, o7⟩, nd⟩, .slice Ax nd.length cx)).toArray := by rw [hW2, hgn]; exact Blk.new _ _ _
      have HS2 := Lib.hid (HS.out.below b2)
      have HK2 := Lib.hid K2
      have HD2 := Lib.hid (hdx.below b2)
      have HPS := Lib.hid (fun W => PIn_any s np (by omega) W)
      clear b2 K2 hdx HS
      go_upto_region 11 with fail
      rw [← hW2, ← hgn]
      clear hW2 hgn e0 e1 e2 e3 e4 e5 e6 e7 e8 e9 e10 e11
      obtain ⟨m0, m1, m2, m3, m4, m5, m6, m7, m8, m9, m10, m11⟩ := HK2.out.node
      obtain ⟨ys, hys, hyo, hyd⟩ := HS2.out.2
      rw [← HFE.out] at hys hyo
      have HYS := Lib.hid hys
      have HYO := Lib.hid hyo
      have HYD := Lib.hid hyd
      have hsz := HS2.out.1.size
      clear hys hyo hyd
      rcases some_cases s np with ⟨q1, q2⟩ | ⟨q1, q3, q2⟩ | ⟨q1, q3, q4, q2⟩ | ⟨q1, q3, q4, q2⟩
      · have HE : Hid (someT (a.take (k + 1)) s = F ++ [⟨np, nk, ns, nt, ⟨o1, o2, o3, o4, o5, o6, o7⟩, nd⟩]) := Lib.hid (by rw [HST.out, if_pos q2])
        subst q1
        clear HST q2
        go_wp2_with (at_builtin; refine wpList_append_any _ rfl (.tmp 52) (.tmp 54) _ rfl w2.heap.size 58 i9 _ 12 144 Tryz.underlying24 hi9 hy0 hy1 hy2 rfl (by omega) _ F.length (ys.flatMap nodeC) rfl (ownsRow_below HYO.out ((Below.refl _ _).alloc (Nat.le_refl _) _)) (W2.heap.size + 1) (some ⟨W2.heap.size, 0, none⟩) 1 1 (nodeC (⟨np, nk, ns, nt, ⟨o1, o2, o3, o4, o5, o6, o7⟩, nd⟩, .slice Ax nd.length cx)) rfl (new_row W2 58 (nodeC (⟨np, nk, ns, nt, ⟨o1, o2, o3, o4, o5, o6, o7⟩, nd⟩, .slice Ax nd.length cx)) 1 12 rfl) (one_node _ rfl) (by simp only [maxLen]; omega) (by omega) (by simp; omega) ?_; intro v9 w9 hown9 hg9 hat9; obtain ⟨A9, c9, hv9, -⟩ := ownsRow_read hown9; subst hv9; have HO9 := Lib.hid hown9; have HG9 := Lib.hid hg9; clear hown9 hg9 hat9)
        go_roundg (a.length - (k + 1))
        case measure => omega
        case rel =>
            have bA := (Below.refl W2.heap.size W2).alloc (Nat.le_refl _) (.cells (nodeC (⟨np, nk, ns, nt, ⟨o1, o2, o3, o4, o5, o6, o7⟩, nd⟩, .slice Ax nd.length cx)).toArray 58)
            refine ⟨k + 1, by omega, by omega, by go_num, Lib.hid ⟨(HS2.out.1.trans (bA.mono hsz)).grown HG9.out (Nat.le_trans hsz bA.size) (fun g hg => (own_typed (ownsRow_below HYO.out bA) hg).1), ?_⟩⟩
            rw [HE.out]
            exact NodesRow.snoc HYS.out (fun y hy => (HYD.out y hy).below bA) (HD2.out.below bA) (ownsRow_below HYO.out bA) HG9.out HO9.out
      · have HE : Hid (someT (a.take (k + 1)) s = F ++ [⟨np, nk, ns, nt, ⟨o1, o2, o3, o4, o5, o6, o7⟩, nd⟩]) := Lib.hid (by rw [HST.out, if_pos q2])
        have r1 : ((bs np).toList == (bs s).toList) = false := by rw [bs_toList, bs_toList]; simpa using q1
        have HI1 := Lib.hid (fun W => HPI.out np W)
        rw [q3] at HI1
        clear HST q1 q2 q3
        go_wp2_with fail
        refine (HI1.out _).mono ?_
        rintro e w' ⟨rfl, rfl⟩
        go_wp2_with (at_builtin; refine wpList_append_any _ rfl (.tmp 52) (.tmp 54) _ rfl w2.heap.size 58 i9 _ 12 144 Tryz.underlying24 hi9 hy0 hy1 hy2 rfl (by omega) _ F.length (ys.flatMap nodeC) rfl (ownsRow_below HYO.out ((Below.refl _ _).alloc (Nat.le_refl _) _)) (W2.heap.size + 1) (some ⟨W2.heap.size, 0, none⟩) 1 1 (nodeC (⟨np, nk, ns, nt, ⟨o1, o2, o3, o4, o5, o6, o7⟩, nd⟩, .slice Ax nd.length cx)) rfl (new_row W2 58 (nodeC (⟨np, nk, ns, nt, ⟨o1, o2, o3, o4, o5, o6, o7⟩, nd⟩, .slice Ax nd.length cx)) 1 12 rfl) (one_node _ rfl) (by simp only [maxLen]; omega) (by omega) (by simp; omega) ?_; intro v9 w9 hown9 hg9 hat9; obtain ⟨A9, c9, hv9, -⟩ := ownsRow_read hown9; subst hv9; have HO9 := Lib.hid hown9; have HG9 := Lib.hid hg9; clear hown9 hg9 hat9)
        go_roundg (a.length - (k + 1))
        case measure => omega
        case rel =>
            have bA := (Below.refl W2.heap.size W2).alloc (Nat.le_refl _) (.cells (nodeC (⟨np, nk, ns, nt, ⟨o1, o2, o3, o4, o5, o6, o7⟩, nd⟩, .slice Ax nd.length cx)).toArray 58)
            refine ⟨k + 1, by omega, by omega, by go_num, Lib.hid ⟨(HS2.out.1.trans (bA.mono hsz)).grown HG9.out (Nat.le_trans hsz bA.size) (fun g hg => (own_typed (ownsRow_below HYO.out bA) hg).1), ?_⟩⟩
            rw [HE.out]
            exact NodesRow.snoc HYS.out (fun y hy => (HYD.out y hy).below bA) (HD2.out.below bA) (ownsRow_below HYO.out bA) HG9.out HO9.out
      · have HE : Hid (someT (a.take (k + 1)) s = F ++ [⟨np, nk, ns, nt, ⟨o1, o2, o3, o4, o5, o6, o7⟩, nd⟩]) := Lib.hid (by rw [HST.out, if_pos q2])
        have r1 : ((bs np).toList == (bs s).toList) = false := by rw [bs_toList, bs_toList]; simpa using q1
        have HI1 := Lib.hid (fun W => HPI.out np W)
        rw [q3] at HI1
        have HI2 := Lib.hid (fun W => HPS.out W)
        rw [q4] at HI2
        clear HST q1 q2 q3 q4
        go_wp2_with fail
        refine (HI1.out _).mono ?_
        rintro e w' ⟨rfl, rfl⟩
        go_wp2_with fail
        refine (HI2.out _).mono ?_
        rintro e w' ⟨rfl, rfl⟩
        go_wp2_with (at_builtin; refine wpList_append_any _ rfl (.tmp 52) (.tmp 54) _ rfl w2.heap.size 58 i9 _ 12 144 Tryz.underlying24 hi9 hy0 hy1 hy2 rfl (by omega) _ F.length (ys.flatMap nodeC) rfl (ownsRow_below HYO.out ((Below.refl _ _).alloc (Nat.le_refl _) _)) (W2.heap.size + 1) (some ⟨W2.heap.size, 0, none⟩) 1 1 (nodeC (⟨np, nk, ns, nt, ⟨o1, o2, o3, o4, o5, o6, o7⟩, nd⟩, .slice Ax nd.length cx)) rfl (new_row W2 58 (nodeC (⟨np, nk, ns, nt, ⟨o1, o2, o3, o4, o5, o6, o7⟩, nd⟩, .slice Ax nd.length cx)) 1 12 rfl) (one_node _ rfl) (by simp only [maxLen]; omega) (by omega) (by simp; omega) ?_; intro v9 w9 hown9 hg9 hat9; obtain ⟨A9, c9, hv9, -⟩ := ownsRow_read hown9; subst hv9; have HO9 := Lib.hid hown9; have HG9 := Lib.hid hg9; clear hown9 hg9 hat9)
        go_roundg (a.length - (k + 1))
        case measure => omega
        case rel =>
            have bA := (Below.refl W2.heap.size W2).alloc (Nat.le_refl _) (.cells (nodeC (⟨np, nk, ns, nt, ⟨o1, o2, o3, o4, o5, o6, o7⟩, nd⟩, .slice Ax nd.length cx)).toArray 58)
            refine ⟨k + 1, by omega, by omega, by go_num, Lib.hid ⟨(HS2.out.1.trans (bA.mono hsz)).grown HG9.out (Nat.le_trans hsz bA.size) (fun g hg => (own_typed (ownsRow_below HYO.out bA) hg).1), ?_⟩⟩
            rw [HE.out]
            exact NodesRow.snoc HYS.out (fun y hy => (HYD.out y hy).below bA) (HD2.out.below bA) (ownsRow_below HYO.out bA) HG9.out HO9.out
      · have HE : Hid (someT (a.take (k + 1)) s = F) := Lib.hid (by rw [HST.out, if_neg (by rw [q2]; exact Bool.false_ne_true)])
        have r1 : ((bs np).toList == (bs s).toList) = false := by rw [bs_toList, bs_toList]; simpa using q1
        have HI1 := Lib.hid (fun W => HPI.out np W)
        rw [q3] at HI1
        have HI2 := Lib.hid (fun W => HPS.out W)
        rw [q4] at HI2
        clear HST q1 q2 q3 q4
        go_wp2_with fail
        refine (HI1.out _).mono ?_
        rintro e w' ⟨rfl, rfl⟩
        go_wp2_with fail
        refine (HI2.out _).mono ?_
        rintro e w' ⟨rfl, rfl⟩
        go_wp2_with fail
        go_roundg (a.length - (k + 1))
        case measure => omega
        case rel => exact ⟨k + 1, by omega, by omega, by go_num, Lib.hid ⟨HS2.out.1, by rw [HE.out]; have h := HS2.out.2; rw [← HFE.out] at h; exact h⟩⟩
    · obtain rfl : k = a.length := by omega
      have HNO := Lib.hid HS.out.2.at_
      rw [List.take_length] at HNO
      have HCP := Lib.hid (Copy_any _ _ wr HNO.out (by omega) HFOK.out)
      obtain ⟨_, A8, c8, -, h8e, hc81, hc82, -⟩ := HNO.out
      subst h8e
      go_wp2_with fail
      refine HCP.out.mono ?_
      rintro e w3 ⟨uv, rfl, huv, b3⟩
      have HBW := Lib.hid (HB2.out.trans (HS.out.1.mono HB2.out.size))
      have HU := Lib.hid (huv.mono HBW.out.size)
      have HB3 := Lib.hid (HBW.out.trans (b3.mono HBW.out.size))
      obtain ⟨_, Au, cu, -, hue, -⟩ := huv.at_
      subst hue
      clear huv b3 HCP
      go_wp2_with fail
      go_ret2
      exact ⟨_, rfl, HU.out, HB3.out⟩
end Go.Proofs.YtpanjldionaaiaaGreatDoor
