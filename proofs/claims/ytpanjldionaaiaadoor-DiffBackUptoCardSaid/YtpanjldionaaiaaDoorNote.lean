/-
  diff.Of's note: one change behind the others. Condition: the rows are short.
-/
import Derived.Test.YtpanjldionaaiaaDoorChanges
import Derived.Test.YtpanjldionaaiaaDoorCopyS
namespace Go.Proofs.YtpanjldionaaiaaDoor
set_option linter.all false
open Go.RowKit
theorem ownsRow_lower {w : World} {base : Nat} {e : TypeId} {size n : Nat} {v : Value} {xs : List Value} (h : w.ownsRow base e size v n xs) {p : Addr} (hp : p.block < base) (u : Value) : (w.setCell p u).ownsRow base e size v n xs := by
  obtain ⟨h1, h2⟩ := h
  refine ⟨h1, ?_⟩
  rcases h2 with h | ⟨k, cap, cur, hv, hb, hg, r⟩
  · exact .inl h
  · exact .inr ⟨k, cap, cur, hv, hb, (Below.heap_setCell w p u k (by omega)).trans hg, r⟩
set_option maxRecDepth 100000 in
set_option maxHeartbeats 4000000 in
theorem Note_any (kind : Int) (x : NodeV) (w : World) (g : Nat) (v : Value) (l : List (Int × NodeP)) (hx : DataAt w 0 x.2 x.1.data) (hd : x.1.data.length ≤ 100000) (hk : Blk w g 25 #[v]) (ho : ChOwn w (g + 1) v l) (hl : l.length ≤ 1000) :
    Calls Tryd.prog 22 #[.int .i64 kind, .agg (nodeC x).toArray, .pointer (some ⟨g, 0, none⟩)] w fun e w' => e = .returned (.tuple #[]) ∧ (∃ v', Blk w' g 25 #[v'] ∧ ChOwn w' (g + 1) v' (l ++ [(kind, x.1)])) ∧ Below g w w' := by
  have hgl := hk.lt
  obtain ⟨W2, hW2⟩ : ∃ W2, W2 = w.alloc (.cells (nodeC x).toArray 40) := ⟨_, rfl⟩
  have b2 : Below w.heap.size w W2 := by rw [hW2]; exact (Below.refl _ _).alloc (Nat.le_refl _) _
  have K2 : Blk W2 w.heap.size 40 (nodeC x).toArray := by rw [hW2]; exact Blk.new _ _ _
  obtain ⟨i9, hi9, hy0, hy1, hy2⟩ := info_parts chinfo
  obtain ⟨i0, hi0, hz0, hz1, hz2⟩ := info_parts u8_info
  obtain ⟨xs, hxs, hox, hdx⟩ := ho
  obtain ⟨At, ct, htv, hct1, hct2, -⟩ := ownsRow_read hox
  subst htv
  obtain ⟨⟨np, nk, ns, nt, ⟨o1, o2, o3, o4, o5, o6, o7⟩, nd⟩, dv⟩ := x
  simp only at hx hd
  obtain ⟨Ad, cd, hde, hd2, hd3, -, hrd⟩ := (hx.below b2).bytes
  rw [List.length_map] at hde hd2 hrd
  subst hde
  have HKG := Lib.hid hk
  have HXS := Lib.hid hxs
  have HOX := Lib.hid hox
  have HDX := Lib.hid hdx
  have HB2 := Lib.hid b2
  have HK2 := Lib.hid K2
  have HRD := Lib.hid hrd
  clear hxs hox hdx b2 K2 hrd hx hk
  unfold maxLen at hd3 hct2
  unfold nodeC at hW2 ⊢
  simp only at hW2 ⊢
  go_enter Tryd.func22, Tryd.ntmps22
  go_upto_region 1 with fail
  rw [← hW2]
  have HW2 := Lib.hid hW2
  clear hW2
  have c11 := HK2.out.cell 11
  simp only [nodeC, List.getElem?_toArray, List.getElem?_cons_zero, List.getElem?_cons_succ] at c11
  go_upto_region 2 with (at_builtin; refine wpList_append_any _ rfl (.const (.slice none 0 0)) (.tmp 6) _ rfl W2.heap.size 5 i0 _ 1 1 Tryd.underlying38 hi0 hz0 hz1 hz2 rfl (by omega) (.slice none 0 0) 0 [] (by simp [Act.eval]) (World.ownsRow_nil _ _ _ _) W2.heap.size Ad nd.length cd ((nd.map ofB).map (.int .u8)) rfl HRD.out (one_u8 _) (by simp only [maxLen]; omega) (by omega) (Nat.le_refl _) ?_; intro v5 w5 hown5 hg5 hat5; obtain ⟨A5, c5, hv5, -⟩ := ownsRow_read hown5; subst hv5; have HO5 := Lib.hid hown5; have HG5 := Lib.hid (grown_none hg5); have HK5 := Lib.hid (HK2.out.below (grown_none hg5) HK2.out.lt); have z11 := HK5.out.frozen 11; have d11 : w5.cell? ⟨w.heap.size, 11, none⟩ = some (.slice Ad nd.length cd) := HK5.out.cell 11; clear hown5 hg5 hat5)
  obtain ⟨W6, hW6⟩ : ∃ W6, W6 = w5.setCell ⟨w.heap.size, 11, none⟩ (.slice A5 nd.length c5) := ⟨_, rfl⟩
  rw [← hW6]
  have b56 : Below w.heap.size w W6 := by rw [hW6]; exact (HB2.out.trans (HG5.out.mono HB2.out.size)).setCell (p := ⟨w.heap.size, 11, none⟩) (Nat.le_refl _) _
  have k6 : Blk W6 w.heap.size 40 (nodeC (⟨np, nk, ns, nt, ⟨o1, o2, o3, o4, o5, o6, o7⟩, nd⟩, .slice A5 nd.length c5)).toArray := by rw [hW6]; exact HK5.out.set_ 11 (.slice A5 nd.length c5)
  have k0' : W6.cell? ⟨w.heap.size, 0, none⟩ = some (.string (bs np)) := k6.cell 0
  have k1' : W6.cell? ⟨w.heap.size, 1, none⟩ = some (.int .i64 nk) := k6.cell 1
  have k2' : W6.cell? ⟨w.heap.size, 2, none⟩ = some (.int .i64 ns) := k6.cell 2
  have k3' : W6.cell? ⟨w.heap.size, 3, none⟩ = some (.string (bs nt)) := k6.cell 3
  have k4' : W6.cell? ⟨w.heap.size, 4, none⟩ = some (.int .i64 o1) := k6.cell 4
  have k5' : W6.cell? ⟨w.heap.size, 5, none⟩ = some (.int .i64 o2) := k6.cell 5
  have k6' : W6.cell? ⟨w.heap.size, 6, none⟩ = some (.int .i64 o3) := k6.cell 6
  have k7' : W6.cell? ⟨w.heap.size, 7, none⟩ = some (.string (bs o4)) := k6.cell 7
  have k8' : W6.cell? ⟨w.heap.size, 8, none⟩ = some (.string (bs o5)) := k6.cell 8
  have k9' : W6.cell? ⟨w.heap.size, 9, none⟩ = some (.int .i64 o6) := k6.cell 9
  have k10' : W6.cell? ⟨w.heap.size, 10, none⟩ = some (.int .i64 o7) := k6.cell 10
  have k11' : W6.cell? ⟨w.heap.size, 11, none⟩ = some (.slice A5 nd.length c5) := k6.cell 11
  have hle2 : g + 1 ≤ W2.heap.size := Nat.le_trans hgl HB2.out.size
  have HN5 : Hid (DataAt W6 (g + 1) (.slice A5 nd.length c5) nd) := Lib.hid (by
    have h1 : DataAt w5 W2.heap.size (.slice A5 nd.length c5) nd := DataAt.of_own (by simpa using HO5.out)
    refine (h1.mono hle2).kept ?_
    rw [hW6]
    exact U8Kept.set_ HK5.out (by decide) 11 _)
  have HKG6 := Lib.hid (HKG.out.below b56 hgl)
  have g0 : W6.cell? ⟨g, 0, none⟩ = some (.slice At l.length ct) := HKG6.out.cell 0
  have zg := HKG6.out.frozen 0
  have HB6 := Lib.hid b56
  have HO6 := Lib.hid (ownsRow_below HOX.out b56)
  have HD6 := Lib.hid (fun y hy => (HDX.out y hy).below b56)
  have hle6 : g + 1 ≤ W6.heap.size := Nat.le_trans hgl b56.size
  have hne : g ≠ w.heap.size := by omega
  clear hW6 k6 b56 c11 d11 z11
  go_wp2_with (at_builtin; refine wpList_append_any _ rfl (.tmp 9) (.tmp 13) _ rfl (g + 1) 55 i9 _ 13 152 Tryd.underlying25 hi9 hy0 hy1 hy2 rfl (by omega) _ l.length (xs.flatMap chC) rfl (ownsRow_below HO6.out ((Below.refl _ _).alloc (Nat.le_refl _) _)) (W6.heap.size + 1) (some ⟨W6.heap.size, 0, none⟩) 1 1 (chC (kind, (⟨np, nk, ns, nt, ⟨o1, o2, o3, o4, o5, o6, o7⟩, nd⟩, .slice A5 nd.length c5))) rfl (new_row W6 55 (chC (kind, (⟨np, nk, ns, nt, ⟨o1, o2, o3, o4, o5, o6, o7⟩, nd⟩, .slice A5 nd.length c5))) 1 13 rfl) (by simp [chC, nodeC, Value.oneCell']) (by simp only [maxLen]; omega) (by omega) (by simp; omega) ?_; intro v9 w9 hown9 hg9 hat9; obtain ⟨A9, c9, hv9, -⟩ := ownsRow_read hown9; subst hv9; have HO9 := Lib.hid hown9; have HG9 := Lib.hid hg9; have bA := (Below.refl W6.heap.size W6).alloc (Nat.le_refl _) (.cells (chC (kind, (⟨np, nk, ns, nt, ⟨o1, o2, o3, o4, o5, o6, o7⟩, nd⟩, .slice A5 nd.length c5))).toArray 55); have HB9 := Lib.hid ((bA.mono hle6).grown hg9 (Nat.le_trans hle6 bA.size) (fun k hk => (own_typed (ownsRow_below HO6.out bA) hk).1)); have HKG9 := Lib.hid (HKG6.out.below HB9.out (by omega)); have g9 := HKG9.out.cell 0; have z9 := HKG9.out.frozen 0; clear hown9 hg9 hat9 bA)
  go_end0
  have bA := (Below.refl W6.heap.size W6).alloc (Nat.le_refl _) (.cells (chC (kind, (⟨np, nk, ns, nt, ⟨o1, o2, o3, o4, o5, o6, o7⟩, nd⟩, .slice A5 nd.length c5))).toArray 55)
  have hOA := ownsRow_below HO6.out bA
  have hk9 := U8Kept.grown HG9.out (fun k e => by
    obtain ⟨_, C, fr, hC⟩ := own_typed hOA e
    exact ⟨C, _, fr, hC, by decide⟩)
  refine ⟨rfl, ⟨_, HKG9.out.set_ 0 _, xs ++ [(kind, (⟨np, nk, ns, nt, ⟨o1, o2, o3, o4, o5, o6, o7⟩, nd⟩, .slice A5 nd.length c5))], by rw [List.map_append, HXS.out]; rfl, ?_, fun y hy => ?_⟩, Below.setCell (p := ⟨g, 0, none⟩) ((HB6.out.mono (Nat.le_of_lt hgl)).trans (HB9.out.mono (Nat.le_succ g))) (Nat.le_refl _) _⟩
  · rw [List.length_append, List.flatMap_append]
    refine ownsRow_lower ?_ (by simp) _
    simpa using HO9.out
  · refine DataAt.kept ?_ (U8Kept.set_ HKG9.out (by decide) 0 _)
    rcases List.mem_append.1 hy with h | h
    · exact ((HD6.out y h).below bA).kept hk9
    · rw [List.mem_singleton] at h
      subst h
      exact (HN5.out.below bA).kept hk9
end Go.Proofs.YtpanjldionaaiaaDoor
