/-
  A tree's walk, plainly: all nodes, each once, each behind what it is in. No program in sight, no condition.
-/
import Derived.Test.YtngkfelhlabloaaDoorONames
namespace Go.Proofs.YtngkfelhlabloaaDoor
open Go.RowKit

/-- of one node: it, and what it has -/
def pieceW (f : List UInt8 → List (List UInt8)) (x : NodeP) : List (List UInt8) := x.path :: if x.kind = 2 then f x.path else []
def kidsP (t : List NodeP) (dir : List UInt8) : List NodeP := t.filter (inDir dir)
/-- the walk of a directory, so deep -/
def walkP (t : List NodeP) : Nat → List UInt8 → List (List UInt8)
  | 0, _ => []
  | n + 1, dir => (kidsP t dir).flatMap (pieceW (walkP t n))
/-- what stands in a directory, at whatever depth -/
def under (dir p : List UInt8) : Prop := dir = [] ∨ ∃ r, p = dir ++ 47 :: r
theorem kid_mem {t : List NodeP} {dir : List UInt8} {x : NodeP} (h : x ∈ kidsP t dir) : x ∈ t ∧ upP x.path = dir := by
  unfold kidsP at h
  rw [List.mem_filter] at h
  exact ⟨h.1, by simpa [inDir] using h.2⟩
theorem kid_of {t : List NodeP} {dir : List UInt8} {x : NodeP} (h : x ∈ t) (hu : upP x.path = dir) : x ∈ kidsP t dir := by
  unfold kidsP
  rw [List.mem_filter]
  exact ⟨h, by simp [inDir, hu]⟩
theorem kid_under {t : List NodeP} {dir : List UInt8} {x : NodeP} (h : x ∈ kidsP t dir) : under dir x.path := by
  by_cases hd : dir = []
  · exact .inl hd
  · obtain ⟨_, hu⟩ := kid_mem h
    obtain ⟨b, hb, _⟩ := upP_form (p := x.path) (by rw [hu]; exact hd)
    rw [hu] at hb
    exact .inr ⟨b, hb⟩
theorem under_trans {a b c : List UInt8} (h1 : under a b) (h2 : b ≠ []) (h3 : under b c) : under a c := by
  rcases h1 with h | ⟨r, rfl⟩
  · exact .inl h
  · rcases h3 with h | ⟨s, rfl⟩
    · exact absurd h h2
    · exact .inr ⟨r ++ 47 :: s, by simp⟩
theorem under_length {a b : List UInt8} (h1 : a ≠ []) (h : under a b) : a.length < b.length := by
  rcases h with h | ⟨r, rfl⟩
  · exact absurd h h1
  · rw [List.length_append, List.length_cons]; omega
theorem pieceW_mem {f : List UInt8 → List (List UInt8)} {x : NodeP} {s : List UInt8} (h : s ∈ pieceW f x) : s = x.path ∨ x.kind = 2 ∧ s ∈ f x.path := by
  unfold pieceW at h
  rw [List.mem_cons] at h
  rcases h with h | h
  · exact .inl h
  · split at h
    · next hk => exact .inr ⟨hk, h⟩
    · simp at h
theorem walk_sound {t : List NodeP} (ht : TreeOk t) : ∀ (n : Nat) (dir : List UInt8) {s : List UInt8}, s ∈ walkP t n dir → ∃ x ∈ t, x.path = s ∧ under dir s
  | 0, _, _, h => by simp [walkP] at h
  | n + 1, dir, s, h => by
    rw [walkP, List.mem_flatMap] at h
    obtain ⟨x, hx, hs⟩ := h
    have hu := kid_under hx
    rcases pieceW_mem hs with rfl | ⟨_, hs⟩
    · exact ⟨x, (kid_mem hx).1, rfl, hu⟩
    · obtain ⟨y, hy, rfl, hz⟩ := walk_sound ht n x.path hs
      exact ⟨y, hy, rfl, under_trans hu (path_ne (ht.node _ (kid_mem hx).1)) hz⟩
/-- the one in a directory in which a node stands -/
theorem kid_above {t : List NodeP} (ht : TreeOk t) (dir : List UInt8) : ∀ (n : Nat) {x : NodeP}, x.path.length ≤ n → x ∈ t → under dir x.path → ∃ y ∈ kidsP t dir, y = x ∨ y.kind = 2 ∧ under y.path x.path
  | 0, x, hn, hx, h => by
    have := path_ne (ht.node _ hx)
    exact absurd (List.eq_nil_of_length_eq_zero (by omega)) this
  | n + 1, x, hn, hx, h => by
    by_cases hu : upP x.path = dir
    · exact ⟨x, kid_of hx hu, .inl rfl⟩
    · have hne : upP x.path ≠ [] := by
        intro e
        rcases h with h | ⟨r, hr⟩
        · exact hu (e.trans h.symm)
        · rcases cutLast r with h1 | ⟨a, b, rfl, h1⟩
          · rw [hr, upP_some h1] at hu
            exact hu rfl
          · rw [hr, show dir ++ 47 :: (a ++ 47 :: b) = (dir ++ 47 :: a) ++ 47 :: b by simp, upP_some h1] at e
            simp at e
      obtain ⟨b, hb, _⟩ := upP_form hne
      rcases ht.up x hx with h3 | ⟨z, hz, hzp, hzk⟩
      · exact absurd h3 hne
      · have hzl : z.path.length ≤ n := by
          have := congrArg List.length hb
          rw [List.length_append, List.length_cons] at this
          rw [hzp]; omega
        have hzu : under dir z.path := by
          rw [hzp]
          rcases h with h | ⟨r, hr⟩
          · exact .inl h
          · rcases cutLast r with h1 | ⟨a, b, rfl, h1⟩
            · rw [hr, upP_some h1] at hu
              exact absurd rfl hu
            · rw [hr, show dir ++ 47 :: (a ++ 47 :: b) = (dir ++ 47 :: a) ++ 47 :: b by simp, upP_some h1]
              exact .inr ⟨a, rfl⟩
        have hzx : under z.path x.path := .inr ⟨b, by rw [hzp]; exact hb⟩
        obtain ⟨y, hy, hyz⟩ := kid_above ht dir n hzl hz hzu
        rcases hyz with rfl | ⟨k, hyz⟩
        · exact ⟨y, hy, .inr ⟨hzk, hzx⟩⟩
        · exact ⟨y, hy, .inr ⟨k, under_trans hyz (path_ne (ht.node _ hz)) hzx⟩⟩
theorem walk_all {t : List NodeP} (ht : TreeOk t) : ∀ (n : Nat) (dir : List UInt8) {x : NodeP}, x ∈ t → under dir x.path → x.path.length ≤ n + dir.length → x.path ∈ walkP t n dir
  | 0, dir, x, hx, h, hn => by
    by_cases hd : dir = []
    · subst hd
      exact absurd (List.eq_nil_of_length_eq_zero (by simpa using hn)) (path_ne (ht.node _ hx))
    · have := under_length hd h
      omega
  | n + 1, dir, x, hx, h, hn => by
    obtain ⟨y, hy, hyx⟩ := kid_above ht dir _ (Nat.le_refl _) hx h
    rw [walkP, List.mem_flatMap]
    refine ⟨y, hy, ?_⟩
    unfold pieceW
    rw [List.mem_cons]
    rcases hyx with rfl | ⟨hk, hyx⟩
    · exact .inl rfl
    · refine .inr ?_
      rw [if_pos hk]
      refine walk_all ht n y.path hx hyx ?_
      have hy1 := path_ne (ht.node _ (kid_mem hy).1)
      have : dir.length + 1 ≤ y.path.length := by
        by_cases hd : dir = []
        · subst hd
          exact List.length_pos_iff.2 hy1
        · exact under_length hd (kid_under hy)
      omega
/-- two of one directory have nothing in common -/
theorem kid_one {t : List NodeP} {dir : List UInt8} {x y : NodeP} (hx : x ∈ kidsP t dir) (hy : y ∈ kidsP t dir) {s : List UInt8} (h1 : s = x.path ∨ under x.path s) (h2 : s = y.path ∨ under y.path s) (ox : NodeOk x) (oy : NodeOk y) : x.path = y.path := by
  have key : ∀ {b c r q : List UInt8}, (47 : UInt8) ∉ b → (47 : UInt8) ∉ c → (r = [] ∨ ∃ r', r = 47 :: r') → (q = [] ∨ ∃ q', q = 47 :: q') → b ++ r = c ++ q → b = c := by
    intro b
    induction b with
    | nil =>
      intro c r q _ hc hr hq e
      cases c with
      | nil => rfl
      | cons u c =>
        exfalso
        rcases hr with rfl | ⟨r', rfl⟩
        · simp at e
        · simp at e
          exact hc (by rw [← e.1]; simp)
    | cons v b ih =>
      intro c r q hb hc hr hq e
      cases c with
      | nil =>
        exfalso
        rcases hq with rfl | ⟨q', rfl⟩
        · simp at e
        · simp at e
          exact hb (by rw [e.1]; simp)
      | cons u c =>
        simp only [List.cons_append, List.cons.injEq] at e
        rw [e.1, ih (fun h => hb (List.mem_cons_of_mem _ h)) (fun h => hc (List.mem_cons_of_mem _ h)) hr hq e.2]
  have form : ∀ {z : NodeP}, z ∈ kidsP t dir → NodeOk z → (s = z.path ∨ under z.path s) → ∃ b r, (47 : UInt8) ∉ b ∧ z.path = withDir dir b ∧ s = withDir dir (b ++ r) ∧ (r = [] ∨ ∃ r', r = 47 :: r') := by
    intro z hz nz h
    have hu := (kid_mem hz).2
    have hf : ∃ b, (47 : UInt8) ∉ b ∧ z.path = withDir dir b := by
      unfold withDir
      rcases cutLast z.path with h1 | ⟨a, b, h0, h1⟩
      · rw [upP_none h1] at hu
        exact ⟨z.path, h1, by rw [if_pos hu.symm]⟩
      · by_cases hd : dir = []
        · exfalso
          rw [h0, upP_some h1] at hu
          rcases path_cut nz.path.1 with ⟨_, e, _⟩ | ⟨e, _⟩
          · have hl := congrArg List.length e
            rw [h0, baseP_some h1] at hl
            rw [List.length_append, List.length_cons] at hl
            omega
          · rw [h0, upP_some h1] at e
            exact e (hu.trans hd)
        · rw [h0, upP_some h1] at hu
          exact ⟨b, h1, by rw [if_neg hd, h0, hu]⟩
    obtain ⟨b, hb, hzb⟩ := hf
    rcases h with h | h | ⟨r, hr⟩
    · exact ⟨b, [], hb, hzb, by rw [List.append_nil, h, hzb], .inl rfl⟩
    · exact absurd h (path_ne nz)
    · exact ⟨b, 47 :: r, hb, hzb, by rw [hr, hzb]; unfold withDir; split <;> simp, .inr ⟨r, rfl⟩⟩
  obtain ⟨b, r, hb, hx1, hs1, hr⟩ := form hx ox h1
  obtain ⟨c, q, hc, hy1, hs2, hq⟩ := form hy oy h2
  have e : b ++ r = c ++ q := by
    rw [hs1] at hs2
    unfold withDir at hs2
    split at hs2
    · exact hs2
    · simpa using hs2
  rw [hx1, hy1, key hb hc hr hq e]
theorem walk_nodup {t : List NodeP} (ht : TreeOk t) : ∀ (n : Nat) (dir : List UInt8), (walkP t n dir).Nodup
  | 0, _ => by simp [walkP]
  | n + 1, dir => by
    rw [walkP]
    have hk : ∀ x ∈ kidsP t dir, x ∈ t ∧ upP x.path = dir := fun x hx => kid_mem hx
    have hd : ((kidsP t dir).map (·.path)).Nodup := by
      have := sorted_nodup (ht.sorted.filter (inDir dir))
      exact this
    have hm : ∀ x ∈ kidsP t dir, x ∈ kidsP t dir := fun x hx => hx
    have go : ∀ l : List NodeP, (l.map (·.path)).Nodup → (∀ x ∈ l, x ∈ kidsP t dir) → (l.flatMap (pieceW (walkP t n))).Nodup := by
      intro l
      induction l with
      | nil => intro _ _; simp
      | cons x l ih =>
        intro h1 h2
        rw [List.map_cons, List.nodup_cons] at h1
        rw [List.flatMap_cons, List.nodup_append]
        have hx := h2 x (List.mem_cons_self ..)
        have ox := ht.node _ (kid_mem hx).1
        have inp : ∀ {y : NodeP} {s : List UInt8}, s ∈ pieceW (walkP t n) y → s = y.path ∨ under y.path s := by
          intro y s hs
          rcases pieceW_mem hs with h | ⟨_, h⟩
          · exact .inl h
          · obtain ⟨_, _, _, hu⟩ := walk_sound ht n _ h
            exact .inr hu
        refine ⟨?_, ih h1.2 (fun y hy => h2 y (List.mem_cons_of_mem _ hy)), ?_⟩
        · unfold pieceW
          rw [List.nodup_cons]
          constructor
          · split
            · intro h
              obtain ⟨_, _, _, hu⟩ := walk_sound ht n _ h
              have := under_length (path_ne ox) hu
              omega
            · simp
          · split
            · exact walk_nodup ht n _
            · simp
        · intro a ha b hb e
          subst e
          rw [List.mem_flatMap] at hb
          obtain ⟨y, hy, hb⟩ := hb
          have hyk := h2 y (List.mem_cons_of_mem _ hy)
          have := kid_one hx hyk (inp ha) (inp hb) ox (ht.node _ (kid_mem hyk).1)
          exact h1.1 (this ▸ List.mem_map_of_mem hy)
    exact go _ hd hm
/-- each behind what it is in -/
def behindW (dir : List UInt8) (w : List (List UInt8)) : Prop := ∀ a s b, w = a ++ s :: b → upP s = dir ∨ upP s ∈ a
theorem behindW_append {dir : List UInt8} {u v : List (List UInt8)} (h1 : behindW dir u) (h2 : behindW dir v) : behindW dir (u ++ v) := by
  intro a s b e
  rcases List.append_eq_append_iff.1 e with ⟨c, h3, h4⟩ | ⟨c, h3, h4⟩
  · rcases h2 c s b h4 with h | h
    · exact .inl h
    · exact .inr (by rw [h3]; exact List.mem_append_right _ h)
  · cases c with
    | nil =>
      simp only [List.nil_append] at h4
      rw [List.append_nil] at h3
      rcases h2 [] s b h4.symm with h | h
      · exact .inl h
      · simp at h
    | cons x c =>
      rw [List.cons_append, List.cons.injEq] at h4
      rw [← h4.1] at h3
      exact h1 a s c h3
theorem walk_behind {t : List NodeP} : ∀ (n : Nat) (dir : List UInt8), behindW dir (walkP t n dir)
  | 0, _ => by
    intro a s b e
    simp [walkP] at e
  | n + 1, dir => by
    rw [walkP]
    have go : ∀ l : List NodeP, (∀ x ∈ l, upP x.path = dir) → behindW dir (l.flatMap (pieceW (walkP t n))) := by
      intro l
      induction l with
      | nil =>
        intro _ a s b e
        simp at e
      | cons x l ih =>
        intro h
        rw [List.flatMap_cons]
        refine behindW_append ?_ (ih fun y hy => h y (List.mem_cons_of_mem _ hy))
        have hx := h x (List.mem_cons_self ..)
        intro a s b e
        unfold pieceW at e
        cases a with
        | nil =>
          rw [List.nil_append, List.cons.injEq] at e
          rw [← e.1]
          exact .inl hx
        | cons y a =>
          rw [List.cons_append, List.cons.injEq] at e
          obtain ⟨rfl, e⟩ := e
          split at e
          · rcases walk_behind n x.path a s b e with h | h
            · exact .inr (by rw [h]; simp)
            · exact .inr (List.mem_cons_of_mem _ h)
          · simp at e
    exact go _ fun x hx => (kid_mem hx).2
theorem walk_perm {t : List NodeP} (ht : TreeOk t) : (walkP t 401 []).Perm (t.map (·.path)) := by
  refine (List.perm_ext_iff_of_nodup (walk_nodup ht _ _) (sorted_nodup ht.sorted)).2 fun s => ?_
  rw [List.mem_map]
  constructor
  · intro h
    obtain ⟨x, hx, e, _⟩ := walk_sound ht _ _ h
    exact ⟨x, hx, e⟩
  · rintro ⟨x, hx, rfl⟩
    exact walk_all ht _ _ hx (.inl rfl) (by have := (ht.node _ hx).path.2; simp; omega)
end Go.Proofs.YtngkfelhlabloaaDoor
