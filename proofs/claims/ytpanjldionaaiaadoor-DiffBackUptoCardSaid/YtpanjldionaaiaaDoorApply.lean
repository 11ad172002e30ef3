/-
  diff.Apply: the changes of two trees make the second one of the first one. Condition: trees that may be, of at most 15 nodes each.
-/
import Derived.Test.YtpanjldionaaiaaDoorApplyP
import Derived.Test.YtpanjldionaaiaaDoorDelA
import Derived.Test.YtpanjldionaaiaaDoorStabA
import Derived.Test.YtpanjldionaaiaaDoorChanges
namespace Go.Proofs.YtpanjldionaaiaaDoor
set_option linter.all false
open Go.RowKit
theorem ChOwn.load {w : World} {base : Nat} {v : Value} {l : List (Int × NodeP)} (h : ChOwn w base v l) {j : Nat} (hj : j < l.length) : ∃ (g c : Nat) (Ax : Option Addr) (cx : Nat), v = .slice (some ⟨g, 0, none⟩) l.length c ∧ g < w.heap.size ∧ l.length ≤ c ∧ c ≤ maxLen ∧
    DataAt w base (.slice Ax l[j].2.data.length cx) l[j].2.data ∧ w.cell? ⟨g, j * 13, none⟩ = some (.int .i64 l[j].1) ∧ ∀ i, i < 12 → w.cell? ⟨g, j * 13 + (i + 1), none⟩ = (nodeC (l[j].2, .slice Ax l[j].2.data.length cx))[i]? := by
  obtain ⟨xs, h0, h1, h2⟩ := h
  have hxl : xs.length = l.length := by rw [← h0, List.length_map]
  rcases id h1.2 with ⟨_, h4⟩ | ⟨g, cap, cur, rfl, hb, hg, hn, hm, _⟩
  · omega
  · have hjx : j < xs.length := by omega
    have e : l[j] = (xs[j].1, xs[j].2.1) := by subst h0; simp
    have hd := h2 xs[j] (List.getElem_mem hjx)
    obtain ⟨Ax, cx, hde, -⟩ := id hd
    have key : ∀ i, i < 13 → w.cell? ⟨g, j * 13 + i, none⟩ = (chC xs[j])[i]? := fun i hi => by
      have h3 : (xs.flatMap chC)[j * 13 + i]? = (chC xs[j])[i]? := by
        rw [flat_get chC_length xs j i hi, List.getElem?_eq_getElem hjx]; rfl
      have hl2 : i < (chC xs[j]).length := hi
      rw [List.getElem?_eq_getElem hl2] at h3 ⊢
      have h4 := World.ownsRow.cells h1 (g := g) rfl (j * 13 + i) _ h3
      rwa [add_flat, Nat.zero_add] at h4
    refine ⟨g, cap, Ax, cx, rfl, heap_lt hg, hn, hm, ?_, ?_, fun i hi => ?_⟩
    · rw [e, ← hde]; exact hd
    · have := key 0 (by omega)
      rw [e]; exact this
    · have := key (i + 1) (by omega)
      rw [e, ← hde]
      exact this
theorem NodesOwn.nrow {w : World} {B : Nat} {v : Value} {l : List NodeP} (h : NodesOwn w B v l) (hl : 0 < l.length) (hp : ∀ x ∈ l, x.path.length ≤ 400) : ∃ g c d, v = .slice (some ⟨g, 0, none⟩) l.length c ∧ B ≤ g ∧ g < w.heap.size ∧ l.length ≤ c ∧ c ≤ maxLen ∧ d.map (·.1) = l ∧ NRow B B g l.length c d w := by
  obtain ⟨g, c, hv, hb, hg, hc, hm, -⟩ := h.row hl
  obtain ⟨xs, h0, h1, h2⟩ := h
  subst hv
  refine ⟨g, c, xs, rfl, hb, hg, hc, hm, h0, h1, by rw [← h0, List.length_map], h2, fun y hy => hp _ (by rw [← h0]; exact List.mem_map_of_mem hy)⟩
theorem NRow.nodes {w : World} {B g n c : Nat} {d : List NodeV} (h : NRow B B g n c d w) : NodesOwn w B (.slice (some ⟨g, 0, none⟩) n c) (d.map (·.1)) := ⟨d, rfl, by have := h.own; rw [List.length_map, h.len]; exact this, h.data⟩
theorem sorted_eq {m t : List NodeP} (h : m.Perm t) (hm : m.Pairwise (fun x y => cmpP x.path y.path ≤ 0)) (ht : SoP t) : m = t := by
  refine List.Perm.eq_of_pairwise (le := fun x y => cmpP x.path y.path ≤ 0) (fun a b ha hb h1 h2 => ?_) hm (ht.imp (fun h => by omega)) h
  have h3 : cmpP b.path a.path = -cmpP a.path b.path := cmpL_neg _ _
  have h4 : cmpP a.path b.path = 0 := by omega
  obtain ⟨i, hi, rfl⟩ := List.mem_iff_getElem.1 (h.subset ha)
  obtain ⟨j, hj, rfl⟩ := List.mem_iff_getElem.1 hb
  have : i = j := by
    rcases Nat.lt_trichotomy i j with e | e | e
    · have := List.pairwise_iff_getElem.1 ht i j hi hj e; omega
    · exact e
    · have := List.pairwise_iff_getElem.1 ht j i hj hi e; omega
  subst this
  rfl
/-- the row sorted -/
theorem SortN_own (B : Nat) (v : Value) (l t : List NodeP) (w : World) (hB : B ≤ w.heap.size) (hm : ∀ W, Below B w W → ML W) (hg0 : 0 < B) (h : NodesOwn w B v l) (h0 : 0 < l.length) (hn : l.length ≤ 39) (hp : ∀ x ∈ l, x.path.length ≤ 400) (ht : t.Perm l) (hs : SoP t) :
    Calls Tryd.prog 28 #[v, .func (.func 29) #[] #[]] w fun e w' => e = .returned (.tuple #[]) ∧ NodesOwn w' B v t ∧ Below B w w' := by
  obtain ⟨g, c, d, rfl, hb, hg, hc, hcm, hd, hr⟩ := h.nrow h0 hp
  have hbel : ∀ W, w.grownBy W (some g) → Below B w W := fun W hgr => (Below.refl B w).grown hgr hB (fun k hk => by cases hk; exact hb)
  refine (SortA_any B B g l.length c hn d w (fun W hgr => hm W (hbel W hgr)) (by omega) hr).mono fun e w' ⟨e1, ⟨d', p1, s1, r1⟩, e3⟩ => ⟨e1, ?_, hbel w' e3⟩
  have := r1.nodes
  rw [sorted_eq (m := d'.map (·.1)) (t := t) ?_ ?_ hs] at this
  · exact this
  · have := p1.map (·.1)
    rw [hd] at this
    exact this.trans ht.symm
  · rw [List.pairwise_map]
    exact s1
def ApSt (w0 : World) (a b : List NodeP) (k : Nat) (v : Value) (W : World) : Prop := Below w0.heap.size w0 W ∧ ∃ out, NodesOwn W w0.heap.size v out ∧ ApP a b k out
theorem one_row (w : World) (x : NodeP) (Ax : Option Addr) (cx : Nat) (hd : DataAt w 0 (.slice Ax x.data.length cx) x.data) (W4 : World) (hW4 : W4 = w.alloc (.cells (nodeC (x, .slice Ax x.data.length cx)).toArray 40)) : NodesAt W4 (.slice (some ⟨w.heap.size, 0, none⟩) 1 1) [x] ∧ Below w.heap.size w W4 := by
  have b4 : Below w.heap.size w W4 := by rw [hW4]; exact (Below.refl _ _).alloc (Nat.le_refl _) _
  refine ⟨⟨[(x, .slice Ax x.data.length cx)], _, _, rfl, rfl, Nat.le_refl _, by simp [maxLen], (fun h => by cases h), ?_, ?_⟩, b4⟩
  · have h := new_row w 40 (nodeC (x, .slice Ax x.data.length cx)) 1 12 rfl
    rw [← hW4] at h
    have hz : W4.heap.size = w.heap.size + 1 := by rw [hW4]; simp
    rw [hz]
    simpa using h
  · intro y hy
    rw [List.mem_singleton] at hy
    subst hy
    exact hd.below b4
set_option maxRecDepth 100000 in
set_option maxHeartbeats 16000000 in
theorem Apply_any (v1 v2 : Value) (a b : List NodeP) (w : World) (hm : ∀ W, Below w.heap.size w W → ML W) (h1 : NodesAt w v1 a) (h2 : ChOwn w 0 v2 (diffP a b)) (hoa : TreeOk a) (hob : TreeOk b) (hla : a.length ≤ 15) (hlb : b.length ≤ 15) :
    Calls Tryd.prog 6 #[v1, v2] w fun e w' => ∃ tv, e = .returned (.tuple #[tv, .int .i64 0]) ∧ NodesOwn w' w.heap.size tv b ∧ Below w.heap.size w w' := by
  have HML := Lib.hid hm
  have hmx := (hm w (Below.refl _ _)).lt
  have HMX := Lib.hid hmx
  have hll := diffP_length a b
  have HCA : Hid (Calls Tryd.prog 21 #[v1] w fun e w' => e = .returned (.int .i64 0) ∧ Below w.heap.size w w') := Lib.hid (by
    have := TCheck_any v1 a w (hm w (Below.refl _ _)) h1 hoa.node
    rw [hoa.chk] at this
    exact this)
  have HCB : Hid (∀ W v, Below w.heap.size w W → NodesAt W v b → Calls Tryd.prog 21 #[v] W fun e w' => e = .returned (.int .i64 0) ∧ Below W.heap.size W w') := Lib.hid (fun W v hb h => by
    have := TCheck_any v b W (hm W hb) h hob.node
    rw [hob.chk] at this
    exact this)
  have HCP : Hid (∀ l W tv, (∀ y ∈ l, NodeOk y) → l.length ≤ 1000 → NodesAt W tv l → Calls Tryd.prog 25 #[tv] W fun e w' => ∃ cv, e = .returned cv ∧ NodesOwn w' W.heap.size cv l ∧ Below W.heap.size W w') := Lib.hid (fun l W tv h1 h2 h3 => Copy_any tv l W h3 h2 (fun y hy => by have := (h1 y hy).data.1; omega))
  have HSTEP := Lib.hid (fun k out (h : ApP a b k out) (hk : k < (diffP a b).length) => h.step hoa.sorted hob.sorted hoa.node hob.node hk)
  have HNO := Lib.hid (fun k out (h : ApP a b k out) => h.node hoa.node hob.node)
  have HLE : Hid (∀ k out, ApP a b k out → out.length ≤ 30) := Lib.hid (fun k out h => by have := h.len; omega)
  have H1 := Lib.hid h1
  have H2 := Lib.hid h2
  have HA := Lib.hid (And.intro hoa hla)
  have HAP := Lib.hid (ApP.start (b := b) (show SoP a from hoa.sorted))
  obtain ⟨_, A1, c1, -, rfl, hc11, hc12, -⟩ := h1
  obtain ⟨A2, c2, hv2, hlc, hcm⟩ : ∃ A c, v2 = .slice A (diffP a b).length c ∧ (diffP a b).length ≤ c ∧ c ≤ maxLen := by
    obtain ⟨xs, h0, h3, -⟩ := h2
    obtain ⟨A, c, e, e1, e2, -⟩ := ownsRow_read h3
    exact ⟨A, c, e, e1, e2⟩
  subst hv2
  unfold maxLen at hc12 hcm
  obtain ⟨n2, hn2⟩ : ∃ n2, n2 = (diffP a b).length := ⟨_, rfl⟩
  rw [← hn2] at hlc hll ⊢
  have HN2 := Lib.hid hn2
  clear hm h2 hoa hob hla hlb hn2 hmx
  go_enter Tryd.func6, Tryd.ntmps6
  go_wp2_with fail
  refine HCA.out.mono ?_
  rintro e w1 ⟨rfl, b1⟩
  have B1 := Lib.hid b1
  clear b1 HCA
  go_wp2_with fail
  refine (HCP.out a _ _ HA.out.1.node (by have := HA.out.2; omega) (H1.out.below B1.out)).mono ?_
  rintro e w2 ⟨ov, rfl, hov, b2⟩
  have B2 := Lib.hid (B1.out.trans (b2.mono B1.out.size))
  have H0 : Hid (ApSt w a b 0 ov w2) := Lib.hid ⟨B2.out, a, hov.mono B1.out.size, HAP.out⟩
  clear b2 hov HAP H1 B1
  go_wp2_with fail
  go_loopg [7, 9, 10, 11, 22] n2 (fun gg s7 s9 s10 s11 s22 wr => ∃ k : Nat, k ≤ n2 ∧ n2 - k ≤ gg ∧ s22 = .int .i64 k ∧ Hid (ApSt w a b k s7 wr))
  case atStart => exact ⟨0, Nat.zero_le _, by omega, rfl, H0⟩
  case round =>
    obtain ⟨k, hk, hg, rfl, HS⟩ := hrel
    clear H0
    by_cases hlt : k < n2
    · have hltz : (k : Int) < (n2 : Int) := by omega
      obtain ⟨hB, out, hout, hap⟩ := HS.out
      have hol := HLE.out _ _ hap
      have hno := HNO.out _ _ hap
      have hkd : k < (diffP a b).length := by rw [← HN2.out]; exact hlt
      obtain ⟨g2, c2', Ax, cx, hv2, hg2, -, -, hdx, q0, hq⟩ := (H2.out.below hB).load hkd
      rw [← HN2.out] at hv2
      obtain ⟨hA2, -, hc2⟩ := Value.slice.inj hv2
      subst hA2
      clear hv2 hc2
      have hst := HSTEP.out k out hap hkd
      have HB := Lib.hid hB
      have HO := Lib.hid hout
      obtain ⟨_, Ao, co, -, hoe, hoc1, hoc2, -⟩ := hout.at_
      subst hoe
      unfold maxLen at hoc2
      have HNX := Lib.hid hno
      have HDX := Lib.hid hdx
      obtain ⟨on, hon⟩ : ∃ on, on = out.length := ⟨_, rfl⟩
      rw [← hon] at HO hol hoc1 hst ⊢
      have HON := Lib.hid hon
      have HAPK := Lib.hid hap
      clear HS hB hout hdx hap hon
      rcases hst with ⟨i, x, hce, hi, hf, hn⟩ | ⟨x, t, hce, hf, hxo, htp, hts, hn⟩ | ⟨i, x, hce, hi, hf, hxo, hn⟩
      · rw [hce] at q0 hq HDX
        simp only at q0 hq HDX
        have HN := Lib.hid hn
        have HFI := Lib.hid (fun W (hb : Below w.heap.size w W) (hO : NodesAt W (.slice Ao on co) out) => Find_any _ out x.path W hO)
        rw [hf] at HFI
        have HXO : True := trivial
        clear hce hn hf
        obtain ⟨np, nk, ns, nt, ⟨o1, o2, o3, o4, o5, o6, o7⟩, nd⟩ := x
        simp only at HFI hq HDX
        unfold findR at HFI
        simp only at HFI
        have q1 : wr.cell? ⟨g2, k * 13 + 1, none⟩ = some (.string (bs np)) := hq 0 (by omega)
        have q2 : wr.cell? ⟨g2, k * 13 + 2, none⟩ = some (.int .i64 nk) := hq 1 (by omega)
        have q3 : wr.cell? ⟨g2, k * 13 + 3, none⟩ = some (.int .i64 ns) := hq 2 (by omega)
        have q4 : wr.cell? ⟨g2, k * 13 + 4, none⟩ = some (.string (bs nt)) := hq 3 (by omega)
        have q5 : wr.cell? ⟨g2, k * 13 + 5, none⟩ = some (.int .i64 o1) := hq 4 (by omega)
        have q6 : wr.cell? ⟨g2, k * 13 + 6, none⟩ = some (.int .i64 o2) := hq 5 (by omega)
        have q7 : wr.cell? ⟨g2, k * 13 + 7, none⟩ = some (.int .i64 o3) := hq 6 (by omega)
        have q8 : wr.cell? ⟨g2, k * 13 + 8, none⟩ = some (.string (bs o4)) := hq 7 (by omega)
        have q9 : wr.cell? ⟨g2, k * 13 + 9, none⟩ = some (.string (bs o5)) := hq 8 (by omega)
        have q10 : wr.cell? ⟨g2, k * 13 + 10, none⟩ = some (.int .i64 o6) := hq 9 (by omega)
        have q11 : wr.cell? ⟨g2, k * 13 + 11, none⟩ = some (.int .i64 o7) := hq 10 (by omega)
        have q12 : wr.cell? ⟨g2, k * 13 + 12, none⟩ = some (.slice Ax nd.length cx) := hq 11 (by omega)
        obtain ⟨W2, hW2⟩ : ∃ W2, W2 = wr.alloc (.cells #[(.int .i64 1), (.string (bs np)), (.int .i64 nk), (.int .i64 ns), (.string (bs nt)), (.int .i64 o1), (.int .i64 o2), (.int .i64 o3), (.string (bs o4)), (.string (bs o5)), (.int .i64 o6), (.int .i64 o7), (.slice Ax nd.length cx)] 55) := ⟨_, rfl⟩
        obtain ⟨g9, hg9⟩ : ∃ g9, g9 = wr.heap.size := ⟨_, rfl⟩
        have hk2 : Blk W2 g9 55 #[(.int .i64 1), (.string (bs np)), (.int .i64 nk), (.int .i64 ns), (.string (bs nt)), (.int .i64 o1), (.int .i64 o2), (.int .i64 o3), (.string (bs o4)), (.string (bs o5)), (.int .i64 o6), (.int .i64 o7), (.slice Ax nd.length cx)] := by rw [hW2, hg9]; exact Blk.new _ _ _
        have hb2 : Below wr.heap.size wr W2 := by rw [hW2]; exact (Below.refl _ _).alloc (Nat.le_refl _) _
        have HB2 := Lib.hid (HB.out.trans (hb2.mono HB.out.size))
        have HK2 := Lib.hid hk2
        have HO2 := Lib.hid (HO.out.below hb2)
        have HD2 := Lib.hid (HDX.out.below hb2)
        have HG9 : Hid (w.heap.size ≤ g9) := Lib.hid (by rw [hg9]; exact HB.out.size)
        clear hk2 hb2 HB HO HDX hq
        go_upto_region 8 with fail
        rw [← hW2, ← hg9]
        clear hW2 hg9 q0 q1 q2 q3 q4 q5 q6 q7 q8 q9 q10 q11 q12
        have r0 := HK2.out.cell 0
        have r1 := HK2.out.cell 1
        go_wp2_with fail
        refine (HFI.out _ HB2.out HO2.out.at_).mono ?_
        rintro e w3 ⟨rfl, b3⟩
        have HB3 := Lib.hid (HB2.out.trans (b3.mono HB2.out.size))
        have HK3 := Lib.hid (HK2.out.below b3 HK2.out.lt)
        have HO3 := Lib.hid (HO2.out.below b3)
        have HD3 := Lib.hid (HD2.out.below b3)
        clear b3 r0 r1 HFI HB2 HK2 HO2 HD2
        have r0 := HK3.out.cell 0
        have r1 := HK3.out.cell 1
        have r2 := HK3.out.cell 2
        have r3 := HK3.out.cell 3
        have r4 := HK3.out.cell 4
        have r5 := HK3.out.cell 5
        have r6 := HK3.out.cell 6
        have r7 := HK3.out.cell 7
        have r8 := HK3.out.cell 8
        have r9 := HK3.out.cell 9
        have r10 := HK3.out.cell 10
        have r11 := HK3.out.cell 11
        have r12 := HK3.out.cell 12
        have hi0 : (i : Int) < (on : Int) := by omega
        obtain ⟨g, c, hv, -, -, -⟩ := HO3.out.row (by rw [← HON.out]; omega)
        obtain ⟨hA, -, hc⟩ := Value.slice.inj hv
        subst hA hc
        have HDL := Lib.hid (Del1_any w.heap.size g on co out w3 HB3.out.size (by rw [HON.out]; exact (by have := HO3.out; rw [HON.out] at this; exact this)) i hi (by omega) (on - 1) rfl)
        clear hv
        go_wp2_with fail
        refine HDL.out.mono ?_
        rintro e w4 ⟨rfl, hn4, b4⟩
        have HS4 : Hid (ApSt w a b (k + 1) (.slice (some ⟨g, 0, none⟩) (on - 1) co) w4) := Lib.hid ⟨HB3.out.trans b4, _, hn4, HN.out⟩
        clear hn4 b4 HDL HB3 HK3 HO3 HD3 HN r0 r1 r2 r3 r4 r5 r6 r7 r8 r9 r10 r11 r12
        go_wp2_with fail
        go_roundg (n2 - (k + 1))
        case measure => omega
        case rel => exact ⟨k + 1, by omega, Nat.le_refl _, by go_num, HS4⟩
      · rw [hce] at q0 hq HDX
        simp only at q0 hq HDX
        have HN := Lib.hid hn
        have HFI := Lib.hid (fun W (hb : Below w.heap.size w W) (hO : NodesAt W (.slice Ao on co) out) => Find_any _ out x.path W hO)
        rw [hf] at HFI
        have HXO : Hid (NodeOk x) := Lib.hid hxo
        clear hce hn hf hxo
        obtain ⟨np, nk, ns, nt, ⟨o1, o2, o3, o4, o5, o6, o7⟩, nd⟩ := x
        simp only at HFI hq HDX
        unfold findR at HFI
        simp only at HFI
        have q1 : wr.cell? ⟨g2, k * 13 + 1, none⟩ = some (.string (bs np)) := hq 0 (by omega)
        have q2 : wr.cell? ⟨g2, k * 13 + 2, none⟩ = some (.int .i64 nk) := hq 1 (by omega)
        have q3 : wr.cell? ⟨g2, k * 13 + 3, none⟩ = some (.int .i64 ns) := hq 2 (by omega)
        have q4 : wr.cell? ⟨g2, k * 13 + 4, none⟩ = some (.string (bs nt)) := hq 3 (by omega)
        have q5 : wr.cell? ⟨g2, k * 13 + 5, none⟩ = some (.int .i64 o1) := hq 4 (by omega)
        have q6 : wr.cell? ⟨g2, k * 13 + 6, none⟩ = some (.int .i64 o2) := hq 5 (by omega)
        have q7 : wr.cell? ⟨g2, k * 13 + 7, none⟩ = some (.int .i64 o3) := hq 6 (by omega)
        have q8 : wr.cell? ⟨g2, k * 13 + 8, none⟩ = some (.string (bs o4)) := hq 7 (by omega)
        have q9 : wr.cell? ⟨g2, k * 13 + 9, none⟩ = some (.string (bs o5)) := hq 8 (by omega)
        have q10 : wr.cell? ⟨g2, k * 13 + 10, none⟩ = some (.int .i64 o6) := hq 9 (by omega)
        have q11 : wr.cell? ⟨g2, k * 13 + 11, none⟩ = some (.int .i64 o7) := hq 10 (by omega)
        have q12 : wr.cell? ⟨g2, k * 13 + 12, none⟩ = some (.slice Ax nd.length cx) := hq 11 (by omega)
        obtain ⟨W2, hW2⟩ : ∃ W2, W2 = wr.alloc (.cells #[(.int .i64 2), (.string (bs np)), (.int .i64 nk), (.int .i64 ns), (.string (bs nt)), (.int .i64 o1), (.int .i64 o2), (.int .i64 o3), (.string (bs o4)), (.string (bs o5)), (.int .i64 o6), (.int .i64 o7), (.slice Ax nd.length cx)] 55) := ⟨_, rfl⟩
        obtain ⟨g9, hg9⟩ : ∃ g9, g9 = wr.heap.size := ⟨_, rfl⟩
        have hk2 : Blk W2 g9 55 #[(.int .i64 2), (.string (bs np)), (.int .i64 nk), (.int .i64 ns), (.string (bs nt)), (.int .i64 o1), (.int .i64 o2), (.int .i64 o3), (.string (bs o4)), (.string (bs o5)), (.int .i64 o6), (.int .i64 o7), (.slice Ax nd.length cx)] := by rw [hW2, hg9]; exact Blk.new _ _ _
        have hb2 : Below wr.heap.size wr W2 := by rw [hW2]; exact (Below.refl _ _).alloc (Nat.le_refl _) _
        have HB2 := Lib.hid (HB.out.trans (hb2.mono HB.out.size))
        have HK2 := Lib.hid hk2
        have HO2 := Lib.hid (HO.out.below hb2)
        have HD2 := Lib.hid (HDX.out.below hb2)
        have HG9 : Hid (w.heap.size ≤ g9) := Lib.hid (by rw [hg9]; exact HB.out.size)
        clear hk2 hb2 HB HO HDX hq
        go_upto_region 8 with fail
        rw [← hW2, ← hg9]
        clear hW2 hg9 q0 q1 q2 q3 q4 q5 q6 q7 q8 q9 q10 q11 q12
        have r0 := HK2.out.cell 0
        have r1 := HK2.out.cell 1
        go_wp2_with fail
        refine (HFI.out _ HB2.out HO2.out.at_).mono ?_
        rintro e w3 ⟨rfl, b3⟩
        have HB3 := Lib.hid (HB2.out.trans (b3.mono HB2.out.size))
        have HK3 := Lib.hid (HK2.out.below b3 HK2.out.lt)
        have HO3 := Lib.hid (HO2.out.below b3)
        have HD3 := Lib.hid (HD2.out.below b3)
        clear b3 r0 r1 HFI HB2 HK2 HO2 HD2
        have r0 := HK3.out.cell 0
        have r1 := HK3.out.cell 1
        have r2 := HK3.out.cell 2
        have r3 := HK3.out.cell 3
        have r4 := HK3.out.cell 4
        have r5 := HK3.out.cell 5
        have r6 := HK3.out.cell 6
        have r7 := HK3.out.cell 7
        have r8 := HK3.out.cell 8
        have r9 := HK3.out.cell 9
        have r10 := HK3.out.cell 10
        have r11 := HK3.out.cell 11
        have r12 := HK3.out.cell 12
        obtain ⟨W4, hW4⟩ : ∃ W4, W4 = w3.alloc (.cells (nodeC (⟨np, nk, ns, nt, ⟨o1, o2, o3, o4, o5, o6, o7⟩, nd⟩, .slice Ax nd.length cx)).toArray 40) := ⟨_, rfl⟩
        have hone := one_row w3 ⟨np, nk, ns, nt, ⟨o1, o2, o3, o4, o5, o6, o7⟩, nd⟩ Ax cx HD3.out W4 hW4
        have HB4 := Lib.hid (HB3.out.trans (hone.2.mono HB3.out.size))
        have HO4 := Lib.hid (HO3.out.below hone.2)
        have HC4 := Lib.hid (HCP.out [⟨np, nk, ns, nt, ⟨o1, o2, o3, o4, o5, o6, o7⟩, nd⟩] W4 _ (fun y hy => by rw [List.mem_singleton] at hy; rw [hy]; exact HXO.out) (by simp) hone.1)
        clear hone
        unfold nodeC at hW4
        simp only at hW4
        go_wp2_with fail
        rw [← hW4]
        clear hW4 r0 r1 r2 r3 r4 r5 r6 r7 r8 r9 r10 r11 r12
        refine HC4.out.mono ?_
        rintro e w5 ⟨uv, rfl, huv, b5⟩
        have HB5 := Lib.hid (HB4.out.trans (b5.mono HB4.out.size))
        have HO5 := Lib.hid (HO4.out.below b5)
        have HU5 := Lib.hid (huv.mono HB4.out.size)
        obtain ⟨ln, hln⟩ : ∃ ln, (out ++ [(⟨np, nk, ns, nt, ⟨o1, o2, o3, o4, o5, o6, o7⟩, nd⟩ : NodeP)]).length = ln := ⟨_, rfl⟩
        have HLN := Lib.hid hln
        clear hln
        have hlt5 : out.length + [(⟨np, nk, ns, nt, ⟨o1, o2, o3, o4, o5, o6, o7⟩, nd⟩ : NodeP)].length ≤ 100000 := by rw [← HON.out]; simp; omega
        have HL5 := Lib.hid hlt5
        have hle5 := HB5.out.size
        have HSRT := Lib.hid (fun W v (hb : Below w.heap.size w W) (h : NodesOwn W w.heap.size v (out ++ [⟨np, nk, ns, nt, ⟨o1, o2, o3, o4, o5, o6, o7⟩, nd⟩])) => SortN_own w.heap.size v (out ++ [⟨np, nk, ns, nt, ⟨o1, o2, o3, o4, o5, o6, o7⟩, nd⟩]) t W hb.size (fun W' hb' => HML.out W' (hb.trans hb')) HMX.out h (by simp) (by rw [List.length_append, ← HON.out]; simp; omega) (fun x hx => by
          rcases List.mem_append.1 hx with hx | hx
          · exact (HNX.out x hx).path.2
          · rw [List.mem_singleton] at hx; subst hx; exact HXO.out.path.2) htp hts)
        clear b5 huv hlt5 HC4 HO4 HB4 HO3 HB3 HK3 HD3 htp hts
        go_wp2_with (at_builtin; refine wpList_app _ rfl (.tmp 80) (.tmp 84) rfl w.heap.size _ _ _ _ rfl rfl HO5.out HU5.out HL5.out hle5 ?_; intro v6 w6 hv6 b6; have HV6 := Lib.hid hv6; have HB6 := Lib.hid (HB5.out.trans b6); obtain ⟨_, A6, c6, -, hv6e, hc61, hc62, -⟩ := hv6.at_; rw [HLN.out] at hv6e; subst hv6e; clear hv6 b6)
        refine (HSRT.out _ _ HB6.out HV6.out).mono ?_
        rintro e w7 ⟨rfl, hn7, b7⟩
        have HS7 : Hid (ApSt w a b (k + 1) (.slice A6 ln c6) w7) := Lib.hid ⟨HB6.out.trans b7, _, hn7, HN.out⟩
        clear hn7 b7 HSRT HV6 HB6 HB5 HO5 HU5 HL5 HN
        go_wp2_with fail
        go_roundg (n2 - (k + 1))
        case measure => omega
        case rel => exact ⟨k + 1, by omega, Nat.le_refl _, by go_num, HS7⟩
      · rw [hce] at q0 hq HDX
        simp only at q0 hq HDX
        have HN := Lib.hid hn
        have HFI := Lib.hid (fun W (hb : Below w.heap.size w W) (hO : NodesAt W (.slice Ao on co) out) => Find_any _ out x.path W hO)
        rw [hf] at HFI
        have HXO : Hid (NodeOk x) := Lib.hid hxo
        clear hce hn hf hxo
        obtain ⟨np, nk, ns, nt, ⟨o1, o2, o3, o4, o5, o6, o7⟩, nd⟩ := x
        simp only at HFI hq HDX
        unfold findR at HFI
        simp only at HFI
        have q1 : wr.cell? ⟨g2, k * 13 + 1, none⟩ = some (.string (bs np)) := hq 0 (by omega)
        have q2 : wr.cell? ⟨g2, k * 13 + 2, none⟩ = some (.int .i64 nk) := hq 1 (by omega)
        have q3 : wr.cell? ⟨g2, k * 13 + 3, none⟩ = some (.int .i64 ns) := hq 2 (by omega)
        have q4 : wr.cell? ⟨g2, k * 13 + 4, none⟩ = some (.string (bs nt)) := hq 3 (by omega)
        have q5 : wr.cell? ⟨g2, k * 13 + 5, none⟩ = some (.int .i64 o1) := hq 4 (by omega)
        have q6 : wr.cell? ⟨g2, k * 13 + 6, none⟩ = some (.int .i64 o2) := hq 5 (by omega)
        have q7 : wr.cell? ⟨g2, k * 13 + 7, none⟩ = some (.int .i64 o3) := hq 6 (by omega)
        have q8 : wr.cell? ⟨g2, k * 13 + 8, none⟩ = some (.string (bs o4)) := hq 7 (by omega)
        have q9 : wr.cell? ⟨g2, k * 13 + 9, none⟩ = some (.string (bs o5)) := hq 8 (by omega)
        have q10 : wr.cell? ⟨g2, k * 13 + 10, none⟩ = some (.int .i64 o6) := hq 9 (by omega)
        have q11 : wr.cell? ⟨g2, k * 13 + 11, none⟩ = some (.int .i64 o7) := hq 10 (by omega)
        have q12 : wr.cell? ⟨g2, k * 13 + 12, none⟩ = some (.slice Ax nd.length cx) := hq 11 (by omega)
        obtain ⟨W2, hW2⟩ : ∃ W2, W2 = wr.alloc (.cells #[(.int .i64 3), (.string (bs np)), (.int .i64 nk), (.int .i64 ns), (.string (bs nt)), (.int .i64 o1), (.int .i64 o2), (.int .i64 o3), (.string (bs o4)), (.string (bs o5)), (.int .i64 o6), (.int .i64 o7), (.slice Ax nd.length cx)] 55) := ⟨_, rfl⟩
        obtain ⟨g9, hg9⟩ : ∃ g9, g9 = wr.heap.size := ⟨_, rfl⟩
        have hk2 : Blk W2 g9 55 #[(.int .i64 3), (.string (bs np)), (.int .i64 nk), (.int .i64 ns), (.string (bs nt)), (.int .i64 o1), (.int .i64 o2), (.int .i64 o3), (.string (bs o4)), (.string (bs o5)), (.int .i64 o6), (.int .i64 o7), (.slice Ax nd.length cx)] := by rw [hW2, hg9]; exact Blk.new _ _ _
        have hb2 : Below wr.heap.size wr W2 := by rw [hW2]; exact (Below.refl _ _).alloc (Nat.le_refl _) _
        have HB2 := Lib.hid (HB.out.trans (hb2.mono HB.out.size))
        have HK2 := Lib.hid hk2
        have HO2 := Lib.hid (HO.out.below hb2)
        have HD2 := Lib.hid (HDX.out.below hb2)
        have HG9 : Hid (w.heap.size ≤ g9) := Lib.hid (by rw [hg9]; exact HB.out.size)
        clear hk2 hb2 HB HO HDX hq
        go_upto_region 8 with fail
        rw [← hW2, ← hg9]
        clear hW2 hg9 q0 q1 q2 q3 q4 q5 q6 q7 q8 q9 q10 q11 q12
        have r0 := HK2.out.cell 0
        have r1 := HK2.out.cell 1
        go_wp2_with fail
        refine (HFI.out _ HB2.out HO2.out.at_).mono ?_
        rintro e w3 ⟨rfl, b3⟩
        have HB3 := Lib.hid (HB2.out.trans (b3.mono HB2.out.size))
        have HK3 := Lib.hid (HK2.out.below b3 HK2.out.lt)
        have HO3 := Lib.hid (HO2.out.below b3)
        have HD3 := Lib.hid (HD2.out.below b3)
        clear b3 r0 r1 HFI HB2 HK2 HO2 HD2
        have r0 := HK3.out.cell 0
        have r1 := HK3.out.cell 1
        have r2 := HK3.out.cell 2
        have r3 := HK3.out.cell 3
        have r4 := HK3.out.cell 4
        have r5 := HK3.out.cell 5
        have r6 := HK3.out.cell 6
        have r7 := HK3.out.cell 7
        have r8 := HK3.out.cell 8
        have r9 := HK3.out.cell 9
        have r10 := HK3.out.cell 10
        have r11 := HK3.out.cell 11
        have r12 := HK3.out.cell 12
        have hi0 : (i : Int) < (on : Int) := by omega
        have hi1 : (0 : Int) ≤ (i : Int) := by omega
        obtain ⟨W4, hW4⟩ : ∃ W4, W4 = w3.alloc (.cells (nodeC (⟨np, nk, ns, nt, ⟨o1, o2, o3, o4, o5, o6, o7⟩, nd⟩, .slice Ax nd.length cx)).toArray 40) := ⟨_, rfl⟩
        have hone := one_row w3 ⟨np, nk, ns, nt, ⟨o1, o2, o3, o4, o5, o6, o7⟩, nd⟩ Ax cx HD3.out W4 hW4
        have HB4 := Lib.hid (HB3.out.trans (hone.2.mono HB3.out.size))
        have HO4 := Lib.hid (HO3.out.below hone.2)
        have HC4 := Lib.hid (HCP.out [⟨np, nk, ns, nt, ⟨o1, o2, o3, o4, o5, o6, o7⟩, nd⟩] W4 _ (fun y hy => by rw [List.mem_singleton] at hy; rw [hy]; exact HXO.out) (by simp) hone.1)
        clear hone
        unfold nodeC at hW4
        simp only at hW4
        go_upto_region 16 with fail
        go_wp2_with fail
        rw [← hW4]
        clear hW4 r0 r1 r2 r3 r4 r5 r6 r7 r8 r9 r10 r11 r12
        refine HC4.out.mono ?_
        rintro e w5 ⟨uv, rfl, huv, b5⟩
        have HB5 := Lib.hid (HB4.out.trans (b5.mono HB4.out.size))
        have HO5 := Lib.hid (HO4.out.below b5)
        obtain ⟨gu, cu, hue, -, -, -, -, -, hrow⟩ := (huv.mono HB4.out.size).row (by simp)
        subst hue
        obtain ⟨du, hdu, -, hu⟩ := hrow 0 (by simp)
        obtain ⟨Au, cu2, hdue, -⟩ := id hdu
        obtain ⟨g, c, hv, hgb, hgl, -, -, hfz5, hrow2⟩ := HO5.out.row (by rw [← HON.out]; omega)
        obtain ⟨hA, -, hc⟩ := Value.slice.inj hv
        subst hA hc
        obtain ⟨dw, -, -, he⟩ := hrow2 i (by rw [← HON.out]; exact hi)
        obtain ⟨y, hy⟩ : ∃ y, y = out[i]'(by rw [← HON.out]; exact hi) := ⟨_, rfl⟩
        rw [← hy] at he
        obtain ⟨mp, mk, ms, mt, ⟨p1, p2, p3, p4, p5, p6, p7⟩, md⟩ := y
        have HST : Hid (NodesOwn (w5.setCells g (i * 12) (nodeC (⟨np, nk, ns, nt, ⟨o1, o2, o3, o4, o5, o6, o7⟩, nd⟩, du))) w.heap.size (.slice (some ⟨g, 0, none⟩) on co) (out.set i ⟨np, nk, ns, nt, ⟨o1, o2, o3, o4, o5, o6, o7⟩, nd⟩) ∧ Below w.heap.size w (w5.setCells g (i * 12) (nodeC (⟨np, nk, ns, nt, ⟨o1, o2, o3, o4, o5, o6, o7⟩, nd⟩, du)))) := Lib.hid ⟨HO5.out.store (by rw [← HON.out]; exact hi) (⟨np, nk, ns, nt, ⟨o1, o2, o3, o4, o5, o6, o7⟩, nd⟩, du) hdu, Below.setCells hgb _ _ HB5.out⟩
        simp only [List.getElem_cons_zero] at hdue hu HST
        subst hdue
        clear hv hrow2 hrow hy hdu b5 huv HC4 HO4 HB4 HO3 HB3 HK3 HD3
        have u0 : w5.cell? ⟨gu, 0, none⟩ = some (.string (bs np)) := hu 0 (by omega)
        have e0 : w5.cell? ⟨g, i * 12, none⟩ = some (.string (bs mp)) := he 0 (by omega)
        have u1 : w5.cell? ⟨gu, 1, none⟩ = some (.int .i64 nk) := hu 1 (by omega)
        have e1 : w5.cell? ⟨g, i * 12 + 1, none⟩ = some (.int .i64 mk) := he 1 (by omega)
        have u2 : w5.cell? ⟨gu, 2, none⟩ = some (.int .i64 ns) := hu 2 (by omega)
        have e2 : w5.cell? ⟨g, i * 12 + 2, none⟩ = some (.int .i64 ms) := he 2 (by omega)
        have u3 : w5.cell? ⟨gu, 3, none⟩ = some (.string (bs nt)) := hu 3 (by omega)
        have e3 : w5.cell? ⟨g, i * 12 + 3, none⟩ = some (.string (bs mt)) := he 3 (by omega)
        have u4 : w5.cell? ⟨gu, 4, none⟩ = some (.int .i64 o1) := hu 4 (by omega)
        have e4 : w5.cell? ⟨g, i * 12 + 4, none⟩ = some (.int .i64 p1) := he 4 (by omega)
        have u5 : w5.cell? ⟨gu, 5, none⟩ = some (.int .i64 o2) := hu 5 (by omega)
        have e5 : w5.cell? ⟨g, i * 12 + 5, none⟩ = some (.int .i64 p2) := he 5 (by omega)
        have u6 : w5.cell? ⟨gu, 6, none⟩ = some (.int .i64 o3) := hu 6 (by omega)
        have e6 : w5.cell? ⟨g, i * 12 + 6, none⟩ = some (.int .i64 p3) := he 6 (by omega)
        have u7 : w5.cell? ⟨gu, 7, none⟩ = some (.string (bs o4)) := hu 7 (by omega)
        have e7 : w5.cell? ⟨g, i * 12 + 7, none⟩ = some (.string (bs p4)) := he 7 (by omega)
        have u8 : w5.cell? ⟨gu, 8, none⟩ = some (.string (bs o5)) := hu 8 (by omega)
        have e8 : w5.cell? ⟨g, i * 12 + 8, none⟩ = some (.string (bs p5)) := he 8 (by omega)
        have u9 : w5.cell? ⟨gu, 9, none⟩ = some (.int .i64 o6) := hu 9 (by omega)
        have e9 : w5.cell? ⟨g, i * 12 + 9, none⟩ = some (.int .i64 p6) := he 9 (by omega)
        have u10 : w5.cell? ⟨gu, 10, none⟩ = some (.int .i64 o7) := hu 10 (by omega)
        have e10 : w5.cell? ⟨g, i * 12 + 10, none⟩ = some (.int .i64 p7) := he 10 (by omega)
        have u11 : w5.cell? ⟨gu, 11, none⟩ = some (.slice Au nd.length cu2) := hu 11 (by omega)
        have e11 : w5.cell? ⟨g, i * 12 + 11, none⟩ = some dw := he 11 (by omega)
        have HS7 : Hid (ApSt w a b (k + 1) (.slice (some ⟨g, 0, none⟩) on co) (w5.setCells g (i * 12) (nodeC (⟨np, nk, ns, nt, ⟨o1, o2, o3, o4, o5, o6, o7⟩, nd⟩, .slice Au nd.length cu2)))) := Lib.hid ⟨HST.out.2, _, HST.out.1, HN.out⟩
        clear he hu HST HN HB5 HO5 hgb hgl
        go_wp2_with fail
        go_roundg (n2 - (k + 1))
        case measure => omega
        case rel => exact ⟨k + 1, by omega, Nat.le_refl _, by go_num, HS7⟩
    · obtain rfl : k = n2 := by omega
      have hltz : ¬ (k : Int) < (k : Int) := by omega
      obtain ⟨hB, out, hout, hap⟩ := HS.out
      rw [HN2.out] at hap
      obtain rfl := hap.done
      have HB := Lib.hid hB
      have HO := Lib.hid hout.at_
      have HLB : Hid (out.length ≤ 1000) := Lib.hid (by have := HLE.out _ _ hap; omega)
      have HNB := Lib.hid (HNO.out _ _ hap)
      obtain ⟨_, Ao, co, -, hoe, hoc1, hoc2, -⟩ := hout.at_
      subst hoe
      clear HS hB hout hap
      go_wp2_with fail
      refine (HCB.out _ _ HB.out HO.out).mono ?_
      rintro e w3 ⟨rfl, b3⟩
      have HB3 := Lib.hid (HB.out.trans (b3.mono HB.out.size))
      have HO3 := Lib.hid (HO.out.below b3)
      clear b3 HB HO HCB
      go_wp2_with fail
      refine (HCP.out _ _ _ HNB.out HLB.out HO3.out).mono ?_
      rintro e w4 ⟨tv, rfl, htv, b4⟩
      have HB4 := Lib.hid (HB3.out.trans (b4.mono HB3.out.size))
      have HT4 := Lib.hid (htv.mono HB3.out.size)
      clear b4 htv
      go_wp2_with fail
      go_ret2
      exact ⟨_, rfl, HT4.out, HB4.out⟩
end Go.Proofs.YtpanjldionaaiaaDoor
