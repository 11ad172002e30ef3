/-
  Records as they lie in a slice; their keys' order; pax.Check, pax.Find at records that may be. Condition: at most 12 records.
-/
import Derived.Test.YtjbpoijefkbllaaGreatDoorRecd
import Derived.Test.YtjbpoijefkbllaaGreatDoorRawW
import Derived.Test.YtjbpoijefkbllaaGreatDoorNodesG
import Derived.Test.YtjbpoijefkbllaaGreatDoorTreeS
namespace Go.Proofs.YtjbpoijefkbllaaGreatDoor
open Go.RowKit

def recC (r : RecS) : List Value := [.string (bs r.key), .string (bs r.value)]
theorem recC_length (r : RecS) : (recC r).length = 2 := rfl
/-- a slice of records: nil let in -/
def RecsAt (w : World) (v : Value) (l : List RecS) : Prop :=
  ∃ A c, v = .slice A l.length c ∧ l.length ≤ c ∧ c ≤ maxLen ∧ (A = none → c = 0) ∧ Reads w w.heap.size 2 A l.length (l.flatMap recC)
theorem RecsAt.below {w w' : World} {v : Value} {l : List RecS} (h : RecsAt w v l) (hb : Below w.heap.size w w') : RecsAt w' v l := by
  obtain ⟨A, c, h1, h2, h3, h4, h5⟩ := h
  exact ⟨A, c, h1, h2, h3, h4, (h5.below hb).more hb.size⟩
theorem RecsAt.nil (w : World) : RecsAt w (.slice none 0 0) [] := ⟨none, 0, rfl, by simp, by simp, fun _ => rfl, Reads.none_⟩
theorem Reads.rec_at {w : World} {B : Nat} {A : Option Addr} {l : List RecS} (h : Reads w B 2 A l.length (l.flatMap recC)) {k : Nat} (hk : k < l.length) :
    ∃ ad, A = some ad ∧ ad.block < B ∧ w.cell? (ad.add (k * 2)) = some (.string (bs l[k].key)) ∧ w.cell? ⟨(ad.add (k * 2)).block, (ad.add (k * 2)).off + 1, none⟩ = some (.string (bs l[k].value)) := by
  obtain ⟨ad, e, hb, hc⟩ := h.2 (by omega)
  have key : ∀ j, j < 2 → (l.flatMap recC)[k * 2 + j]? = (recC l[k])[j]? := fun j hj => by
    rw [flat_get recC_length l k j hj, List.getElem?_eq_getElem hk]; rfl
  have h0 := hc (k * 2) _ (by have := key 0 (by omega); exact this)
  have h1 := hc _ _ (key 1 (by omega))
  have hs := spot_of h0
  refine ⟨ad, e, hb, h0, ?_⟩
  rw [← add_step hs, add_of_add]; exact h1
/-- a row of the call's own -/
def RecsOwn (w : World) (base : Nat) (v : Value) (l : List RecS) : Prop := w.ownsRow base 155 2 v l.length (l.flatMap recC)
theorem RecsOwn.below {w w' : World} {base : Nat} {v : Value} {l : List RecS} (h : RecsOwn w base v l) (hb : Below w.heap.size w w') : RecsOwn w' base v l := ownsRow_below h hb
theorem RecsOwn.at_ {w : World} {base : Nat} {v : Value} {l : List RecS} (h : RecsOwn w base v l) : RecsAt w v l := by
  obtain ⟨A, c, rfl, h1, h2, h3, h4⟩ := ownsRow_read h
  exact ⟨A, c, rfl, h1, h2, h3, h4⟩
theorem recinfo : (Tryz.prog.info? 155).map (fun i => (i.zero, i.size, i.bytes)) = some (some (.agg #[.string ⟨#[]⟩, .string ⟨#[]⟩]), 2, 32) := by kernel_rfl

/-! ### the order of keys -/
/-- is a key no greater than another one? -/
def leK (a b : List UInt8) : Bool := Op.bytesLess a b || a == b
def Asc (l : List RecS) : Prop := ∀ i (h : i + 1 < l.length), leK l[i + 1].key l[i].key = false
theorem leK_walk (a b : List UInt8) : (Op.bytesLess (bs a).toList (bs b).toList || (bs a).toList == (bs b).toList) = leK a b := by
  have e : ∀ x : List UInt8, (bs x).toList = x := fun x => by rw [ByteArray.toList_eq, bs_data]
  rw [e, e]; rfl
theorem asc_take {l : List RecS} (h : Asc l) (k : Nat) : Asc (l.take k) := fun i hi => by
  have := h i (by rw [List.length_take] at hi; omega)
  rw [List.getElem_take, List.getElem_take]; exact this
theorem asc_of_keys {l : List RecS} {ks : List (List UInt8)} (h : (l.map (·.key)).Sublist ks) (hp : ks.Pairwise (fun a b => leK b a = false)) : Asc l := fun i hi => by
  have := List.pairwise_iff_getElem.1 (hp.sublist h) i (i + 1) (by rw [List.length_map]; omega) (by rw [List.length_map]; omega) (by omega)
  simpa using this
/-- the value of a key -/
def findK (l : List RecS) (k : List UInt8) : Option (List UInt8) := (l.find? (fun r => r.key == k)).map (·.value)
end Go.Proofs.YtjbpoijefkbllaaGreatDoor
