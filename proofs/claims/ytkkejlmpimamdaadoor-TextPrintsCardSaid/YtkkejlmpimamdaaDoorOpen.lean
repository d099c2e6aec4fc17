import Derived.Test.YtkkejlmpimamdaaDoorPr
import Derived.SliceStrings
import Derived.SizedLaws
import Derived.ProofKit
import Derived.OpenShut
set_option linter.unusedVariables false
set_option linter.unusedSimpArgs false
namespace Go.Proofs.YtkkejlmpimamdaaDoor
open Go.RowKit Go.ChangeShapes Go.WideShapes Go.ChangeAt

theorem texts_open {w : World} {a : Addr} {len cap : Nat} {ss : List ByteArray} (hl : len ≤ cap) (hm : cap ≤ maxLen) (hlen : ss.length = cap)
    (hcell : ∀ i, i < ss.length → w.cell? (a.add i) = some (.string (ss.getD i ByteArray.empty))) : TextsAt w.heap.size (.slice (some a) len cap) (ss.take len) w := by
  unfold maxLen at hm
  have htl : (ss.take len).length = len := by simp; omega
  refine ⟨some a, cap, by rw [htl], by omega, by omega, fun hne => ?_⟩
  have h0 : 0 < len := by
    rcases Nat.eq_zero_or_pos len with h | h
    · subst h; simp at hne
    · exact h
  have hc0 := hcell 0 (by omega)
  obtain ⟨b, off, spot⟩ := a
  have hspot : spot = none := by simpa [Addr.add] using World.cell?_spot hc0
  subst hspot
  have hadd : ∀ j, (⟨b, off, none⟩ : Addr).add j = ⟨b, off + j, none⟩ := fun j => by unfold Addr.add; split <;> simp_all
  have hb := World.block_lt_of_cell? w _ hc0
  rw [hadd] at hb
  refine ⟨b, off, rfl, hb, fun j hj => ?_⟩
  have hj2 : j < len := by omega
  have := hcell j (by omega)
  rw [hadd] at this
  rw [this, List.getElem_take, List.getD_eq_getElem?_getD, List.getElem?_eq_getElem (by omega)]
  rfl

section
variable {H : Type} {P : Program}
theorem weights_elem {e : TypeId} : ∀ {ds : List (DataW H)} {d : DataW H}, d ∈ ds → ∀ n ∈ d.weights P e, n ∈ DataW.weightsAll P e ds
  | d0 :: r, d, h, n, hn => by
    simp only [DataW.weightsAll, List.mem_append]
    rcases List.mem_cons.1 h with rfl | h
    · exact .inl hn
    · exact .inr (weights_elem h n hn)

theorem sized_text {ts : List TypeId} {ds : List (DataW H)} (h : (DataW.weightsEach P ts ds).all (· ≤ reachBytes) = true) {j : Nat} {t e : TypeId} {elems spare : List (DataW H)} (ht : ts[j]? = some t) (hd : ds[j]? = some (.slice elems spare)) (hu : P.underlying t = some (.slice e)) {bytes : List UInt8} (hm : .lit (.string bytes) ∈ elems) :
    bytes.length ≤ reachBytes := by
  have := List.all_eq_true.1 h _ (DataW.weights_mem_each ht hd bytes.length (by
    simp only [DataW.weights, hu, List.mem_cons, List.mem_append]
    exact .inr (.inl (weights_elem hm bytes.length (by simp [DataW.weights])))))
  simpa using this

theorem sized_texts {ts : List TypeId} {ds : List (DataW H)} (h : (DataW.weightsEach P ts ds).all (· ≤ reachBytes) = true) {j : Nat} {t e : TypeId} {ss : List ByteArray} {spare : List (DataW H)} (ht : ts[j]? = some t) (hd : ds[j]? = some (.slice (strs ss) spare)) (hu : P.underlying t = some (.slice e)) :
    ∀ s ∈ ss, s.size ≤ 140737488351232 := by
  intro s hs
  have := sized_text h ht hd hu (bytes := s.data.toList) (by unfold strs; exact List.mem_map.2 ⟨s, hs, rfl⟩)
  rw [Lib.size_eq]
  have hr : reachBytes = 140737488351232 := by decide
  omega
end
end Go.Proofs.YtkkejlmpimamdaaDoor
