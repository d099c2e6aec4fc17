import Derived.Test.YtkkejlmpimamdaaDoorOnce2
import Derived.Test.YtkkejlmpimamdaaDoorMore
import Derived.Deep.LoopGhost
set_option linter.unusedVariables false
set_option linter.unusedSimpArgs false
namespace Go.Proofs.YtkkejlmpimamdaaDoor
open Go.RowKit

def PrintfPost (f : List UInt8) (l : List (List UInt8)) (w : World) (e : Ending) (w' : World) : Prop :=
  e = .returned (.tuple #[.string ⟨(printfL f l).1.toArray⟩, .bool (printfL f l).2]) ∧ Below w.heap.size w w'

theorem PrAt.cells {B b : Nat} {p : PS} {w : World} (h : PrAt B b p w) : ∃ A cap, w.cell? ⟨b, 2, none⟩ = some (.slice A p.args.length cap) ∧ w.cell? ⟨b, 3, none⟩ = some (.bool p.used) := by
  obtain ⟨C, hbu, hsz, ⟨av, al, hav, hal, A, cap, hsl, _⟩, hu, hbad⟩ := h
  refine ⟨A, cap, ?_, by rw [cell_at hbu.heap]; exact hu⟩
  rw [cell_at hbu.heap, hav, hsl, hal]
  simp

theorem PrAt.new (w : World) (v : Value) (l : List ByteArray) (hl : TextsAt w.heap.size v l w) :
    PrAt w.heap.size w.heap.size { out := [], args := l.map (·.data.toList), used := false, bad := false } (w.alloc (.cells #[.pointer none, .slice none 0 0, v, .bool false, .bool false] 36)) := by
  have hh : (w.alloc (.cells #[.pointer none, .slice none 0 0, v, .bool false, .bool false] 36)).heap[w.heap.size]? = some (.cells #[.pointer none, .slice none 0 0, v, .bool false, .bool false] 36 (0, 0)) := Go.heap_alloc_new _ _
  exact ⟨_, ⟨Nat.le_refl _, hh, .inl rfl, .slice none 0 0, rfl, World.ownsRow_nil _ _ _ _, by simp [Value.ownBlock]⟩, rfl, ⟨v, l, rfl, rfl, hl.below ((Below.refl _ w).alloc (Nat.le_refl _) _)⟩, rfl, rfl⟩

theorem take_extract (l : List UInt8) : (⟨l.toArray⟩ : ByteArray).extract 0 (min (l.length : Int) 16384).toNat = ⟨(l.take 16384).toArray⟩ := by
  rw [Lib.extract_eq]
  congr 2
  simp only [list_data, List.drop_zero, Nat.sub_zero]
  rcases Nat.lt_or_ge l.length 16384 with h | h
  · rw [List.take_of_length_le (by omega), List.take_of_length_le (by omega)]
  · rw [show (min (l.length : Int) 16384).toNat = 16384 by omega]

theorem printf_fin {f : List UInt8} {L : List (List UInt8)} {q : PS} {w w' : World} {e : Ending} (h : moreL f L.length (onceL f { out := [], args := L, used := false, bad := false }) = q) (hB : Below w.heap.size w w')
    (he : e = .returned (.tuple #[.string ((⟨q.out.toArray⟩ : ByteArray).extract 0 (min (q.out.length : Int) 16384).toNat), .bool (!q.bad)])) : PrintfPost f L w e w' := by
  refine ⟨?_, hB⟩
  rw [he, take_extract]
  unfold printfL
  rw [h]

/-- the state of printf's loop -/
structure MoreAt (f : List UInt8) (p0 : PS) (k : Nat) (q : PS) : Prop where
  same : moreL f k q = moreL f p0.args.length (onceL f p0)
  len : q.args.length ≤ k
  used : q.used = true → ∀ p, (onceL f p).args.length ≤ p.args.length - 1
  args : ∀ a ∈ q.args, a.length ≤ 1000000

theorem MoreAt.next {f : List UInt8} {p0 q : PS} {k : Nat} (h : MoreAt f p0 k q) (hc : q.args ≠ [] ∧ q.used = true ∧ q.out.length ≤ 16384) : 0 < k ∧ MoreAt f p0 (k - 1) (onceL f q) := by
  have h0 : 0 < q.args.length := by
    rcases Nat.eq_zero_or_pos q.args.length with h | h
    · exact absurd (List.eq_nil_of_length_eq_zero h) hc.1
    · exact h
  have hl := h.len
  have hu := h.used hc.2.1 q
  refine ⟨by omega, ?_, by omega, fun _ => h.used hc.2.1, fun a ha => h.args a (onceL_args f q a ha)⟩
  rw [← h.same, moreL_go f k q hc (by omega)]

theorem MoreAt.stop {f : List UInt8} {p0 q : PS} {k : Nat} (h : MoreAt f p0 k q) (hc : ¬ (q.args ≠ [] ∧ q.used = true ∧ q.out.length ≤ 16384)) : moreL f p0.args.length (onceL f p0) = q := by
  rw [← h.same, moreL_stop f k q hc]

set_option maxHeartbeats 4000000 in
set_option maxRecDepth 100000 in
theorem printf_any (f : ByteArray) (v : Value) (l : List ByteArray) (w : World) (hf : f.size ≤ 1000) (hl : TextsAt w.heap.size v l w) (hn : ∀ s ∈ l, s.size ≤ 1000000) :
    Calls Tryd.prog 6 #[.string f, v] w (PrintfPost f.data.toList (l.map (·.data.toList)) w) := by
  have hn' : ∀ a ∈ l.map (fun s : ByteArray => s.data.toList), a.length ≤ 1000000 := by
    intro a ha
    obtain ⟨s, hs, rfl⟩ := List.mem_map.1 ha
    have := hn s hs
    rw [Lib.size_eq] at this
    exact this
  have hP0 := PrAt.new w v l hl
  obtain ⟨A, cap, rfl, hlc, hcm, hcell⟩ := id hl
  generalize hL : l.map (fun s : ByteArray => s.data.toList) = L at *
  have hLl : L.length = l.length := by rw [← hL]; simp
  have HLL := Lib.hid hLl
  clear hL hLl hcell
  go_enter Tryd.func6, Tryd.ntmps6
  go_wp2_with fail
  refine (once_any _ _ _ f _ hP0 hf (by simp) hn').mono ?_
  rintro e w1 ⟨rfl, hP1, hB1⟩
  go_wp2
  have hMA : MoreAt f.data.toList { out := [], args := L, used := false, bad := false } L.length (onceL f.data.toList { out := [], args := L, used := false, bad := false }) :=
    ⟨rfl, by obtain ⟨k, hk⟩ := onceL_uniform f.data.toList.length f.data.toList (Nat.le_refl _); rw [(hk _).1]; simp, fun hu p => onceL_used rfl hu p, fun a ha => hn' a (onceL_args _ _ a ha)⟩
  have hB1' : Below w.heap.size w w1 := ((Below.refl _ w).alloc (Nat.le_refl _) _).trans hB1
  go_loopg [] (L.length) (fun k wr => ∃ q, MoreAt f.data.toList { out := [], args := L, used := false, bad := false } k q ∧ PrAt w.heap.size w.heap.size q wr ∧ Below w.heap.size w wr)
  case atStart => exact ⟨_, hMA, hP1, hB1'⟩
  case round =>
    obtain ⟨q, hA, hP, hB⟩ := hrel
    obtain ⟨A1, cap1, d2, d3⟩ := hP.cells
    obtain ⟨C, hC⟩ := id hP
    have hargs := hA.args
    by_cases hc1 : q.args = []
    · have hst := hA.stop (fun h => h.1 hc1)
      have HS := Lib.hid hst
      have hz : q.args.length = 0 := by rw [hc1]; rfl
      rw [hz] at d2
      clear hst hA hc1 hz hMA hP1 hB1' hB1
      go_wp2_with (first | (go_at_call 12; refine (buString_any _ _ _ _ _ _ hC.bu).mono ?_; rintro e w8 ⟨rfl, hB8, hh8⟩; have hc4 : w8.cell? ⟨w.heap.size, 4, none⟩ = some (.bool q.bad) := by (rw [cell_at (hh8 (by decide))]; exact hC.bad)))
      go_region
      all_goals go_wp2
      all_goals go_ret2
      all_goals exact printf_fin HS.out (hB.trans hB8).drew (by rfl)
    · have hpos : 0 < q.args.length := by
        rcases Nat.eq_zero_or_pos q.args.length with h | h
        · exact absurd (List.eq_nil_of_length_eq_zero h) hc1
        · exact h
      have hpos' : (0 : Int) < (q.args.length : Int) := by omega
      cases hu : q.used with
      | false =>
        have hst := hA.stop (fun h => by rw [hu] at h; exact absurd h.2.1 (by decide))
        have HS := Lib.hid hst
        rw [hu] at d3
        clear hst hA hc1 hMA hP1 hB1' hB1 hu
        go_wp2_with (first | (go_at_call 12; refine (buString_any _ _ _ _ _ _ hC.bu).mono ?_; rintro e w8 ⟨rfl, hB8, hh8⟩; have hc4 : w8.cell? ⟨w.heap.size, 4, none⟩ = some (.bool q.bad) := by (rw [cell_at (hh8 (by decide))]; exact hC.bad)))
        go_region
        all_goals go_wp2
        all_goals go_ret2
        all_goals exact printf_fin HS.out (hB.trans hB8).drew (by rfl)
      | true =>
        rw [hu] at d3
        by_cases hc2 : q.out.length ≤ 16384
        · obtain ⟨hk, hnx⟩ := hA.next ⟨hc1, hu, hc2⟩
          have HN := Lib.hid hnx
          have hc3 : (q.out.length : Int) ≤ 16384 := by omega
          clear hnx hA hc1 hMA hP1 hB1' hB1 hu
          go_wp2_with (go_at_call 11; refine (buLen_any _ _ _ _ _ _ hC.bu).mono ?_; rintro e w' ⟨rfl, rfl⟩)
          refine (once_any _ _ q f _ hP hf (by omega) hargs).mono ?_
          rintro e w4 ⟨rfl, hP4, hB4⟩
          go_wp2
          go_roundg (gk - 1)
          case measure => omega
          case rel => exact ⟨_, HN.out, hP4, hB.trans hB4⟩
        · have hst := hA.stop (fun h => hc2 h.2.2)
          have HS := Lib.hid hst
          have hc3 : (16384 : Int) < (q.out.length : Int) := by omega
          clear hst hA hc1 hMA hP1 hB1' hB1 hu hc2
          go_wp2_with (first | (go_at_call 11; refine (buLen_any _ _ _ _ _ _ hC.bu).mono ?_; rintro e w' ⟨rfl, rfl⟩) | (go_at_call 12; refine (buString_any _ _ _ _ _ _ hC.bu).mono ?_; rintro e w8 ⟨rfl, hB8, hh8⟩; have hc4 : w8.cell? ⟨w.heap.size, 4, none⟩ = some (.bool q.bad) := by (rw [cell_at (hh8 (by decide))]; exact hC.bad)))
          go_region
          all_goals go_wp2
          all_goals go_ret2
          all_goals exact printf_fin HS.out (hB.trans hB8).drew (by rfl)
end Go.Proofs.YtkkejlmpimamdaaDoor
