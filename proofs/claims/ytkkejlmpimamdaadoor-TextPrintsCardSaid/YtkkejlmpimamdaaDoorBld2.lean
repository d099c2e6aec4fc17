import Derived.Test.YtkkejlmpimamdaaDoorBld
set_option linter.unusedVariables false
set_option linter.unusedSimpArgs false
namespace Go.Proofs.YtkkejlmpimamdaaDoor
open Go.RowKit

theorem heap_freeze {w : World} {a : Addr} {n b : Nat} (h : a.block ≠ b) : (w.freeze a n).heap[b]? = w.heap[b]? := by
  unfold World.freeze
  split
  · rfl
  · simp [Array.getElem?_modify, h]

theorem cellsByte : Tryd.prog.cellsOf 5 = 1 := by kernel_rfl

set_option maxHeartbeats 1000000 in
set_option maxRecDepth 100000 in
theorem buString_any (T B b : Nat) (l : List UInt8) (C : Array Value) (w : World) (h : BuAt T B b l C w) :
    Calls Tryd.prog 12 #[.pointer (some ⟨b, 0, none⟩)] w fun e w' => e = .returned (.string ⟨l.toArray⟩) ∧ Below B w w' ∧ (T ≠ 5 → w'.heap[b]? = some (.cells C T (0, 0))) := by
  obtain ⟨hB, hh, _, v, hv, hown, hne⟩ := h
  by_cases h0 : l = []
  · subst h0
    obtain ⟨ao, cap, rfl⟩ : ∃ ao cap, v = .slice ao 0 cap := by
      rcases hown.2 with ⟨hv, h0⟩ | ⟨g, cap, cur, hv, _⟩
      · exact ⟨none, 0, hv⟩
      · exact ⟨_, _, hv⟩
    have c1 : w.drew.cell? ⟨b, 1, none⟩ = some (.slice ao 0 cap) := by
      have : w.drew.heap[b]? = some (.cells C T (0, 0)) := hh
      rw [cell_at this]; exact hv
    have hlt : b < w.heap.size := lt_of_block hh
    rcases hown.2 with ⟨hv', h0⟩ | ⟨g, cap', cur, hv', hbg, hg, _⟩
    · injection hv' with h1 h2 h3
      subst h1 h3
      clear h2
      have hSD : (Builtin.unsafeSliceData_ #[32] 57 #[.slice none 0 0]).run Tryd.prog w.drew = .ok (.pointer none) w.drew := rfl
      have hUS : (Builtin.unsafeString_ #[57, 3] 9 #[.pointer none, .int .i64 0]).run Tryd.prog w.drew = .ok (.string .empty) w.drew := Lib.run_unsafeString_none w.drew _ _ _ none
      go_enter Tryd.func12, Tryd.ntmps12
      go_wp2
      go_region
      all_goals (go_wp2; go_ret; exact ⟨rfl, Below.drew (Below.refl B w), fun _ => hh⟩)
    · injection hv' with h1 h2 h3
      subst h1 h3
      clear h2
      rcases Nat.eq_zero_or_pos cap with hc | hc
      · subst hc
        have hgsh : w.drew.shape? g = some (5, cur.size) := by
          have hg' : w.drew.heap[g]? = some (.cells cur 5 (0, 0)) := hg
          simp [World.shape?, hg']
        have hSD : (Builtin.unsafeSliceData_ #[32] 57 #[.slice (some ⟨g, 0, none⟩) 0 0]).run Tryd.prog w.drew = .ok (.pointer (some ⟨w.heap.size, 0, none⟩)) (w.alloc (.view ⟨g, 0, none⟩ 5)).drew := Lib.run_unsafeSliceData_zero w.drew _ _ _ Tryd.underlying57 ⟨g, 0, none⟩ 0 _ hgsh
        have hUS : (Builtin.unsafeString_ #[57, 3] 9 #[.pointer (some ⟨w.heap.size, 0, none⟩), .int .i64 0]).run Tryd.prog (w.alloc (.view ⟨g, 0, none⟩ 5)).drew = .ok (.string .empty) (w.alloc (.view ⟨g, 0, none⟩ 5)).drew := Lib.run_unsafeString_none _ _ _ _ _
        have c2 : w.cell? ⟨b, 1, none⟩ = some (.slice (some ⟨g, 0, none⟩) 0 0) := by rw [cell_at hh]; exact hv
        have hfin : ((w.drew.alloc (.view ⟨g, 0, none⟩ 5))).heap[b]? = some (.cells C T (0, 0)) := by
          exact (Below.heap_alloc w.drew _ _ hlt).trans hh
        have hbel : Below B w (w.drew.alloc (.view ⟨g, 0, none⟩ 5)) := (Below.drew (Below.refl B w)).alloc (by show B ≤ w.heap.size; omega) _
        go_enter Tryd.func12, Tryd.ntmps12
        go_wp2
        go_region
        all_goals (go_wp2; go_ret; exact ⟨rfl, hbel, fun _ => hfin⟩)
      · have hSD : (Builtin.unsafeSliceData_ #[32] 57 #[.slice (some ⟨g, 0, none⟩) 0 cap]).run Tryd.prog w.drew = .ok (.pointer (some ⟨g, 0, none⟩)) w.drew := Lib.run_unsafeSliceData_row _ _ _ _ _ _ (by omega)
        have hUS : (Builtin.unsafeString_ #[57, 3] 9 #[.pointer (some ⟨g, 0, none⟩), .int .i64 0]).run Tryd.prog w.drew = .ok (.string .empty) w.drew := Lib.run_unsafeString_none w.drew _ _ _ _
        go_enter Tryd.func12, Tryd.ntmps12
        go_wp2
        go_region
        all_goals (go_wp2; go_ret; exact ⟨rfl, Below.drew (Below.refl B w), fun _ => hh⟩)
  · have hl0 : l.length ≠ 0 := fun e => h0 (List.eq_nil_of_length_eq_zero e)
    obtain ⟨g, cap, cur, rfl, hbg, hg, hnc, hcm, hcs, htake⟩ : ∃ g cap cur, v = .slice (some ⟨g, 0, none⟩) l.length cap ∧ B ≤ g ∧ w.heap[g]? = some (.cells cur 5 (0, 0)) ∧ l.length ≤ cap ∧ cap ≤ maxLen ∧ cur.size = cap * 1 ∧ cur.toList.take (l.length * 1) = Lib.byteCells l := by
      rcases hown.2 with ⟨_, hz⟩ | ⟨g, cap, cur, hv, r⟩
      · exact absurd hz hl0
      · exact ⟨g, cap, cur, hv, r⟩
    have c1 : w.drew.cell? ⟨b, 1, none⟩ = some (.slice (some ⟨g, 0, none⟩) l.length cap) := by
      have : w.drew.heap[b]? = some (.cells C T (0, 0)) := hh
      rw [cell_at this]; exact hv
    have hSD : (Builtin.unsafeSliceData_ #[32] 57 #[.slice (some ⟨g, 0, none⟩) l.length cap]).run Tryd.prog w.drew = .ok (.pointer (some ⟨g, 0, none⟩)) w.drew :=
      Lib.run_unsafeSliceData_row _ _ _ _ _ _ (by omega)
    have hUS : (Builtin.unsafeString_ #[57, 3] 9 #[.pointer (some ⟨g, 0, none⟩), .int .i64 l.length]).run Tryd.prog w.drew = .ok (.string ⟨l.toArray⟩) (w.drew.freeze ⟨g, 0, none⟩ l.length) := by
      refine Lib.run_unsafeString_row w.drew 57 3 9 5 Tryd.underlying57 cellsByte g cur.size (by have hg' : w.drew.heap[g]? = some (.cells cur 5 (0, 0)) := hg; simp [World.shape?, hg']) l h0 (by omega) (by unfold maxLen at hcm; omega) ?_
      intro j x hx
      have := hown.cells (g := g) rfl j (.int .u8 x.toNat) (by simp [Lib.byteCells, hx])
      exact this
    have hgb : g ≠ b := by simpa [Value.ownBlock] using hne
    go_enter Tryd.func12, Tryd.ntmps12
    go_wp2
    go_region
    all_goals (go_wp2; go_ret; exact ⟨rfl, Lib.below_freeze (Below.drew (Below.refl B w)) (p := ⟨g, 0, none⟩) hbg _, fun _ => by rw [heap_freeze hgb]; exact hh⟩)
end Go.Proofs.YtkkejlmpimamdaaDoor
