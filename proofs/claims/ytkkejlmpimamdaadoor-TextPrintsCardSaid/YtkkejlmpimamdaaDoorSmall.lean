import Derived.Test.YtkkejlmpimamdaaDoorPr
import Derived.Deep.RegionWith
set_option linter.unusedVariables false
set_option linter.unusedSimpArgs false
namespace Go.Proofs.YtkkejlmpimamdaaDoor
open Go.RowKit

def totalN (l : List ByteArray) : Nat := (l.map fun s => s.size).sum

theorem totalN_snoc (l : List ByteArray) (s : ByteArray) : totalN (l ++ [s]) = totalN l + s.size := by simp [totalN]
theorem totalN_mono (l : List ByteArray) (k : Nat) : totalN (l.take k) ≤ totalN l := by
  have e : totalN l = totalN (l.take k) + totalN (l.drop k) := by
    unfold totalN
    rw [← List.sum_append, ← List.map_append, List.take_append_drop]
  omega

theorem TextsAt.at_ {B : Nat} {v : Value} {l : List ByteArray} {w : World} (h : TextsAt B v l w) : ∃ A cap, v = .slice A l.length cap ∧ l.length ≤ cap ∧ cap ≤ 9223372036854775807 ∧ ∀ j (h : j < l.length), ∃ g o, A = some ⟨g, o, none⟩ ∧ g < B ∧ w.cell? ⟨g, o + j, none⟩ = some (.string l[j]) := by
  obtain ⟨A, cap, h1, h2, h3, h4⟩ := h
  refine ⟨A, cap, h1, h2, h3, fun j hj => ?_⟩
  obtain ⟨g, o, hA, hg, hc⟩ := h4 (by intro e; rw [e] at hj; simp at hj)
  exact ⟨g, o, hA, hg, hc j hj⟩

def SmallPost (l : List ByteArray) (w : World) (e : Ending) (w' : World) : Prop := ∃ b, e = .returned (.bool b) ∧ w = w' ∧ (b = true → l.length + totalN l ≤ 2000)

set_option maxHeartbeats 1000000 in
theorem small_any (v : Value) (l : List ByteArray) (w : World) (h : TextsAt w.heap.size v l w) (hs : ∀ s ∈ l, s.size ≤ 140737488351232) (hln : l.length ≤ 140737488351232) :
    Calls Tryd.prog 4 #[v] w (SmallPost l w) := by
  obtain ⟨A, cap, rfl, hlc, hcm, hcell⟩ := h.at_
  go_enter Tryd.func4, Tryd.ntmps4
  go_wp2
  go_loop [3, 4] (fun n i => ∃ (k N : Nat), k ≤ l.length ∧ i = .int .i64 (k : Int) ∧ n = .int .i64 (N : Int) ∧ N = l.length + totalN (l.take k) ∧ N ≤ 140737488351232 + 140737488351232) (fun _ i => l.length - (intOf i).toNat)
  case atStart => exact ⟨0, l.length, by omega, rfl, rfl, by simp [totalN], by omega⟩
  case round =>
    obtain ⟨k, N, hk, rfl, rfl, hN, hNb⟩ := hrel
    have HN := Lib.hid hN
    clear hN
    by_cases hlt : k < l.length
    · by_cases h2 : N ≤ 2000
      · obtain ⟨g, o, rfl, hg, hc⟩ := hcell k hlt
        have hsz := hs l[k] (List.getElem_mem hlt)
        have hnx : N + l[k].size = l.length + totalN (l.take (k + 1)) := by
          rw [List.take_succ_eq_append_getElem hlt, totalN_snoc, HN.out]; omega
        have HX := Lib.hid hnx
        clear hnx
        have h2' : (N : Int) ≤ 2000 := by omega
        go_wp2
        go_round
        case rel => exact ⟨k + 1, N + l[k].size, by omega, by go_num, by go_num, HX.out, by omega⟩
        case measure => simp [intOf]; omega
      · have h2' : (2000 : Int) < (N : Int) := by omega
        go_wp2
        go_ret
        exact ⟨_, rfl, rfl, fun hb => by simp at hb; omega⟩
    · have hkl : k = l.length := by omega
      have HK := Lib.hid hkl
      clear hkl
      go_wp2
      go_ret
      refine ⟨_, rfl, rfl, fun hb => ?_⟩
      have hb1 : (N : Int) ≤ 2000 := by simpa using hb
      have hb' : N ≤ 2000 := by omega
      have := HN.out
      rw [HK.out, List.take_length] at this
      omega
end Go.Proofs.YtkkejlmpimamdaaDoor
