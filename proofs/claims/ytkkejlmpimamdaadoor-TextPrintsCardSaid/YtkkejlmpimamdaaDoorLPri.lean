import Derived.Test.YtkkejlmpimamdaaDoorLCom
import Derived.Test.YtkkejlmpimamdaaDoorRPrintf
set_option linter.unusedVariables false
set_option linter.unusedSimpArgs false
namespace Go.Proofs.YtkkejlmpimamdaaDoor
open Go.RowKit

set_option maxHeartbeats 4000000 in
theorem prints_walk (s0 : ByteArray) (v : Value) (l : List ByteArray) (w : World) (h : TextsAt w.heap.size v l w) (hs : ∀ s ∈ l, s.size ≤ 140737488351232) (hln : l.length ≤ 140737488351232) (hp : s0.size ≤ 140737488351232) :
    Calls Tryd.prog 3 #[.string s0, v] w (TruePost w) := by
  obtain ⟨A, cap, rfl, hlc, hcm, hcell⟩ := h.at_
  go_enter Tryd.func3, Tryd.ntmps3
  go_wp2_with fail
  refine (small_any _ l _ h hs hln).mono ?_
  rintro e w' ⟨b, rfl, rfl, hb⟩
  cases b with
  | false =>
    go_wp2_with (go_at_call 5; refine (awake15 _).mono ?_; rintro e w' ⟨rfl, hB⟩)
    go_ret
    exact ⟨rfl, hB⟩
  | true =>
    have htot := hb rfl
    clear hb
    by_cases h1 : 300 < s0.size
    · have h1' : (300 : Int) < (s0.size : Int) := by omega
      go_wp2_with (go_at_call 5; refine (awake15 _).mono ?_; rintro e w' ⟨rfl, hB⟩)
      go_ret
      exact ⟨rfl, hB⟩
    · have h1' : (s0.size : Int) ≤ 300 := by omega
      by_cases h2 : 60 < l.length
      · have h2' : (60 : Int) < (l.length : Int) := by omega
        go_wp2_with (go_at_call 5; refine (awake15 _).mono ?_; rintro e w' ⟨rfl, hB⟩)
        go_ret
        exact ⟨rfl, hB⟩
      · have h2' : (l.length : Int) ≤ 60 := by omega
        have hsm : ∀ s ∈ l, s.size ≤ 1000000 := fun s hsm => by obtain ⟨j, hj, rfl⟩ := List.getElem_of_mem hsm; have := total_at hj; omega
        obtain ⟨X, hX⟩ : ∃ X, printfL s0.data.toList (l.map (·.data.toList)) = X := ⟨_, rfl⟩
        have hXl : X.1.length ≤ 16384 := by rw [← hX]; unfold printfL; simp; omega
        have HX := Lib.hid hX
        clear hX
        go_wp2_with fail
        refine (printf_any s0 _ l _ (by omega) h hsm).mono ?_
        rintro e w1 ⟨rfl, hB1⟩
        rw [HX.out]
        go_wp2_with fail
        refine (rprintf_any s0 _ l _ (by omega) ((h.below hB1).mono hB1.size) (by omega) hsm).mono ?_
        rintro e w2 ⟨rfl, hB2⟩
        rw [HX.out]
        have k2 := hB1.trans (hB2.mono hB1.size)
        have hXi : (X.1.length : Int) ≤ 16384 := by omega
        go_wp2_with (go_at_call 5; refine (awake15 _).mono ?_; rintro e w' ⟨rfl, hB⟩)
        go_ret
        exact ⟨rfl, k2.trans (hB.mono k2.size)⟩
end Go.Proofs.YtkkejlmpimamdaaDoor
