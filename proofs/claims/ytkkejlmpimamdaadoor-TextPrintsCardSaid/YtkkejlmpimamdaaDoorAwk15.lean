import Derived.Test.YtkkejlmpimamdaaDoorAsk3
import Derived.Test.YtkkejlmpimamdaaDoorPrintf
set_option linter.unusedVariables false
set_option linter.unusedSimpArgs false
namespace Go.Proofs.YtkkejlmpimamdaaDoor
open Go.RowKit

set_option maxHeartbeats 2000000 in
theorem test3 (q : Option Addr) (dir x op y : ByteArray) (v : Value) (w : World) (h : TextsAt w.heap.size v [x, op, y] w) (hx : x.size ≤ 9223372036854775807) (hy : y.size ≤ 9223372036854775807) (hno : (x.toList == [33]) = false) :
    Calls Tryd.prog 8 #[.pointer q, .string dir, v] w (AskPost (twoL x.data.toList op.data.toList y.data.toList) w) := by
  have hA := ask3 (.pointer q) dir x op y v w h hx hy hno ⟨q, rfl⟩
  generalize twoL x.data.toList op.data.toList y.data.toList = n at *
  have HA := Lib.hid hA
  clear hA h
  go_enter Tryd.func8, Tryd.ntmps8
  go_wp2_with (go_at_call 14; refine HA.out.mono ?_; rintro e w' ⟨rfl, hB⟩)
  go_ret
  exact ⟨rfl, hB⟩

set_option maxHeartbeats 2000000 in
theorem echo_ab (v : Value) (w : World) (h : TextsAt w.heap.size v [⟨#[97]⟩, ⟨#[98]⟩] w) :
    Calls Tryd.prog 9 #[v] w fun e w' => e = .returned (.string ⟨#[97, 32, 98, 10]⟩) ∧ Below w.heap.size w w' := by
  obtain ⟨A, cap, rfl, hl, _, hc⟩ := h
  obtain ⟨g, o, rfl, hg, hc⟩ := hc (by simp)
  have c0 : w.cell? ⟨g, o, none⟩ = some (.string ⟨#[97]⟩) := by simpa using hc 0 (by simp)
  have hj := Tryd.strings_Join g o cap [⟨#[97]⟩, ⟨#[98]⟩] ⟨#[32]⟩ w (by
    intro j x hx
    obtain ⟨hlt, rfl⟩ := List.getElem?_eq_some_iff.1 hx
    exact hc j hlt) hg (by simp) hl (by decide)
  have HJ := Lib.hid hj
  clear hj hc
  go_enter Tryd.func9, Tryd.ntmps9
  go_wp2_with fail
  refine HJ.out.mono ?_
  rintro e w' ⟨rfl, hB⟩
  have hs : (Lib.join (List.map (fun x : ByteArray => x.data.toList) [⟨#[97]⟩, ⟨#[98]⟩]) (⟨#[32]⟩ : ByteArray).data.toList) = [97, 32, 98] := by decide
  rw [hs]
  go_wp2
  go_ret
  exact ⟨by rfl, hB⟩
end Go.Proofs.YtkkejlmpimamdaaDoor
