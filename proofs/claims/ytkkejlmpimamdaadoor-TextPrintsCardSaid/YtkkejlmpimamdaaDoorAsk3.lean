import Derived.Test.YtkkejlmpimamdaaDoorTwo
import Derived.Test.YtkkejlmpimamdaaDoorPr
import Derived.Deep.RegionWith
set_option linter.unusedVariables false
set_option linter.unusedSimpArgs false
namespace Go.Proofs.YtkkejlmpimamdaaDoor
open Go.RowKit

def AskPost (n : Int) (w : World) (e : Ending) (w' : World) : Prop := e = .returned (.int .i64 n) ∧ Below w.heap.size w w'

theorem texts3 {B : Nat} {v : Value} {x op y : ByteArray} {w : World} (h : TextsAt B v [x, op, y] w) : ∃ g o cap, v = .slice (some ⟨g, o, none⟩) 3 cap ∧ g < B ∧ 3 ≤ cap ∧ w.cell? ⟨g, o, none⟩ = some (.string x) ∧ w.cell? ⟨g, o + 1, none⟩ = some (.string op) ∧ w.cell? ⟨g, o + 2, none⟩ = some (.string y) := by
  obtain ⟨A, cap, rfl, hl, _, hc⟩ := h
  obtain ⟨g, o, rfl, hg, hc⟩ := hc (by simp)
  exact ⟨g, o, cap, rfl, hg, hl, by simpa using hc 0 (by simp), by simpa using hc 1 (by simp), by simpa using hc 2 (by simp)⟩

set_option maxHeartbeats 2000000 in
theorem ask3 (fv : Value) (dir x op y : ByteArray) (v : Value) (w : World) (h : TextsAt w.heap.size v [x, op, y] w) (hx : x.size ≤ 9223372036854775807) (hy : y.size ≤ 9223372036854775807) (hno : (x.toList == [33]) = false) (hfv : ∃ q, fv = .pointer q) :
    Calls Tryd.prog 14 #[.agg #[fv, .string dir], v] w (AskPost (twoL x.data.toList op.data.toList y.data.toList) w) := by
  obtain ⟨q, rfl⟩ := hfv
  obtain ⟨g, o, cap, rfl, hg, hcap, c0, c1, c2⟩ := texts3 h
  clear h
  generalize hn : twoL x.data.toList op.data.toList y.data.toList = n at *
  have HN := Lib.hid hn
  clear hn
  have two : ∀ w, Calls Tryd.prog 26 #[.string x, .string op, .string y] w fun e w' => e = .returned (.int .i64 n) ∧ w = w' := by
    intro w
    refine (two_any x op y w hx hy).mono ?_
    rintro e w' ⟨rfl, rfl⟩
    exact ⟨by rw [HN.out], rfl⟩
  have HT := Lib.hid two
  clear two
  by_cases h2 : n = 2
  · have h2' : (n != 2) = false := by rw [h2]; rfl
    have H2 := Lib.hid h2
    clear h2
    go_enter Tryd.func14, Tryd.ntmps14
    go_wp2
    go_region_with ((go_at_call 26; refine (HT.out _).mono ?_; rintro e w1 ⟨rfl, rfl⟩))
    all_goals go_wp2
    all_goals (go_ret; exact ⟨rfl, ((Below.refl _ w).alloc (Nat.le_refl _) _).drew⟩)
  · have h2' : (n != 2) = true := by simpa using h2
    have H2 := Lib.hid h2
    clear h2
    go_enter Tryd.func14, Tryd.ntmps14
    go_wp2
    go_region_with ((go_at_call 26; refine (HT.out _).mono ?_; rintro e w1 ⟨rfl, rfl⟩))
    all_goals go_wp2
    all_goals (go_ret; exact ⟨rfl, ((Below.refl _ w).alloc (Nat.le_refl _) _).drew⟩)
end Go.Proofs.YtkkejlmpimamdaaDoor
