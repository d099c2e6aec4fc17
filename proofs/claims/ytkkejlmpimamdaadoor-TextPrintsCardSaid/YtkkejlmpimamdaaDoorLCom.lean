import Derived.Test.YtkkejlmpimamdaaDoorAwk15b
import Derived.Test.YtkkejlmpimamdaaDoorSmall
import Derived.Test.YtkkejlmpimamdaaDoorPLines
set_option linter.unusedVariables false
set_option linter.unusedSimpArgs false
namespace Go.Proofs.YtkkejlmpimamdaaDoor
open Go.RowKit

def bytesOf (l : List ByteArray) : List (List UInt8) := l.map fun s => s.data.toList

theorem TextsAt.mono {B B' : Nat} {v : Value} {l : List ByteArray} {w : World} (h : TextsAt B v l w) (hB : B ≤ B') : TextsAt B' v l w := by
  obtain ⟨A, cap, h1, h2, h3, h4⟩ := h
  refine ⟨A, cap, h1, h2, h3, fun hl => ?_⟩
  obtain ⟨g, o, hA, hg, hc⟩ := h4 hl
  exact ⟨g, o, hA, by omega, hc⟩

theorem lines_len (l : List ByteArray) : (linesL (bytesOf l)).length = l.length + totalN l := by
  induction l with
  | nil => rfl
  | cons s r ih =>
    have e : linesL (bytesOf (s :: r)) = (s.data.toList ++ [10]) ++ linesL (bytesOf r) := by simp [linesL, bytesOf]
    rw [e]
    have hs := Lib.size_eq s
    have ht : totalN (s :: r) = s.size + totalN r := by simp [totalN]
    simp only [List.length_append, List.length_cons, List.length_nil, ih, ht]
    omega

theorem lines_snoc (l : List ByteArray) (s : ByteArray) : linesL (bytesOf (l ++ [s])) = linesL (bytesOf l) ++ s.data.toList ++ [10] := by
  simp [linesL, bytesOf]

theorem line_cat (X : List UInt8) (s : ByteArray) : (⟨X.toArray⟩ : ByteArray) ++ s ++ ⟨#[10]⟩ = ⟨(X ++ s.data.toList ++ [10]).toArray⟩ := by
  rw [list_append]
  show (⟨(X ++ s.data.toList).toArray⟩ : ByteArray) ++ ⟨[10].toArray⟩ = _
  rw [ByteArray.mk_append_mk]

theorem total_at {l : List ByteArray} {k : Nat} (h : k < l.length) : totalN (l.take k) + l[k].size ≤ totalN l := by
  have := totalN_mono l (k + 1)
  rw [List.take_succ_eq_append_getElem h, totalN_snoc] at this
  exact this

def TruePost (w : World) (e : Ending) (w' : World) : Prop := e = .returned (.bool true) ∧ Below w.heap.size w w'

end Go.Proofs.YtkkejlmpimamdaaDoor
