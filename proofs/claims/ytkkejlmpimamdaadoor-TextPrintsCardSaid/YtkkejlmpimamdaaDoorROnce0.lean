import Derived.Test.YtkkejlmpimamdaaDoorRCvt
import Derived.Test.YtkkejlmpimamdaaDoorOnce2
import Derived.Deep.LoopGhost
set_option linter.unusedVariables false
set_option linter.unusedSimpArgs false
namespace Go.Proofs.YtkkejlmpimamdaaDoor
open Go.RowKit

theorem rDigit_any (c : UInt8) (w : World) :
    Calls Tryd.prog 21 #[.int .u8 (c.toNat : Int)] w fun e w' => e = .returned (.bool (digitB c)) ∧ w = w' := by
  have h2 := c.toNat_lt
  unfold digitB
  generalize c.toNat = n at *
  by_cases h : 48 ≤ n
  · have h' : (48 : Int) ≤ (n : Int) := by omega
    go_enter Tryd.func21, Tryd.ntmps21
    go_wp2
    go_ret
    exact ⟨by simp [h] <;> omega, rfl⟩
  · have h' : (n : Int) < 48 := by omega
    go_enter Tryd.func21, Tryd.ntmps21
    go_wp2
    go_ret
    exact ⟨by simp [h] <;> omega, rfl⟩

/-- what the document's answer has printed, in block b; u arguments asked for -/
structure RAt (b : Nat) (q : PS) (L : List (List UInt8)) (u : Nat) (w : World) : Prop where
  heap : w.heap[b]? = some (.cells #[.string ⟨q.out.toArray⟩, .int .i64 (u : Int), .bool q.bad] 41 (0, 0))
  args : q.args = L.drop u
  used : q.used = decide (0 < u)

def ROncePost (L : List (List UInt8)) (f : List UInt8) (q : PS) (u : Nat) (w : World) (e : Ending) (w' : World) : Prop :=
  ∃ u' : Nat, e = .returned (.agg #[.string ⟨(onceL f q).out.toArray⟩, .int .i64 (u' : Int), .bool (onceL f q).bad]) ∧ (onceL f q).args = L.drop u' ∧ (onceL f q).used = decide (0 < u') ∧ u' ≤ u + f.length ∧ Below w.heap.size w w'

theorem RAt.out {b : Nat} {q : PS} {L : List (List UInt8)} {u : Nat} {w : World} (h : RAt b q L u w) : w.cell? ⟨b, 0, none⟩ = some (.string ⟨q.out.toArray⟩) := by rw [cell_at h.heap]; rfl
theorem RAt.n {b : Nat} {q : PS} {L : List (List UInt8)} {u : Nat} {w : World} (h : RAt b q L u w) : w.cell? ⟨b, 1, none⟩ = some (.int .i64 (u : Int)) := by rw [cell_at h.heap]; rfl
theorem RAt.b {b : Nat} {q : PS} {L : List (List UInt8)} {u : Nat} {w : World} (h : RAt b q L u w) : w.cell? ⟨b, 2, none⟩ = some (.bool q.bad) := by rw [cell_at h.heap]; rfl

theorem RAt.write {b : Nat} {q : PS} {L : List (List UInt8)} {u : Nat} {w : World} (h : RAt b q L u w) (s : ByteArray) (o : List UInt8) (hs : (⟨q.out.toArray⟩ : ByteArray) ++ s = ⟨o.toArray⟩) : RAt b { q with out := o } L u (w.setCell ⟨b, 0, none⟩ (.string (⟨q.out.toArray⟩ ++ s))) :=
  ⟨by rw [heap_set h.heap, hs]; rfl, h.args, h.used⟩
theorem RAt.drew {b : Nat} {q : PS} {L : List (List UInt8)} {u : Nat} {w : World} (h : RAt b q L u w) : RAt b q L u w.drew := ⟨h.heap, h.args, h.used⟩

theorem ext1 (f : ByteArray) (i : Nat) (h : i < f.size) : f.extract i (i + 1) = ⟨#[f[i]]⟩ := by
  rw [Lib.extract_eq]
  have hl := Lib.size_eq f
  have h2 : i < f.data.toList.length := by omega
  rw [List.drop_eq_getElem_cons h2]
  have : i + 1 - i = 1 := by omega
  rw [this]
  rfl
theorem out1 (q : List UInt8) (f : ByteArray) (i : Nat) (h : i < f.size) : (⟨q.toArray⟩ : ByteArray) ++ f.extract i (i + 1) = ⟨(q ++ [f[i]]).toArray⟩ := by
  rw [ext1 f i h, list_append]
theorem outc (q : List UInt8) (c : UInt8) : (⟨q.toArray⟩ : ByteArray) ++ ⟨#[c]⟩ = ⟨(q ++ [c]).toArray⟩ := by
  rw [list_append]

theorem has_esc (c : UInt8) : hasB [110, 116, 92, 34] c = (escL c).isSome := by
  unfold hasB escL
  by_cases h1 : c = 110
  · simp [h1]
  by_cases h2 : c = 116
  · simp [h2]
  by_cases h3 : c = 92
  · simp [h3]
  by_cases h4 : c = 34
  · simp [h4]
  simp [h1, h2, h3, h4]
theorem rhas_esc (c : UInt8) (t : Bool) (h : (escL c).isSome = t) (w : World) :
    Calls Tryd.prog 20 #[.string ⟨#[110, 116, 92, 34]⟩, .int .u8 (c.toNat : Int)] w fun e w' => e = .returned (.bool t) ∧ w = w' := by
  have := rhas_lit [110, 116, 92, 34] c w (by decide)
  rw [has_esc, h] at this
  exact this
theorem rhas_verb (c : UInt8) (t : Bool) (h : decide (c ∈ ([115, 100, 120, 111, 99, 37] : List UInt8)) = t) (w : World) :
    Calls Tryd.prog 20 #[.string ⟨#[115, 100, 120, 111, 99, 37]⟩, .int .u8 (c.toNat : Int)] w fun e w' => e = .returned (.bool t) ∧ w = w' := by
  have := rhas_lit [115, 100, 120, 111, 99, 37] c w (by decide)
  rw [show hasB [115, 100, 120, 111, 99, 37] c = t by rw [← h]; unfold hasB; rw [List.contains_eq_mem]] at this
  exact this

/-- padding, one blank at a time -/
def PadAt (left : Bool) (wd : Nat) (A V : List UInt8) : Prop :=
  ∃ m, V = (if left then A ++ List.replicate m 32 else List.replicate m 32 ++ A) ∧ (m = 0 ∨ V.length ≤ wd)
theorem PadAt.zero (left : Bool) (wd : Nat) (A : List UInt8) : PadAt left wd A A := ⟨0, by cases left <;> simp, .inl rfl⟩
theorem PadAt.left {wd : Nat} {A V : List UInt8} (h : PadAt true wd A V) (hl : V.length < wd) : PadAt true wd A (V ++ [32]) := by
  obtain ⟨m, rfl, hm⟩ := h
  refine ⟨m + 1, ?_, .inr (by simp at hl ⊢; omega)⟩
  simp [List.replicate_succ']
theorem PadAt.right {wd : Nat} {A V : List UInt8} (h : PadAt false wd A V) (hl : V.length < wd) : PadAt false wd A ([32] ++ V) := by
  obtain ⟨m, rfl, hm⟩ := h
  refine ⟨m + 1, ?_, .inr (by simp at hl ⊢; omega)⟩
  simp [List.replicate_succ]
theorem PadAt.done {left : Bool} {wd : Nat} {A V : List UInt8} (h : PadAt left wd A V) (hl : wd ≤ V.length) : V = padL left wd A := by
  obtain ⟨m, rfl, hm⟩ := h
  have hm' : m = wd - A.length := by
    rcases hm with rfl | hm
    · cases left <;> simp at hl <;> omega
    · cases left <;> simp at hl hm <;> omega
  subst hm'
  cases left <;> simp [padL]
theorem PadAt.len {left : Bool} {wd : Nat} {A V : List UInt8} (h : PadAt left wd A V) : V.length ≤ A.length + wd := by
  obtain ⟨m, rfl, hm⟩ := h
  rcases hm with rfl | hm
  · cases left <;> simp
  · cases left <;> simp at hm ⊢ <;> omega
end Go.Proofs.YtkkejlmpimamdaaDoor
