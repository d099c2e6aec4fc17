import Derived.Test.YtkkejlmpimamdaaDoorMore
set_option linter.unusedVariables false
set_option linter.unusedSimpArgs false
/- printf of %s and a newline writes each argument on a line; a format that asks for nothing is written as it is: plain lists. -/
namespace Go.Proofs.YtkkejlmpimamdaaDoor

theorem padL_zero (left : Bool) (s : List UInt8) : padL left 0 s = s := by simp [padL]

theorem once_line (p : PS) : onceL [37, 115, 92, 110] p = { p with args := p.args.drop 1, used := true, out := p.out ++ (p.args.headD [] ++ [10]) } := by
  rw [onceL_cons]
  have e1 : stepL 37 [115, 92, 110] p = ([92, 110], convertL p false 0 115) := rfl
  rw [e1, onceL_cons]
  have e2 : ∀ q : PS, stepL 92 [110] q = ([], { q with out := q.out ++ [10] }) := fun _ => rfl
  rw [e2, onceL_nil]
  simp [convertL, argL, padL]

def linesL (l : List (List UInt8)) : List UInt8 := (l.map fun s => s ++ [10]).flatten

theorem more_lines (n : Nat) : ∀ p : PS, p.used = true → p.bad = false → p.args.length ≤ n → (p.out ++ linesL p.args).length ≤ 16384 →
    (moreL [37, 115, 92, 110] n p).out = p.out ++ linesL p.args ∧ (moreL [37, 115, 92, 110] n p).bad = false := by
  induction n with
  | zero =>
    intro p hu hb hl hs
    have : p.args = [] := List.eq_nil_of_length_eq_zero (by omega)
    simp [moreL, this, linesL, hb]
  | succ n ih =>
    intro p hu hb hl hs
    cases ha : p.args with
    | nil => rw [moreL_stop _ _ _ (by simp [ha])]; simp [ha, linesL, hb]
    | cons s r =>
      have hlen : p.out.length ≤ 16384 := by simp at hs; omega
      rw [moreL_go _ _ _ ⟨by rw [ha]; simp, hu, hlen⟩ (by omega)]
      have e : linesL p.args = (s ++ [10]) ++ linesL r := by rw [ha]; simp [linesL]
      have := ih (onceL [37, 115, 92, 110] p) (by rw [once_line]) (by rw [once_line]; exact hb) (by rw [once_line]; simp [ha]; rw [ha] at hl; simp at hl; omega) (by
        rw [once_line]; simp only [ha, List.headD_cons, List.drop_succ_cons, List.drop_zero]; rw [e] at hs; simpa [List.append_assoc] using hs)
      rw [show n + 1 - 1 = n from rfl, this.1, this.2]
      rw [once_line]
      simp [ha, linesL, List.append_assoc]

theorem printf_lines (l : List (List UInt8)) (h0 : l ≠ []) (hs : (linesL l).length ≤ 16384) : printfL [37, 115, 92, 110] l = (linesL l, true) := by
  cases l with
  | nil => exact absurd rfl h0
  | cons s r =>
    unfold printfL
    have e : linesL (s :: r) = (s ++ [10]) ++ linesL r := by simp [linesL]
    have := more_lines (s :: r).length (onceL [37, 115, 92, 110] { out := [], args := s :: r, used := false, bad := false }) (by rw [once_line]) (by rw [once_line]) (by rw [once_line]; simp) (by rw [once_line]; simp only [List.nil_append, List.headD_cons, List.drop_succ_cons, List.drop_zero]; rw [← e]; exact hs)
    dsimp only
    rw [this.1, this.2, once_line]
    simp only [List.nil_append, List.headD_cons, List.drop_succ_cons, List.drop_zero]
    rw [← e, List.take_of_length_le hs]
    rfl

theorem once_plain (f : List UInt8) : ∀ p : PS, (∀ c ∈ f, c ≠ 37 ∧ c ≠ 92) → onceL f p = { p with out := p.out ++ f } := by
  induction f with
  | nil => intro p _; rw [onceL_nil]; simp
  | cons c r ih =>
    intro p h
    have hc := h c (by simp)
    rw [onceL_cons]
    have e : stepL c r p = (r, { p with out := p.out ++ [c] }) := by
      unfold stepL escStep
      rw [if_neg hc.2, if_neg hc.1]
    rw [e, ih _ (fun d hd => h d (by simp [hd]))]
    simp

theorem printf_plain (f : List UInt8) (l : List (List UInt8)) (h : ∀ c ∈ f, c ≠ 37 ∧ c ≠ 92) (hs : f.length ≤ 16384) : printfL f l = (f, true) := by
  unfold printfL
  rw [once_plain f _ h, moreL_stop _ _ _ (by simp)]
  simp [List.take_of_length_le hs]
end Go.Proofs.YtkkejlmpimamdaaDoor
