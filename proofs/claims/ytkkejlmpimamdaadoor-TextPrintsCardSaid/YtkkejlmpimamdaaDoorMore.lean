import Derived.Test.YtkkejlmpimamdaaDoorTPrint
set_option linter.unusedVariables false
set_option linter.unusedSimpArgs false
/- What a format asks for is the same whatever is written: plain lists. -/
namespace Go.Proofs.YtkkejlmpimamdaaDoor

theorem convertL_uniform (left : Bool) (w : Nat) (v : UInt8) : ∃ k, ∀ p, (convertL p left w v).args = p.args.drop k ∧ (convertL p left w v).used = (p.used || decide (0 < k)) := by
  by_cases h : v = 37
  · exact ⟨0, fun p => by simp [convertL, h]⟩
  · exact ⟨1, fun p => by simp [convertL, h]⟩

theorem stepL_uniform (c : UInt8) (r : List UInt8) : ∃ rest k, rest.length ≤ r.length ∧ ∀ p, (stepL c r p).1 = rest ∧ (stepL c r p).2.args = p.args.drop k ∧ (stepL c r p).2.used = (p.used || decide (0 < k)) := by
  have hle := fun p => stepL_le c r p
  by_cases h92 : c = 92 ∧ ∃ d r' e, r = d :: r' ∧ escL d = some e
  · obtain ⟨rfl, d, r', e, rfl, he⟩ := h92
    refine ⟨r', 0, by simp, fun p => ?_⟩
    simp [stepL, escStep, he]
  · have hn : ∀ p, escStep c r p = none := by
      intro p
      unfold escStep
      split
      · rename_i hc
        cases r with
        | nil => rfl
        | cons d r' =>
          cases he : escL d with
          | none => simp [he]
          | some e => exact absurd ⟨hc, d, r', e, rfl, he⟩ h92
      · rfl
    cases hv : (if c = 37 then convL r else none) with
    | none =>
      refine ⟨r, 0, Nat.le_refl _, fun p => ?_⟩
      unfold stepL
      rw [hn p, hv]
      simp
    | some x =>
      obtain ⟨left, w, v, n⟩ := x
      obtain ⟨k, hk⟩ := convertL_uniform left w v
      refine ⟨r.drop n, k, by simp, fun p => ?_⟩
      unfold stepL
      rw [hn p, hv]
      exact ⟨rfl, (hk p).1, (hk p).2⟩

theorem onceL_uniform (n : Nat) : ∀ f : List UInt8, f.length ≤ n → ∃ k, ∀ p, (onceL f p).args = p.args.drop k ∧ (onceL f p).used = (p.used || decide (0 < k)) := by
  induction n with
  | zero =>
    intro f hf
    obtain rfl : f = [] := List.eq_nil_of_length_eq_zero (by omega)
    exact ⟨0, fun p => by rw [onceL_nil]; simp⟩
  | succ n ih =>
    intro f hf
    cases f with
    | nil => exact ⟨0, fun p => by rw [onceL_nil]; simp⟩
    | cons c r =>
      obtain ⟨rest, k1, hle, hs⟩ := stepL_uniform c r
      have hlen : rest.length ≤ n := by simp only [List.length_cons] at hf; omega
      obtain ⟨k2, hk⟩ := ih rest hlen
      refine ⟨k1 + k2, fun p => ?_⟩
      obtain ⟨h1, h2, h3⟩ := hs p
      rw [onceL_cons, h1, (hk _).1, (hk _).2, h2, h3, List.drop_drop]
      refine ⟨rfl, ?_⟩
      rw [Bool.or_assoc]
      congr 1
      rw [Bool.eq_iff_iff]
      simp only [Bool.or_eq_true, decide_eq_true_eq]
      omega

theorem onceL_used {f : List UInt8} {p0 : PS} (h0 : p0.used = false) (h : (onceL f p0).used = true) (p : PS) : (onceL f p).args.length ≤ p.args.length - 1 := by
  obtain ⟨k, hk⟩ := onceL_uniform f.length f (Nat.le_refl _)
  rw [(hk p0).2, h0] at h
  simp at h
  rw [(hk p).1]
  simp
  omega

theorem onceL_args (f : List UInt8) (p : PS) : ∀ a ∈ (onceL f p).args, a ∈ p.args := by
  obtain ⟨k, hk⟩ := onceL_uniform f.length f (Nat.le_refl _)
  intro a ha
  rw [(hk p).1] at ha
  exact List.mem_of_mem_drop ha

theorem onceL_stays {f : List UInt8} {p : PS} (h : p.used = true) : (onceL f p).used = true := by
  obtain ⟨k, hk⟩ := onceL_uniform f.length f (Nat.le_refl _)
  rw [(hk p).2, h]; rfl

theorem moreL_stop (f : List UInt8) (n : Nat) (p : PS) (h : ¬ (p.args ≠ [] ∧ p.used = true ∧ p.out.length ≤ 16384)) : moreL f n p = p := by
  cases n with
  | zero => rfl
  | succ n => rw [moreL, if_neg h]
theorem moreL_go (f : List UInt8) (n : Nat) (p : PS) (h : p.args ≠ [] ∧ p.used = true ∧ p.out.length ≤ 16384) (hn : 0 < n) : moreL f n p = moreL f (n - 1) (onceL f p) := by
  cases n with
  | zero => omega
  | succ n => rw [moreL, if_pos h]; rfl
end Go.Proofs.YtkkejlmpimamdaaDoor
