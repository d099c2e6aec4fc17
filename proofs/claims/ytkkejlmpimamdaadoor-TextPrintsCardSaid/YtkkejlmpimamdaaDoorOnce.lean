import Derived.Test.YtkkejlmpimamdaaDoorCvtO
set_option linter.unusedVariables false
set_option linter.unusedSimpArgs false
namespace Go.Proofs.YtkkejlmpimamdaaDoor
open Go.RowKit

theorem esc_index (c : UInt8) (X : Int) (h : Lib.indexByte [110, 116, 92, 34] c = X) (w : World) :
    Calls Tryd.prog 16 #[.string ⟨#[110, 116, 92, 34]⟩, .int .u8 (c.toNat : Int)] w fun e w' => e = .returned (.int .i64 X) ∧ w = w' := by
  refine (Tryd.strings_IndexByte _ _ _).mono ?_
  rintro e w' ⟨rfl, rfl⟩
  refine ⟨ret_int ?_, rfl⟩
  rw [← h]
  simp

theorem esc_neg (c : UInt8) (h : escL c = none) : Lib.indexByte [110, 116, 92, 34] c = -1 := by
  unfold escL at h
  by_cases h1 : c = 110
  · simp [h1] at h
  by_cases h2 : c = 116
  · simp [h2] at h
  by_cases h3 : c = 92
  · simp [h3] at h
  by_cases h4 : c = 34
  · simp [h4] at h
  have e : ∀ a : UInt8, ¬ c = a → (a == c) = false := fun a h => by simp; exact fun e => h e.symm
  simp [Lib.indexByte, e _ h1, e _ h2, e _ h3, e _ h4]

theorem esc_cases {d e : UInt8} (h : escL d = some e) : (d = 110 ∧ e = 10) ∨ (d = 116 ∧ e = 9) ∨ (d = 92 ∧ e = 92) ∨ (d = 34 ∧ e = 34) := by
  unfold escL at h
  by_cases h1 : d = 110
  · simp [h1] at h; exact .inl ⟨h1, h.symm⟩
  by_cases h2 : d = 116
  · simp [h2] at h; exact .inr (.inl ⟨h2, h.symm⟩)
  by_cases h3 : d = 92
  · simp [h3] at h; exact .inr (.inr (.inl ⟨h3, h.symm⟩))
  by_cases h4 : d = 34
  · simp [h4] at h; exact .inr (.inr (.inr ⟨h4, h.symm⟩))
  simp [h1, h2, h3, h4] at h

/-- the state at sign i of the format -/
structure OnceAt (f : List UInt8) (p0 : PS) (i : Nat) (p : PS) : Prop where
  le : i ≤ f.length
  same : onceL (f.drop i) p = onceL f p0
  small : p.out.length + (f.length - i) * 1100000 ≤ 100000000000
  args : ∀ a ∈ p.args, a.length ≤ 1000000

theorem OnceAt.fits {f : List UInt8} {p0 p : PS} {i : Nat} (h : OnceAt f p0 i p) : Fits p := ⟨by have := h.small; omega, h.args⟩

theorem OnceAt.plain {f : List UInt8} {p0 p : PS} {i : Nat} (h : OnceAt f p0 i p) (hlt : i < f.length)
    (h1 : f[i] = 92 → ∀ hd : i + 1 < f.length, escL f[i + 1] = none) (h2 : f[i] = 37 → convL (f.drop (i + 1)) = none) : OnceAt f p0 (i + 1) { p with out := p.out ++ [f[i]] } := by
  have hs := h.small
  refine ⟨by omega, ?_, ?_, h.args⟩
  · rw [← h.same, List.drop_eq_getElem_cons hlt, onceL_cons]
    have : stepL f[i] (f.drop (i + 1)) p = (f.drop (i + 1), { p with out := p.out ++ [f[i]] }) := by
      unfold stepL
      have e1 : escStep f[i] (f.drop (i + 1)) p = none := by
        unfold escStep
        split
        · rename_i hc
          rcases Nat.lt_or_ge (i + 1) f.length with hd | hd
          · rw [List.drop_eq_getElem_cons hd]
            simp [h1 hc hd]
          · rw [List.drop_eq_nil_of_le hd]
        · rfl
      rw [e1]
      simp only
      have e2 : (if f[i] = 37 then convL (f.drop (i + 1)) else none) = none := by
        split
        · rename_i hc
          exact h2 hc
        · rfl
      rw [e2]
    rw [this]
  · simp; omega

theorem OnceAt.esc {f : List UInt8} {p0 p : PS} {i : Nat} (h : OnceAt f p0 i p) (hlt : i + 1 < f.length) (h1 : f[i] = 92) {e : UInt8} (h2 : escL f[i + 1] = some e) : OnceAt f p0 (i + 2) { p with out := p.out ++ [e] } := by
  have hs := h.small
  refine ⟨by omega, ?_, by simp; omega, h.args⟩
  rw [← h.same, List.drop_eq_getElem_cons (show i < f.length by omega), onceL_cons]
  have : stepL f[i] (f.drop (i + 1)) p = (f.drop (i + 2), { p with out := p.out ++ [e] }) := by
    unfold stepL escStep
    rw [List.drop_eq_getElem_cons hlt]
    simp [h1, h2]
  rw [this]

theorem OnceAt.conv {f : List UInt8} {p0 p : PS} {i : Nat} (h : OnceAt f p0 i p) (hlt : i < f.length) (h1 : f[i] = 37) {l : Bool} {wd n : Nat} {v : UInt8} (h2 : convL (f.drop (i + 1)) = some (l, wd, v, n)) (hn : n ≤ (f.drop (i + 1)).length) (hw : wd ≤ 99) :
    OnceAt f p0 (i + 1 + n) (convertL p l wd v) := by
  have hs := h.small
  simp at hn
  refine ⟨by omega, ?_, ?_, ?_⟩
  · rw [← h.same, List.drop_eq_getElem_cons hlt, onceL_cons]
    have : stepL f[i] (f.drop (i + 1)) p = (f.drop (i + 1 + n), convertL p l wd v) := by
      unfold stepL
      have e1 : escStep f[i] (f.drop (i + 1)) p = none := by
        unfold escStep
        rw [if_neg (by rw [h1]; decide)]
      rw [e1]
      simp only [h1, if_true, h2]
      rw [List.drop_drop]
    rw [this]
  · have hc : (convertL p l wd v).out.length ≤ p.out.length + 1000200 := by
      unfold convertL
      split
      · simp
      · have ha := head_small (OnceAt.fits h)
        have hp := padL_len l wd (argL v (p.args.headD [])).1
        have hq : (argL v (p.args.headD [])).1.length ≤ 1000000 := by
          unfold argL
          split
          · simp; omega
          · split
            · have hr : -9223372036854775808 ≤ (if p.args.headD [] = [] then ((0 : Int), (0 : Int)) else decL (p.args.headD [])).1 ∧ (if p.args.headD [] = [] then ((0 : Int), (0 : Int)) else decL (p.args.headD [])).1 ≤ 9223372036854775807 := by
                split
                · simp
                · exact decL_range _
              dsimp only
              generalize (if p.args.headD [] = [] then ((0 : Int), (0 : Int)) else decL (p.args.headD [])) = D at *
              split
              · have := baseL_len64 16 (D.1 % 18446744073709551616).toNat (by omega) (by omega); omega
              · split
                · have := baseL_len64 8 (D.1 % 18446744073709551616).toNat (by omega) (by omega); omega
                · have := textL_len D.1 (by omega) (by omega); omega
            · exact ha
        simp only [List.length_append]
        omega
    omega
  · unfold convertL
    split
    · exact h.args
    · intro a ha
      exact h.args a (List.mem_of_mem_drop ha)
end Go.Proofs.YtkkejlmpimamdaaDoor
