/- Plain arithmetic of texts of digits: no program in sight. -/
namespace Go.Proofs.YtkkejlmpimamdaaDoor

/-- The sign of a digit. -/
def dig (d : Nat) : UInt8 := if d < 10 then (48 + d).toUInt8 else (87 + d).toUInt8

/-- What a sign is worth as a digit; 99: it is none. -/
def dv (c : UInt8) : Nat :=
  let n := c.toNat
  if 48 ≤ n ∧ n ≤ 57 then n - 48 else if 97 ≤ n ∧ n ≤ 102 then n - 87 else if 65 ≤ n ∧ n ≤ 70 then n - 55 else 99

/-- A number in a base. -/
def baseL (b n : Nat) : List UInt8 := if _h : n < b ∨ b < 2 then [dig n] else baseL b (n / b) ++ [dig (n % b)]
termination_by n
decreasing_by
  have hb : 1 < b := by omega
  exact Nat.div_lt_self (by omega) hb

/-- A text of digits as a number. -/
def valL (b : Nat) (s : List UInt8) : Nat := s.foldl (fun n c => n * b + dv c) 0

def okL (b : Nat) (s : List UInt8) : Bool := s.all fun c => decide (dv c < b)

/-- Digits of a base, up to a greatest number: the number, and 0: fine, 40: no number, 41: too great. -/
def readL (b most : Nat) (s : List UInt8) : Nat × Int :=
  if s.isEmpty then (0, 40) else if okL b s then (if valL b s ≤ most then (valL b s, 0) else (0, 41)) else (0, 40)

def wr (x : Int) : Int := (x + 9223372036854775808) % 18446744073709551616 - 9223372036854775808

/-- A number with a sign. -/
def decL (s : List UInt8) : Int × Int :=
  match s with
  | c :: r => if c = 45 then (let x := readL 10 9223372036854775808 r; (-(x.1 : Int), x.2))
      else if c = 43 then (let x := readL 10 9223372036854775807 r; ((x.1 : Int), x.2))
      else (let x := readL 10 9223372036854775807 s; ((x.1 : Int), x.2))
  | [] => (0, 40)

/-- A number written. -/
def textL (n : Int) : List UInt8 := if n < 0 then 45 :: baseL 10 n.natAbs else baseL 10 n.toNat

theorem dv_dig (d : Nat) (h : d < 16) : dv (dig d) = d := by
  have : d = 0 ∨ d = 1 ∨ d = 2 ∨ d = 3 ∨ d = 4 ∨ d = 5 ∨ d = 6 ∨ d = 7 ∨ d = 8 ∨ d = 9 ∨ d = 10 ∨ d = 11 ∨ d = 12 ∨ d = 13 ∨ d = 14 ∨ d = 15 := by omega
  rcases this with rfl | rfl | rfl | rfl | rfl | rfl | rfl | rfl | rfl | rfl | rfl | rfl | rfl | rfl | rfl | rfl <;> decide

theorem baseL_small {b n : Nat} (h : n < b ∨ b < 2) : baseL b n = [dig n] := by rw [baseL]; simp [h]
theorem baseL_step {b n : Nat} (h : ¬ (n < b ∨ b < 2)) : baseL b n = baseL b (n / b) ++ [dig (n % b)] := by rw [baseL]; simp [h]

theorem baseL_ne (b n : Nat) : baseL b n ≠ [] := by
  by_cases h : n < b ∨ b < 2
  · rw [baseL_small h]; simp
  · rw [baseL_step h]; simp

theorem valL_append (b : Nat) (s : List UInt8) (c : UInt8) : valL b (s ++ [c]) = valL b s * b + dv c := by simp [valL]

theorem valL_baseL (b : Nat) (hb : 2 ≤ b) (hb' : b ≤ 16) (n : Nat) : valL b (baseL b n) = n := by
  induction n using Nat.strongRecOn with
  | ind n ih =>
    by_cases h : n < b
    · rw [baseL_small (.inl h)]; simp [valL, dv_dig n (by omega)]
    · rw [baseL_step (by omega), valL_append, ih _ (Nat.div_lt_self (by omega) (by omega)), dv_dig _ (by have := Nat.mod_lt n (show b > 0 by omega); omega)]
      exact Nat.div_add_mod' n b

theorem okL_baseL (b : Nat) (hb : 2 ≤ b) (hb' : b ≤ 16) (n : Nat) : okL b (baseL b n) = true := by
  induction n using Nat.strongRecOn with
  | ind n ih =>
    by_cases h : n < b
    · rw [baseL_small (.inl h)]; simp [okL, dv_dig n (by omega), h]
    · rw [baseL_step (by omega)]
      have := ih _ (Nat.div_lt_self (show 0 < n by omega) (show 1 < b by omega))
      have hm := Nat.mod_lt n (show b > 0 by omega)
      simp only [okL, List.all_append] at this ⊢
      simp [this, dv_dig _ (show n % b < 16 by omega), hm]

theorem baseL_head (b : Nat) (hb : 2 ≤ b) (hb' : b ≤ 16) (n : Nat) : ∀ c ∈ baseL b n, dv c < b := by
  have h := okL_baseL b hb hb' n
  intro c hc
  have := List.all_eq_true.1 h c hc
  simpa using this

theorem readL_baseL (b : Nat) (hb : 2 ≤ b) (hb' : b ≤ 16) (n most : Nat) (hm : n ≤ most) : readL b most (baseL b n) = (n, 0) := by
  unfold readL
  rw [if_neg (by simpa using baseL_ne b n), if_pos (okL_baseL b hb hb' n), valL_baseL b hb hb', if_pos hm]

theorem decL_textL (n : Int) (h1 : -9223372036854775808 ≤ n) (h2 : n ≤ 9223372036854775807) : decL (textL n) = (n, 0) := by
  unfold textL
  by_cases h : n < 0
  · rw [if_pos h]
    simp only [decL, if_true]
    rw [readL_baseL 10 (by omega) (by omega) _ _ (by omega)]
    simp only [Prod.mk.injEq, and_true]
    omega
  · rw [if_neg h]
    have hne := baseL_ne 10 n.toNat
    have hh := baseL_head 10 (by omega) (by omega) n.toNat
    have hr := readL_baseL 10 (by omega) (by omega) n.toNat 9223372036854775807 (by omega)
    cases hs : baseL 10 n.toNat with
    | nil => exact absurd hs hne
    | cons c r =>
      rw [hs] at hh hr
      have hc := hh c (by simp)
      have h45 : c ≠ 45 := by rintro rfl; revert hc; decide
      have h43 : c ≠ 43 := by rintro rfl; revert hc; decide
      simp only [decL, if_neg h45, if_neg h43, hr]
      simp only [Prod.mk.injEq, and_true]
      omega

theorem textL_ne (n : Int) : textL n ≠ [] := by
  unfold textL; split
  · simp
  · exact baseL_ne _ _
end Go.Proofs.YtkkejlmpimamdaaDoor
