import Derived.Test.YtkkejlmpimamdaaDoorN3
import Derived.BigRegion
set_option linter.unusedVariables false
set_option linter.unusedSimpArgs false
namespace Go.Proofs.YtkkejlmpimamdaaDoor
open Go.RowKit

theorem sign_at (d : Nat) (h : d < 16) : (⟨#[48, 49, 50, 51, 52, 53, 54, 55, 56, 57, 97, 98, 99, 100, 101, 102]⟩ : ByteArray).extract d (d + 1) = ⟨[dig d].toArray⟩ := by
  have : d = 0 ∨ d = 1 ∨ d = 2 ∨ d = 3 ∨ d = 4 ∨ d = 5 ∨ d = 6 ∨ d = 7 ∨ d = 8 ∨ d = 9 ∨ d = 10 ∨ d = 11 ∨ d = 12 ∨ d = 13 ∨ d = 14 ∨ d = 15 := by omega
  rcases this with rfl | rfl | rfl | rfl | rfl | rfl | rfl | rfl | rfl | rfl | rfl | rfl | rfl | rfl | rfl | rfl <;> rfl

theorem pw_drewN_below (w : World) (n : Nat) : Below w.heap.size w (w.drewN n) := by
  induction n with
  | zero => exact Below.refl _ _
  | succ n ih => rw [← World.drew_drewN]; exact ih.drew

set_option maxHeartbeats 2000000 in
theorem rbase_any (base : Nat) (hb : 2 ≤ base) (hb' : base ≤ 16) (n : Nat) : ∀ (w : World), n < 18446744073709551616 →
    Calls Tryd.prog 39 #[.int .u64 (n : Int), .int .i64 (base : Int)] w fun e w' => e = .returned (.string ⟨(baseL base n).toArray⟩) ∧ Below w.heap.size w w' := by
  induction n using Nat.strongRecOn with
  | ind n ih =>
    intro w hn
    have g1 : decide ((base : Int) < 2) = false := by simp; omega
    have g2 : decide ((16 : Int) < base) = false := by simp; omega
    have hm : (n : Int) % (base : Int) < 16 := by have := Int.emod_lt_of_pos (n : Int) (show (0 : Int) < base by omega); omega
    have hm0 : 0 ≤ (n : Int) % (base : Int) := Int.emod_nonneg _ (by omega)
    have hb0 : (0 : Int) < base := by omega
    have IH := Lib.hid ih
    clear ih
    have hmn : n % base < 16 := by have := Nat.mod_lt n (show base > 0 by omega); omega
    have hlenL := baseL_len64 base n hb hn
    by_cases hlt : n < base
    · have hres : baseL base n = [dig (n % base)] := by rw [baseL_small (.inl hlt), Nat.mod_eq_of_lt hlt]
      have HR := Lib.hid hres
      clear hres hlenL
      go_enter Tryd.func39, Tryd.ntmps39
      go_wp2
      go_quiet (fail)
      rw [sign_at (n % base) hmn]
      go_wp2
      go_ret
      exact ⟨by rw [HR.out]; rfl, pw_drewN_below _ _⟩
    · have hres : baseL base n = baseL base (n / base) ++ [dig (n % base)] := baseL_step (by omega)
      have hd : n / base < n := Nat.div_lt_self (by omega) (by omega)
      have hrec := fun W => IH.out (n / base) hd W (by omega)
      rw [show ((n / base : Nat) : Int) = (n : Int) / (base : Int) by simp] at hrec
      have HREC := Lib.hid hrec
      have hq : IntKind.u64.wrap ((n : Int) / (base : Int)) = (n : Int) / (base : Int) := by rw [quo_wrap n base hn]; simp
      have HQ := Lib.hid hq
      have HR := Lib.hid hres
      have hl2 : (baseL base (n / base)).length ≤ 64 := baseL_len64 base _ hb (by omega)
      clear hres hlenL hrec hq hd
      go_enter Tryd.func39, Tryd.ntmps39
      go_wp2
      go_quiet (fail)
      rw [sign_at (n % base) hmn]
      go_wp2_with fail
      try simp only [HQ.out]
      refine (HREC.out _).mono ?_
      rintro e w2 ⟨rfl, hB⟩
      go_wp2
      go_ret
      refine ⟨?_, (pw_drewN_below w _).trans (hB.mono (by simp))⟩
      rw [HR.out]
      refine ret_str2 ?_
      rw [ByteArray.mk_append_mk]

theorem rbase_int (v b : Int) (w : World) (h0 : 0 ≤ v) (h1 : v < 18446744073709551616) (hb : 2 ≤ b) (hb' : b ≤ 16) :
    Calls Tryd.prog 39 #[.int .u64 v, .int .i64 b] w fun e w' => e = .returned (.string ⟨(baseL b.toNat v.toNat).toArray⟩) ∧ Below w.heap.size w w' := by
  have := rbase_any b.toNat (by omega) (by omega) v.toNat w (by omega)
  rw [Int.toNat_of_nonneg h0, Int.toNat_of_nonneg (show 0 ≤ b by omega)] at this
  exact this

set_option maxHeartbeats 1000000 in
theorem rtext_any (n : Int) (w : World) (h0 : -9223372036854775808 ≤ n) (h1 : n ≤ 9223372036854775807) :
    Calls Tryd.prog 40 #[.int .i64 n] w fun e w' => e = .returned (.string ⟨(textL n).toArray⟩) ∧ Below w.heap.size w w' := by
  by_cases h : n < 0
  · have ht : textL n = 45 :: baseL 10 n.natAbs := by unfold textL; rw [if_pos h]
    have HT := Lib.hid ht
    clear ht
    have hlen := baseL_len64 10 n.natAbs (by omega) (by omega)
    go_enter Tryd.func40, Tryd.ntmps40
    go_wp2_with fail
    have hw : IntKind.u64.wrap (-IntKind.u64.wrap n) = (n.natAbs : Int) := by rw [u64wrap, u64wrap]; omega
    rw [hw]
    refine (rbase_int _ _ _ (by omega) (by omega) (by omega) (by omega)).mono ?_
    rintro e w' ⟨rfl, hB⟩
    clear hw
    rw [Int.toNat_natCast]
    go_wp2
    go_ret
    refine ⟨?_, hB⟩
    rw [HT.out]
    refine ret_str2 ?_
    show (⟨[45].toArray⟩ : ByteArray) ++ ⟨(baseL 10 n.natAbs).toArray⟩ = _
    rw [ByteArray.mk_append_mk]
    rfl
  · have ht : textL n = baseL 10 n.toNat := by unfold textL; rw [if_neg h]
    have HT := Lib.hid ht
    clear ht
    go_enter Tryd.func40, Tryd.ntmps40
    go_wp2_with (go_at_call 39; refine (rbase_int _ _ _ (by omega) (by omega) (by omega) (by omega)).mono ?_; rintro e w' ⟨rfl, hB⟩)
    go_ret
    refine ⟨?_, hB⟩
    rw [HT.out]
    rfl
end Go.Proofs.YtkkejlmpimamdaaDoor
