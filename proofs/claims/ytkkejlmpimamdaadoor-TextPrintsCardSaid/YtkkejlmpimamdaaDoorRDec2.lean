import Derived.Test.YtkkejlmpimamdaaDoorRDec
set_option linter.unusedVariables false
set_option linter.unusedSimpArgs false
namespace Go.Proofs.YtkkejlmpimamdaaDoor
open Go.RowKit

theorem RVal_step {base most k N D : Nat} {s : ByteArray} (h : RValAt base most k s N) (hlt : k < s.size) (hD : dv s[k] = D) (hle : N * base + D ≤ most) : RValAt base most (k + 1) s (N * base + D) := by
  refine ⟨?_, hle⟩
  rw [take_snoc s k hlt, valL_append, ← h.val, hD]
theorem RVal_over {base most k N D : Nat} {s : ByteArray} (h : RValAt base most k s N) (hlt : k < s.size) (hD : dv s[k] = D) (hle : most < N * base + D) : most < valL base (s.data.toList.take (k + 1)) := by
  rw [take_snoc s k hlt, valL_append, ← h.val, hD]
  exact hle

theorem mul_wrap (N base most : Nat) (hm : most < 18446744073709551616) (h : N * base ≤ most) : IntKind.u64.wrap ((N : Int) * (base : Int)) = ((N * base : Nat) : Int) := by
  rw [u64wrap]
  have e : (N : Int) * (base : Int) = ((N * base : Nat) : Int) := by simp
  rw [e]
  generalize N * base = q at *
  omega

set_option maxHeartbeats 4000000 in
theorem rdigits_any (s : ByteArray) (base most : Nat) (w : World) (hs : s.size ≤ 9223372036854775807) (hb : 2 ≤ base) (hb' : base ≤ 16) (hm : most < 18446744073709551616) (hm' : 16 ≤ most) :
    Calls Tryd.prog 49 #[.string s, .int .i64 (base : Int), .int .u64 (most : Int)] w fun e w' => e = .returned (.tuple #[.int .u64 ((readL base most s.data.toList).1 : Int), .int .i64 (readL base most s.data.toList).2]) ∧ w = w' := by
  by_cases h0 : s.size = 0
  · have hl : s.data.toList = [] := by
      have := Lib.size_eq s
      exact List.eq_nil_of_length_eq_zero (by omega)
    have hr : readL base most s.data.toList = (0, 40) := by rw [hl]; rfl
    have HR := Lib.hid hr
    have h0' : ((s.size : Int) == 0) = true := by simp [h0]
    clear hr hl h0
    go_enter Tryd.func49, Tryd.ntmps49
    go_wp2
    go_ret2
    exact ⟨by rw [HR.out]; rfl, rfl⟩
  · have h0' : ((s.size : Int) == 0) = false := by rw [beq_eq_false_iff_ne]; omega
    go_enter Tryd.func49, Tryd.ntmps49
    go_wp2
    go_loop [8] (fun i => ∃ k : Nat, k ≤ s.size ∧ i = .int .i64 (k : Int) ∧ okL base (s.data.toList.take k) = true) (fun i => s.size - (intOf i).toNat)
    case atStart => exact ⟨0, by omega, rfl, rfl⟩
    case round =>
      obtain ⟨k, hk, rfl, hok⟩ := hrel
      by_cases hlt : k < s.size
      · by_cases hd : dv s[k] < base
        · have hnx : okL base (s.data.toList.take (k + 1)) = true := by rw [take_snoc s k hlt, okL_snoc, hok]; simp [hd]
          obtain ⟨D, hD⟩ : ∃ D, dv s[k] = D := ⟨_, rfl⟩
          have HD := Lib.hid hD
          have HN := Lib.hid hnx
          rw [hD] at hd
          clear hD hnx hok
          go_wp2_with (go_at_call 56; refine (rdigit_ok _ D HD.out (by omega) _).mono ?_; rintro e w' ⟨rfl, rfl⟩)
          go_round
          case rel => exact ⟨k + 1, by omega, by go_num, HN.out⟩
          case measure => simp [intOf]; omega
        · have HR := Lib.hid (readL_bad (most := most) k hlt hd)
          clear hok
          by_cases hd2 : dv s[k] < 16
          · obtain ⟨D, hD⟩ : ∃ D, dv s[k] = D := ⟨_, rfl⟩
            have HD := Lib.hid hD
            rw [hD] at hd hd2
            clear hD
            go_wp2_with (go_at_call 56; refine (rdigit_ok _ D HD.out (by omega) _).mono ?_; rintro e w' ⟨rfl, rfl⟩)
            go_ret2
            exact ⟨by rw [HR.out]; rfl, rfl⟩
          · have hd3 : 16 ≤ dv s[k] := by omega
            clear hd hd2
            go_wp2_with (go_at_call 56; refine (rdigit_bad _ hd3 _).mono ?_; rintro e w' ⟨rfl, rfl⟩)
            go_ret2
            exact ⟨by rw [HR.out]; rfl, rfl⟩
      · have hokA : okL base s.data.toList = true := okL_of_all (by rw [show s.size = k by omega]; exact hok)
        have HOK := Lib.hid hokA
        clear hok hokA
        go_wp2
        go_loop [9, 10, 11] (fun n i _ => ∃ k N : Nat, k ≤ s.size ∧ i = .int .i64 (k : Int) ∧ n = .int .u64 (N : Int) ∧ RValAt base most k s N) (fun _ i _ => s.size - (intOf i).toNat)
        case atStart => exact ⟨0, 0, by omega, rfl, rfl, ⟨rfl, by omega⟩⟩
        case round =>
          obtain ⟨m, N, hmk, rfl, rfl, hR⟩ := hrel
          have hNle := hR.le
          by_cases hlt2 : m < s.size
          · have hd := okL_at HOK.out hlt2
            obtain ⟨D, hD⟩ : ∃ D, dv s[m] = D := ⟨_, rfl⟩
            have HD := Lib.hid hD
            rw [hD] at hd
            obtain ⟨Q, hQ⟩ : ∃ Q, most / base = Q := ⟨_, rfl⟩
            have hq : IntKind.u64.wrap ((most : Int) / (base : Int)) = (Q : Int) := by rw [quo_wrap most base hm, hQ]
            by_cases h1 : most / base < N
            · have hov : most < N * base + D := by
                have : most < N * base := (Nat.div_lt_iff_lt_mul (by omega)).1 h1
                omega
              have HR := Lib.hid (readL_over (by omega) HOK.out h0 (RVal_over hR hlt2 hD hov))
              have h1' : (Q : Int) < (N : Int) := by omega
              clear hQ hD hR h1
              go_wp2_with (go_at_call 56; refine (rdigit_ok _ D HD.out (by omega) _).mono ?_; rintro e w' ⟨rfl, rfl⟩)
              go_ret2
              exact ⟨by rw [HR.out]; rfl, rfl⟩
            · have h1' : (N : Int) ≤ (Q : Int) := by omega
              have hmul : N * base ≤ most := (Nat.le_div_iff_mul_le (by omega)).1 (by omega)
              have hmw := mul_wrap N base most hm hmul
              obtain ⟨M, hM⟩ : ∃ M, N * base = M := ⟨_, rfl⟩
              rw [hM] at hmw hmul
              by_cases h2 : most - D < M
              · have hov : most < N * base + D := by rw [hM]; omega
                have HR := Lib.hid (readL_over (by omega) HOK.out h0 (RVal_over hR hlt2 hD hov))
                have h2' : (most : Int) - (D : Int) < (M : Int) := by omega
                clear hQ hD hR h1 hM h2
                go_wp2_with (go_at_call 56; refine (rdigit_ok _ D HD.out (by omega) _).mono ?_; rintro e w' ⟨rfl, rfl⟩)
                go_ret2
                exact ⟨by rw [HR.out]; rfl, rfl⟩
              · have hnx := RVal_step hR hlt2 hD (by rw [hM]; omega)
                rw [hM] at hnx
                have HN := Lib.hid hnx
                have h2' : (M : Int) ≤ (most : Int) - (D : Int) := by omega
                clear hQ hD hR h1 hM h2 hnx
                go_wp2_with (go_at_call 56; refine (rdigit_ok _ D HD.out (by omega) _).mono ?_; rintro e w' ⟨rfl, rfl⟩)
                go_round
                case rel => exact ⟨m + 1, M + D, by omega, by go_num, by go_num, HN.out⟩
                case measure => simp [intOf]; omega
          · have HR := Lib.hid (readL_fine HOK.out h0 (by rw [show m = s.size by omega] at hR; exact hR))
            clear hR
            go_wp2
            go_ret2
            exact ⟨by rw [HR.out]; rfl, rfl⟩

set_option maxHeartbeats 1000000 in
theorem rdecimal_any (s : ByteArray) (w : World) (hs : s.size ≤ 9223372036854775807) :
    Calls Tryd.prog 38 #[.string s] w fun e w' => e = .returned (.tuple #[.int .i64 (decL s.data.toList).1, .int .i64 (decL s.data.toList).2]) ∧ w = w' := by
  by_cases h0 : s.size = 0
  · have hl : s.data.toList = [] := by
      have := Lib.size_eq s
      exact List.eq_nil_of_length_eq_zero (by omega)
    have hd : decL s.data.toList = (0, 40) := by rw [hl]; rfl
    have hr : readL 10 9223372036854775807 s.data.toList = (0, 40) := by rw [hl]; rfl
    have HR := Lib.hid hr
    have HD := Lib.hid hd
    have h0' : (s.size : Int) ≤ 0 := by omega
    clear hr hl h0 hd
    go_enter Tryd.func38, Tryd.ntmps38
    go_wp2_with (go_at_call 49; refine (rdigits_any _ 10 9223372036854775807 _ (by omega) (by omega) (by omega) (by omega) (by omega)).mono ?_; rintro e w' ⟨rfl, rfl⟩; rw [HR.out])
    go_ret2
    exact ⟨ret_two (by rw [HD.out]; first | done | rfl) (by rw [HD.out]), rfl⟩
  · have hpos : (0 : Int) < (s.size : Int) := by omega
    have hpn : 0 < s.size := by omega
    have hcons : ∃ r, s.data.toList = s[0] :: r := by
      have hl := Lib.size_eq s
      cases h : s.data.toList with
      | nil => rw [h] at hl; simp only [List.length_nil] at hl; omega
      | cons a r =>
        have : s[0] = a := by
          have e : s.data.toList[0]'(by omega) = s[0] := rfl
          rw [← e]; simp [h]
        exact ⟨r, by rw [this]⟩
    obtain ⟨r, hr⟩ := hcons
    have hrl : r.length ≤ 9223372036854775807 := by
      have hl := Lib.size_eq s
      rw [hr] at hl
      simp only [List.length_cons] at hl
      omega
    have hex : s.extract 1 s.size = ⟨r.toArray⟩ := by
      rw [Lib.extract_eq, hr]
      congr 2
      have hl := Lib.size_eq s
      rw [hr] at hl
      simp only [List.length_cons] at hl
      simp only [List.drop_succ_cons, List.drop_zero]
      exact List.take_of_length_le (by omega)
    have HEX := Lib.hid hex
    by_cases h45 : s[0] = 45
    · have t45 : ((s[0].toNat : Int) == 45) = true := u8_beq h45
      have hd : decL s.data.toList = (-((readL 10 9223372036854775808 r).1 : Int), (readL 10 9223372036854775808 r).2) := by rw [hr, h45]; exact decL_minus r
      have HD := Lib.hid hd
      have hle := readL_le 10 9223372036854775808 r
      clear hd hr hex h0 h45
      go_enter Tryd.func38, Tryd.ntmps38
      go_wp2_with fail
      rw [HEX.out]
      refine (rdigits_any _ 10 9223372036854775808 _ (by rw [list_size]; omega) (by omega) (by omega) (by omega) (by omega)).mono ?_
      rintro e w' ⟨rfl, rfl⟩
      rw [list_data]
      go_wp2
      go_ret2
      exact ⟨ret_two (by rw [HD.out]; exact neg_wrap _ hle) (by rw [HD.out]), rfl⟩
    · have t45 : ((s[0].toNat : Int) == 45) = false := u8_bne h45
      by_cases h43 : s[0] = 43
      · have t43 : ((s[0].toNat : Int) == 43) = true := u8_beq h43
        have hd : decL s.data.toList = (((readL 10 9223372036854775807 r).1 : Int), (readL 10 9223372036854775807 r).2) := by rw [hr, h43]; exact decL_plus r
        have HD := Lib.hid hd
        have hle := readL_le 10 9223372036854775807 r
        clear hd hr hex h0 h45 h43
        go_enter Tryd.func38, Tryd.ntmps38
        go_wp2_with fail
        rw [HEX.out]
        refine (rdigits_any _ 10 9223372036854775807 _ (by rw [list_size]; omega) (by omega) (by omega) (by omega) (by omega)).mono ?_
        rintro e w' ⟨rfl, rfl⟩
        rw [list_data]
        go_wp2
        go_ret2
        exact ⟨ret_two (by rw [HD.out]; first | done | exact pos_wrap _ hle) (by rw [HD.out]), rfl⟩
      · have t43 : ((s[0].toNat : Int) == 43) = false := u8_bne h43
        have hd := decL_plain s.data.toList (fun r' e => by rw [hr] at e; injection e with e1 _; exact h45 e1) (fun r' e => by rw [hr] at e; injection e with e1 _; exact h43 e1)
        have HD := Lib.hid hd
        have hle := readL_le 10 9223372036854775807 s.data.toList
        clear hd hr hex h0 h45 h43
        go_enter Tryd.func38, Tryd.ntmps38
        go_wp2_with fail
        refine (rdigits_any _ 10 9223372036854775807 _ hs (by omega) (by omega) (by omega) (by omega)).mono ?_
        rintro e w' ⟨rfl, rfl⟩
        go_wp2
        go_ret2
        exact ⟨ret_two (by rw [HD.out]; first | done | exact pos_wrap _ hle) (by rw [HD.out]), rfl⟩
end Go.Proofs.YtkkejlmpimamdaaDoor
