import Derived.Test.YtkkejlmpimamdaaDoorShelf
import Derived.Test.YtkkejlmpimamdaaDoorTNum
import Derived.WalkKit
import Derived.WalkSpells
import Derived.WalkLawsBesides
import Derived.Below
import Derived.BigQuiet
import Derived.Deep.QuietTactic
import Derived.Lib.Hide
import Derived.Outline
import Derived.IntWalk
set_option linter.unusedVariables false
set_option linter.unusedSimpArgs false
namespace Go.Proofs.YtkkejlmpimamdaaDoor
open Go.RowKit

theorem ret_int {k : IntKind} {a b : Int} (h : a = b) : Ending.returned (.int k a) = .returned (.int k b) := by rw [h]

def dvI (c : UInt8) : Int := if dv c = 99 then -1 else (dv c : Int)

theorem dvI_all : ∀ n : Fin 256, (Lib.indexByte [48, 49, 50, 51, 52, 53, 54, 55, 56, 57, 97, 98, 99, 100, 101, 102] (if 65 ≤ n.val ∧ n.val ≤ 70 then (n.val + 32).toUInt8 else n.val.toUInt8)) = dvI n.val.toUInt8 := by decide +kernel

theorem value_any (c : UInt8) (w : World) :
    Calls Tryd.prog 54 #[.int .u8 (c.toNat : Int)] w fun e w' => e = .returned (.int .i64 (dvI c)) ∧ w = w' := by
  have hc := c.toNat_lt
  have key := dvI_all ⟨c.toNat, hc⟩
  have hcc : c.toNat.toUInt8 = c := by simp
  simp only [hcc] at key
  generalize c.toNat = n at *
  by_cases h1 : 65 ≤ n
  · have h1' : (65 : Int) ≤ (n : Int) := by omega
    by_cases h2 : n ≤ 70
    · rw [if_pos ⟨h1, h2⟩] at key
      have H := Lib.hid key
      clear key hcc
      have h2' : (n : Int) ≤ 70 := by omega
      go_enter Tryd.func54, Tryd.ntmps54
      go_wp2_with (go_at_call 16; refine (Tryd.strings_IndexByte _ _ _).mono ?_; rintro e w' ⟨rfl, rfl⟩)
      go_ret
      exact ⟨ret_int (by rw [← H.out]; rfl), rfl⟩
    · rw [if_neg (by omega)] at key
      have H := Lib.hid key
      have HC := Lib.hid hcc
      clear key hcc
      have h2' : (70 : Int) < (n : Int) := by omega
      go_enter Tryd.func54, Tryd.ntmps54
      go_wp2_with (go_at_call 16; refine (Tryd.strings_IndexByte _ _ _).mono ?_; rintro e w' ⟨rfl, rfl⟩)
      go_ret
      exact ⟨ret_int (by rw [← H.out]; exact congrArg (Lib.indexByte _) HC.out), rfl⟩
  · rw [if_neg (by omega)] at key
    have H := Lib.hid key
    have HC := Lib.hid hcc
    clear key hcc
    have h2' : (n : Int) < 65 := by omega
    go_enter Tryd.func54, Tryd.ntmps54
    go_wp2_with (go_at_call 16; refine (Tryd.strings_IndexByte _ _ _).mono ?_; rintro e w' ⟨rfl, rfl⟩)
    go_ret
    exact ⟨ret_int (by rw [← H.out]; exact congrArg (Lib.indexByte _) HC.out), rfl⟩

theorem value_bad (c : UInt8) (h : 16 ≤ dv c) (w : World) :
    Calls Tryd.prog 54 #[.int .u8 (c.toNat : Int)] w fun e w' => e = .returned (.int .i64 (-1)) ∧ w = w' := by
  refine (value_any c w).mono ?_
  rintro e w' ⟨rfl, rfl⟩
  refine ⟨ret_int ?_, rfl⟩
  unfold dvI
  rw [if_pos]
  revert h
  simp only [dv]
  split
  · omega
  · split
    · omega
    · split <;> omega

theorem value_ok (c : UInt8) (D : Nat) (hD : dv c = D) (h : D < 16) (w : World) :
    Calls Tryd.prog 54 #[.int .u8 (c.toNat : Int)] w fun e w' => e = .returned (.int .i64 (D : Int)) ∧ w = w' := by
  refine (value_any c w).mono ?_
  rintro e w' ⟨rfl, rfl⟩
  refine ⟨ret_int ?_, rfl⟩
  unfold dvI
  rw [if_neg (by omega), hD]

theorem take_snoc (s : ByteArray) (k : Nat) (h : k < s.size) : s.data.toList.take (k + 1) = s.data.toList.take k ++ [s[k]] := by
  rw [List.take_succ_eq_append_getElem (by simpa using h)]; rfl

/-- a loop's numbers behind k signs: no sign was none; n is the value, if it isn't over -/
structure ReadAt (base most k : Nat) (s : ByteArray) (n : Nat) (ov : Bool) : Prop where
  lt : n < 18446744073709551616
  ok : okL base (s.data.toList.take k) = true
  val : ov = false → n = valL base (s.data.toList.take k) ∧ n ≤ most
  over : ov = true → most < valL base (s.data.toList.take k)

theorem size_ne {s : ByteArray} (h : s.size ≠ 0) : s.data.toList ≠ [] := by
  intro e
  have := Lib.size_eq s
  rw [e] at this
  exact h this

theorem u64wrap (n : Int) : IntKind.u64.wrap n = n % 18446744073709551616 := by
  have := IntKind.wrap_u64 n
  omega

theorem okL_snoc (b : Nat) (l : List UInt8) (c : UInt8) : okL b (l ++ [c]) = (okL b l && decide (dv c < b)) := by simp [okL]

theorem ReadAt.next {base most k : Nat} {s : ByteArray} {N : Nat} {ov : Bool} (h : ReadAt base most k s N ov) (hlt : k < s.size) (D : Nat) (hD : dv s[k] = D) (hd : D < base) (hb' : base ≤ 16) (hm : most < 18446744073709551616) (hm' : 16 ≤ most) :
    ReadAt base most (k + 1) s (IntKind.u64.wrap (IntKind.u64.wrap ((N : Int) * base) + D)).toNat (ov || decide (((most : Int) - D) / base < N)) := by
  have hs : s.data.toList.take (k + 1) = s.data.toList.take k ++ [s[k]] := take_snoc s k hlt
  refine ⟨?_, ?_, ?_, ?_⟩
  · rw [u64wrap, u64wrap]; omega
  · rw [hs, okL_snoc, h.ok, hD]; simp [hd]
  · intro ho
    simp only [Bool.or_eq_false_iff, decide_eq_false_iff_not] at ho
    obtain ⟨ho, ht⟩ := ho
    obtain ⟨hv, hle⟩ := h.val ho
    rw [hs, valL_append, ← hv, hD]
    have ht2 : (N : Int) ≤ ((most : Int) - D) / base := by omega
    have ht3 : (N : Int) * base ≤ (most : Int) - D := (Int.le_ediv_iff_mul_le (by omega)).1 ht2
    have ht4 : 0 ≤ (N : Int) * base := Int.mul_nonneg (by omega) (by omega)
    rw [u64wrap, u64wrap]
    have e1 : ((N * base : Nat) : Int) = (N : Int) * base := by simp
    generalize N * base = X at *
    rw [← e1] at ht3 ht4 ⊢
    rw [Int.emod_eq_of_lt (a := ((X : Nat) : Int)) (by omega) (by omega), Int.emod_eq_of_lt (by omega) (by omega)]
    omega
  · intro ho
    rw [hs, valL_append, hD]
    cases ov with
    | true =>
      have := h.over rfl
      have h2 : valL base (s.data.toList.take k) ≤ valL base (s.data.toList.take k) * base := Nat.le_mul_of_pos_right _ (by omega)
      omega
    | false =>
      simp only [Bool.false_or, decide_eq_true_eq] at ho
      obtain ⟨hv, hle⟩ := h.val rfl
      rw [← hv]
      have ht3 : (most : Int) - D < (N : Int) * base := (Int.ediv_lt_iff_lt_mul (by omega)).1 ho
      have e1 : ((N * base : Nat) : Int) = (N : Int) * base := by simp
      omega

theorem okL_take {b : Nat} {l : List UInt8} (k : Nat) (h : k < l.length) (hn : ¬ dv l[k] < b) : okL b l = false := by
  unfold okL
  rw [List.all_eq_false]
  exact ⟨l[k], List.getElem_mem h, by simpa using hn⟩

theorem readL_bad {b most : Nat} {s : ByteArray} (k : Nat) (h : k < s.size) (hn : ¬ dv s[k] < b) : readL b most s.data.toList = (0, 40) := by
  have hl := Lib.size_eq s
  have hk : k < s.data.toList.length := by omega
  have he : dv s.data.toList[k] = dv s[k] := rfl
  have := okL_take (b := b) k hk (by rw [he]; exact hn)
  unfold readL
  rw [this]
  have : s.data.toList ≠ [] := size_ne (by omega)
  simp [this]

theorem readL_end {b most : Nat} {s : ByteArray} {N : Nat} {ov : Bool} (h0 : s.size ≠ 0) (h : ReadAt b most s.size s N ov) :
    readL b most s.data.toList = if ov then (0, 41) else (N, 0) := by
  have hl := Lib.size_eq s
  have ht : s.data.toList.take s.size = s.data.toList := List.take_of_length_le (by omega)
  have h1 := h.ok
  have h2 := h.val
  have h3 := h.over
  rw [ht] at h1 h2 h3
  unfold readL
  rw [h1]
  have hne : s.data.toList.isEmpty = false := List.isEmpty_eq_false_iff.2 (size_ne h0)
  rw [hne]
  cases ov with
  | true =>
    have := h3 rfl
    simp [show ¬ valL b s.data.toList ≤ most by omega]
  | false =>
    obtain ⟨hv, hle⟩ := h2 rfl
    rw [hv] at hle
    simp [hle, hv]

set_option maxHeartbeats 1000000 in
theorem read_any (s : ByteArray) (base most : Nat) (w : World) (hs : s.size ≤ 9223372036854775807) (hb : 2 ≤ base) (hb' : base ≤ 16) (hm : most < 18446744073709551616) (hm' : 16 ≤ most) :
    Calls Tryd.prog 47 #[.string s, .int .i64 (base : Int), .int .u64 (most : Int)] w fun e w' => e = .returned (.tuple #[.int .u64 ((readL base most s.data.toList).1 : Int), .int .i64 (readL base most s.data.toList).2]) ∧ w = w' := by
  by_cases h0 : s.size = 0
  · have hl : s.data.toList = [] := by
      have := Lib.size_eq s
      exact List.eq_nil_of_length_eq_zero (by omega)
    have he : s.toList.isEmpty = true := by rw [Lib.toList_data, hl]; rfl
    have hr : readL base most s.data.toList = (0, 40) := by rw [hl]; rfl
    have H := Lib.hid hr
    clear hr hl h0
    go_enter Tryd.func47, Tryd.ntmps47
    go_wp2
    go_ret2
    exact ⟨by rw [H.out]; rfl, rfl⟩
  · have hne := size_ne h0
    have he : s.toList.isEmpty = false := by
      rw [Lib.toList_data]
      cases h : s.data.toList with
      | nil => exact absurd h hne
      | cons a b => rfl
    go_enter Tryd.func47, Tryd.ntmps47
    go_wp2
    go_loop [8, 9, 10, 11, 16] (fun n o i v j => ∃ (k N : Nat) (ov : Bool), k ≤ s.size ∧ j = .int .i64 k ∧ n = .int .u64 (N : Int) ∧ o = .bool ov ∧ ReadAt base most k s N ov) (fun _ _ _ _ j => s.size - (intOf j).toNat)
    case atStart => exact ⟨0, 0, false, by omega, rfl, rfl, rfl, ⟨by omega, rfl, fun _ => ⟨rfl, by omega⟩, fun h => by cases h⟩⟩
    case round =>
      obtain ⟨k, N, ov, hk, rfl, rfl, rfl, hR⟩ := hrel
      by_cases hlt : k < s.size
      · by_cases hd : dv s[k] < base
        · obtain ⟨D, hD⟩ : ∃ D, dv s[k] = D := ⟨_, rfl⟩
          have hN := hR.next hlt D hD (by omega) hb' hm hm'
          have HD := Lib.hid hD
          rw [hD] at hd
          clear hD
          have hp : ((IntKind.u64.wrap (IntKind.u64.wrap ((N : Int) * base) + D)).toNat : Int) = IntKind.u64.wrap (IntKind.u64.wrap ((N : Int) * base) + D) := by
            rw [u64wrap, u64wrap]; omega
          have HP := Lib.hid hp
          clear hp
          cases ov with
          | true =>
            go_wp2_with (go_at_call 54; refine (value_ok _ D HD.out (by omega) _).mono ?_; rintro e w' ⟨rfl, rfl⟩)
            go_round
            case rel => exact ⟨k + 1, _, _, by omega, by go_num, by rw [HP.out], rfl, hN⟩
            case measure => simp [intOf]; omega
          | false =>
            go_wp2_with (go_at_call 54; refine (value_ok _ D HD.out (by omega) _).mono ?_; rintro e w' ⟨rfl, rfl⟩)
            go_round
            case rel => exact ⟨k + 1, _, _, by omega, by go_num, by rw [HP.out], rfl, hN⟩
            case measure => simp [intOf]; omega
        · have HR := Lib.hid (readL_bad (most := most) k hlt hd)
          by_cases hd2 : dv s[k] < 16
          · obtain ⟨D, hD⟩ : ∃ D, dv s[k] = D := ⟨_, rfl⟩
            have HD := Lib.hid hD
            rw [hD] at hd hd2
            clear hD
            go_wp2_with (go_at_call 54; refine (value_ok _ D HD.out (by omega) _).mono ?_; rintro e w' ⟨rfl, rfl⟩)
            go_ret2
            exact ⟨by rw [HR.out]; rfl, rfl⟩
          · have hd3 : 16 ≤ dv s[k] := by omega
            clear hd hd2
            go_wp2_with (go_at_call 54; refine (value_bad _ hd3 _).mono ?_; rintro e w' ⟨rfl, rfl⟩)
            go_ret2
            exact ⟨by rw [HR.out]; rfl, rfl⟩
      · obtain rfl : k = s.size := by omega
        have HR := Lib.hid (readL_end h0 hR)
        cases ov with
        | true =>
          go_wp2
          go_ret2
          exact ⟨by rw [HR.out]; rfl, rfl⟩
        | false =>
          go_wp2
          go_ret2
          exact ⟨by rw [HR.out]; rfl, rfl⟩
end Go.Proofs.YtkkejlmpimamdaaDoor
