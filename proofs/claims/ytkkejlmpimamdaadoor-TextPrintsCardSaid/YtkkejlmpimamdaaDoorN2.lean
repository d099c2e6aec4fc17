import Derived.Test.YtkkejlmpimamdaaDoorN1
set_option linter.unusedVariables false
set_option linter.unusedSimpArgs false
namespace Go.Proofs.YtkkejlmpimamdaaDoor
open Go.RowKit

theorem list_size (l : List UInt8) : (⟨l.toArray⟩ : ByteArray).size = l.length := rfl
theorem list_data (l : List UInt8) : (⟨l.toArray⟩ : ByteArray).data.toList = l := by simp

theorem decL_minus (r : List UInt8) : decL (45 :: r) = (-((readL 10 9223372036854775808 r).1 : Int), (readL 10 9223372036854775808 r).2) := by simp [decL]
theorem decL_plus (r : List UInt8) : decL (43 :: r) = (((readL 10 9223372036854775807 r).1 : Int), (readL 10 9223372036854775807 r).2) := by simp [decL]
theorem decL_plain (s : List UInt8) (h1 : ∀ r, s ≠ 45 :: r) (h2 : ∀ r, s ≠ 43 :: r) : decL s = (((readL 10 9223372036854775807 s).1 : Int), (readL 10 9223372036854775807 s).2) := by
  cases s with
  | nil => simp [decL, readL]
  | cons c r =>
    have h1 : c ≠ 45 := fun e => h1 r (by rw [e])
    have h2 : c ≠ 43 := fun e => h2 r (by rw [e])
    simp [decL, h1, h2]

theorem readL_le (b most : Nat) (s : List UInt8) : (readL b most s).1 ≤ most := by
  unfold readL
  split
  · simp
  · split
    · split
      · simpa
      · simp
    · simp

theorem hasPre_minus (r : List UInt8) (c : UInt8) : Lib.hasPrefix (c :: r) [c] = true := by simp [Lib.hasPrefix]
theorem hasPre_no (s : List UInt8) (c : UInt8) (h : ∀ r, s ≠ c :: r) : Lib.hasPrefix s [c] = false := by
  cases s with
  | nil => rfl
  | cons a r =>
    have : ¬ c = a := fun e => h r (by rw [e])
    simp [Lib.hasPrefix, List.isPrefixOf, this]

theorem ret_two {k j : IntKind} {a b c d : Int} (h : a = b) (h2 : c = d) : Ending.returned (.tuple #[.int k a, .int j c]) = .returned (.tuple #[.int k b, .int j d]) := by rw [h, h2]

theorem neg_wrap (n : Nat) (h : n ≤ 9223372036854775808) : wrap64 (IntKind.u64.wrap (-(n : Int))) = -(n : Int) := by
  rw [u64wrap]; unfold wrap64; omega
theorem pos_wrap (n : Nat) (h : n ≤ 9223372036854775807) : wrap64 (n : Int) = (n : Int) := by
  unfold wrap64; omega

set_option maxHeartbeats 1000000 in
theorem decimal_any (s : ByteArray) (w : World) (hs : s.size ≤ 9223372036854775807) :
    Calls Tryd.prog 34 #[.string s] w fun e w' => e = .returned (.tuple #[.int .i64 (decL s.data.toList).1, .int .i64 (decL s.data.toList).2]) ∧ w = w' := by
  have hl := Lib.size_eq s
  by_cases h45 : ∃ r, s.data.toList = 45 :: r
  · obtain ⟨r, hr⟩ := h45
    have hp : Lib.hasPrefix s.data.toList [45] = true := by rw [hr]; exact hasPre_minus _ _
    have ht : Lib.trimPrefix s.data.toList [45] = r := by unfold Lib.trimPrefix; rw [hp, hr]; rfl
    have hle := readL_le 10 9223372036854775808 r
    rw [hr] at hl
    simp at hl
    have HD := Lib.hid (decL_minus r)
    have HP := Lib.hid hp
    have HT := Lib.hid ht
    have HR := Lib.hid hr
    have hsz : r.length ≤ 9223372036854775807 := by omega
    clear hp ht hr hl
    go_enter Tryd.func34, Tryd.ntmps34
    go_wp2_with (go_at_call 46; refine (Tryd.strings_CutPrefix _ _ _).mono ?_; rintro e w' ⟨rfl, rfl⟩; simp only [HP.out, HT.out])
    go_wp2_with (go_at_call 47; refine (read_any _ 10 9223372036854775808 _ (by rw [list_size]; omega) (by omega) (by omega) (by omega) (by omega)).mono ?_; rintro e w' ⟨rfl, rfl⟩; rw [list_data])
    go_ret2
    exact ⟨ret_two (by rw [HR.out, HD.out]; exact neg_wrap _ hle) (by rw [HR.out, HD.out]), rfl⟩
  · have h45' : ∀ r, s.data.toList ≠ 45 :: r := fun r e => h45 ⟨r, e⟩
    have hp : Lib.hasPrefix s.data.toList [45] = false := hasPre_no _ _ h45'
    have ht : Lib.trimPrefix s.data.toList [45] = s.data.toList := by unfold Lib.trimPrefix; rw [hp]; rfl
    have HP := Lib.hid hp
    have HT := Lib.hid ht
    clear hp ht
    by_cases h43 : ∃ r, s.data.toList = 43 :: r
    · obtain ⟨r, hr⟩ := h43
      have hp : Lib.hasPrefix s.data.toList [43] = true := by rw [hr]; exact hasPre_minus _ _
      have ht : Lib.trimPrefix s.data.toList [43] = r := by unfold Lib.trimPrefix; rw [hp, hr]; rfl
      have hle := readL_le 10 9223372036854775807 r
      rw [hr] at hl
      simp at hl
      have HD := Lib.hid (decL_plus r)
      have HP2 := Lib.hid hp
      have HT2 := Lib.hid ht
      have HR := Lib.hid hr
      have hsz : r.length ≤ 9223372036854775807 := by omega
      clear hp ht hr hl h45 h45'
      go_enter Tryd.func34, Tryd.ntmps34
      go_wp2_with fail
      refine (Tryd.strings_CutPrefix _ _ _).mono ?_
      rintro e w' ⟨rfl, rfl⟩
      simp only [HP.out, HT.out]
      go_wp2_with fail
      refine (Tryd.strings_CutPrefix _ _ _).mono ?_
      rintro e w' ⟨rfl, rfl⟩
      simp only [HP2.out, HT2.out]
      go_wp2_with (go_at_call 47; refine (read_any _ 10 9223372036854775807 _ (by rw [list_size]; omega) (by omega) (by omega) (by omega) (by omega)).mono ?_; rintro e w' ⟨rfl, rfl⟩; rw [list_data])
      go_ret2
      exact ⟨ret_two (by rw [HR.out, HD.out]; first | done | exact pos_wrap _ hle) (by rw [HR.out, HD.out]), rfl⟩
    · have h43' : ∀ r, s.data.toList ≠ 43 :: r := fun r e => h43 ⟨r, e⟩
      have hp : Lib.hasPrefix s.data.toList [43] = false := hasPre_no _ _ h43'
      have ht : Lib.trimPrefix s.data.toList [43] = s.data.toList := by unfold Lib.trimPrefix; rw [hp]; rfl
      have HP2 := Lib.hid hp
      have HT2 := Lib.hid ht
      have hle := readL_le 10 9223372036854775807 s.data.toList
      have HD := Lib.hid (decL_plain _ h45' h43')
      have HL := Lib.hid hl
      clear hp ht hl h45 h45' h43 h43'
      go_enter Tryd.func34, Tryd.ntmps34
      go_wp2_with fail
      refine (Tryd.strings_CutPrefix _ _ _).mono ?_
      rintro e w' ⟨rfl, rfl⟩
      simp only [HP.out, HT.out]
      go_wp2_with fail
      refine (Tryd.strings_CutPrefix _ _ _).mono ?_
      rintro e w' ⟨rfl, rfl⟩
      simp only [HP2.out, HT2.out]
      go_wp2_with (go_at_call 47; refine (read_any _ 10 9223372036854775807 _ (by rw [list_size, ← HL.out]; omega) (by omega) (by omega) (by omega) (by omega)).mono ?_; rintro e w' ⟨rfl, rfl⟩; rw [list_data])
      go_ret2
      exact ⟨ret_two (by rw [HD.out]; first | done | exact pos_wrap _ hle) (by rw [HD.out]), rfl⟩
end Go.Proofs.YtkkejlmpimamdaaDoor
