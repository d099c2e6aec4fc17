import Derived.Test.YtkkejlmpimamdaaDoorN3
set_option linter.unusedVariables false
set_option linter.unusedSimpArgs false
namespace Go.Proofs.YtkkejlmpimamdaaDoor
open Go.RowKit

def hasB (L : List UInt8) (c : UInt8) : Bool := L.contains c

theorem u8_beq {c d : UInt8} (h : c = d) : ((c.toNat : Int) == (d.toNat : Int)) = true := by rw [h]; simp
theorem u8_bne {c d : UInt8} (h : ¬ c = d) : ((c.toNat : Int) == (d.toNat : Int)) = false := by
  simp
  intro e
  exact h (UInt8.toNat_inj.1 (by omega))

set_option maxHeartbeats 1000000 in
theorem rhas_lit (L : List UInt8) (c : UInt8) (w : World) (hL : L.length ≤ 100) :
    Calls Tryd.prog 20 #[.string ⟨L.toArray⟩, .int .u8 (c.toNat : Int)] w fun e w' => e = .returned (.bool (hasB L c)) ∧ w = w' := by
  go_enter Tryd.func20, Tryd.ntmps20
  go_wp2
  go_loop [5] (fun i => ∃ k : Nat, k ≤ L.length ∧ i = .int .i64 (k : Int) ∧ ∀ d ∈ L.take k, ¬ d = c) (fun i => L.length - (intOf i).toNat)
  case atStart => exact ⟨0, by omega, rfl, by simp⟩
  case round =>
    obtain ⟨k, hk, rfl, hA⟩ := hrel
    by_cases hlt : k < L.length
    · have hg : (⟨L.toArray⟩ : ByteArray)[k]'(by rw [list_size]; exact hlt) = L[k] := by simp [ByteArray.getElem_eq_getElem_data]
      by_cases hc : L[k] = c
      · have hb : hasB L c = true := by unfold hasB; rw [← hc]; simp
        have HB := Lib.hid hb
        have tb := u8_beq hc
        clear hb hc hA
        go_wp2
        go_ret
        exact ⟨by rw [HB.out]; rfl, rfl⟩
      · have hn : ∀ d ∈ L.take (k + 1), ¬ d = c := by
          intro d hd
          rw [List.take_succ_eq_append_getElem hlt] at hd
          rcases List.mem_append.1 hd with h | h
          · exact hA d h
          · simp at h; rw [h]; exact hc
        have HN := Lib.hid hn
        have tb := u8_bne hc
        clear hn hc hA
        go_wp2
        go_round
        case rel => exact ⟨k + 1, by omega, by go_num, HN.out⟩
        case measure => simp [intOf]; omega
    · have hb : hasB L c = false := by
        rw [show k = L.length by omega, List.take_length] at hA
        unfold hasB
        rw [Bool.eq_false_iff]
        intro h
        exact hA c (by simpa using h) rfl
      have HB := Lib.hid hb
      clear hb hA
      go_wp2
      go_ret
      exact ⟨by rw [HB.out]; rfl, rfl⟩

def signL : List UInt8 := [48, 49, 50, 51, 52, 53, 54, 55, 56, 57, 97, 98, 99, 100, 101, 102]
/-- does sign i stand for that digit? -/
def matchB (i : Nat) (c : UInt8) : Bool := (signL.getD i 0 == c) || (decide (10 ≤ i) && (signL.getD i 0 == c + 32) && decide (c.toNat < 97))
def dv16 (c : UInt8) : Nat := if dv c < 16 then dv c else 16

theorem match_all : ∀ n : Fin 256, ∀ i : Fin 16, matchB i.val n.val.toUInt8 = decide (dv n.val.toUInt8 = i.val) := by decide +kernel
theorem match_dv (i : Nat) (hi : i < 16) (c : UInt8) : matchB i c = decide (dv c = i) := by
  have := match_all ⟨c.toNat, c.toNat_lt⟩ ⟨i, hi⟩
  simpa using this

theorem sign_get (k : Nat) (h : k < 16) (h' : k < (⟨#[48, 49, 50, 51, 52, 53, 54, 55, 56, 57, 97, 98, 99, 100, 101, 102]⟩ : ByteArray).size) : (⟨#[48, 49, 50, 51, 52, 53, 54, 55, 56, 57, 97, 98, 99, 100, 101, 102]⟩ : ByteArray)[k] = signL.getD k 0 := by
  have : k = 0 ∨ k = 1 ∨ k = 2 ∨ k = 3 ∨ k = 4 ∨ k = 5 ∨ k = 6 ∨ k = 7 ∨ k = 8 ∨ k = 9 ∨ k = 10 ∨ k = 11 ∨ k = 12 ∨ k = 13 ∨ k = 14 ∨ k = 15 := by omega
  rcases this with rfl | rfl | rfl | rfl | rfl | rfl | rfl | rfl | rfl | rfl | rfl | rfl | rfl | rfl | rfl | rfl <;> rfl

theorem u8_add32 (c : UInt8) : IntKind.u8.wrap ((c.toNat : Int) + 32) = ((c + 32).toNat : Int) := by
  have h := c.toNat_lt
  rw [IntKind.wrap_u8, UInt8.toNat_add]
  simp

set_option maxHeartbeats 2000000 in
theorem rdigit_any (c : UInt8) (w : World) :
    Calls Tryd.prog 56 #[.int .u8 (c.toNat : Int)] w fun e w' => e = .returned (.int .i64 (dv16 c : Int)) ∧ w = w' := by
  have hadd := u8_add32 c
  have HADD := Lib.hid hadd
  clear hadd
  go_enter Tryd.func56, Tryd.ntmps56
  go_wp2
  go_loop [3] (fun i => ∃ k : Nat, k ≤ 16 ∧ i = .int .i64 (k : Int) ∧ ∀ j < k, ¬ dv c = j) (fun i => 16 - (intOf i).toNat)
  case atStart => exact ⟨0, by omega, rfl, fun j hj => absurd hj (by omega)⟩
  case round =>
    obtain ⟨k, hk, rfl, hA⟩ := hrel
    by_cases hlt : k < 16
    · have hm := match_dv k hlt c
      have hg := sign_get k hlt (by exact hlt)
      unfold matchB at hm
      generalize signL.getD k 0 = S at hm hg
      have hres : dv c = k → dv16 c = k := fun h => by unfold dv16; rw [if_pos (by omega), h]
      have hstep : ¬ dv c = k → ∀ j < k + 1, ¬ dv c = j := fun h j hj => by
        rcases Nat.lt_or_ge j k with h' | h'
        · exact hA j h'
        · rw [show j = k by omega]; exact h
      by_cases h1 : S = c
      · have hd : dv c = k := by rw [h1] at hm; simpa using hm
        have HR := Lib.hid (hres hd)
        have t1 := u8_beq h1
        clear hm hres hstep hA h1 hd
        go_wp2
        go_ret
        exact ⟨ret_int (by rw [HR.out]), rfl⟩
      · have t1 := u8_bne h1
        have e1 : (S == c) = false := by simpa using h1
        rw [e1] at hm
        by_cases h2 : 10 ≤ k
        · have t2 : (10 : Int) ≤ (k : Int) := by omega
          have e2 : decide (10 ≤ k) = true := by simpa using h2
          rw [e2] at hm
          by_cases h3 : S = c + 32
          · have t3 : ((S.toNat : Int) == ((c.toNat : Int) + 32) % 256) = true := by
              rw [h3, ← HADD.out, IntKind.wrap_u8]; simp
            have e3 : (S == c + 32) = true := by simpa using h3
            rw [e3] at hm
            have t1b : ((((c.toNat : Int) + 32) % 256) == (c.toNat : Int)) = false := by simp; omega
            by_cases h4 : c.toNat < 97
            · have t4 : (c.toNat : Int) < 97 := by omega
              have t3b : ((S.toNat : Int) == (c.toNat : Int) + 32) = true := by simp at t3 ⊢; omega
              have hd : dv c = k := by simpa [h4] using hm
              have HR := Lib.hid (hres hd)
              clear hm hres hstep hA h1 hd h3 e1 e2 e3
              go_wp2
              go_ret
              exact ⟨ret_int (by rw [HR.out]), rfl⟩
            · have t4 : (97 : Int) ≤ (c.toNat : Int) := by omega
              have hd : ¬ dv c = k := by simpa [h4] using hm
              have HS := Lib.hid (hstep hd)
              clear hm hres hstep hA h1 hd h3 e1 e2 e3
              go_wp2
              go_round
              case rel => exact ⟨k + 1, by omega, by go_num, HS.out⟩
              case measure => simp [intOf]; omega
          · have t3 : ((S.toNat : Int) == ((c.toNat : Int) + 32) % 256) = false := by
              have := u8_bne h3
              rw [← HADD.out, IntKind.wrap_u8] at this
              simpa using this
            have e3 : (S == c + 32) = false := by simpa using h3
            rw [e3] at hm
            have hd : ¬ dv c = k := by simpa using hm
            have HS := Lib.hid (hstep hd)
            clear hm hres hstep hA h1 hd h3 e1 e2 e3
            go_wp2
            go_round
            case rel => exact ⟨k + 1, by omega, by go_num, HS.out⟩
            case measure => simp [intOf]; omega
        · have t2 : (k : Int) < 10 := by omega
          have e2 : decide (10 ≤ k) = false := by simpa using h2
          rw [e2] at hm
          have hd : ¬ dv c = k := by simpa using hm
          have HS := Lib.hid (hstep hd)
          clear hm hres hstep hA h1 hd e1 e2
          go_wp2
          go_round
          case rel => exact ⟨k + 1, by omega, by go_num, HS.out⟩
          case measure => simp [intOf]; omega
    · have hr : dv16 c = 16 := by
        unfold dv16
        rw [if_neg]
        intro h
        exact hA (dv c) (by omega) rfl
      have HR := Lib.hid hr
      clear hr hA
      go_wp2
      go_ret
      exact ⟨ret_int (by rw [HR.out]; rfl), rfl⟩

/-- the value of the first k signs, no greater than most -/
structure RValAt (base most k : Nat) (s : ByteArray) (N : Nat) : Prop where
  val : N = valL base (s.data.toList.take k)
  le : N ≤ most

theorem valL_take_le (b : Nat) (hb : 1 ≤ b) (l : List UInt8) (k : Nat) : valL b (l.take k) ≤ valL b l := by
  have key : ∀ (r : List UInt8) (n : Nat), n ≤ r.foldl (fun n c => n * b + dv c) n := by
    intro r
    induction r with
    | nil => intro n; exact Nat.le_refl _
    | cons c r ih =>
      intro n
      have h1 : n ≤ n * b + dv c := by
        have : n * 1 ≤ n * b := Nat.mul_le_mul_left n hb
        omega
      exact Nat.le_trans h1 (ih _)
  conv => rhs; rw [← List.take_append_drop k l]
  unfold valL
  rw [List.foldl_append]
  exact key _ _

theorem readL_over {b most : Nat} (hb : 1 ≤ b) {s : ByteArray} (hok : okL b s.data.toList = true) (h0 : s.size ≠ 0) {k : Nat} (h : most < valL b (s.data.toList.take k)) : readL b most s.data.toList = (0, 41) := by
  have hne : s.data.toList.isEmpty = false := List.isEmpty_eq_false_iff.2 (size_ne h0)
  have := valL_take_le b hb s.data.toList k
  unfold readL
  rw [hne, hok]
  simp only [Bool.false_eq_true, if_false, if_true]
  rw [if_neg (by omega)]
theorem readL_fine {b most : Nat} {s : ByteArray} (hok : okL b s.data.toList = true) (h0 : s.size ≠ 0) {N : Nat} (h : RValAt b most s.size s N) : readL b most s.data.toList = (N, 0) := by
  have hne : s.data.toList.isEmpty = false := List.isEmpty_eq_false_iff.2 (size_ne h0)
  have hv := h.val
  rw [Lib.size_eq s, List.take_length] at hv
  have hl := h.le
  unfold readL
  rw [hne, hok, ← hv]
  simp [hl]

theorem okL_at {b : Nat} {s : ByteArray} (hok : okL b s.data.toList = true) {k : Nat} (h : k < s.size) : dv s[k] < b := by
  have hl := Lib.size_eq s
  have hk : k < s.data.toList.length := by omega
  have he : dv s.data.toList[k] = dv s[k] := rfl
  rw [← he]
  have := List.all_eq_true.1 hok s.data.toList[k] (List.getElem_mem hk)
  simpa using this
theorem okL_of_all {b : Nat} {s : ByteArray} (h : okL b (s.data.toList.take s.size) = true) : okL b s.data.toList = true := by
  rwa [Lib.size_eq s, List.take_length] at h

theorem rdigit_ok (c : UInt8) (D : Nat) (hD : dv c = D) (h : D < 16) (w : World) :
    Calls Tryd.prog 56 #[.int .u8 (c.toNat : Int)] w fun e w' => e = .returned (.int .i64 (D : Int)) ∧ w = w' := by
  refine (rdigit_any c w).mono ?_
  rintro e w' ⟨rfl, rfl⟩
  exact ⟨ret_int (by unfold dv16; rw [if_pos (by omega), hD]), rfl⟩
theorem rdigit_bad (c : UInt8) (h : 16 ≤ dv c) (w : World) :
    Calls Tryd.prog 56 #[.int .u8 (c.toNat : Int)] w fun e w' => e = .returned (.int .i64 16) ∧ w = w' := by
  refine (rdigit_any c w).mono ?_
  rintro e w' ⟨rfl, rfl⟩
  exact ⟨ret_int (by unfold dv16; rw [if_neg (by omega)]; rfl), rfl⟩
end Go.Proofs.YtkkejlmpimamdaaDoor
