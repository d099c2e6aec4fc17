import Derived.Test.YtkkejlmpimamdaaDoorN2
import Derived.Laws.BytesString
set_option linter.unusedVariables false
set_option linter.unusedSimpArgs false
namespace Go.Proofs.YtkkejlmpimamdaaDoor
open Go.RowKit

theorem heap_set {w : World} {b i : Nat} {C : Array Value} {e : TypeId} {f : Nat × Nat} (h : w.heap[b]? = some (.cells C e f)) (v : Value) : (w.setCell ⟨b, i, none⟩ v).heap[b]? = some (.cells (C.setIfInBounds i v) e f) := by
  simp [World.setCell, Array.getElem?_modify, h]
theorem cell_at {w : World} {b : Nat} {C : Array Value} {e : TypeId} {f : Nat × Nat} (h : w.heap[b]? = some (.cells C e f)) (i : Nat) : w.cell? ⟨b, i, none⟩ = C[i]? := by
  simp [World.cell?, h]
theorem free_at {w : World} {b : Nat} {C : Array Value} {e : TypeId} (h : w.heap[b]? = some (.cells C e (0, 0))) (i : Nat) : w.frozen? ⟨b, i, none⟩ = false := by
  simp [World.frozen?, h]

theorem drop_set (C : Array Value) (k : Nat) (v : Value) (h : k < C.size) : (C.setIfInBounds k v).toList.drop k = v :: C.toList.drop (k + 1) := by
  rw [Array.toList_setIfInBounds]
  rw [List.drop_eq_getElem_cons (by simpa using h)]
  simp [List.drop_set]

/-- a loop that writes digits from the right -/
structure BaseAt (base n0 N k : Nat) (D : List UInt8) (fst : Bool) : Prop where
  k64 : k ≤ 64
  len : D.length = 64 - k
  small : N * 2 ^ (64 - k) ≤ n0
  start : fst = true → N = n0 ∧ k = 64
  later : fst = false → (N = 0 → D = baseL base n0) ∧ (0 < N → baseL base n0 = baseL base N ++ D)

theorem BaseAt.init (base n0 : Nat) : BaseAt base n0 n0 64 [] true := ⟨by omega, rfl, by simp, fun _ => ⟨rfl, rfl⟩, (fun h => by cases h)⟩

theorem BaseAt.pos {base n0 N k : Nat} {D : List UInt8} {fst : Bool} (h : BaseAt base n0 N k D fst) (hn : n0 < 18446744073709551616) (hg : fst = true ∨ 0 < N) : 1 ≤ k := by
  rcases hg with hg | hg
  · have := (h.start hg).2; omega
  · rcases Nat.eq_zero_or_pos k with h0 | h0
    · have h1 := h.small
      subst h0
      have : 2 ^ (64 - 0) ≤ N * 2 ^ (64 - 0) := Nat.le_mul_of_pos_left _ hg
      simp at this h1
      omega
    · exact h0

theorem BaseAt.next {base n0 N k : Nat} {D : List UInt8} {fst : Bool} (h : BaseAt base n0 N k D fst) (hb : 2 ≤ base) (hk : 1 ≤ k) (hg : fst = true ∨ 0 < N) :
    BaseAt base n0 (N / base) (k - 1) (dig (N % base) :: D) false := by
  have hk64 := h.k64
  refine ⟨by omega, by simp [h.len]; omega, ?_, (fun e => by cases e), fun _ => ?_⟩
  · have h1 := h.small
    have e : 64 - (k - 1) = (64 - k) + 1 := by omega
    rw [e, Nat.pow_succ]
    have h2 : N / base * 2 ≤ N := by
      have := Nat.div_mul_le_self N base
      have := Nat.mul_le_mul_left (N / base) hb
      omega
    calc N / base * (2 ^ (64 - k) * 2) = (N / base * 2) * 2 ^ (64 - k) := by rw [Nat.mul_comm (2 ^ (64 - k)) 2, Nat.mul_assoc]
      _ ≤ N * 2 ^ (64 - k) := Nat.mul_le_mul_right _ h2
      _ ≤ n0 := h1
  · have key : (N / base = 0 → dig (N % base) :: D = baseL base N ++ D) ∧ (0 < N / base → baseL base N ++ D = baseL base (N / base) ++ (dig (N % base) :: D)) := by
      constructor
      · intro h0
        have hlt : N < base := by
          rcases Nat.lt_or_ge N base with h' | h'
          · exact h'
          · have := Nat.div_pos h' (by omega); omega
        rw [baseL_small (.inl hlt), Nat.mod_eq_of_lt hlt]; rfl
      · intro h0
        have hge : ¬ (N < base ∨ base < 2) := by
          rintro (h' | h')
          · rw [Nat.div_eq_of_lt h'] at h0; omega
          · omega
        rw [baseL_step hge]; simp
    have hh : baseL base n0 = baseL base N ++ D := by
      cases fst with
      | true =>
        obtain ⟨h1, h2⟩ := h.start rfl
        have : D = [] := List.eq_nil_of_length_eq_zero (by rw [h.len]; omega)
        rw [h1, this]; simp
      | false =>
        rcases hg with hg | hg
        · cases hg
        · exact (h.later rfl).2 hg
    exact ⟨fun e => by rw [hh]; exact key.1 e, fun e => by rw [hh]; exact key.2 e⟩

theorem dig_at (d : Nat) (h : d < (⟨#[48, 49, 50, 51, 52, 53, 54, 55, 56, 57, 97, 98, 99, 100, 101, 102]⟩ : ByteArray).size) : (⟨#[48, 49, 50, 51, 52, 53, 54, 55, 56, 57, 97, 98, 99, 100, 101, 102]⟩ : ByteArray)[d] = dig d := by
  have hd : d < 16 := h
  have : d = 0 ∨ d = 1 ∨ d = 2 ∨ d = 3 ∨ d = 4 ∨ d = 5 ∨ d = 6 ∨ d = 7 ∨ d = 8 ∨ d = 9 ∨ d = 10 ∨ d = 11 ∨ d = 12 ∨ d = 13 ∨ d = 14 ∨ d = 15 := by omega
  rcases this with rfl | rfl | rfl | rfl | rfl | rfl | rfl | rfl | rfl | rfl | rfl | rfl | rfl | rfl | rfl | rfl <;> rfl

theorem quo_wrap (N base : Nat) (hN : N < 18446744073709551616) : IntKind.u64.wrap ((N : Int) / (base : Int)) = ((N / base : Nat) : Int) := by
  rw [u64wrap]
  have : N / base ≤ N := Nat.div_le_self _ _
  have e : (N : Int) / (base : Int) = ((N / base : Nat) : Int) := by simp
  rw [e]
  generalize N / base = q at *
  omega

def byteV (c : UInt8) : Value := .int .u8 (c.toNat : Int)

set_option maxHeartbeats 1000000 in
set_option maxRecDepth 100000 in
theorem base_any (n base : Nat) (w : World) (hn : n < 18446744073709551616) (hb : 2 ≤ base) (hb' : base ≤ 16) :
    Calls Tryd.prog 35 #[.int .u64 (n : Int), .int .i64 (base : Int)] w fun e w' => e = .returned (.string ⟨(baseL base n).toArray⟩) ∧ Below w.heap.size w w' := by
  have g1 : decide ((base : Int) < 2) = false := by simp; omega
  have g2 : decide ((16 : Int) < base) = false := by simp; omega
  go_enter Tryd.func35, Tryd.ntmps35
  go_wp2
  go_loopw [0, 6, 7] (fun n' a f wr => ∃ (N k : Nat) (C : Array Value) (D : List UInt8) (fst : Bool), n' = .int .u64 (N : Int) ∧ a = .int .i64 (k : Int) ∧ f = .bool fst ∧ BaseAt base n N k D fst ∧ wr.heap[w.heap.size]? = some (.cells C 83 (0, 0)) ∧ C.size = 64 ∧ C.toList.drop k = D.map byteV ∧ Below w.heap.size w wr) (fun _ a _ _ => (intOf a).toNat)
  case atStart =>
    exact ⟨n, 64, _, [], true, rfl, rfl, rfl, BaseAt.init _ _, Go.heap_alloc_new _ _, rfl, by rfl, (Below.refl _ _).alloc (Nat.le_refl _) _⟩
  case round =>
    obtain ⟨N, k, C, D, fst, rfl, rfl, rfl, hA, hheap, hC, hD, hB⟩ := hrel
    by_cases hg : fst = true ∨ 0 < N
    · have hk := hA.pos hn hg
      have hk64 := hA.k64
      have hN : N < 18446744073709551616 := by
        have h1 := hA.small
        have h2 : N ≤ N * 2 ^ (64 - k) := Nat.le_mul_of_pos_right _ (Nat.pos_of_ne_zero (by simp))
        omega
      have hnext := hA.next hb hk hg
      have hc : wr.cell? ⟨w.heap.size, k - 1, none⟩ = some C[k - 1] := by
        rw [cell_at hheap]; simp [show k - 1 < C.size by omega]
      have hf : wr.frozen? ⟨w.heap.size, k - 1, none⟩ = false := free_at hheap _
      have hm : (N : Int) % (base : Int) < 16 := by have := Int.emod_lt_of_pos (N : Int) (show (0 : Int) < base by omega); omega
      have hm0 : 0 ≤ (N : Int) % (base : Int) := Int.emod_nonneg _ (by omega)
      obtain ⟨k, rfl⟩ : ∃ j, k = j + 1 := ⟨k - 1, by omega⟩
      simp only [Nat.add_sub_cancel] at hc hf hnext
      have hb0 : (0 : Int) < base := by omega
      cases fst with
      | true =>
        go_wp2
        go_roundw
        case rel => exact ⟨N / base, k, _, _, false, by rw [quo_wrap N base hN], rfl, rfl, hnext, heap_set hheap _, by simp [hC], by rw [drop_set _ _ _ (by omega), hD, dig_at]; rfl, hB.setCell (Nat.le_refl _) _⟩
        case measure => simp [intOf]
      | false =>
        have hp : 0 < N := by rcases hg with h | h; cases h; exact h
        have hp2 : (0 : Int) < (N : Int) := by omega
        go_wp2
        go_roundw
        case rel => exact ⟨N / base, k, _, _, false, by rw [quo_wrap N base hN], rfl, rfl, hnext, heap_set hheap _, by simp [hC], by rw [drop_set _ _ _ (by omega), hD, dig_at]; rfl, hB.setCell (Nat.le_refl _) _⟩
        case measure => simp [intOf]
    · obtain rfl : fst = false := by cases fst; rfl; exact absurd (.inl rfl) hg
      obtain rfl : N = 0 := by
        rcases Nat.eq_zero_or_pos N with h | h
        · exact h
        · exact absurd (.inr h) hg
      have hk64 := hA.k64
      have hlen := hA.len
      have hres := (hA.later rfl).1 rfl
      have hcv : ∀ c, (convert 32 9 (.slice (some ⟨w.heap.size, k, none⟩) (64 - k) c)).run Tryd.prog wr = .ok (.string ⟨(baseL base n).toArray⟩) wr := by
        intro c
        rw [← hlen, ← hres]
        refine run_convert_bytes_back wr _ _ _ _ c D Tryd.underlying32 Tryd.underlying5 Tryd.underlying9 ?_
        intro j hj
        have : (⟨w.heap.size, k, none⟩ : Addr).add j = ⟨w.heap.size, k + j, none⟩ := by unfold Addr.add; split <;> simp_all
        rw [this, cell_at hheap]
        have h2 : (C.toList.drop k)[j]? = (D.map byteV)[j]? := by rw [hD]
        rw [List.getElem?_drop, List.getElem?_map, List.getElem?_eq_getElem hj] at h2
        rw [← Array.getElem?_toList, h2]
        rfl
      have h64 : ¬ (64 = k) := by
        intro e
        have : D.length ≠ 0 := by rw [hres]; exact fun e => baseL_ne base n (List.eq_nil_of_length_eq_zero e)
        omega
      have hadd : (⟨w.heap.size, 0, none⟩ : Addr).add k = ⟨w.heap.size, k, none⟩ := by unfold Addr.add; split <;> simp_all
      have h64' : (k : Int) ≤ 64 := by omega
      clear hres hlen hD hC
      go_wp2
      go_ret
      exact ⟨rfl, hB⟩

theorem base_int (v b : Int) (w : World) (h0 : 0 ≤ v) (h1 : v < 18446744073709551616) (hb : 2 ≤ b) (hb' : b ≤ 16) :
    Calls Tryd.prog 35 #[.int .u64 v, .int .i64 b] w fun e w' => e = .returned (.string ⟨(baseL b.toNat v.toNat).toArray⟩) ∧ Below w.heap.size w w' := by
  have := base_any v.toNat b.toNat w (by omega) (by omega) (by omega)
  rw [Int.toNat_of_nonneg h0, Int.toNat_of_nonneg (show 0 ≤ b by omega)] at this
  exact this

theorem ret_str {a b : List UInt8} (h : a = b) : Ending.returned (.string ⟨a.toArray⟩) = .returned (.string ⟨b.toArray⟩) := by rw [h]

theorem ret_str2 {a b : ByteArray} (h : a = b) : Ending.returned (.string a) = .returned (.string b) := by rw [h]

theorem baseL_len (b : Nat) (hb : 2 ≤ b) (k : Nat) : ∀ n, n < 2 ^ (k + 1) → (baseL b n).length ≤ k + 1 := by
  induction k with
  | zero =>
    intro n hn
    rw [baseL_small (.inl (by simp at hn; omega))]
    simp
  | succ k ih =>
    intro n hn
    by_cases h : n < b ∨ b < 2
    · rw [baseL_small h]; simp
    · rw [baseL_step h]
      have h2 : n / b ≤ n / 2 := Nat.div_le_div_left hb (by omega)
      have h3 : n / 2 < 2 ^ (k + 1) := by
        rw [Nat.pow_succ] at hn
        omega
      have := ih (n / b) (by omega)
      simp
      omega

theorem baseL_len64 (b n : Nat) (hb : 2 ≤ b) (hn : n < 18446744073709551616) : (baseL b n).length ≤ 64 := baseL_len b hb 63 n (by simpa using hn)

set_option maxHeartbeats 1000000 in
theorem text_any (n : Int) (w : World) (h0 : -9223372036854775808 ≤ n) (h1 : n ≤ 9223372036854775807) :
    Calls Tryd.prog 36 #[.int .i64 n] w fun e w' => e = .returned (.string ⟨(textL n).toArray⟩) ∧ Below w.heap.size w w' := by
  by_cases h : n < 0
  · have ht : textL n = 45 :: baseL 10 n.natAbs := by unfold textL; rw [if_pos h]
    have HT := Lib.hid ht
    clear ht
    have hlen := baseL_len64 10 (-(n + 1) + 1).toNat (by omega) (by omega)
    go_enter Tryd.func36, Tryd.ntmps36
    go_wp2_with (go_at_call 35; refine (base_int _ _ _ (by omega) (by omega) (by omega) (by omega)).mono ?_; rintro e w' ⟨rfl, hB⟩)
    go_ret
    refine ⟨?_, hB⟩
    rw [HT.out]
    have e1 : (-(n + 1) + 1).toNat = n.natAbs := by omega
    rw [← e1]
    refine ret_str2 ?_
    rw [ByteArray.mk_append_mk]
    rfl
  · have ht : textL n = baseL 10 n.toNat := by unfold textL; rw [if_neg h]
    have HT := Lib.hid ht
    clear ht
    go_enter Tryd.func36, Tryd.ntmps36
    go_wp2_with (go_at_call 35; refine (base_int _ _ _ (by omega) (by omega) (by omega) (by omega)).mono ?_; rintro e w' ⟨rfl, hB⟩)
    go_ret
    refine ⟨?_, hB⟩
    rw [HT.out]
    rfl
end Go.Proofs.YtkkejlmpimamdaaDoor
