import Derived.Test.YtkkejlmpimamdaaDoorPr
import Derived.BigRegion
set_option linter.unusedVariables false
set_option linter.unusedSimpArgs false
namespace Go.Proofs.YtkkejlmpimamdaaDoor
open Go.RowKit

theorem digit_any (c : UInt8) (w : World) :
    Calls Tryd.prog 32 #[.int .u8 (c.toNat : Int)] w fun e w' => e = .returned (.bool (digitB c)) ∧ w = w' := by
  have h2 := c.toNat_lt
  unfold digitB
  generalize c.toNat = n at *
  by_cases h : 48 ≤ n
  · have h' : (48 : Int) ≤ (n : Int) := by omega
    go_enter Tryd.func32, Tryd.ntmps32
    go_wp2
    go_ret
    exact ⟨by simp [h] <;> omega, rfl⟩
  · have h' : (n : Int) < 48 := by omega
    go_enter Tryd.func32, Tryd.ntmps32
    go_wp2
    go_ret
    exact ⟨by simp [h] <;> omega, rfl⟩

def widthN (l : List UInt8) : Nat := l.foldl (fun n c => 10 * n + (c.toNat - 48)) 0

theorem width_end (l : List UInt8) (j : Nat) (hj : j ≤ 2) (hl : j ≤ l.length) (hd : ∀ i (h : i < j), digitB (l[i]'(by omega)) = true) (he : j = 2 ∨ j = l.length ∨ ∃ h : j < l.length, digitB l[j] = false) :
    widthL l = (widthN (l.take j), j) := by
  have : j = 0 ∨ j = 1 ∨ j = 2 := by omega
  rcases this with rfl | rfl | rfl
  · cases l with
    | nil => rfl
    | cons a r =>
      rcases he with he | he | ⟨h, he⟩
      · omega
      · simp at he
      · simp at he
        simp [widthL, he, widthN]
  · cases l with
    | nil => simp at hl
    | cons a r =>
      have h0 := hd 0 (by omega)
      simp at h0
      cases r with
      | nil => simp [widthL, h0, widthN]
      | cons b t =>
        rcases he with he | he | ⟨h, he⟩
        · omega
        · simp at he
        · simp at he
          simp [widthL, h0, he, widthN]
  · cases l with
    | nil => simp at hl
    | cons a r =>
      cases r with
      | nil => simp at hl
      | cons b t =>
        have h0 := hd 0 (by omega)
        have h1 := hd 1 (by omega)
        simp at h0 h1
        simp [widthL, h0, h1, widthN]

theorem digit_val {c : UInt8} (h : digitB c = true) : 48 ≤ c.toNat ∧ c.toNat ≤ 57 := by
  simpa [digitB] using h

/-- what a conversion answers -/
def ConvIs (s : List UInt8) (l : Bool) (wd : Nat) (v : UInt8) (n : Nat) : Prop :=
  (convL s = none ∧ n = 0) ∨ (convL s = some (l, wd, v, n) ∧ 0 < n ∧ n ≤ s.length ∧ wd ≤ 99 ∧ v ∈ ([115, 100, 120, 111, 99, 37] : List UInt8))

def ConvPost (s : ByteArray) (w : World) (e : Ending) (w' : World) : Prop :=
  ∃ l wd v n, e = .returned (.tuple #[.agg #[.bool l, .int .i64 ((wd : Nat) : Int), .int .u8 ((v : UInt8).toNat : Int)], .int .i64 ((n : Nat) : Int)]) ∧ Below w.heap.size w w' ∧ ConvIs s.data.toList l wd v n

/-- the loop over the width -/
structure ConvAt (l : List UInt8) (k j wd : Nat) : Prop where
  two : j ≤ 2
  len : k + j ≤ l.length
  digits : ∀ i (h : i < j), digitB (l[k + i]'(by omega)) = true
  val : wd = widthN ((l.drop k).take j)

theorem ConvAt.next {l : List UInt8} {k j wd : Nat} (h : ConvAt l k j wd) (hj : j < 2) (hlt : k + j < l.length) (hd : digitB l[k + j] = true) : ConvAt l k (j + 1) (10 * wd + (l[k + j].toNat - 48)) := by
  refine ⟨by omega, by omega, ?_, ?_⟩
  · intro i hi
    rcases Nat.lt_or_ge i j with h' | h'
    · exact h.digits i h'
    · obtain rfl : i = j := by omega
      exact hd
  · have hlt2 : j < (l.drop k).length := by simp; omega
    rw [List.take_succ_eq_append_getElem hlt2, h.val]
    simp [widthN]

theorem ConvAt.bound {l : List UInt8} {k j wd : Nat} (h : ConvAt l k j wd) : wd < 10 ^ j := by
  have hv := h.val
  have h2 := h.two
  have hlen := h.len
  have : j = 0 ∨ j = 1 ∨ j = 2 := by omega
  rcases this with rfl | rfl | rfl
  · simp [widthN] at hv; omega
  · have d0 := digit_val (h.digits 0 (by omega))
    have e : (l.drop k).take 1 = [l[k]] := by
      rw [List.take_one]; simp [List.head?_drop, show k < l.length by omega]
    rw [e] at hv
    simp [widthN] at hv
    simp at d0
    omega
  · have d0 := digit_val (h.digits 0 (by omega))
    have d1 := digit_val (h.digits 1 (by omega))
    have e : (l.drop k).take 2 = [l[k], l[k + 1]] := by
      have e1 := List.drop_eq_getElem_cons (show k < l.length by omega)
      have e2 := List.drop_eq_getElem_cons (show k + 1 < l.length by omega)
      rw [e1, e2]; rfl
    rw [e] at hv
    simp [widthN] at hv
    simp at d0 d1
    omega

theorem conv_none {s : List UInt8} {left : Bool} {k j wd : Nat} (hp : (s.head? == some 45) = left) (hk : k = if left then 1 else 0) (h : ConvAt s k j wd) (he : j = 2 ∨ k + j = s.length ∨ ∃ h : k + j < s.length, digitB s[k + j] = false)
    (hn : k + j = s.length ∨ ∃ h : k + j < s.length, s[k + j] ∉ ([115, 100, 120, 111, 99, 37] : List UInt8)) : convL s = none := by
  have hw : widthL (s.drop k) = (widthN ((s.drop k).take j), j) := by
    refine width_end _ j h.two (by simp; have := h.len; omega) (fun i hi => by simpa using h.digits i hi) ?_
    rcases he with he | he | ⟨h1, h2⟩
    · exact .inl he
    · exact .inr (.inl (by simp; omega))
    · exact .inr (.inr ⟨by simp; omega, by simpa using h2⟩)
  unfold convL
  simp only [hp, ← hk, hw]
  rcases hn with hn | ⟨h1, h2⟩
  · rw [List.drop_eq_nil_of_le (by omega)]
  · rw [List.drop_eq_getElem_cons h1]
    simp only [if_neg h2]

theorem conv_some {s : List UInt8} {left : Bool} {k j wd : Nat} (hp : (s.head? == some 45) = left) (hk : k = if left then 1 else 0) (h : ConvAt s k j wd) (he : j = 2 ∨ k + j = s.length ∨ ∃ h : k + j < s.length, digitB s[k + j] = false)
    (h1 : k + j < s.length) (h2 : s[k + j] ∈ ([115, 100, 120, 111, 99, 37] : List UInt8)) : convL s = some (left, wd, s[k + j], k + j + 1) := by
  have hw : widthL (s.drop k) = (widthN ((s.drop k).take j), j) := by
    refine width_end _ j h.two (by simp; have := h.len; omega) (fun i hi => by simpa using h.digits i hi) ?_
    rcases he with he | he | ⟨h1, h2⟩
    · exact .inl he
    · exact .inr (.inl (by simp; omega))
    · exact .inr (.inr ⟨by simp; omega, by simpa using h2⟩)
  unfold convL
  simp only [hp, ← hk, hw]
  rw [List.drop_eq_getElem_cons h1]
  simp only [if_pos h2, h.val]


theorem verb_pos (c : UInt8) (h : c ∈ ([115, 100, 120, 111, 99, 37] : List UInt8)) : 0 ≤ Lib.indexByte [115, 100, 120, 111, 99, 37] c := by
  simp at h
  rcases h with rfl | rfl | rfl | rfl | rfl | rfl <;> decide

theorem verb_neg (c : UInt8) (h : c ∉ ([115, 100, 120, 111, 99, 37] : List UInt8)) : Lib.indexByte [115, 100, 120, 111, 99, 37] c < 0 := by
  simp at h
  obtain ⟨h1, h2, h3, h4, h5, h6⟩ := h
  have e : ∀ a : UInt8, ¬ c = a → (a == c) = false := fun a h => by simp; exact fun e => h e.symm
  simp [Lib.indexByte, e _ h1, e _ h2, e _ h3, e _ h4, e _ h5, e _ h6]

theorem verb_index (c : UInt8) (X : Int) (h : Lib.indexByte [115, 100, 120, 111, 99, 37] c = X) (w : World) :
    Calls Tryd.prog 16 #[.string ⟨#[115, 100, 120, 111, 99, 37]⟩, .int .u8 (c.toNat : Int)] w fun e w' => e = .returned (.int .i64 X) ∧ w = w' := by
  refine (Tryd.strings_IndexByte _ _ _).mono ?_
  rintro e w' ⟨rfl, rfl⟩
  refine ⟨ret_int ?_, rfl⟩
  rw [← h]
  simp

theorem pre_head (l : List UInt8) (c : UInt8) : Lib.hasPrefix l [c] = (l.head? == some c) := by
  cases l with
  | nil => rfl
  | cons a r => 
    have : (c == a) = (a == c) := by
      rw [Bool.eq_iff_iff]; simp; exact ⟨fun h => h.symm, fun h => h.symm⟩
    simp [Lib.hasPrefix, List.isPrefixOf, this]

theorem res3 {w : World} {B : Nat} {T : TypeId} {x y z a b c : Value} (h : w.heap[B]? = some (.cells #[x, y, z] T (0, 0))) :
    (((w.setCell ⟨B, 0, none⟩ a).setCell ⟨B, 1, none⟩ b).setCell ⟨B, 2, none⟩ c).cell? ⟨B, 0, none⟩ = some a ∧ (((w.setCell ⟨B, 0, none⟩ a).setCell ⟨B, 1, none⟩ b).setCell ⟨B, 2, none⟩ c).cell? ⟨B, 1, none⟩ = some b ∧ (((w.setCell ⟨B, 0, none⟩ a).setCell ⟨B, 1, none⟩ b).setCell ⟨B, 2, none⟩ c).cell? ⟨B, 2, none⟩ = some c := by
  have := heap_set (i := 2) (heap_set (i := 1) (heap_set (i := 0) h a) b) c
  refine ⟨?_, ?_, ?_⟩ <;> rw [cell_at this] <;> rfl

theorem ConvAt.next0 {l : List UInt8} {j wd : Nat} (h : ConvAt l 0 j wd) (hj : j < 2) (hlt : j < l.length) (hd : digitB l[j] = true) : ConvAt l 0 (j + 1) (10 * wd + (l[j].toNat - 48)) := by
  have := h.next hj (by omega) (by simpa only [Nat.zero_add] using hd)
  simpa only [Nat.zero_add] using this

theorem conv_none0 {s : List UInt8} {j wd : Nat} (hp : (s.head? == some 45) = false) (h : ConvAt s 0 j wd) (he : j = 2 ∨ j = s.length ∨ ∃ h : j < s.length, digitB s[j] = false)
    (hn : j = s.length ∨ ∃ h : j < s.length, s[j] ∉ ([115, 100, 120, 111, 99, 37] : List UInt8)) : convL s = none :=
  conv_none (k := 0) hp rfl h (by simpa only [Nat.zero_add] using he) (by simpa only [Nat.zero_add] using hn)

theorem conv_some0 {s : List UInt8} {j wd : Nat} (hp : (s.head? == some 45) = false) (h : ConvAt s 0 j wd) (he : j = 2 ∨ j = s.length ∨ ∃ h : j < s.length, digitB s[j] = false)
    (h1 : j < s.length) (h2 : s[j] ∈ ([115, 100, 120, 111, 99, 37] : List UInt8)) : convL s = some (false, wd, s[j], j + 1) := by
  have := conv_some (k := 0) hp rfl h (by simpa only [Nat.zero_add] using he) (by omega) (by simpa only [Nat.zero_add] using h2)
  simpa only [Nat.zero_add] using this

set_option maxHeartbeats 4000000 in
theorem conversion_left (s : ByteArray) (w : World) (hs : s.size ≤ 1000000) (hp : Lib.hasPrefix s.data.toList [45] = true) :
    Calls Tryd.prog 18 #[.string s] w (ConvPost s w) := by
  have hl := Lib.size_eq s
  have HL := Lib.hid hl
  clear hl
  · skip
    have HQ : Hid ((s.data.toList.head? == some 45) = true) := Lib.hid (by rw [← pre_head]; exact hp)
    have HP := Lib.hid hp
    have hone : 1 + 0 ≤ s.data.toList.length := by cases h : s.data.toList with | nil => (rw [h] at hp; simp [Lib.hasPrefix, List.isPrefixOf] at hp) | cons a r => simp
    clear hp
    go_enter Tryd.func18, Tryd.ntmps18
    go_wp2_with (go_at_call 31; refine (Tryd.strings_HasPrefix _ _ _).mono ?_; rintro e w' ⟨rfl, rfl⟩; simp only [HP.out])
    go_loopw [5, 6] (fun vi vn wr => ∃ (j wd : Nat), vi = .int .i64 ((1 + j : Nat) : Int) ∧ vn = .int .i64 (j : Int) ∧ ConvAt s.data.toList 1 j wd ∧ wr.heap[w.heap.size + 1]? = some (.cells #[.bool true, .int .i64 (wd : Int), .int .u8 0] 53 (0, 0)) ∧ wr.heap[w.heap.size]? = some (.cells #[.bool false, .int .i64 0, .int .u8 0] 53 (0, 0)) ∧ Below w.heap.size w wr) (fun _ n _ => 2 - (intOf n).toNat)
    case atStart => exact ⟨0, 0, rfl, rfl, ⟨by omega, hone, fun i hi => absurd hi (by omega), rfl⟩, by rw [show w.heap.size + 1 = (w.alloc (Obj.cells #[.bool false, .int .i64 0, .int .u8 0] 53)).heap.size by simp]; exact Go.heap_alloc_new _ _, (Below.heap_alloc _ _ _ (by simp)).trans (Go.heap_alloc_new _ _), ((Below.refl _ _).alloc (Nat.le_refl _) _).alloc (by simp) _⟩
    case round =>
      obtain ⟨j, wd, rfl, rfl, hA, hx, hr, hB⟩ := hrel
      have hA2 := hA.two
      have hbd := hA.bound
      have hwd : wd ≤ 99 := by
        have : (10 : Nat) ^ j ≤ 10 ^ 2 := Nat.pow_le_pow_right (by omega) hA2
        omega
      have x0 : wr.cell? ⟨w.heap.size + 1, 0, none⟩ = some (.bool true) := by rw [cell_at hx]; rfl
      have x1 : wr.cell? ⟨w.heap.size + 1, 1, none⟩ = some (.int .i64 (wd : Int)) := by rw [cell_at hx]; rfl
      have x2 : wr.cell? ⟨w.heap.size + 1, 2, none⟩ = some (.int .u8 0) := by rw [cell_at hx]; rfl
      have r0 : wr.cell? ⟨w.heap.size, 0, none⟩ = some (.bool false) := by rw [cell_at hr]; rfl
      have r1 : wr.cell? ⟨w.heap.size, 1, none⟩ = some (.int .i64 0) := by rw [cell_at hr]; rfl
      have r2 : wr.cell? ⟨w.heap.size, 2, none⟩ = some (.int .u8 0) := by rw [cell_at hr]; rfl
      have y1 := free_at hx 1
      have y2 := free_at hx 2
      have z0 := free_at hr 0
      have z1 := free_at hr 1
      have z2 := free_at hr 2
      by_cases hlt : 1 + j < s.size
      · have hg : s[1 + j] = s.data.toList[1 + j]'(by rw [← HL.out]; exact hlt) := rfl
        have hl2 : 1 + j < s.data.toList.length := by rw [← HL.out]; exact hlt
        by_cases hgo : j < 2 ∧ digitB s[1 + j] = true
        · obtain ⟨hj2, hd⟩ := hgo
          have hdv := digit_val hd
          have hnx := hA.next hj2 hl2 hd
          have hcast : ((10 * wd + (s[1 + j].toNat - 48) : Nat) : Int) = 10 * (wd : Int) + ((s[1 + j].toNat : Int) - 48) := by omega
          have HC := Lib.hid hcast
          have HG := Lib.hid hg
          have HD := Lib.hid hd
          clear hg hd hcast
          go_wp2_with (go_at_call 32; refine (digit_any _ _).mono ?_; rintro e w' ⟨rfl, rfl⟩; simp only [HD.out])
          go_region
          all_goals go_wp2
          go_roundw
          case rel => exact ⟨j + 1, _, by go_num, by go_num, hnx, (heap_set hx _).trans (by rw [← HG.out, HC.out]; rfl), (Below.heap_setCell wr ⟨w.heap.size + 1, 1, none⟩ _ _ (by simp)).trans hr, (hB.setCell (p := ⟨w.heap.size + 1, 1, none⟩) (by simp) _).drew⟩
          case measure => simp [intOf]; omega
        · have he : j = 2 ∨ 1 + j = s.data.toList.length ∨ ∃ h : 1 + j < s.data.toList.length, digitB (s.data.toList[1 + j]) = false := by
            by_cases hj : j = 2
            · exact .inl hj
            · refine .inr (.inr ⟨hl2, ?_⟩)
              cases hd : digitB (s.data.toList[1 + j]) with
              | false => rfl
              | true => exact absurd ⟨by omega, hd⟩ hgo
          have hbr : (digitB s[1 + j] = false) ∨ (digitB s[1 + j] = true ∧ 2 ≤ j) := by
            cases hd : digitB s[1 + j] with
            | false => exact .inl rfl
            | true => exact .inr ⟨rfl, by rcases Nat.lt_or_ge j 2 with hj | hj; exact absurd ⟨hj, hd⟩ hgo; exact hj⟩
          have hne : ((1 + j : Int) == (s.size : Int)) = false := by simp; omega
          obtain ⟨c, hc⟩ : ∃ c, s[1 + j] = c := ⟨_, rfl⟩
          obtain ⟨X, hX⟩ : ∃ X, Lib.indexByte [115, 100, 120, 111, 99, 37] c = X := ⟨_, rfl⟩
          have hsz : 1 + j + 1 ≤ s.data.toList.length := by omega
          by_cases hv : c ∈ ([115, 100, 120, 111, 99, 37] : List UInt8)
          · have tok1 : True := trivial
            have hfin : ∀ W, Below w.heap.size w W → ConvPost s w (.returned (.tuple #[.agg #[.bool true, .int .i64 (wd : Int), .int .u8 (c.toNat : Int)], .int .i64 ((1 + j + 1 : Nat) : Int)])) W := fun W hW =>
              ⟨true, wd, c, 1 + j + 1, rfl, hW, .inr ⟨by rw [← hc]; exact conv_some (k := 1) HQ.out (by rfl) hA he hl2 (by rw [← hg, hc]; exact hv), by omega, hsz, hwd, hv⟩⟩
            have hX0 : 0 ≤ X := by rw [← hX]; exact verb_pos c hv
            obtain ⟨V1, V2, V3⟩ := res3 (a := .bool true) (b := .int .i64 (wd : Int)) (c := .int .u8 (c.toNat : Int)) ((Below.heap_setCell wr ⟨w.heap.size + 1, 2, none⟩ (.int .u8 (c.toNat : Int)) w.heap.size (by simp)).trans hr)
            have HF := Lib.hid hfin
            have HC := Lib.hid hc
            have HX := Lib.hid hX
            clear hg he hgo hv hX hc hfin hA
            rcases hbr with hd | ⟨hd, hj2⟩
            · have HD := Lib.hid hd
              clear hd
              go_wp2_with (first | (go_at_call 32; refine (digit_any _ _).mono ?_; rintro e w' ⟨rfl, rfl⟩; simp only [HD.out]) | (go_at_call 16; refine (verb_index _ X (by rw [HC.out]; exact HX.out) _).mono ?_; rintro e w' ⟨rfl, rfl⟩))
              exact bodyPost_ret (v := .tuple #[.agg #[.bool true, .int .i64 (wd : Int), .int .u8 (c.toNat : Int)], .int .i64 ((1 + j + 1 : Nat) : Int)]) (by simp [results, Tryd.results18, go_sem, HC.out, V1, V2, V3]) rfl (HF.out _ ((((hB.setCell (p := ⟨w.heap.size + 1, 2, none⟩) (by simp) _).setCell (p := ⟨w.heap.size, 0, none⟩) (by simp) _).setCell (p := ⟨w.heap.size, 1, none⟩) (by simp) _).setCell (p := ⟨w.heap.size, 2, none⟩) (by simp) _))
            · have HD := Lib.hid hd
              clear hd
              go_wp2_with (first | (go_at_call 32; refine (digit_any _ _).mono ?_; rintro e w' ⟨rfl, rfl⟩; simp only [HD.out]) | (go_at_call 16; refine (verb_index _ X (by rw [HC.out]; exact HX.out) _).mono ?_; rintro e w' ⟨rfl, rfl⟩))
              exact bodyPost_ret (v := .tuple #[.agg #[.bool true, .int .i64 (wd : Int), .int .u8 (c.toNat : Int)], .int .i64 ((1 + j + 1 : Nat) : Int)]) (by simp [results, Tryd.results18, go_sem, HC.out, V1, V2, V3]) rfl (HF.out _ ((((hB.setCell (p := ⟨w.heap.size + 1, 2, none⟩) (by simp) _).setCell (p := ⟨w.heap.size, 0, none⟩) (by simp) _).setCell (p := ⟨w.heap.size, 1, none⟩) (by simp) _).setCell (p := ⟨w.heap.size, 2, none⟩) (by simp) _))
          · have tok1 : True := trivial
            have hfin : ∀ W, Below w.heap.size w W → ConvPost s w (.returned (.tuple #[.agg #[.bool true, .int .i64 (wd : Int), .int .u8 0], .int .i64 0])) W := fun W hW =>
              ⟨true, wd, 0, 0, rfl, hW, .inl ⟨conv_none (k := 1) HQ.out (by rfl) hA he (.inr ⟨hl2, by rw [← hg, hc]; exact hv⟩), rfl⟩⟩
            have hX0 : X < 0 := by rw [← hX]; exact verb_neg c hv
            obtain ⟨V1, V2, V3⟩ := res3 (a := .bool true) (b := .int .i64 (wd : Int)) (c := .int .u8 0) hr
            have HF := Lib.hid hfin
            have HC := Lib.hid hc
            have HX := Lib.hid hX
            clear hg he hgo hv hX hc hfin hA
            rcases hbr with hd | ⟨hd, hj2⟩
            · have HD := Lib.hid hd
              clear hd
              go_wp2_with (first | (go_at_call 32; refine (digit_any _ _).mono ?_; rintro e w' ⟨rfl, rfl⟩; simp only [HD.out]) | (go_at_call 16; refine (verb_index _ X (by rw [HC.out]; exact HX.out) _).mono ?_; rintro e w' ⟨rfl, rfl⟩))
              exact bodyPost_ret (v := .tuple #[.agg #[.bool true, .int .i64 (wd : Int), .int .u8 0], .int .i64 0]) (by simp [results, Tryd.results18, go_sem, V1, V2, V3]) rfl (HF.out _ (((hB.setCell (p := ⟨w.heap.size, 0, none⟩) (by simp) _).setCell (p := ⟨w.heap.size, 1, none⟩) (by simp) _).setCell (p := ⟨w.heap.size, 2, none⟩) (by simp) _))
            · have HD := Lib.hid hd
              clear hd
              go_wp2_with (first | (go_at_call 32; refine (digit_any _ _).mono ?_; rintro e w' ⟨rfl, rfl⟩; simp only [HD.out]) | (go_at_call 16; refine (verb_index _ X (by rw [HC.out]; exact HX.out) _).mono ?_; rintro e w' ⟨rfl, rfl⟩))
              exact bodyPost_ret (v := .tuple #[.agg #[.bool true, .int .i64 (wd : Int), .int .u8 0], .int .i64 0]) (by simp [results, Tryd.results18, go_sem, V1, V2, V3]) rfl (HF.out _ (((hB.setCell (p := ⟨w.heap.size, 0, none⟩) (by simp) _).setCell (p := ⟨w.heap.size, 1, none⟩) (by simp) _).setCell (p := ⟨w.heap.size, 2, none⟩) (by simp) _))
      · obtain rfl' : 1 + j = s.size := by have := hA.len; rw [← HL.out] at this; omega
        have hle : (1 + j : Int) = (s.size : Int) := by omega
        have hne : ((1 + j : Int) == (s.size : Int)) = true := by simp; omega
        have hge : (s.size : Int) ≤ 1 + (j : Int) := by omega
        have hfin : ∀ W, Below w.heap.size w W → ConvPost s w (.returned (.tuple #[.agg #[.bool true, .int .i64 (wd : Int), .int .u8 0], .int .i64 0])) W := fun W hW =>
          ⟨true, wd, 0, 0, rfl, hW, .inl ⟨conv_none (k := 1) HQ.out (by rfl) hA (.inr (.inl (by rw [← HL.out]; exact rfl'))) (.inl (by rw [← HL.out]; exact rfl')), rfl⟩⟩
        obtain ⟨V1, V2, V3⟩ := res3 (a := .bool true) (b := .int .i64 (wd : Int)) (c := .int .u8 0) hr
        have HF := Lib.hid hfin
        clear hfin hle rfl' hlt hA
        go_wp2
        exact bodyPost_ret (v := .tuple #[.agg #[.bool true, .int .i64 (wd : Int), .int .u8 0], .int .i64 0]) (by simp [results, Tryd.results18, go_sem, V1, V2, V3]) rfl (HF.out _ (((hB.setCell (p := ⟨w.heap.size, 0, none⟩) (by simp) _).setCell (p := ⟨w.heap.size, 1, none⟩) (by simp) _).setCell (p := ⟨w.heap.size, 2, none⟩) (by simp) _))

set_option maxHeartbeats 4000000 in
theorem conversion_plain (s : ByteArray) (w : World) (hs : s.size ≤ 1000000) (hp : Lib.hasPrefix s.data.toList [45] = false) :
    Calls Tryd.prog 18 #[.string s] w (ConvPost s w) := by
  have hl := Lib.size_eq s
  have HL := Lib.hid hl
  clear hl
  · skip
    have HQ : Hid ((s.data.toList.head? == some 45) = false) := Lib.hid (by rw [← pre_head]; exact hp)
    have HP := Lib.hid hp
    have tok0 : True := trivial
    clear hp
    go_enter Tryd.func18, Tryd.ntmps18
    go_wp2_with (go_at_call 31; refine (Tryd.strings_HasPrefix _ _ _).mono ?_; rintro e w' ⟨rfl, rfl⟩; simp only [HP.out])
    go_loopw [5, 6] (fun vi vn wr => ∃ (j wd : Nat), vi = .int .i64 (j : Int) ∧ vn = .int .i64 (j : Int) ∧ ConvAt s.data.toList 0 j wd ∧ wr.heap[w.heap.size + 1]? = some (.cells #[.bool false, .int .i64 (wd : Int), .int .u8 0] 53 (0, 0)) ∧ wr.heap[w.heap.size]? = some (.cells #[.bool false, .int .i64 0, .int .u8 0] 53 (0, 0)) ∧ Below w.heap.size w wr) (fun _ n _ => 2 - (intOf n).toNat)
    case atStart => exact ⟨0, 0, rfl, rfl, ⟨by omega, (by omega), fun i hi => absurd hi (by omega), rfl⟩, by rw [show w.heap.size + 1 = (w.alloc (Obj.cells #[.bool false, .int .i64 0, .int .u8 0] 53)).heap.size by simp]; exact Go.heap_alloc_new _ _, (Below.heap_alloc _ _ _ (by simp)).trans (Go.heap_alloc_new _ _), ((Below.refl _ _).alloc (Nat.le_refl _) _).alloc (by simp) _⟩
    case round =>
      obtain ⟨j, wd, rfl, rfl, hA, hx, hr, hB⟩ := hrel
      have hA2 := hA.two
      have hbd := hA.bound
      have hwd : wd ≤ 99 := by
        have : (10 : Nat) ^ j ≤ 10 ^ 2 := Nat.pow_le_pow_right (by omega) hA2
        omega
      have x0 : wr.cell? ⟨w.heap.size + 1, 0, none⟩ = some (.bool false) := by rw [cell_at hx]; rfl
      have x1 : wr.cell? ⟨w.heap.size + 1, 1, none⟩ = some (.int .i64 (wd : Int)) := by rw [cell_at hx]; rfl
      have x2 : wr.cell? ⟨w.heap.size + 1, 2, none⟩ = some (.int .u8 0) := by rw [cell_at hx]; rfl
      have r0 : wr.cell? ⟨w.heap.size, 0, none⟩ = some (.bool false) := by rw [cell_at hr]; rfl
      have r1 : wr.cell? ⟨w.heap.size, 1, none⟩ = some (.int .i64 0) := by rw [cell_at hr]; rfl
      have r2 : wr.cell? ⟨w.heap.size, 2, none⟩ = some (.int .u8 0) := by rw [cell_at hr]; rfl
      have y1 := free_at hx 1
      have y2 := free_at hx 2
      have z0 := free_at hr 0
      have z1 := free_at hr 1
      have z2 := free_at hr 2
      by_cases hlt : j < s.size
      · have hg : s[j] = s.data.toList[j]'(by rw [← HL.out]; exact hlt) := rfl
        have hl2 : j < s.data.toList.length := by rw [← HL.out]; exact hlt
        by_cases hgo : j < 2 ∧ digitB s[j] = true
        · obtain ⟨hj2, hd⟩ := hgo
          have hdv := digit_val hd
          have hnx := hA.next0 hj2 hl2 hd
          have hcast : ((10 * wd + (s[j].toNat - 48) : Nat) : Int) = 10 * (wd : Int) + ((s[j].toNat : Int) - 48) := by omega
          have HC := Lib.hid hcast
          have HG := Lib.hid hg
          have HD := Lib.hid hd
          clear hg hd hcast
          go_wp2_with (go_at_call 32; refine (digit_any _ _).mono ?_; rintro e w' ⟨rfl, rfl⟩; simp only [HD.out])
          go_region
          all_goals go_wp2
          go_roundw
          case rel => exact ⟨j + 1, _, by go_num, by go_num, hnx, (heap_set hx _).trans (by rw [← HG.out, HC.out]; rfl), (Below.heap_setCell wr ⟨w.heap.size + 1, 1, none⟩ _ _ (by simp)).trans hr, (hB.setCell (p := ⟨w.heap.size + 1, 1, none⟩) (by simp) _).drew⟩
          case measure => simp [intOf]; omega
        · have he : j = 2 ∨ j = s.data.toList.length ∨ ∃ h : j < s.data.toList.length, digitB (s.data.toList[j]) = false := by
            by_cases hj : j = 2
            · exact .inl hj
            · refine .inr (.inr ⟨hl2, ?_⟩)
              cases hd : digitB (s.data.toList[j]) with
              | false => rfl
              | true => exact absurd ⟨by omega, hd⟩ hgo
          have hbr : (digitB s[j] = false) ∨ (digitB s[j] = true ∧ 2 ≤ j) := by
            cases hd : digitB s[j] with
            | false => exact .inl rfl
            | true => exact .inr ⟨rfl, by rcases Nat.lt_or_ge j 2 with hj | hj; exact absurd ⟨hj, hd⟩ hgo; exact hj⟩
          have hne : ((j : Int) == (s.size : Int)) = false := by simp; omega
          obtain ⟨c, hc⟩ : ∃ c, s[j] = c := ⟨_, rfl⟩
          obtain ⟨X, hX⟩ : ∃ X, Lib.indexByte [115, 100, 120, 111, 99, 37] c = X := ⟨_, rfl⟩
          have hsz : j + 1 ≤ s.data.toList.length := by omega
          by_cases hv : c ∈ ([115, 100, 120, 111, 99, 37] : List UInt8)
          · have tok1 : True := trivial
            have hfin : ∀ W, Below w.heap.size w W → ConvPost s w (.returned (.tuple #[.agg #[.bool false, .int .i64 (wd : Int), .int .u8 (c.toNat : Int)], .int .i64 ((j + 1 : Nat) : Int)])) W := fun W hW =>
              ⟨false, wd, c, j + 1, rfl, hW, .inr ⟨by rw [← hc]; exact conv_some0 HQ.out hA he hl2 (by rw [← hg, hc]; exact hv), by omega, hsz, hwd, hv⟩⟩
            have hX0 : 0 ≤ X := by rw [← hX]; exact verb_pos c hv
            obtain ⟨V1, V2, V3⟩ := res3 (a := .bool false) (b := .int .i64 (wd : Int)) (c := .int .u8 (c.toNat : Int)) ((Below.heap_setCell wr ⟨w.heap.size + 1, 2, none⟩ (.int .u8 (c.toNat : Int)) w.heap.size (by simp)).trans hr)
            have HF := Lib.hid hfin
            have HC := Lib.hid hc
            have HX := Lib.hid hX
            clear hg he hgo hv hX hc hfin hA
            rcases hbr with hd | ⟨hd, hj2⟩
            · have HD := Lib.hid hd
              clear hd
              go_wp2_with (first | (go_at_call 32; refine (digit_any _ _).mono ?_; rintro e w' ⟨rfl, rfl⟩; simp only [HD.out]) | (go_at_call 16; refine (verb_index _ X (by rw [HC.out]; exact HX.out) _).mono ?_; rintro e w' ⟨rfl, rfl⟩))
              exact bodyPost_ret (v := .tuple #[.agg #[.bool false, .int .i64 (wd : Int), .int .u8 (c.toNat : Int)], .int .i64 ((j + 1 : Nat) : Int)]) (by simp [results, Tryd.results18, go_sem, HC.out, V1, V2, V3]) rfl (HF.out _ ((((hB.setCell (p := ⟨w.heap.size + 1, 2, none⟩) (by simp) _).setCell (p := ⟨w.heap.size, 0, none⟩) (by simp) _).setCell (p := ⟨w.heap.size, 1, none⟩) (by simp) _).setCell (p := ⟨w.heap.size, 2, none⟩) (by simp) _))
            · have HD := Lib.hid hd
              clear hd
              go_wp2_with (first | (go_at_call 32; refine (digit_any _ _).mono ?_; rintro e w' ⟨rfl, rfl⟩; simp only [HD.out]) | (go_at_call 16; refine (verb_index _ X (by rw [HC.out]; exact HX.out) _).mono ?_; rintro e w' ⟨rfl, rfl⟩))
              exact bodyPost_ret (v := .tuple #[.agg #[.bool false, .int .i64 (wd : Int), .int .u8 (c.toNat : Int)], .int .i64 ((j + 1 : Nat) : Int)]) (by simp [results, Tryd.results18, go_sem, HC.out, V1, V2, V3]) rfl (HF.out _ ((((hB.setCell (p := ⟨w.heap.size + 1, 2, none⟩) (by simp) _).setCell (p := ⟨w.heap.size, 0, none⟩) (by simp) _).setCell (p := ⟨w.heap.size, 1, none⟩) (by simp) _).setCell (p := ⟨w.heap.size, 2, none⟩) (by simp) _))
          · have tok1 : True := trivial
            have hfin : ∀ W, Below w.heap.size w W → ConvPost s w (.returned (.tuple #[.agg #[.bool false, .int .i64 (wd : Int), .int .u8 0], .int .i64 0])) W := fun W hW =>
              ⟨false, wd, 0, 0, rfl, hW, .inl ⟨conv_none0 HQ.out hA he (.inr ⟨hl2, by rw [← hg, hc]; exact hv⟩), rfl⟩⟩
            have hX0 : X < 0 := by rw [← hX]; exact verb_neg c hv
            obtain ⟨V1, V2, V3⟩ := res3 (a := .bool false) (b := .int .i64 (wd : Int)) (c := .int .u8 0) hr
            have HF := Lib.hid hfin
            have HC := Lib.hid hc
            have HX := Lib.hid hX
            clear hg he hgo hv hX hc hfin hA
            rcases hbr with hd | ⟨hd, hj2⟩
            · have HD := Lib.hid hd
              clear hd
              go_wp2_with (first | (go_at_call 32; refine (digit_any _ _).mono ?_; rintro e w' ⟨rfl, rfl⟩; simp only [HD.out]) | (go_at_call 16; refine (verb_index _ X (by rw [HC.out]; exact HX.out) _).mono ?_; rintro e w' ⟨rfl, rfl⟩))
              exact bodyPost_ret (v := .tuple #[.agg #[.bool false, .int .i64 (wd : Int), .int .u8 0], .int .i64 0]) (by simp [results, Tryd.results18, go_sem, V1, V2, V3]) rfl (HF.out _ (((hB.setCell (p := ⟨w.heap.size, 0, none⟩) (by simp) _).setCell (p := ⟨w.heap.size, 1, none⟩) (by simp) _).setCell (p := ⟨w.heap.size, 2, none⟩) (by simp) _))
            · have HD := Lib.hid hd
              clear hd
              go_wp2_with (first | (go_at_call 32; refine (digit_any _ _).mono ?_; rintro e w' ⟨rfl, rfl⟩; simp only [HD.out]) | (go_at_call 16; refine (verb_index _ X (by rw [HC.out]; exact HX.out) _).mono ?_; rintro e w' ⟨rfl, rfl⟩))
              exact bodyPost_ret (v := .tuple #[.agg #[.bool false, .int .i64 (wd : Int), .int .u8 0], .int .i64 0]) (by simp [results, Tryd.results18, go_sem, V1, V2, V3]) rfl (HF.out _ (((hB.setCell (p := ⟨w.heap.size, 0, none⟩) (by simp) _).setCell (p := ⟨w.heap.size, 1, none⟩) (by simp) _).setCell (p := ⟨w.heap.size, 2, none⟩) (by simp) _))
      · obtain rfl' : j = s.size := by have := hA.len; rw [← HL.out] at this; omega
        have hle : (j : Int) = (s.size : Int) := by omega
        have hne : ((j : Int) == (s.size : Int)) = true := by simp; omega
        have hge : (s.size : Int) ≤ 0 + (j : Int) := by omega
        have hfin : ∀ W, Below w.heap.size w W → ConvPost s w (.returned (.tuple #[.agg #[.bool false, .int .i64 (wd : Int), .int .u8 0], .int .i64 0])) W := fun W hW =>
          ⟨false, wd, 0, 0, rfl, hW, .inl ⟨conv_none0 HQ.out hA (.inr (.inl (by rw [← HL.out]; exact rfl'))) (.inl (by rw [← HL.out]; exact rfl')), rfl⟩⟩
        obtain ⟨V1, V2, V3⟩ := res3 (a := .bool false) (b := .int .i64 (wd : Int)) (c := .int .u8 0) hr
        have HF := Lib.hid hfin
        clear hfin hle rfl' hlt hA
        go_wp2
        exact bodyPost_ret (v := .tuple #[.agg #[.bool false, .int .i64 (wd : Int), .int .u8 0], .int .i64 0]) (by simp [results, Tryd.results18, go_sem, V1, V2, V3]) rfl (HF.out _ (((hB.setCell (p := ⟨w.heap.size, 0, none⟩) (by simp) _).setCell (p := ⟨w.heap.size, 1, none⟩) (by simp) _).setCell (p := ⟨w.heap.size, 2, none⟩) (by simp) _))

theorem conversion_any (s : ByteArray) (w : World) (hs : s.size ≤ 1000000) :
    Calls Tryd.prog 18 #[.string s] w (ConvPost s w) := by
  cases hp : Lib.hasPrefix s.data.toList [45] with
  | true => exact conversion_left s w hs hp
  | false => exact conversion_plain s w hs hp
end Go.Proofs.YtkkejlmpimamdaaDoor
