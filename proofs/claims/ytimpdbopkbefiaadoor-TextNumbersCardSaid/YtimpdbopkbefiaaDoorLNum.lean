import Derived.Test.YtimpdbopkbefiaaDoorRef01
import Derived.Test.YtimpdbopkbefiaaDoorAwk15b
set_option linter.unusedVariables false
set_option linter.unusedSimpArgs false
namespace Go.Proofs.YtimpdbopkbefiaaDoor
open Go.RowKit

def opsN : List (List UInt8) := [[45, 101, 113], [45, 110, 101], [45, 108, 116], [45, 108, 101], [45, 103, 116], [45, 103, 101]]

theorem tr_zero (b : Bool) : (tr b == 0) = b := by cases b <;> rfl
theorem text_no33 (n : Int) : ((⟨(textL n).toArray⟩ : ByteArray).toList == [33]) = false := by
  rw [Lib.toList_data, list_data]
  rw [beq_eq_false_iff_ne]
  intro h
  unfold textL at h
  split at h
  · injection h with h1 h2; exact absurd h1 (by decide)
  · have := baseL_head 10 (by omega) (by omega) n.toNat 33 (by rw [h]; simp)
    revert this
    decide
theorem text_size (n : Int) (h0 : -9223372036854775808 ≤ n) (h1 : n ≤ 9223372036854775807) : (⟨(textL n).toArray⟩ : ByteArray).size ≤ 9223372036854775807 := by
  have := textL_len n h0 h1
  rw [list_size]; omega

theorem text_size2 (n : Int) (h0 : -9223372036854775808 ≤ n) (h1 : n ≤ 9223372036854775807) : (⟨(textL n).toArray⟩ : ByteArray).size ≤ 1000000 := by
  have := textL_len n h0 h1
  rw [list_size]; omega

theorem ev_num (a b : Int) (ha0 : -9223372036854775808 ≤ a) (ha1 : a ≤ 9223372036854775807) (hb0 : -9223372036854775808 ≤ b) (hb1 : b ≤ 9223372036854775807) :
    printfL [37, 100, 44, 37, 120] [textL a, textL b] = (textL a ++ 44 :: baseL 16 (b % 18446744073709551616).toNat, true) := by
  have h1 : ∀ p : PS, onceL [37, 100, 44, 37, 120] p = convertL ({ convertL p false 0 100 with out := (convertL p false 0 100).out ++ [44] }) false 0 120 := by
    intro p
    rw [onceL_cons]
    have e1 : stepL 37 [100, 44, 37, 120] p = ([44, 37, 120], convertL p false 0 100) := rfl
    rw [e1, onceL_cons]
    have e2 : ∀ q : PS, stepL 44 [37, 120] q = ([37, 120], { q with out := q.out ++ [44] }) := fun _ => rfl
    rw [e2, onceL_cons]
    have e3 : ∀ q : PS, stepL 37 [120] q = ([], convertL q false 0 120) := fun _ => rfl
    rw [e3, onceL_nil]
  have hc : ∀ (p : PS) (s : List UInt8) (v : UInt8), (v = 100 ∨ v = 120 ∨ v = 111) → p.args.headD [] = s → convertL p false 0 v = { p with args := p.args.drop 1, used := true, bad := p.bad || ((numL s).2 != 0), out := p.out ++ verbL v (numL s).1 } := by
    intro p s v hv hs
    rw [cvt_n hs false 0 v hv]
    simp [padL]
  have hna : numL (textL a) = (a, 0) := by unfold numL; rw [if_neg (textL_ne a), decL_textL a ha0 ha1]
  have hnb : numL (textL b) = (b, 0) := by unfold numL; rw [if_neg (textL_ne b), decL_textL b hb0 hb1]
  have hla := textL_len a ha0 ha1
  have hlb := baseL_len64 16 (b % 18446744073709551616).toNat (by omega) (by omega)
  unfold printfL
  rw [h1]
  rw [hc _ (textL a) 100 (by simp) rfl, hc _ (textL b) 120 (by simp) rfl, hna, hnb]
  rw [moreL_stop _ _ _ (by simp)]
  simp only [verbL]
  have hle : ((([] : List UInt8) ++ textL a) ++ [44] ++ baseL 16 (b % 18446744073709551616).toNat).length ≤ 16384 := by simp; omega
  refine Prod.ext ?_ (by simp)
  rw [if_neg (by decide), if_neg (by decide)]
  simp only [if_true]
  rw [List.take_of_length_le hle]
  simp

set_option maxHeartbeats 4000000 in
theorem numbers_walk (a b : Int) (w : World) (ha0 : -9223372036854775808 ≤ a) (ha1 : a ≤ 9223372036854775807) (hb0 : -9223372036854775808 ≤ b) (hb1 : b ≤ 9223372036854775807) :
    Calls Tryd.prog 9 #[.int .i64 a, .int .i64 b] w fun e w' => e = .returned (.bool true) ∧ Below w.heap.size w w' := by
  have HLa := Lib.hid (text_size a ha0 ha1)
  have HLb := Lib.hid (text_size b hb0 hb1)
  have HNo := Lib.hid (text_no33 a)
  have HSa := Lib.hid (text_size2 a ha0 ha1)
  have HSb := Lib.hid (text_size2 b hb0 hb1)
  go_enter Tryd.func9, Tryd.ntmps9
  go_wp2_with fail
  refine (rtext_any a _ ha0 ha1).mono ?_
  rintro e w1 ⟨rfl, hB1⟩
  go_wp2_with fail
  refine (rtext_any b _ hb0 hb1).mono ?_
  rintro e w2 ⟨rfl, hB2⟩
  go_wp2
  go_loopw [9] (fun vi wr => ∃ i : Int, 0 ≤ i ∧ i ≤ 6 ∧ vi = .int .i64 i ∧ wr.heap[w2.heap.size]? = some (.cells #[.string ⟨#[45, 101, 113]⟩, .string ⟨#[45, 110, 101]⟩, .string ⟨#[45, 108, 116]⟩, .string ⟨#[45, 108, 101]⟩, .string ⟨#[45, 103, 116]⟩, .string ⟨#[45, 103, 101]⟩] 9 (0, 0)) ∧ wr.heap[w2.heap.size + 1]? = some (.cells #[.bool (a == b), .bool (a != b), .bool (decide (a < b)), .bool (decide (a ≤ b)), .bool (decide (b < a)), .bool (decide (b ≤ a))] 4 (0, 0)) ∧ Below w.heap.size w wr) (fun vi _ => 6 - (intOf vi).toNat)
  case atStart =>
    have k1 := hB1.trans (hB2.mono hB1.size)
    exact ⟨0, by omega, by omega, rfl, (Below.heap_alloc _ _ _ (by simp)).trans (Go.heap_alloc_new _ _), by rw [show w2.heap.size + 1 = (w2.alloc (Obj.cells #[.string ⟨#[45, 101, 113]⟩, .string ⟨#[45, 110, 101]⟩, .string ⟨#[45, 108, 116]⟩, .string ⟨#[45, 108, 101]⟩, .string ⟨#[45, 103, 116]⟩, .string ⟨#[45, 103, 101]⟩] 9)).heap.size by simp]; exact Go.heap_alloc_new _ _, (k1.alloc k1.size _).alloc (by have := k1.size; simp; omega) _⟩
  case round =>
    obtain ⟨i, hi0, hi, rfl, hO, hW, hB⟩ := hrel
    have hsz := lt_of_block hW
    have hBw := hB.size
    by_cases hlt : i < 6
    · have : i = 0 ∨ i = 1 ∨ i = 2 ∨ i = 3 ∨ i = 4 ∨ i = 5 := by omega
      have hda := decL_textL a ha0 ha1
      have hdb := decL_textL b hb0 hb1
      rcases this with rfl | rfl | rfl | rfl | rfl | rfl
      · have c0 : wr.cell? ⟨w2.heap.size, 0, none⟩ = some (.string ⟨#[45, 101, 113]⟩) := by rw [cell_at hO]; rfl
        have c1 : wr.cell? ⟨w2.heap.size + 1, 0, none⟩ = some (.bool (a == b)) := by rw [cell_at hW]; rfl
        have hres : twoL (⟨(textL a).toArray⟩ : ByteArray).data.toList (⟨#[45, 101, 113]⟩ : ByteArray).data.toList (⟨(textL b).toArray⟩ : ByteArray).data.toList = tr (a == b) := by
          simp only [list_data]; simp [twoL, hda, hdb]
        have HR := Lib.hid hres
        have htr : (tr (a == b) == 0) = (a == b) := tr_zero _
        clear hres hda hdb
        go_wp2
        go_region_with ((go_at_call 27; refine (test3 _ _ ⟨(textL a).toArray⟩ ⟨#[45, 101, 113]⟩ ⟨(textL b).toArray⟩ _ _ (by exact texts_new3 _ _ _ _ _) HLa.out HLb.out HNo.out).mono ?_; rintro e w3 ⟨rfl, hB3⟩; rw [HR.out]; have c2 : w3.cell? ⟨w2.heap.size + 1, 0, none⟩ = some (.bool (a == b)) := (hB3.cell (p := ⟨w2.heap.size + 1, 0, none⟩) (by simp; omega)).trans (by exact (World.cell?_alloc_past (w := wr) _ _ _ hsz).trans c1)))
        all_goals go_wp2
        all_goals
          go_roundw
          case rel => exact ⟨1, by omega, by omega, rfl, (hB3.block _ (by simp; omega)).trans (by exact (Below.heap_alloc wr _ _ (by omega)).trans hO), (hB3.block _ (by simp; omega)).trans (by exact (Below.heap_alloc wr _ _ hsz).trans hW), ((hB.alloc hBw _).drew).trans (hB3.mono (by simp; omega))⟩
          case measure => simp [intOf]
      · have c0 : wr.cell? ⟨w2.heap.size, 1, none⟩ = some (.string ⟨#[45, 110, 101]⟩) := by rw [cell_at hO]; rfl
        have c1 : wr.cell? ⟨w2.heap.size + 1, 1, none⟩ = some (.bool (a != b)) := by rw [cell_at hW]; rfl
        have hres : twoL (⟨(textL a).toArray⟩ : ByteArray).data.toList (⟨#[45, 110, 101]⟩ : ByteArray).data.toList (⟨(textL b).toArray⟩ : ByteArray).data.toList = tr (a != b) := by
          simp only [list_data]; simp [twoL, hda, hdb]
        have HR := Lib.hid hres
        have htr : (tr (a != b) == 0) = (a != b) := tr_zero _
        clear hres hda hdb
        go_wp2
        go_region_with ((go_at_call 27; refine (test3 _ _ ⟨(textL a).toArray⟩ ⟨#[45, 110, 101]⟩ ⟨(textL b).toArray⟩ _ _ (by exact texts_new3 _ _ _ _ _) HLa.out HLb.out HNo.out).mono ?_; rintro e w3 ⟨rfl, hB3⟩; rw [HR.out]; have c2 : w3.cell? ⟨w2.heap.size + 1, 1, none⟩ = some (.bool (a != b)) := (hB3.cell (p := ⟨w2.heap.size + 1, 1, none⟩) (by simp; omega)).trans (by exact (World.cell?_alloc_past (w := wr) _ _ _ hsz).trans c1)))
        all_goals go_wp2
        all_goals
          go_roundw
          case rel => exact ⟨2, by omega, by omega, rfl, (hB3.block _ (by simp; omega)).trans (by exact (Below.heap_alloc wr _ _ (by omega)).trans hO), (hB3.block _ (by simp; omega)).trans (by exact (Below.heap_alloc wr _ _ hsz).trans hW), ((hB.alloc hBw _).drew).trans (hB3.mono (by simp; omega))⟩
          case measure => simp [intOf]
      · have c0 : wr.cell? ⟨w2.heap.size, 2, none⟩ = some (.string ⟨#[45, 108, 116]⟩) := by rw [cell_at hO]; rfl
        have c1 : wr.cell? ⟨w2.heap.size + 1, 2, none⟩ = some (.bool (decide (a < b))) := by rw [cell_at hW]; rfl
        have hres : twoL (⟨(textL a).toArray⟩ : ByteArray).data.toList (⟨#[45, 108, 116]⟩ : ByteArray).data.toList (⟨(textL b).toArray⟩ : ByteArray).data.toList = tr (decide (a < b)) := by
          simp only [list_data]; simp [twoL, hda, hdb]
        have HR := Lib.hid hres
        have htr : (tr (decide (a < b)) == 0) = (decide (a < b)) := tr_zero _
        clear hres hda hdb
        go_wp2
        go_region_with ((go_at_call 27; refine (test3 _ _ ⟨(textL a).toArray⟩ ⟨#[45, 108, 116]⟩ ⟨(textL b).toArray⟩ _ _ (by exact texts_new3 _ _ _ _ _) HLa.out HLb.out HNo.out).mono ?_; rintro e w3 ⟨rfl, hB3⟩; rw [HR.out]; have c2 : w3.cell? ⟨w2.heap.size + 1, 2, none⟩ = some (.bool (decide (a < b))) := (hB3.cell (p := ⟨w2.heap.size + 1, 2, none⟩) (by simp; omega)).trans (by exact (World.cell?_alloc_past (w := wr) _ _ _ hsz).trans c1)))
        all_goals go_wp2
        all_goals
          go_roundw
          case rel => exact ⟨3, by omega, by omega, rfl, (hB3.block _ (by simp; omega)).trans (by exact (Below.heap_alloc wr _ _ (by omega)).trans hO), (hB3.block _ (by simp; omega)).trans (by exact (Below.heap_alloc wr _ _ hsz).trans hW), ((hB.alloc hBw _).drew).trans (hB3.mono (by simp; omega))⟩
          case measure => simp [intOf]
      · have c0 : wr.cell? ⟨w2.heap.size, 3, none⟩ = some (.string ⟨#[45, 108, 101]⟩) := by rw [cell_at hO]; rfl
        have c1 : wr.cell? ⟨w2.heap.size + 1, 3, none⟩ = some (.bool (decide (a ≤ b))) := by rw [cell_at hW]; rfl
        have hres : twoL (⟨(textL a).toArray⟩ : ByteArray).data.toList (⟨#[45, 108, 101]⟩ : ByteArray).data.toList (⟨(textL b).toArray⟩ : ByteArray).data.toList = tr (decide (a ≤ b)) := by
          simp only [list_data]; simp [twoL, hda, hdb]
        have HR := Lib.hid hres
        have htr : (tr (decide (a ≤ b)) == 0) = (decide (a ≤ b)) := tr_zero _
        clear hres hda hdb
        go_wp2
        go_region_with ((go_at_call 27; refine (test3 _ _ ⟨(textL a).toArray⟩ ⟨#[45, 108, 101]⟩ ⟨(textL b).toArray⟩ _ _ (by exact texts_new3 _ _ _ _ _) HLa.out HLb.out HNo.out).mono ?_; rintro e w3 ⟨rfl, hB3⟩; rw [HR.out]; have c2 : w3.cell? ⟨w2.heap.size + 1, 3, none⟩ = some (.bool (decide (a ≤ b))) := (hB3.cell (p := ⟨w2.heap.size + 1, 3, none⟩) (by simp; omega)).trans (by exact (World.cell?_alloc_past (w := wr) _ _ _ hsz).trans c1)))
        all_goals go_wp2
        all_goals
          go_roundw
          case rel => exact ⟨4, by omega, by omega, rfl, (hB3.block _ (by simp; omega)).trans (by exact (Below.heap_alloc wr _ _ (by omega)).trans hO), (hB3.block _ (by simp; omega)).trans (by exact (Below.heap_alloc wr _ _ hsz).trans hW), ((hB.alloc hBw _).drew).trans (hB3.mono (by simp; omega))⟩
          case measure => simp [intOf]
      · have c0 : wr.cell? ⟨w2.heap.size, 4, none⟩ = some (.string ⟨#[45, 103, 116]⟩) := by rw [cell_at hO]; rfl
        have c1 : wr.cell? ⟨w2.heap.size + 1, 4, none⟩ = some (.bool (decide (b < a))) := by rw [cell_at hW]; rfl
        have hres : twoL (⟨(textL a).toArray⟩ : ByteArray).data.toList (⟨#[45, 103, 116]⟩ : ByteArray).data.toList (⟨(textL b).toArray⟩ : ByteArray).data.toList = tr (decide (b < a)) := by
          simp only [list_data]; simp [twoL, hda, hdb]
        have HR := Lib.hid hres
        have htr : (tr (decide (b < a)) == 0) = (decide (b < a)) := tr_zero _
        clear hres hda hdb
        go_wp2
        go_region_with ((go_at_call 27; refine (test3 _ _ ⟨(textL a).toArray⟩ ⟨#[45, 103, 116]⟩ ⟨(textL b).toArray⟩ _ _ (by exact texts_new3 _ _ _ _ _) HLa.out HLb.out HNo.out).mono ?_; rintro e w3 ⟨rfl, hB3⟩; rw [HR.out]; have c2 : w3.cell? ⟨w2.heap.size + 1, 4, none⟩ = some (.bool (decide (b < a))) := (hB3.cell (p := ⟨w2.heap.size + 1, 4, none⟩) (by simp; omega)).trans (by exact (World.cell?_alloc_past (w := wr) _ _ _ hsz).trans c1)))
        all_goals go_wp2
        all_goals
          go_roundw
          case rel => exact ⟨5, by omega, by omega, rfl, (hB3.block _ (by simp; omega)).trans (by exact (Below.heap_alloc wr _ _ (by omega)).trans hO), (hB3.block _ (by simp; omega)).trans (by exact (Below.heap_alloc wr _ _ hsz).trans hW), ((hB.alloc hBw _).drew).trans (hB3.mono (by simp; omega))⟩
          case measure => simp [intOf]
      · have c0 : wr.cell? ⟨w2.heap.size, 5, none⟩ = some (.string ⟨#[45, 103, 101]⟩) := by rw [cell_at hO]; rfl
        have c1 : wr.cell? ⟨w2.heap.size + 1, 5, none⟩ = some (.bool (decide (b ≤ a))) := by rw [cell_at hW]; rfl
        have hres : twoL (⟨(textL a).toArray⟩ : ByteArray).data.toList (⟨#[45, 103, 101]⟩ : ByteArray).data.toList (⟨(textL b).toArray⟩ : ByteArray).data.toList = tr (decide (b ≤ a)) := by
          simp only [list_data]; simp [twoL, hda, hdb]
        have HR := Lib.hid hres
        have htr : (tr (decide (b ≤ a)) == 0) = (decide (b ≤ a)) := tr_zero _
        clear hres hda hdb
        go_wp2
        go_region_with ((go_at_call 27; refine (test3 _ _ ⟨(textL a).toArray⟩ ⟨#[45, 103, 101]⟩ ⟨(textL b).toArray⟩ _ _ (by exact texts_new3 _ _ _ _ _) HLa.out HLb.out HNo.out).mono ?_; rintro e w3 ⟨rfl, hB3⟩; rw [HR.out]; have c2 : w3.cell? ⟨w2.heap.size + 1, 5, none⟩ = some (.bool (decide (b ≤ a))) := (hB3.cell (p := ⟨w2.heap.size + 1, 5, none⟩) (by simp; omega)).trans (by exact (World.cell?_alloc_past (w := wr) _ _ _ hsz).trans c1)))
        all_goals go_wp2
        all_goals
          go_roundw
          case rel => exact ⟨6, by omega, by omega, rfl, (hB3.block _ (by simp; omega)).trans (by exact (Below.heap_alloc wr _ _ (by omega)).trans hO), (hB3.block _ (by simp; omega)).trans (by exact (Below.heap_alloc wr _ _ hsz).trans hW), ((hB.alloc hBw _).drew).trans (hB3.mono (by simp; omega))⟩
          case measure => simp [intOf]
    · obtain rfl : i = 6 := by omega
      go_wp2_with fail
      refine (printf_any ⟨#[37, 100, 44, 37, 120]⟩ _ [⟨(textL a).toArray⟩, ⟨(textL b).toArray⟩] _ (by decide) (texts_new2 _ _ _ _) (by intro s hs; simp at hs; rcases hs with rfl | rfl; exact HSa.out; exact HSb.out)).mono ?_
      rintro e w4 ⟨rfl, hB4⟩
      have hev : printfL (⟨#[37, 100, 44, 37, 120]⟩ : ByteArray).data.toList (List.map (fun x : ByteArray => x.data.toList) [⟨(textL a).toArray⟩, ⟨(textL b).toArray⟩]) = (textL a ++ 44 :: baseL 16 (b % 18446744073709551616).toNat, true) := ev_num a b ha0 ha1 hb0 hb1
      rw [hev]
      clear hev
      have hta := textL_len a ha0 ha1
      have htb := baseL_len64 16 (b % 18446744073709551616).toNat (by omega) (by omega)
      go_wp2_with fail
      have hb16 := rbase_int (IntKind.u64.wrap b) 16 w4 (by rw [u64wrap]; omega) (by rw [u64wrap]; omega) (by omega) (by omega)
      rw [show (IntKind.u64.wrap b).toNat = (b % 18446744073709551616).toNat by rw [u64wrap]] at hb16
      refine hb16.mono ?_
      rintro e w5 ⟨rfl, hB5⟩
      have heq : ((⟨(textL a).toArray⟩ : ByteArray) ++ ⟨#[44]⟩ ++ ⟨(baseL 16 (b % 18446744073709551616).toNat).toArray⟩).toList = textL a ++ 44 :: baseL 16 (b % 18446744073709551616).toNat := by
        show ((⟨(textL a).toArray⟩ : ByteArray) ++ ⟨[44].toArray⟩ ++ ⟨(baseL 16 (b % 18446744073709551616).toNat).toArray⟩).toList = _
        rw [ByteArray.mk_append_mk, ByteArray.mk_append_mk, Lib.toList_data, list_data]
        simp
      go_wp2_with fail
      refine (awake15 _).mono ?_
      rintro e w6 ⟨rfl, hB6⟩
      go_wp2
      go_ret
      refine ⟨rfl, ?_⟩
      have k4 : Below w.heap.size w w4 := (hB.alloc hBw _).trans (hB4.mono (by simp; omega))
      have k5 := k4.trans (hB5.mono k4.size)
      exact k5.trans (hB6.mono k5.size)
end Go.Proofs.YtimpdbopkbefiaaDoor
