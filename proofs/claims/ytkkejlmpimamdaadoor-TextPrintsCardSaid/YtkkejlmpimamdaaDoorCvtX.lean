import Derived.Test.YtkkejlmpimamdaaDoorCvt
set_option linter.unusedVariables false
set_option linter.unusedSimpArgs false
namespace Go.Proofs.YtkkejlmpimamdaaDoor
open Go.RowKit

theorem base_zero (b : Nat) (w : World) (hb : 2 ≤ b) (hb' : b ≤ 16) :
    Calls Tryd.prog 35 #[.int .u64 0, .int .i64 (b : Int)] w fun e w' => e = .returned (.string ⟨(baseL b 0).toArray⟩) ∧ Below w.heap.size w w' := by
  have := base_int 0 b w (by omega) (by omega) (by omega) (by omega)
  simpa using this

set_option maxHeartbeats 4000000 in
theorem convert_n_x (B b : Nat) (p : PS) (left : Bool) (wd : Nat) (w : World) (h : PrAt B b p w) (hf : Fits p) (hwd : wd ≤ 99) :
    Calls Tryd.prog 19 #[.pointer (some ⟨b, 0, none⟩), .agg #[.bool left, .int .i64 (wd : Int), .int .u8 120]] w (CvtPost B b p left wd 120 w) := by
  obtain ⟨hlt, hBb⟩ := h.lt
  have hBw : B ≤ w.heap.size := by omega
  have h' := h.alloc (by omega) (.cells #[.bool left, .int .i64 (wd : Int), .int .u8 120] 53)
  have hout := hf.out
  have hargL := head_small hf
  go_enter Tryd.func19, Tryd.ntmps19
  go_wp2_with fail
  refine (next_any B b p _ h').mono ?_
  rintro e w1 ⟨rfl, hP1, hO⟩
  have hx : Box w.heap.size left wd 120 w1 := ⟨(hO.block _ (by omega)).trans (Go.heap_alloc_new _ _)⟩
  have k0 := hx.k0
  have k1 := hx.k1
  have k2 := hx.k2
  have hb1 : Below B w w1 := ((Below.refl B w).alloc hBw _).trans (hO.below hBb)
  have hBw1 : B ≤ w1.heap.size := by have := hb1.size; omega
  generalize hS : p.args.headD [] = S at *
  have HS := Lib.hid hS
  clear hS h' h
  have hk0 : ∀ x, (w1.setCell ⟨b, 4, none⟩ x).cell? ⟨w.heap.size, 0, none⟩ = some (.bool left) := fun x => by rw [World.cell?_setCell_other _ _ _ _ (by simp)]; exact k0
  have hk1 : ∀ x, (w1.setCell ⟨b, 4, none⟩ x).cell? ⟨w.heap.size, 1, none⟩ = some (.int .i64 (wd : Int)) := fun x => by rw [World.cell?_setCell_other _ _ _ _ (by simp)]; exact k1
  have hk2 : ∀ x, (w1.setCell ⟨b, 4, none⟩ x).cell? ⟨w.heap.size, 2, none⟩ = some (.int .u8 120) := fun x => by rw [World.cell?_setCell_other _ _ _ _ (by simp)]; exact k2
  have hne : w.heap.size ≠ b := by omega
  obtain ⟨q0, q1⟩ := hP1.badCell
  have hdn := decL_range S
  have hD := numL_def S
  by_cases hS0 : S = []
  · subst hS0
    have hemp : ([] : List UInt8).isEmpty = true := rfl
    cases hbad : p.bad with
    | true =>
      rw [hbad] at q0
      have HBd := Lib.hid hbad
      have HD := Lib.hid hD
      clear hbad hD
      go_wp2_with fail
      refine (decimal_any _ _ (by simp only [list_size]; omega)).mono ?_
      rintro e w2 ⟨rfl, rfl⟩
      simp only [list_data]
      go_wp2_with fail
      refine (base_zero 16 _ (by omega) (by omega)).mono ?_
      rintro e w3 ⟨rfl, hB3⟩
      have hsz4 : (w1.setCell ⟨b, 4, none⟩ (.bool true)).heap.size = w1.heap.size := by simp [World.setCell]
      have hP3 : PrAt B b { p with args := p.args.drop 1, used := true, bad := true } w3 := (hP1.setBad true).below (by rw [hsz4]; exact hBw1) hB3
      have hb3 : Below B w w3 := (hb1.setCell (p := ⟨b, 4, none⟩) hBb _).trans (hB3.mono (by rw [hsz4]; exact hBw1))
      have hx3 : Box w.heap.size left wd 120 w3 := ⟨(hB3.block _ (by rw [hsz4]; exact lt_of_block hx.heap)).trans ((Below.heap_setCell _ _ _ _ hne).trans hx.heap)⟩
      have m0 := hx3.k0
      have m1 := hx3.k1
      have m2 := hx3.k2
      have hlenN : (baseL 16 0).length ≤ 65 := by have := baseL_len64 16 0 (by omega) (by omega); omega
      have hplen := padL_len left wd (baseL 16 0)
      go_wp2
      go_region_with (first | (go_at_call 37; refine (pad_any left wd 120 _ _ hwd (by simp only [list_size]; omega)).mono ?_; rintro e w9 ⟨rfl, hB9⟩; have hB8 : Below w3.heap.size w3 w9 := ((Below.refl _ w3).drew).trans hB9; obtain ⟨C, hC⟩ : PrAt B b { p with args := p.args.drop 1, used := true, bad := true } w9 := hP3.below (by have := hb3.size; omega) hB8) | (go_at_call 28; refine (writeString_any 36 B b p.out C _ _ (by rw [hC.size]; exact buT5) (by rw [hC.size]; omega) hC.bu (by simp only [list_size]; omega) (by have := hB8.size; have := hb3.size; omega)).mono ?_; rintro e w10 ⟨rfl, hW⟩))
      all_goals go_wp2
      all_goals go_end0
      all_goals refine ⟨rfl, ?_, hb3.trans ((hB8.mono (by have := hb3.size; omega)).trans hW.below)⟩
      all_goals (rw [cvt_n HS.out left wd 120 (by decide)]; have hfin := hC.wrote hW; simp only [list_data] at hfin; simpa [HD.out, HBd.out, verbL] using hfin)
    | false =>
      rw [hbad] at q0
      have HBd := Lib.hid hbad
      have HD := Lib.hid hD
      clear hbad hD
      go_wp2_with fail
      refine (decimal_any _ _ (by simp only [list_size]; omega)).mono ?_
      rintro e w2 ⟨rfl, rfl⟩
      simp only [list_data]
      go_wp2_with fail
      refine (base_zero 16 _ (by omega) (by omega)).mono ?_
      rintro e w3 ⟨rfl, hB3⟩
      have hsz4 : (w1.setCell ⟨b, 4, none⟩ (.bool false)).heap.size = w1.heap.size := by simp [World.setCell]
      have hP3 : PrAt B b { p with args := p.args.drop 1, used := true, bad := false } w3 := (hP1.setBad false).below (by rw [hsz4]; exact hBw1) hB3
      have hb3 : Below B w w3 := (hb1.setCell (p := ⟨b, 4, none⟩) hBb _).trans (hB3.mono (by rw [hsz4]; exact hBw1))
      have hx3 : Box w.heap.size left wd 120 w3 := ⟨(hB3.block _ (by rw [hsz4]; exact lt_of_block hx.heap)).trans ((Below.heap_setCell _ _ _ _ hne).trans hx.heap)⟩
      have m0 := hx3.k0
      have m1 := hx3.k1
      have m2 := hx3.k2
      have hlenN : (baseL 16 0).length ≤ 65 := by have := baseL_len64 16 0 (by omega) (by omega); omega
      have hplen := padL_len left wd (baseL 16 0)
      go_wp2
      go_region_with (first | (go_at_call 37; refine (pad_any left wd 120 _ _ hwd (by simp only [list_size]; omega)).mono ?_; rintro e w9 ⟨rfl, hB9⟩; have hB8 : Below w3.heap.size w3 w9 := ((Below.refl _ w3).drew).trans hB9; obtain ⟨C, hC⟩ : PrAt B b { p with args := p.args.drop 1, used := true, bad := false } w9 := hP3.below (by have := hb3.size; omega) hB8) | (go_at_call 28; refine (writeString_any 36 B b p.out C _ _ (by rw [hC.size]; exact buT5) (by rw [hC.size]; omega) hC.bu (by simp only [list_size]; omega) (by have := hB8.size; have := hb3.size; omega)).mono ?_; rintro e w10 ⟨rfl, hW⟩))
      all_goals go_wp2
      all_goals go_end0
      all_goals refine ⟨rfl, ?_, hb3.trans ((hB8.mono (by have := hb3.size; omega)).trans hW.below)⟩
      all_goals (rw [cvt_n HS.out left wd 120 (by decide)]; have hfin := hC.wrote hW; simp only [list_data] at hfin; simpa [HD.out, HBd.out, verbL] using hfin)
  · have hemp : S.isEmpty = false := by simpa using hS0
    cases hbad : p.bad with
    | true =>
      rw [hbad] at q0
      have HBd := Lib.hid hbad
      have HD := Lib.hid hD
      clear hbad hD
      go_wp2_with fail
      refine (decimal_any _ _ (by simp only [list_size]; omega)).mono ?_
      rintro e w2 ⟨rfl, rfl⟩
      simp only [list_data]
      go_wp2_with fail
      refine (base_u64 (decL S).1 16 _ (by omega) (by omega) (by omega) (by omega)).mono ?_
      rintro e w3 ⟨rfl, hB3⟩
      have hsz4 : (w1.setCell ⟨b, 4, none⟩ (.bool true)).heap.size = w1.heap.size := by simp [World.setCell]
      have hP3 : PrAt B b { p with args := p.args.drop 1, used := true, bad := true } w3 := (hP1.setBad true).below (by rw [hsz4]; exact hBw1) hB3
      have hb3 : Below B w w3 := (hb1.setCell (p := ⟨b, 4, none⟩) hBb _).trans (hB3.mono (by rw [hsz4]; exact hBw1))
      have hx3 : Box w.heap.size left wd 120 w3 := ⟨(hB3.block _ (by rw [hsz4]; exact lt_of_block hx.heap)).trans ((Below.heap_setCell _ _ _ _ hne).trans hx.heap)⟩
      have m0 := hx3.k0
      have m1 := hx3.k1
      have m2 := hx3.k2
      have hlenN : (baseL 16 ((decL S).1 % 18446744073709551616).toNat).length ≤ 65 := by have := baseL_len64 16 ((decL S).1 % 18446744073709551616).toNat (by omega) (by omega); omega
      have hplen := padL_len left wd (baseL 16 ((decL S).1 % 18446744073709551616).toNat)
      go_wp2
      go_region_with (first | (go_at_call 37; refine (pad_any left wd 120 _ _ hwd (by simp only [list_size]; omega)).mono ?_; rintro e w9 ⟨rfl, hB9⟩; have hB8 : Below w3.heap.size w3 w9 := ((Below.refl _ w3).drew).trans hB9; obtain ⟨C, hC⟩ : PrAt B b { p with args := p.args.drop 1, used := true, bad := true } w9 := hP3.below (by have := hb3.size; omega) hB8) | (go_at_call 28; refine (writeString_any 36 B b p.out C _ _ (by rw [hC.size]; exact buT5) (by rw [hC.size]; omega) hC.bu (by simp only [list_size]; omega) (by have := hB8.size; have := hb3.size; omega)).mono ?_; rintro e w10 ⟨rfl, hW⟩))
      all_goals go_wp2
      all_goals go_end0
      all_goals refine ⟨rfl, ?_, hb3.trans ((hB8.mono (by have := hb3.size; omega)).trans hW.below)⟩
      all_goals (rw [cvt_n HS.out left wd 120 (by decide)]; have hfin := hC.wrote hW; simp only [list_data] at hfin; simpa [HD.out, HBd.out, verbL, hS0] using hfin)
    | false =>
      rw [hbad] at q0
      have HBd := Lib.hid hbad
      have HD := Lib.hid hD
      clear hbad hD
      go_wp2_with fail
      refine (decimal_any _ _ (by simp only [list_size]; omega)).mono ?_
      rintro e w2 ⟨rfl, rfl⟩
      simp only [list_data]
      go_wp2_with fail
      refine (base_u64 (decL S).1 16 _ (by omega) (by omega) (by omega) (by omega)).mono ?_
      rintro e w3 ⟨rfl, hB3⟩
      have hsz4 : (w1.setCell ⟨b, 4, none⟩ (.bool ((decL S).2 != 0))).heap.size = w1.heap.size := by simp [World.setCell]
      have hP3 : PrAt B b { p with args := p.args.drop 1, used := true, bad := ((decL S).2 != 0) } w3 := (hP1.setBad ((decL S).2 != 0)).below (by rw [hsz4]; exact hBw1) hB3
      have hb3 : Below B w w3 := (hb1.setCell (p := ⟨b, 4, none⟩) hBb _).trans (hB3.mono (by rw [hsz4]; exact hBw1))
      have hx3 : Box w.heap.size left wd 120 w3 := ⟨(hB3.block _ (by rw [hsz4]; exact lt_of_block hx.heap)).trans ((Below.heap_setCell _ _ _ _ hne).trans hx.heap)⟩
      have m0 := hx3.k0
      have m1 := hx3.k1
      have m2 := hx3.k2
      have hlenN : (baseL 16 ((decL S).1 % 18446744073709551616).toNat).length ≤ 65 := by have := baseL_len64 16 ((decL S).1 % 18446744073709551616).toNat (by omega) (by omega); omega
      have hplen := padL_len left wd (baseL 16 ((decL S).1 % 18446744073709551616).toNat)
      go_wp2
      go_region_with (first | (go_at_call 37; refine (pad_any left wd 120 _ _ hwd (by simp only [list_size]; omega)).mono ?_; rintro e w9 ⟨rfl, hB9⟩; have hB8 : Below w3.heap.size w3 w9 := ((Below.refl _ w3).drew).trans hB9; obtain ⟨C, hC⟩ : PrAt B b { p with args := p.args.drop 1, used := true, bad := ((decL S).2 != 0) } w9 := hP3.below (by have := hb3.size; omega) hB8) | (go_at_call 28; refine (writeString_any 36 B b p.out C _ _ (by rw [hC.size]; exact buT5) (by rw [hC.size]; omega) hC.bu (by simp only [list_size]; omega) (by have := hB8.size; have := hb3.size; omega)).mono ?_; rintro e w10 ⟨rfl, hW⟩))
      all_goals go_wp2
      all_goals go_end0
      all_goals refine ⟨rfl, ?_, hb3.trans ((hB8.mono (by have := hb3.size; omega)).trans hW.below)⟩
      all_goals (rw [cvt_n HS.out left wd 120 (by decide)]; have hfin := hC.wrote hW; simp only [list_data] at hfin; simpa [HD.out, HBd.out, verbL, hS0] using hfin)
end Go.Proofs.YtkkejlmpimamdaaDoor
