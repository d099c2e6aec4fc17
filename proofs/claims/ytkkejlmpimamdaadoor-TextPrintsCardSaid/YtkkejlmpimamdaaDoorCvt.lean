import Derived.Test.YtkkejlmpimamdaaDoorPad
import Derived.Deep.RegionWith
import Derived.Deep.RegionHeld3
set_option linter.unusedVariables false
set_option linter.unusedSimpArgs false
namespace Go.Proofs.YtkkejlmpimamdaaDoor
open Go.RowKit

theorem PrC.wrote {B b : Nat} {p : PS} {C : Array Value} {w w' : World} {bs : List UInt8} (h : PrC B b p C w) (k : Wrote 36 B b bs C w w') : PrAt B b { p with out := bs } w' := by
  obtain ⟨C', hbu, ⟨ht, hT⟩, hB⟩ := k
  obtain ⟨av, al, h2, hal, hta⟩ := h.args
  exact ⟨C', hbu, by rw [ht]; exact h.size, ⟨av, al, by rw [hT 2 (by omega)]; exact h2, hal, hta.below hB⟩, by rw [hT 3 (by omega)]; exact h.used, by rw [hT 4 (by omega)]; exact h.bad⟩

def CvtPost (B b : Nat) (p : PS) (left : Bool) (wd : Nat) (v : UInt8) (w : World) (e : Ending) (w' : World) : Prop :=
  e = .returned (.tuple #[]) ∧ PrAt B b (convertL p left wd v) w' ∧ Below B w w'

/-- what is written stays small -/
structure Fits (p : PS) : Prop where
  out : p.out.length ≤ 100000000000
  args : ∀ a ∈ p.args, a.length ≤ 1000000

theorem PrAt.below {B b : Nat} {p : PS} {w w' : World} (h : PrAt B b p w) (hBw : B ≤ w.heap.size) (hb : Below w.heap.size w w') : PrAt B b p w' := by
  obtain ⟨C, hbu, hsz, ⟨av, al, hav, hal, hT⟩, hu, hbad⟩ := h
  obtain ⟨h1, h2, h3, v, h4, h5, h6⟩ := hbu
  have hg : w.grownBy w' none := ⟨hb.os, hb.tape, hb.output, hb.size, fun i hi _ => hb.block i hi⟩
  exact ⟨C, ⟨h1, (hb.block b (lt_of_block h2)).trans h2, h3, v, h4, h5.kept hg (by cases v.ownBlock <;> simp), h6⟩, hsz, ⟨av, al, hav, hal, hT.below (hb.mono hBw)⟩, hu, hbad⟩

theorem PrAt.alloc {B b : Nat} {p : PS} {w : World} (h : PrAt B b p w) (hB : B ≤ w.heap.size) (o : Obj) : PrAt B b p (w.alloc o) := h.below hB ((Below.refl _ w).alloc (Nat.le_refl _) o)

theorem PrAt.lt {B b : Nat} {p : PS} {w : World} (h : PrAt B b p w) : b < w.heap.size ∧ B ≤ b := by
  obtain ⟨C, hbu, _⟩ := h
  exact ⟨lt_of_block hbu.heap, hbu.hB⟩

theorem PrAt.setBad {B b : Nat} {p : PS} {w : World} (h : PrAt B b p w) (x : Bool) : PrAt B b { p with bad := x } (w.setCell ⟨b, 4, none⟩ (.bool x)) := by
  obtain ⟨C, hbu, hsz, ⟨av, al, hav, hal, hT⟩, hu, hbad⟩ := h
  refine ⟨_, hbu.set_other 4 (by omega) (.bool x), by simp [hsz], ⟨av, al, by rw [Array.getElem?_setIfInBounds, if_neg (by omega)]; exact hav, hal, hT.below (((Only.refl b w).setCell (i := 4) (.bool x)).below hbu.hB)⟩, by rw [Array.getElem?_setIfInBounds, if_neg (by omega)]; exact hu, by simp [hsz]⟩

theorem PrAt.badCell {B b : Nat} {p : PS} {w : World} (h : PrAt B b p w) : w.cell? ⟨b, 4, none⟩ = some (.bool p.bad) ∧ w.frozen? ⟨b, 4, none⟩ = false := by
  obtain ⟨C, hbu, hsz, _, hu, hbad⟩ := h
  exact ⟨by rw [cell_at hbu.heap]; exact hbad, free_at hbu.heap 4⟩

theorem head_small {p : PS} (hf : Fits p) : (p.args.headD []).length ≤ 1000000 := by
  cases ha : p.args with
  | nil => simp
  | cons a r => simpa using hf.args a (by rw [ha]; simp)

theorem padL_len (left : Bool) (wd : Nat) (s : List UInt8) : (padL left wd s).length ≤ wd + s.length := by
  unfold padL
  split <;> simp <;> omega

/-- the spec's own box, behind the call of next -/
structure Box (q : Nat) (left : Bool) (wd : Nat) (v : Int) (w : World) : Prop where
  heap : w.heap[q]? = some (.cells #[.bool left, .int .i64 (wd : Int), .int .u8 v] 53 (0, 0))
theorem Box.k0 {q : Nat} {left : Bool} {wd : Nat} {v : Int} {w : World} (h : Box q left wd v w) : w.cell? ⟨q, 0, none⟩ = some (.bool left) := by rw [cell_at h.heap]; rfl
theorem Box.k1 {q : Nat} {left : Bool} {wd : Nat} {v : Int} {w : World} (h : Box q left wd v w) : w.cell? ⟨q, 1, none⟩ = some (.int .i64 (wd : Int)) := by rw [cell_at h.heap]; rfl
theorem Box.k2 {q : Nat} {left : Bool} {wd : Nat} {v : Int} {w : World} (h : Box q left wd v w) : w.cell? ⟨q, 2, none⟩ = some (.int .u8 v) := by rw [cell_at h.heap]; rfl

set_option maxHeartbeats 1000000 in
theorem convert_pct (B b : Nat) (p : PS) (left : Bool) (wd : Nat) (w : World) (h : PrAt B b p w) (hf : Fits p) :
    Calls Tryd.prog 19 #[.pointer (some ⟨b, 0, none⟩), .agg #[.bool left, .int .i64 (wd : Int), .int .u8 37]] w (CvtPost B b p left wd 37 w) := by
  obtain ⟨hlt, hBb⟩ := h.lt
  have h' := h.alloc (by omega) (.cells #[.bool left, .int .i64 (wd : Int), .int .u8 37] 53)
  obtain ⟨C, hC⟩ := h'
  have hT : BuT 36 C.size := by rw [hC.size]; exact buT5
  have hs1 : 1 < C.size := by rw [hC.size]; omega
  have hout := hf.out
  go_enter Tryd.func19, Tryd.ntmps19
  go_wp2_with (go_at_call 17; refine (writeByte_any _ B b p.out C 37 _ hT hs1 hC.bu (by omega) (by simp; omega)).mono ?_; rintro e w' ⟨rfl, hW⟩)
  go_end0
  refine ⟨rfl, ?_, ?_⟩
  · have := hC.wrote hW
    simpa [convertL] using this
  · obtain ⟨_, _, _, hb⟩ := hW
    exact ((Below.refl B w).alloc (by omega) _).trans hb


theorem Wrote.below {T B b : Nat} {bs : List UInt8} {C : Array Value} {w w' : World} (h : Wrote T B b bs C w w') : Below B w w' := by
  obtain ⟨_, _, _, hb⟩ := h
  exact hb

theorem decL_range (s : List UInt8) : -9223372036854775808 ≤ (decL s).1 ∧ (decL s).1 ≤ 9223372036854775807 := by
  unfold decL
  split
  · split
    · have := readL_le 10 9223372036854775808 ‹_›; simp only; omega
    · split
      · have := readL_le 10 9223372036854775807 ‹_›; simp only; omega
      · rename_i c r _ _
        have := readL_le 10 9223372036854775807 (c :: r); simp only; omega
  · simp

theorem cvt_s {p : PS} {S : List UInt8} (h : p.args.headD [] = S) (left : Bool) (wd : Nat) : convertL p left wd 115 = { p with args := p.args.drop 1, used := true, out := p.out ++ padL left wd S } := by
  unfold convertL
  simp only [h]
  simp [argL]
theorem cvt_c {p : PS} {S : List UInt8} (h : p.args.headD [] = S) (left : Bool) (wd : Nat) : convertL p left wd 99 = { p with args := p.args.drop 1, used := true, out := p.out ++ padL left wd (S.take 1) } := by
  unfold convertL
  simp only [h]
  simp [argL]

/-- the number of an argument, and whether it was bad -/
def numL (S : List UInt8) : Int × Int := if S = [] then (0, 0) else decL S
def verbL (v : UInt8) (n : Int) : List UInt8 := if v = 120 then baseL 16 (n % 18446744073709551616).toNat else if v = 111 then baseL 8 (n % 18446744073709551616).toNat else textL n

theorem cvt_n {p : PS} {S : List UInt8} (h : p.args.headD [] = S) (left : Bool) (wd : Nat) (v : UInt8) (hv : v = 100 ∨ v = 120 ∨ v = 111) :
    convertL p left wd v = { p with args := p.args.drop 1, used := true, bad := p.bad || ((numL S).2 != 0), out := p.out ++ padL left wd (verbL v (numL S).1) } := by
  unfold convertL
  simp only [h]
  have e : ∀ x : Int, decide (x ≠ 0) = (x != 0) := fun x => by
    rw [Bool.eq_iff_iff]; simp
  rcases hv with rfl | rfl | rfl <;> simp only [argL, e] <;> simp [numL, verbL]


set_option maxHeartbeats 4000000 in
theorem convert_s (B b : Nat) (p : PS) (left : Bool) (wd : Nat) (w : World) (h : PrAt B b p w) (hf : Fits p) (hwd : wd ≤ 99) :
    Calls Tryd.prog 19 #[.pointer (some ⟨b, 0, none⟩), .agg #[.bool left, .int .i64 (wd : Int), .int .u8 115]] w (CvtPost B b p left wd 115 w) := by
  obtain ⟨hlt, hBb⟩ := h.lt
  have hBw : B ≤ w.heap.size := by omega
  have h' := h.alloc (by omega) (.cells #[.bool left, .int .i64 (wd : Int), .int .u8 115] 53)
  have hout := hf.out
  have hargL := head_small hf
  go_enter Tryd.func19, Tryd.ntmps19
  go_wp2_with fail
  refine (next_any B b p _ h').mono ?_
  rintro e w1 ⟨rfl, hP1, hO⟩
  have hx : Box w.heap.size left wd 115 w1 := ⟨(hO.block _ (by omega)).trans (Go.heap_alloc_new _ _)⟩
  have k0 := hx.k0
  have k1 := hx.k1
  have k2 := hx.k2
  have hb1 : Below B w w1 := ((Below.refl B w).alloc hBw _).trans (hO.below hBb)
  have hBw1 : B ≤ w1.heap.size := by have := hb1.size; omega
  generalize hS : p.args.headD [] = S at *
  have HS := Lib.hid hS
  clear hS h' h
  have hplen := padL_len left wd S
  go_wp2
  go_region_with (first | (go_at_call 37; refine (pad_any left wd 115 _ _ hwd (by simp only [list_size]; omega)).mono ?_; rintro e w9 ⟨rfl, hB9⟩; have hB8 : Below w1.heap.size w1 w9 := ((Below.refl _ w1).drew).trans hB9; obtain ⟨C, hC⟩ : PrAt B b { p with args := p.args.drop 1, used := true } w9 := hP1.below (by have := hb1.size; omega) hB8) | (go_at_call 28; refine (writeString_any 36 B b p.out C _ _ (by rw [hC.size]; exact buT5) (by rw [hC.size]; omega) hC.bu (by simp only [list_size]; omega) (by have := hB8.size; have := hb1.size; omega)).mono ?_; rintro e w10 ⟨rfl, hW⟩))
  all_goals go_wp2
  all_goals go_end0
  all_goals refine ⟨rfl, ?_, hb1.trans ((hB8.mono (by have := hb1.size; omega)).trans hW.below)⟩
  all_goals (rw [cvt_s HS.out]; simpa only [list_data] using hC.wrote hW)

set_option maxHeartbeats 4000000 in
theorem convert_c (B b : Nat) (p : PS) (left : Bool) (wd : Nat) (w : World) (h : PrAt B b p w) (hf : Fits p) (hwd : wd ≤ 99) :
    Calls Tryd.prog 19 #[.pointer (some ⟨b, 0, none⟩), .agg #[.bool left, .int .i64 (wd : Int), .int .u8 99]] w (CvtPost B b p left wd 99 w) := by
  obtain ⟨hlt, hBb⟩ := h.lt
  have hBw : B ≤ w.heap.size := by omega
  have h' := h.alloc (by omega) (.cells #[.bool left, .int .i64 (wd : Int), .int .u8 99] 53)
  have hout := hf.out
  have hargL := head_small hf
  go_enter Tryd.func19, Tryd.ntmps19
  go_wp2_with fail
  refine (next_any B b p _ h').mono ?_
  rintro e w1 ⟨rfl, hP1, hO⟩
  have hx : Box w.heap.size left wd 99 w1 := ⟨(hO.block _ (by omega)).trans (Go.heap_alloc_new _ _)⟩
  have k0 := hx.k0
  have k1 := hx.k1
  have k2 := hx.k2
  have hb1 : Below B w w1 := ((Below.refl B w).alloc hBw _).trans (hO.below hBb)
  have hBw1 : B ≤ w1.heap.size := by have := hb1.size; omega
  generalize hS : p.args.headD [] = S at *
  have HS := Lib.hid hS
  clear hS h' h
  have hplen := padL_len left wd (S.take 1)
  have htl : (S.take 1).length ≤ 1 := by simp; omega
  have he : (⟨S.toArray⟩ : ByteArray).extract 0 (min 1 (S.length : Int)).toNat = ⟨(S.take 1).toArray⟩ := by
    rw [Lib.extract_eq]
    congr 2
    simp only [list_data, List.drop_zero]
    cases S with
    | nil => rfl
    | cons a r => rw [show (min 1 ((a :: r).length : Int)).toNat - 0 = 1 by simp only [List.length_cons]; omega]
  have HE := Lib.hid he
  clear he
  go_wp2
  simp only [HE.out]
  go_region_with (first | (go_at_call 37; refine (pad_any left wd 99 _ _ hwd (by simp only [list_size]; omega)).mono ?_; rintro e w9 ⟨rfl, hB9⟩; have hB8 : Below w1.heap.size w1 w9 := ((Below.refl _ w1).drew).trans hB9; obtain ⟨C, hC⟩ : PrAt B b { p with args := p.args.drop 1, used := true } w9 := hP1.below (by have := hb1.size; omega) hB8) | (go_at_call 28; refine (writeString_any 36 B b p.out C _ _ (by rw [hC.size]; exact buT5) (by rw [hC.size]; omega) hC.bu (by simp only [list_size]; omega) (by have := hB8.size; have := hb1.size; omega)).mono ?_; rintro e w10 ⟨rfl, hW⟩))
  all_goals go_wp2
  all_goals go_end0
  all_goals refine ⟨rfl, ?_, hb1.trans ((hB8.mono (by have := hb1.size; omega)).trans hW.below)⟩
  all_goals (rw [cvt_c HS.out]; simpa only [list_data] using hC.wrote hW)

theorem numL_def (S : List UInt8) : numL S = if S = [] then (0, 0) else decL S := rfl
theorem textL_len (n : Int) (h0 : -9223372036854775808 ≤ n) (h1 : n ≤ 9223372036854775807) : (textL n).length ≤ 65 := by
  unfold textL
  split
  · have := baseL_len64 10 n.natAbs (by omega) (by omega); simp; omega
  · have := baseL_len64 10 n.toNat (by omega) (by omega); omega
theorem base_u64 (n : Int) (b : Nat) (w : World) (h0 : -9223372036854775808 ≤ n) (h1 : n ≤ 9223372036854775807) (hb : 2 ≤ b) (hb' : b ≤ 16) :
    Calls Tryd.prog 35 #[.int .u64 (IntKind.u64.wrap n), .int .i64 (b : Int)] w fun e w' => e = .returned (.string ⟨(baseL b (n % 18446744073709551616).toNat).toArray⟩) ∧ Below w.heap.size w w' := by
  have := base_int (IntKind.u64.wrap n) b w (by rw [u64wrap]; omega) (by rw [u64wrap]; omega) (by omega) (by omega)
  rw [u64wrap] at this ⊢
  simpa using this

set_option maxHeartbeats 4000000 in
theorem convert_n_d (B b : Nat) (p : PS) (left : Bool) (wd : Nat) (w : World) (h : PrAt B b p w) (hf : Fits p) (hwd : wd ≤ 99) :
    Calls Tryd.prog 19 #[.pointer (some ⟨b, 0, none⟩), .agg #[.bool left, .int .i64 (wd : Int), .int .u8 100]] w (CvtPost B b p left wd 100 w) := by
  obtain ⟨hlt, hBb⟩ := h.lt
  have hBw : B ≤ w.heap.size := by omega
  have h' := h.alloc (by omega) (.cells #[.bool left, .int .i64 (wd : Int), .int .u8 100] 53)
  have hout := hf.out
  have hargL := head_small hf
  go_enter Tryd.func19, Tryd.ntmps19
  go_wp2_with fail
  refine (next_any B b p _ h').mono ?_
  rintro e w1 ⟨rfl, hP1, hO⟩
  have hx : Box w.heap.size left wd 100 w1 := ⟨(hO.block _ (by omega)).trans (Go.heap_alloc_new _ _)⟩
  have k0 := hx.k0
  have k1 := hx.k1
  have k2 := hx.k2
  have hb1 : Below B w w1 := ((Below.refl B w).alloc hBw _).trans (hO.below hBb)
  have hBw1 : B ≤ w1.heap.size := by have := hb1.size; omega
  generalize hS : p.args.headD [] = S at *
  have HS := Lib.hid hS
  clear hS h' h
  have hk0 : ∀ x, (w1.setCell ⟨b, 4, none⟩ x).cell? ⟨w.heap.size, 0, none⟩ = some (.bool left) := fun x => by rw [World.cell?_setCell_other _ _ _ _ (by simp)]; exact k0
  have hk1 : ∀ x, (w1.setCell ⟨b, 4, none⟩ x).cell? ⟨w.heap.size, 1, none⟩ = some (.int .i64 (wd : Int)) := fun x => by rw [World.cell?_setCell_other _ _ _ _ (by simp)]; exact k1
  have hk2 : ∀ x, (w1.setCell ⟨b, 4, none⟩ x).cell? ⟨w.heap.size, 2, none⟩ = some (.int .u8 100) := fun x => by rw [World.cell?_setCell_other _ _ _ _ (by simp)]; exact k2
  have hne : w.heap.size ≠ b := by omega
  obtain ⟨q0, q1⟩ := hP1.badCell
  have hdn := decL_range S
  have hD := numL_def S
  by_cases hS0 : S = []
  · subst hS0
    have hemp : ([] : List UInt8).isEmpty = true := rfl
    cases hbad : p.bad with
    | true =>
      rw [hbad] at q0
      have HBd := Lib.hid hbad
      have HD := Lib.hid hD
      clear hbad hD
      go_wp2_with fail
      refine (decimal_any _ _ (by simp only [list_size]; omega)).mono ?_
      rintro e w2 ⟨rfl, rfl⟩
      simp only [list_data]
      go_wp2_with fail
      refine (text_any _ _ (by omega) (by omega)).mono ?_
      rintro e w3 ⟨rfl, hB3⟩
      have hsz4 : (w1.setCell ⟨b, 4, none⟩ (.bool true)).heap.size = w1.heap.size := by simp [World.setCell]
      have hP3 : PrAt B b { p with args := p.args.drop 1, used := true, bad := true } w3 := (hP1.setBad true).below (by rw [hsz4]; exact hBw1) hB3
      have hb3 : Below B w w3 := (hb1.setCell (p := ⟨b, 4, none⟩) hBb _).trans (hB3.mono (by rw [hsz4]; exact hBw1))
      have hx3 : Box w.heap.size left wd 100 w3 := ⟨(hB3.block _ (by rw [hsz4]; exact lt_of_block hx.heap)).trans ((Below.heap_setCell _ _ _ _ hne).trans hx.heap)⟩
      have m0 := hx3.k0
      have m1 := hx3.k1
      have m2 := hx3.k2
      have hlenN : (textL 0).length ≤ 65 := textL_len _ (by omega) (by omega)
      have hplen := padL_len left wd (textL 0)
      go_wp2
      go_region_with (first | (go_at_call 37; refine (pad_any left wd 100 _ _ hwd (by simp only [list_size]; omega)).mono ?_; rintro e w9 ⟨rfl, hB9⟩; have hB8 : Below w3.heap.size w3 w9 := ((Below.refl _ w3).drew).trans hB9; obtain ⟨C, hC⟩ : PrAt B b { p with args := p.args.drop 1, used := true, bad := true } w9 := hP3.below (by have := hb3.size; omega) hB8) | (go_at_call 28; refine (writeString_any 36 B b p.out C _ _ (by rw [hC.size]; exact buT5) (by rw [hC.size]; omega) hC.bu (by simp only [list_size]; omega) (by have := hB8.size; have := hb3.size; omega)).mono ?_; rintro e w10 ⟨rfl, hW⟩))
      all_goals go_wp2
      all_goals go_end0
      all_goals refine ⟨rfl, ?_, hb3.trans ((hB8.mono (by have := hb3.size; omega)).trans hW.below)⟩
      all_goals (rw [cvt_n HS.out left wd 100 (by decide)]; have hfin := hC.wrote hW; simp only [list_data] at hfin; simpa [HD.out, HBd.out, verbL] using hfin)
    | false =>
      rw [hbad] at q0
      have HBd := Lib.hid hbad
      have HD := Lib.hid hD
      clear hbad hD
      go_wp2_with fail
      refine (decimal_any _ _ (by simp only [list_size]; omega)).mono ?_
      rintro e w2 ⟨rfl, rfl⟩
      simp only [list_data]
      go_wp2_with fail
      refine (text_any _ _ (by omega) (by omega)).mono ?_
      rintro e w3 ⟨rfl, hB3⟩
      have hsz4 : (w1.setCell ⟨b, 4, none⟩ (.bool false)).heap.size = w1.heap.size := by simp [World.setCell]
      have hP3 : PrAt B b { p with args := p.args.drop 1, used := true, bad := false } w3 := (hP1.setBad false).below (by rw [hsz4]; exact hBw1) hB3
      have hb3 : Below B w w3 := (hb1.setCell (p := ⟨b, 4, none⟩) hBb _).trans (hB3.mono (by rw [hsz4]; exact hBw1))
      have hx3 : Box w.heap.size left wd 100 w3 := ⟨(hB3.block _ (by rw [hsz4]; exact lt_of_block hx.heap)).trans ((Below.heap_setCell _ _ _ _ hne).trans hx.heap)⟩
      have m0 := hx3.k0
      have m1 := hx3.k1
      have m2 := hx3.k2
      have hlenN : (textL 0).length ≤ 65 := textL_len _ (by omega) (by omega)
      have hplen := padL_len left wd (textL 0)
      go_wp2
      go_region_with (first | (go_at_call 37; refine (pad_any left wd 100 _ _ hwd (by simp only [list_size]; omega)).mono ?_; rintro e w9 ⟨rfl, hB9⟩; have hB8 : Below w3.heap.size w3 w9 := ((Below.refl _ w3).drew).trans hB9; obtain ⟨C, hC⟩ : PrAt B b { p with args := p.args.drop 1, used := true, bad := false } w9 := hP3.below (by have := hb3.size; omega) hB8) | (go_at_call 28; refine (writeString_any 36 B b p.out C _ _ (by rw [hC.size]; exact buT5) (by rw [hC.size]; omega) hC.bu (by simp only [list_size]; omega) (by have := hB8.size; have := hb3.size; omega)).mono ?_; rintro e w10 ⟨rfl, hW⟩))
      all_goals go_wp2
      all_goals go_end0
      all_goals refine ⟨rfl, ?_, hb3.trans ((hB8.mono (by have := hb3.size; omega)).trans hW.below)⟩
      all_goals (rw [cvt_n HS.out left wd 100 (by decide)]; have hfin := hC.wrote hW; simp only [list_data] at hfin; simpa [HD.out, HBd.out, verbL] using hfin)
  · have hemp : S.isEmpty = false := by simpa using hS0
    cases hbad : p.bad with
    | true =>
      rw [hbad] at q0
      have HBd := Lib.hid hbad
      have HD := Lib.hid hD
      clear hbad hD
      go_wp2_with fail
      refine (decimal_any _ _ (by simp only [list_size]; omega)).mono ?_
      rintro e w2 ⟨rfl, rfl⟩
      simp only [list_data]
      go_wp2_with fail
      refine (text_any _ _ (by omega) (by omega)).mono ?_
      rintro e w3 ⟨rfl, hB3⟩
      have hsz4 : (w1.setCell ⟨b, 4, none⟩ (.bool true)).heap.size = w1.heap.size := by simp [World.setCell]
      have hP3 : PrAt B b { p with args := p.args.drop 1, used := true, bad := true } w3 := (hP1.setBad true).below (by rw [hsz4]; exact hBw1) hB3
      have hb3 : Below B w w3 := (hb1.setCell (p := ⟨b, 4, none⟩) hBb _).trans (hB3.mono (by rw [hsz4]; exact hBw1))
      have hx3 : Box w.heap.size left wd 100 w3 := ⟨(hB3.block _ (by rw [hsz4]; exact lt_of_block hx.heap)).trans ((Below.heap_setCell _ _ _ _ hne).trans hx.heap)⟩
      have m0 := hx3.k0
      have m1 := hx3.k1
      have m2 := hx3.k2
      have hlenN : (textL (decL S).1).length ≤ 65 := textL_len _ (by omega) (by omega)
      have hplen := padL_len left wd (textL (decL S).1)
      go_wp2
      go_region_with (first | (go_at_call 37; refine (pad_any left wd 100 _ _ hwd (by simp only [list_size]; omega)).mono ?_; rintro e w9 ⟨rfl, hB9⟩; have hB8 : Below w3.heap.size w3 w9 := ((Below.refl _ w3).drew).trans hB9; obtain ⟨C, hC⟩ : PrAt B b { p with args := p.args.drop 1, used := true, bad := true } w9 := hP3.below (by have := hb3.size; omega) hB8) | (go_at_call 28; refine (writeString_any 36 B b p.out C _ _ (by rw [hC.size]; exact buT5) (by rw [hC.size]; omega) hC.bu (by simp only [list_size]; omega) (by have := hB8.size; have := hb3.size; omega)).mono ?_; rintro e w10 ⟨rfl, hW⟩))
      all_goals go_wp2
      all_goals go_end0
      all_goals refine ⟨rfl, ?_, hb3.trans ((hB8.mono (by have := hb3.size; omega)).trans hW.below)⟩
      all_goals (rw [cvt_n HS.out left wd 100 (by decide)]; have hfin := hC.wrote hW; simp only [list_data] at hfin; simpa [HD.out, HBd.out, verbL, hS0] using hfin)
    | false =>
      rw [hbad] at q0
      have HBd := Lib.hid hbad
      have HD := Lib.hid hD
      clear hbad hD
      go_wp2_with fail
      refine (decimal_any _ _ (by simp only [list_size]; omega)).mono ?_
      rintro e w2 ⟨rfl, rfl⟩
      simp only [list_data]
      go_wp2_with fail
      refine (text_any _ _ (by omega) (by omega)).mono ?_
      rintro e w3 ⟨rfl, hB3⟩
      have hsz4 : (w1.setCell ⟨b, 4, none⟩ (.bool ((decL S).2 != 0))).heap.size = w1.heap.size := by simp [World.setCell]
      have hP3 : PrAt B b { p with args := p.args.drop 1, used := true, bad := ((decL S).2 != 0) } w3 := (hP1.setBad ((decL S).2 != 0)).below (by rw [hsz4]; exact hBw1) hB3
      have hb3 : Below B w w3 := (hb1.setCell (p := ⟨b, 4, none⟩) hBb _).trans (hB3.mono (by rw [hsz4]; exact hBw1))
      have hx3 : Box w.heap.size left wd 100 w3 := ⟨(hB3.block _ (by rw [hsz4]; exact lt_of_block hx.heap)).trans ((Below.heap_setCell _ _ _ _ hne).trans hx.heap)⟩
      have m0 := hx3.k0
      have m1 := hx3.k1
      have m2 := hx3.k2
      have hlenN : (textL (decL S).1).length ≤ 65 := textL_len _ (by omega) (by omega)
      have hplen := padL_len left wd (textL (decL S).1)
      go_wp2
      go_region_with (first | (go_at_call 37; refine (pad_any left wd 100 _ _ hwd (by simp only [list_size]; omega)).mono ?_; rintro e w9 ⟨rfl, hB9⟩; have hB8 : Below w3.heap.size w3 w9 := ((Below.refl _ w3).drew).trans hB9; obtain ⟨C, hC⟩ : PrAt B b { p with args := p.args.drop 1, used := true, bad := ((decL S).2 != 0) } w9 := hP3.below (by have := hb3.size; omega) hB8) | (go_at_call 28; refine (writeString_any 36 B b p.out C _ _ (by rw [hC.size]; exact buT5) (by rw [hC.size]; omega) hC.bu (by simp only [list_size]; omega) (by have := hB8.size; have := hb3.size; omega)).mono ?_; rintro e w10 ⟨rfl, hW⟩))
      all_goals go_wp2
      all_goals go_end0
      all_goals refine ⟨rfl, ?_, hb3.trans ((hB8.mono (by have := hb3.size; omega)).trans hW.below)⟩
      all_goals (rw [cvt_n HS.out left wd 100 (by decide)]; have hfin := hC.wrote hW; simp only [list_data] at hfin; simpa [HD.out, HBd.out, verbL, hS0] using hfin)
end Go.Proofs.YtkkejlmpimamdaaDoor
