import Derived.Test.YtkkejlmpimamdaaDoorConv
set_option linter.unusedVariables false
set_option linter.unusedSimpArgs false
namespace Go.Proofs.YtkkejlmpimamdaaDoor
open Go.RowKit

theorem repeat_any (v : Int) (w : World) (h0 : 0 ≤ v) (h1 : v ≤ 1000000) :
    Calls Tryd.prog 48 #[.string ⟨#[32]⟩, .int .i64 v] w fun e w' => e = .returned (.string ⟨(List.replicate v.toNat 32).toArray⟩) ∧ Below w.heap.size w w' := by
  have := Tryd.strings_Repeat ⟨#[32]⟩ v.toNat w (by omega) (by show 1 * _ ≤ _; omega)
  rw [Int.toNat_of_nonneg h0] at this
  refine this.mono ?_
  rintro e w' ⟨rfl, hB⟩
  refine ⟨ret_str ?_, hB⟩
  show Lib.repeatL [32] v.toNat = _
  generalize v.toNat = n
  induction n with
  | zero => rfl
  | succ n ih => rw [Lib.repeatL, ih]; rfl

theorem append_list (s : ByteArray) (l : List UInt8) : s ++ ⟨l.toArray⟩ = ⟨(s.data.toList ++ l).toArray⟩ := by
  conv => lhs; rw [← Lib.mk_data s]
  rw [ByteArray.mk_append_mk]
theorem list_append (s : ByteArray) (l : List UInt8) : (⟨l.toArray⟩ : ByteArray) ++ s = ⟨(l ++ s.data.toList).toArray⟩ := by
  conv => lhs; rw [← Lib.mk_data s]
  rw [ByteArray.mk_append_mk]

theorem padL_left (wd : Nat) (s : List UInt8) : padL true wd s = s ++ List.replicate (wd - s.length) 32 := by simp [padL]
theorem padL_right (wd : Nat) (s : List UInt8) : padL false wd s = List.replicate (wd - s.length) 32 ++ s := by simp [padL]

set_option maxHeartbeats 1000000 in
theorem pad_any (left : Bool) (wd : Nat) (v : Int) (s : ByteArray) (w : World) (hw : wd ≤ 99) (hs : s.size ≤ 1000000) :
    Calls Tryd.prog 37 #[.agg #[.bool left, .int .i64 (wd : Int), .int .u8 v], .string s] w fun e w' => e = .returned (.string ⟨(padL left wd s.data.toList).toArray⟩) ∧ Below w.heap.size w w' := by
  have hl := Lib.size_eq s
  have HL := Lib.hid hl
  clear hl
  have hr : (List.replicate (max 0 ((wd : Int) - (s.size : Int))).toNat (32 : UInt8)).length ≤ 99 := by simp; omega
  cases left with
  | true =>
    go_enter Tryd.func37, Tryd.ntmps37
    go_wp2_with (go_at_call 48; refine (repeat_any _ _ (by omega) (by omega)).mono ?_; rintro e w' ⟨rfl, hB⟩; have hc : w'.cell? ⟨w.heap.size, 0, none⟩ = some (.bool true) := ((hB.cell (p := ⟨w.heap.size, 0, none⟩) (by simp)).trans (by rw [World.cell?_alloc_at _ _ _ _ rfl]; rfl)))
    go_ret
    refine ⟨?_, (((Below.refl _ w).alloc (Nat.le_refl _) _).trans (hB.mono (by simp)))⟩
    rw [padL_left]
    refine ret_str2 ?_
    have e : (max 0 ((wd : Int) - (s.size : Int))).toNat = wd - s.data.toList.length := by rw [← HL.out]; omega
    rw [e, append_list, Array.toList_replicate]
  | false =>
    go_enter Tryd.func37, Tryd.ntmps37
    go_wp2_with (go_at_call 48; refine (repeat_any _ _ (by omega) (by omega)).mono ?_; rintro e w' ⟨rfl, hB⟩; have hc : w'.cell? ⟨w.heap.size, 0, none⟩ = some (.bool false) := ((hB.cell (p := ⟨w.heap.size, 0, none⟩) (by simp)).trans (by rw [World.cell?_alloc_at _ _ _ _ rfl]; rfl)))
    go_ret
    refine ⟨?_, (((Below.refl _ w).alloc (Nat.le_refl _) _).trans (hB.mono (by simp)))⟩
    rw [padL_right]
    refine ret_str2 ?_
    have e : (max 0 ((wd : Int) - (s.size : Int))).toNat = wd - s.data.toList.length := by rw [← HL.out]; omega
    rw [e, list_append, Array.toList_replicate]
end Go.Proofs.YtkkejlmpimamdaaDoor
