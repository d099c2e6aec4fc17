import Derived.Test.YtkkejlmpimamdaaDoorRDec2
import Derived.Test.YtkkejlmpimamdaaDoorRef01
import Derived.Test.YtkkejlmpimamdaaDoorCvt
set_option linter.unusedVariables false
set_option linter.unusedSimpArgs false
namespace Go.Proofs.YtkkejlmpimamdaaDoor
open Go.RowKit

def RCvtPost (s : List UInt8) (v : UInt8) (w : World) (e : Ending) (w' : World) : Prop :=
  e = .returned (.tuple #[.string ⟨(argL v s).1.toArray⟩, .bool (argL v s).2]) ∧ Below w.heap.size w w'

theorem rcvt_fin {s : List UInt8} {v : UInt8} {w w' : World} {e : Ending} {a : ByteArray} {b : Bool} (h1 : (⟨(argL v s).1.toArray⟩ : ByteArray) = a) (h2 : (argL v s).2 = b) (hB : Below w.heap.size w w') (he : e = .returned (.tuple #[.string a, .bool b])) : RCvtPost s v w e w' :=
  ⟨by rw [he, ← h1, h2], hB⟩

set_option maxHeartbeats 1000000 in
theorem rcvt_s (s : ByteArray) (w : World) :
    Calls Tryd.prog 22 #[.string s, .int .u8 115] w (RCvtPost s.data.toList 115 w) := by
  go_enter Tryd.func22, Tryd.ntmps22
  go_wp2
  go_ret2
  exact rcvt_fin (Lib.mk_data s) rfl (Below.refl _ _) rfl

set_option maxHeartbeats 1000000 in
theorem rcvt_c (s : ByteArray) (w : World) (hs : s.size ≤ 1000000) :
    Calls Tryd.prog 22 #[.string s, .int .u8 99] w (RCvtPost s.data.toList 99 w) := by
  have hl := Lib.size_eq s
  have HL := Lib.hid hl
  clear hl
  by_cases h1 : 1 < s.size
  · have h1' : (1 : Int) < (s.size : Int) := by omega
    have hx : (⟨(argL 99 s.data.toList).1.toArray⟩ : ByteArray) = s.extract 0 1 := by
      rw [Lib.extract_eq]; simp [argL]
    have HX := Lib.hid hx
    clear hx h1
    go_enter Tryd.func22, Tryd.ntmps22
    go_wp2
    go_ret2
    exact rcvt_fin HX.out rfl (Below.refl _ _) rfl
  · have h1' : (s.size : Int) ≤ 1 := by omega
    have hx : (⟨(argL 99 s.data.toList).1.toArray⟩ : ByteArray) = s := by
      have e : (argL 99 s.data.toList).1 = s.data.toList := by
        show s.data.toList.take 1 = _
        exact List.take_of_length_le (by rw [← HL.out]; omega)
      rw [e, Lib.mk_data]
    have HX := Lib.hid hx
    clear hx h1
    go_enter Tryd.func22, Tryd.ntmps22
    go_wp2
    go_ret2
    exact rcvt_fin HX.out rfl (Below.refl _ _) rfl

theorem rbase_u64 (n : Int) (b : Nat) (w : World) (h0 : -9223372036854775808 ≤ n) (h1 : n ≤ 9223372036854775807) (hb : 2 ≤ b) (hb' : b ≤ 16) :
    Calls Tryd.prog 39 #[.int .u64 (IntKind.u64.wrap n), .int .i64 (b : Int)] w fun e w' => e = .returned (.string ⟨(baseL b (n % 18446744073709551616).toNat).toArray⟩) ∧ Below w.heap.size w w' := by
  have := rbase_int (IntKind.u64.wrap n) b w (by rw [u64wrap]; omega) (by rw [u64wrap]; omega) (by omega) (by omega)
  rw [u64wrap] at this ⊢
  simpa using this

theorem argL_num (v : UInt8) (hv : v = 100 ∨ v = 120 ∨ v = 111) (s : List UInt8) : argL v s = (verbL v (numL s).1, (numL s).2 != 0) := by
  have e : ∀ x : Int, decide (x ≠ 0) = (x != 0) := fun x => by
    rw [Bool.eq_iff_iff]; simp
  rcases hv with rfl | rfl | rfl <;> simp only [argL, e] <;> simp [numL, verbL]

set_option maxHeartbeats 1000000 in
theorem rcvt_100_e (s : ByteArray) (w : World) (hs : s.size ≤ 1000000) (h0 : s.size = 0) :
    Calls Tryd.prog 22 #[.string s, .int .u8 100] w (RCvtPost s.data.toList 100 w) := by
  have hlen := Lib.size_eq s
  have hnil : s.data.toList = [] := List.eq_nil_of_length_eq_zero (by omega)
  have hemp : s.toList.isEmpty = true := by rw [Lib.toList_data, hnil]; rfl
  have hd : decL s.data.toList = (0, 40) := by rw [hnil]; rfl
  have hn : numL s.data.toList = (0, 0) := by rw [hnil]; rfl
  have ha := argL_num 100 (by simp) s.data.toList
  rw [hn] at ha
  have HA := Lib.hid ha
  have HD := Lib.hid hd
  clear ha hn hlen h0 hd hnil
  go_enter Tryd.func22, Tryd.ntmps22
  go_wp2_with fail
  refine (rdecimal_any s _ (by omega)).mono ?_
  rintro e w2 ⟨rfl, rfl⟩
  rw [HD.out]
  go_wp2_with fail
  refine (rtext_any _ _ (by omega) (by omega)).mono ?_
  rintro e w3 ⟨rfl, hB⟩
  go_wp2
  go_ret2
  exact rcvt_fin (by rw [HA.out]; rfl) (by rw [HA.out]; rfl) hB rfl

set_option maxHeartbeats 1000000 in
theorem rcvt_100_n (s : ByteArray) (w : World) (hs : s.size ≤ 1000000) (h0 : s.size ≠ 0) :
    Calls Tryd.prog 22 #[.string s, .int .u8 100] w (RCvtPost s.data.toList 100 w) := by
  have hlen := Lib.size_eq s
  have hne := size_ne h0
  have hemp : s.toList.isEmpty = false := by
    rw [Lib.toList_data]
    exact List.isEmpty_eq_false_iff.2 hne
  have hn : numL s.data.toList = decL s.data.toList := by unfold numL; rw [if_neg hne]
  have hr := decL_range s.data.toList
  have ha := argL_num 100 (by simp) s.data.toList
  rw [hn] at ha
  have HA := Lib.hid ha

  clear ha hn hlen h0 hne
  go_enter Tryd.func22, Tryd.ntmps22
  go_wp2_with fail
  refine (rdecimal_any s _ (by omega)).mono ?_
  rintro e w2 ⟨rfl, rfl⟩

  go_wp2_with fail
  refine (rtext_any _ _ (by omega) (by omega)).mono ?_
  rintro e w3 ⟨rfl, hB⟩
  go_wp2
  go_ret2
  exact rcvt_fin (by rw [HA.out]; rfl) (by rw [HA.out]) hB rfl

set_option maxHeartbeats 1000000 in
theorem rcvt_120_e (s : ByteArray) (w : World) (hs : s.size ≤ 1000000) (h0 : s.size = 0) :
    Calls Tryd.prog 22 #[.string s, .int .u8 120] w (RCvtPost s.data.toList 120 w) := by
  have hlen := Lib.size_eq s
  have hnil : s.data.toList = [] := List.eq_nil_of_length_eq_zero (by omega)
  have hemp : s.toList.isEmpty = true := by rw [Lib.toList_data, hnil]; rfl
  have hd : decL s.data.toList = (0, 40) := by rw [hnil]; rfl
  have hn : numL s.data.toList = (0, 0) := by rw [hnil]; rfl
  have ha := argL_num 120 (by simp) s.data.toList
  rw [hn] at ha
  have HA := Lib.hid ha
  have HD := Lib.hid hd
  clear ha hn hlen h0 hd hnil
  go_enter Tryd.func22, Tryd.ntmps22
  go_wp2_with fail
  refine (rdecimal_any s _ (by omega)).mono ?_
  rintro e w2 ⟨rfl, rfl⟩
  rw [HD.out]
  go_wp2_with fail
  refine (rbase_int 0 16 _ (by omega) (by omega) (by omega) (by omega)).mono ?_
  rintro e w3 ⟨rfl, hB⟩
  go_wp2
  go_ret2
  exact rcvt_fin (by rw [HA.out]; rfl) (by rw [HA.out]; rfl) hB rfl

set_option maxHeartbeats 1000000 in
theorem rcvt_120_n (s : ByteArray) (w : World) (hs : s.size ≤ 1000000) (h0 : s.size ≠ 0) :
    Calls Tryd.prog 22 #[.string s, .int .u8 120] w (RCvtPost s.data.toList 120 w) := by
  have hlen := Lib.size_eq s
  have hne := size_ne h0
  have hemp : s.toList.isEmpty = false := by
    rw [Lib.toList_data]
    exact List.isEmpty_eq_false_iff.2 hne
  have hn : numL s.data.toList = decL s.data.toList := by unfold numL; rw [if_neg hne]
  have hr := decL_range s.data.toList
  have ha := argL_num 120 (by simp) s.data.toList
  rw [hn] at ha
  have HA := Lib.hid ha

  clear ha hn hlen h0 hne
  go_enter Tryd.func22, Tryd.ntmps22
  go_wp2_with fail
  refine (rdecimal_any s _ (by omega)).mono ?_
  rintro e w2 ⟨rfl, rfl⟩

  go_wp2_with fail
  refine (rbase_u64 (decL s.data.toList).1 16 _ (by omega) (by omega) (by omega) (by omega)).mono ?_
  rintro e w3 ⟨rfl, hB⟩
  go_wp2
  go_ret2
  exact rcvt_fin (by rw [HA.out]; rfl) (by rw [HA.out]) hB rfl

set_option maxHeartbeats 1000000 in
theorem rcvt_111_e (s : ByteArray) (w : World) (hs : s.size ≤ 1000000) (h0 : s.size = 0) :
    Calls Tryd.prog 22 #[.string s, .int .u8 111] w (RCvtPost s.data.toList 111 w) := by
  have hlen := Lib.size_eq s
  have hnil : s.data.toList = [] := List.eq_nil_of_length_eq_zero (by omega)
  have hemp : s.toList.isEmpty = true := by rw [Lib.toList_data, hnil]; rfl
  have hd : decL s.data.toList = (0, 40) := by rw [hnil]; rfl
  have hn : numL s.data.toList = (0, 0) := by rw [hnil]; rfl
  have ha := argL_num 111 (by simp) s.data.toList
  rw [hn] at ha
  have HA := Lib.hid ha
  have HD := Lib.hid hd
  clear ha hn hlen h0 hd hnil
  go_enter Tryd.func22, Tryd.ntmps22
  go_wp2_with fail
  refine (rdecimal_any s _ (by omega)).mono ?_
  rintro e w2 ⟨rfl, rfl⟩
  rw [HD.out]
  go_wp2_with fail
  refine (rbase_int 0 8 _ (by omega) (by omega) (by omega) (by omega)).mono ?_
  rintro e w3 ⟨rfl, hB⟩
  go_wp2
  go_ret2
  exact rcvt_fin (by rw [HA.out]; rfl) (by rw [HA.out]; rfl) hB rfl

set_option maxHeartbeats 1000000 in
theorem rcvt_111_n (s : ByteArray) (w : World) (hs : s.size ≤ 1000000) (h0 : s.size ≠ 0) :
    Calls Tryd.prog 22 #[.string s, .int .u8 111] w (RCvtPost s.data.toList 111 w) := by
  have hlen := Lib.size_eq s
  have hne := size_ne h0
  have hemp : s.toList.isEmpty = false := by
    rw [Lib.toList_data]
    exact List.isEmpty_eq_false_iff.2 hne
  have hn : numL s.data.toList = decL s.data.toList := by unfold numL; rw [if_neg hne]
  have hr := decL_range s.data.toList
  have ha := argL_num 111 (by simp) s.data.toList
  rw [hn] at ha
  have HA := Lib.hid ha

  clear ha hn hlen h0 hne
  go_enter Tryd.func22, Tryd.ntmps22
  go_wp2_with fail
  refine (rdecimal_any s _ (by omega)).mono ?_
  rintro e w2 ⟨rfl, rfl⟩

  go_wp2_with fail
  refine (rbase_u64 (decL s.data.toList).1 8 _ (by omega) (by omega) (by omega) (by omega)).mono ?_
  rintro e w3 ⟨rfl, hB⟩
  go_wp2
  go_ret2
  exact rcvt_fin (by rw [HA.out]; rfl) (by rw [HA.out]) hB rfl

theorem rconvert_any (s : ByteArray) (v : UInt8) (w : World) (hs : s.size ≤ 1000000) (hv : v ∈ ([115, 100, 120, 111, 99] : List UInt8)) :
    Calls Tryd.prog 22 #[.string s, .int .u8 (v.toNat : Int)] w (RCvtPost s.data.toList v w) := by
  simp at hv
  by_cases h0 : s.size = 0
  · rcases hv with rfl | rfl | rfl | rfl | rfl
    · exact rcvt_s s w
    · exact rcvt_100_e s w hs h0
    · exact rcvt_120_e s w hs h0
    · exact rcvt_111_e s w hs h0
    · exact rcvt_c s w hs
  · rcases hv with rfl | rfl | rfl | rfl | rfl
    · exact rcvt_s s w
    · exact rcvt_100_n s w hs h0
    · exact rcvt_120_n s w hs h0
    · exact rcvt_111_n s w hs h0
    · exact rcvt_c s w hs
end Go.Proofs.YtkkejlmpimamdaaDoor
