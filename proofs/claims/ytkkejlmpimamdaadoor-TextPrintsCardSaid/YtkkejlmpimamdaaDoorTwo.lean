import Derived.Test.YtkkejlmpimamdaaDoorN3
set_option linter.unusedVariables false
set_option linter.unusedSimpArgs false
namespace Go.Proofs.YtkkejlmpimamdaaDoor
open Go.RowKit

def tr (b : Bool) : Int := if b then 0 else 1

/-- what test says of two words about a third -/
def twoL (x op y : List UInt8) : Int :=
  if op = [61] then tr (x == y) else if op = [33, 61] then tr (!(x == y))
  else if op ∉ ([[45, 101, 113], [45, 110, 101], [45, 108, 116], [45, 108, 101], [45, 103, 116], [45, 103, 101]] : List (List UInt8)) then 2
  else if (decL x).2 ≠ 0 ∨ (decL y).2 ≠ 0 then 2
  else if op = [45, 101, 113] then tr ((decL x).1 == (decL y).1)
  else if op = [45, 110, 101] then tr ((decL x).1 != (decL y).1)
  else if op = [45, 108, 116] then tr (decide ((decL x).1 < (decL y).1))
  else if op = [45, 108, 101] then tr (decide ((decL x).1 ≤ (decL y).1))
  else if op = [45, 103, 116] then tr (decide ((decL y).1 < (decL x).1))
  else tr (decide ((decL y).1 ≤ (decL x).1))

theorem truth_any (b : Bool) (w : World) :
    Calls Tryd.prog 23 #[.bool b] w fun e w' => e = .returned (.int .i64 (tr b)) ∧ w = w' := by
  cases b <;>
  · go_enter Tryd.func23, Tryd.ntmps23
    go_wp2
    go_ret
    exact ⟨rfl, rfl⟩

def TwoPost (x op y : List UInt8) (w : World) (e : Ending) (w' : World) : Prop := e = .returned (.int .i64 (twoL x op y)) ∧ w = w'
theorem two_fin {x op y : List UInt8} {n : Int} {w : World} {e : Ending} (h : twoL x op y = n) (he : e = .returned (.int .i64 n)) : TwoPost x op y w e w := ⟨by rw [he, h], rfl⟩
theorem data_toList (x : ByteArray) : x.toList = x.data.toList := Lib.toList_data x

set_option maxHeartbeats 1000000 in
theorem two_seq (x op y : ByteArray) (w : World) (hop : op.toList = [61]) :
    Calls Tryd.prog 26 #[.string x, .string op, .string y] w (TwoPost x.data.toList op.data.toList y.data.toList w) := by
  have g0 : (op.toList == [61]) = true := by rw [hop]; rfl
  have g1 : (op.toList == [33, 61]) = false := by rw [hop]; rfl
  have g2 : (op.toList == [45, 101, 113]) = false := by rw [hop]; rfl
  have g3 : (op.toList == [45, 110, 101]) = false := by rw [hop]; rfl
  have g4 : (op.toList == [45, 108, 116]) = false := by rw [hop]; rfl
  have g5 : (op.toList == [45, 108, 101]) = false := by rw [hop]; rfl
  have g6 : (op.toList == [45, 103, 116]) = false := by rw [hop]; rfl
  have g7 : (op.toList == [45, 103, 101]) = false := by rw [hop]; rfl
  have hfin : twoL x.data.toList op.data.toList y.data.toList = tr (x.toList == y.toList) := by
    rw [← data_toList op, hop, data_toList x, data_toList y]; rfl
  have HF := Lib.hid hfin
  clear hfin hop
  go_enter Tryd.func26, Tryd.ntmps26
  go_wp2_with (go_at_call 23; refine (truth_any _ _).mono ?_; rintro e w' ⟨rfl, rfl⟩)
  go_ret
  exact two_fin HF.out rfl

set_option maxHeartbeats 1000000 in
theorem two_sne (x op y : ByteArray) (w : World) (hop : op.toList = [33, 61]) :
    Calls Tryd.prog 26 #[.string x, .string op, .string y] w (TwoPost x.data.toList op.data.toList y.data.toList w) := by
  have g0 : (op.toList == [61]) = false := by rw [hop]; rfl
  have g1 : (op.toList == [33, 61]) = true := by rw [hop]; rfl
  have g2 : (op.toList == [45, 101, 113]) = false := by rw [hop]; rfl
  have g3 : (op.toList == [45, 110, 101]) = false := by rw [hop]; rfl
  have g4 : (op.toList == [45, 108, 116]) = false := by rw [hop]; rfl
  have g5 : (op.toList == [45, 108, 101]) = false := by rw [hop]; rfl
  have g6 : (op.toList == [45, 103, 116]) = false := by rw [hop]; rfl
  have g7 : (op.toList == [45, 103, 101]) = false := by rw [hop]; rfl
  have hfin : twoL x.data.toList op.data.toList y.data.toList = tr (!(x.toList == y.toList)) := by
    rw [← data_toList op, hop, data_toList x, data_toList y]; rfl
  have HF := Lib.hid hfin
  clear hfin hop
  go_enter Tryd.func26, Tryd.ntmps26
  go_wp2_with (go_at_call 23; refine (truth_any _ _).mono ?_; rintro e w' ⟨rfl, rfl⟩)
  go_ret
  exact two_fin HF.out rfl

set_option maxHeartbeats 1000000 in
theorem two_other (x op y : ByteArray) (w : World) (hx : x.size ≤ 9223372036854775807) (hy : y.size ≤ 9223372036854775807)
    (g0 : (op.toList == [61]) = false)
    (g1 : (op.toList == [33, 61]) = false)
    (g2 : (op.toList == [45, 101, 113]) = false)
    (g3 : (op.toList == [45, 110, 101]) = false)
    (g4 : (op.toList == [45, 108, 116]) = false)
    (g5 : (op.toList == [45, 108, 101]) = false)
    (g6 : (op.toList == [45, 103, 116]) = false)
    (g7 : (op.toList == [45, 103, 101]) = false)
    : Calls Tryd.prog 26 #[.string x, .string op, .string y] w (TwoPost x.data.toList op.data.toList y.data.toList w) := by
  have hfin : twoL x.data.toList op.data.toList y.data.toList = 2 := by
    rw [← data_toList op]
    have n0 := ne_of_beq_false g0
    have n1 := ne_of_beq_false g1
    have n2 := ne_of_beq_false g2
    have n3 := ne_of_beq_false g3
    have n4 := ne_of_beq_false g4
    have n5 := ne_of_beq_false g5
    have n6 := ne_of_beq_false g6
    have n7 := ne_of_beq_false g7
    unfold twoL
    rw [if_neg n0, if_neg n1, if_pos (by simp [n2, n3, n4, n5, n6, n7])]
  have HF := Lib.hid hfin
  clear hfin
  go_enter Tryd.func26, Tryd.ntmps26
  go_wp2_with fail
  refine (decimal_any x _ hx).mono ?_
  rintro e w' ⟨rfl, rfl⟩
  go_wp2_with fail
  refine (decimal_any y _ hy).mono ?_
  rintro e w' ⟨rfl, rfl⟩
  go_wp2
  go_ret
  exact two_fin HF.out rfl

set_option maxHeartbeats 4000000 in
theorem two_deq (x op y : ByteArray) (w : World) (hx : x.size ≤ 9223372036854775807) (hy : y.size ≤ 9223372036854775807) (hop : op.toList = [45, 101, 113]) :
    Calls Tryd.prog 26 #[.string x, .string op, .string y] w (TwoPost x.data.toList op.data.toList y.data.toList w) := by
  have g0 : (op.toList == [61]) = false := by rw [hop]; rfl
  have g1 : (op.toList == [33, 61]) = false := by rw [hop]; rfl
  have g2 : (op.toList == [45, 101, 113]) = true := by rw [hop]; rfl
  have g3 : (op.toList == [45, 110, 101]) = false := by rw [hop]; rfl
  have g4 : (op.toList == [45, 108, 116]) = false := by rw [hop]; rfl
  have g5 : (op.toList == [45, 108, 101]) = false := by rw [hop]; rfl
  have g6 : (op.toList == [45, 103, 116]) = false := by rw [hop]; rfl
  have g7 : (op.toList == [45, 103, 101]) = false := by rw [hop]; rfl
  have hd : op.data.toList = [45, 101, 113] := by rw [← data_toList op]; exact hop
  by_cases hea : (decL x.data.toList).2 = 0
  · by_cases heb : (decL y.data.toList).2 = 0
    · have hfin : twoL x.data.toList op.data.toList y.data.toList = tr ((decL x.data.toList).1 == (decL y.data.toList).1) := by
        rw [hd]; simp [twoL, hea, heb]
      have HF := Lib.hid hfin
      have ha : ((decL x.data.toList).2 != 0) = false := by rw [hea]; rfl
      have hb : ((decL y.data.toList).2 != 0) = false := by rw [heb]; rfl
      have HEA := Lib.hid hea
      have HEB := Lib.hid heb
      clear hfin hop hd hea heb
      go_enter Tryd.func26, Tryd.ntmps26
      go_wp2_with fail
      refine (decimal_any x _ hx).mono ?_
      rintro e w' ⟨rfl, rfl⟩
      go_wp2_with fail
      refine (decimal_any y _ hy).mono ?_
      rintro e w' ⟨rfl, rfl⟩
      go_wp2_with (go_at_call 23; refine (truth_any _ _).mono ?_; rintro e w' ⟨rfl, rfl⟩)
      go_ret
      exact two_fin HF.out rfl
    · have hfin : twoL x.data.toList op.data.toList y.data.toList = 2 := by
        rw [hd]; simp [twoL, heb]
      have HF := Lib.hid hfin
      have ha : ((decL x.data.toList).2 != 0) = false := by rw [hea]; rfl
      have hb : ((decL y.data.toList).2 != 0) = true := by simpa using heb
      have HEA := Lib.hid hea
      clear hfin hop hd hea heb
      go_enter Tryd.func26, Tryd.ntmps26
      go_wp2_with fail
      refine (decimal_any x _ hx).mono ?_
      rintro e w' ⟨rfl, rfl⟩
      go_wp2_with fail
      refine (decimal_any y _ hy).mono ?_
      rintro e w' ⟨rfl, rfl⟩
      go_wp2
      go_ret
      exact two_fin HF.out rfl
  · have hfin : twoL x.data.toList op.data.toList y.data.toList = 2 := by
      rw [hd]; simp [twoL, hea]
    have HF := Lib.hid hfin
    have ha : ((decL x.data.toList).2 != 0) = true := by simpa using hea
    clear hfin hop hd hea
    go_enter Tryd.func26, Tryd.ntmps26
    go_wp2_with fail
    refine (decimal_any x _ hx).mono ?_
    rintro e w' ⟨rfl, rfl⟩
    go_wp2_with fail
    refine (decimal_any y _ hy).mono ?_
    rintro e w' ⟨rfl, rfl⟩
    go_wp2
    go_ret
    exact two_fin HF.out rfl

set_option maxHeartbeats 4000000 in
theorem two_dne (x op y : ByteArray) (w : World) (hx : x.size ≤ 9223372036854775807) (hy : y.size ≤ 9223372036854775807) (hop : op.toList = [45, 110, 101]) :
    Calls Tryd.prog 26 #[.string x, .string op, .string y] w (TwoPost x.data.toList op.data.toList y.data.toList w) := by
  have g0 : (op.toList == [61]) = false := by rw [hop]; rfl
  have g1 : (op.toList == [33, 61]) = false := by rw [hop]; rfl
  have g2 : (op.toList == [45, 101, 113]) = false := by rw [hop]; rfl
  have g3 : (op.toList == [45, 110, 101]) = true := by rw [hop]; rfl
  have g4 : (op.toList == [45, 108, 116]) = false := by rw [hop]; rfl
  have g5 : (op.toList == [45, 108, 101]) = false := by rw [hop]; rfl
  have g6 : (op.toList == [45, 103, 116]) = false := by rw [hop]; rfl
  have g7 : (op.toList == [45, 103, 101]) = false := by rw [hop]; rfl
  have hd : op.data.toList = [45, 110, 101] := by rw [← data_toList op]; exact hop
  by_cases hea : (decL x.data.toList).2 = 0
  · by_cases heb : (decL y.data.toList).2 = 0
    · have hfin : twoL x.data.toList op.data.toList y.data.toList = tr ((decL x.data.toList).1 != (decL y.data.toList).1) := by
        rw [hd]; simp [twoL, hea, heb]
      have HF := Lib.hid hfin
      have ha : ((decL x.data.toList).2 != 0) = false := by rw [hea]; rfl
      have hb : ((decL y.data.toList).2 != 0) = false := by rw [heb]; rfl
      have HEA := Lib.hid hea
      have HEB := Lib.hid heb
      clear hfin hop hd hea heb
      go_enter Tryd.func26, Tryd.ntmps26
      go_wp2_with fail
      refine (decimal_any x _ hx).mono ?_
      rintro e w' ⟨rfl, rfl⟩
      go_wp2_with fail
      refine (decimal_any y _ hy).mono ?_
      rintro e w' ⟨rfl, rfl⟩
      go_wp2_with (go_at_call 23; refine (truth_any _ _).mono ?_; rintro e w' ⟨rfl, rfl⟩)
      go_ret
      exact two_fin HF.out rfl
    · have hfin : twoL x.data.toList op.data.toList y.data.toList = 2 := by
        rw [hd]; simp [twoL, heb]
      have HF := Lib.hid hfin
      have ha : ((decL x.data.toList).2 != 0) = false := by rw [hea]; rfl
      have hb : ((decL y.data.toList).2 != 0) = true := by simpa using heb
      have HEA := Lib.hid hea
      clear hfin hop hd hea heb
      go_enter Tryd.func26, Tryd.ntmps26
      go_wp2_with fail
      refine (decimal_any x _ hx).mono ?_
      rintro e w' ⟨rfl, rfl⟩
      go_wp2_with fail
      refine (decimal_any y _ hy).mono ?_
      rintro e w' ⟨rfl, rfl⟩
      go_wp2
      go_ret
      exact two_fin HF.out rfl
  · have hfin : twoL x.data.toList op.data.toList y.data.toList = 2 := by
      rw [hd]; simp [twoL, hea]
    have HF := Lib.hid hfin
    have ha : ((decL x.data.toList).2 != 0) = true := by simpa using hea
    clear hfin hop hd hea
    go_enter Tryd.func26, Tryd.ntmps26
    go_wp2_with fail
    refine (decimal_any x _ hx).mono ?_
    rintro e w' ⟨rfl, rfl⟩
    go_wp2_with fail
    refine (decimal_any y _ hy).mono ?_
    rintro e w' ⟨rfl, rfl⟩
    go_wp2
    go_ret
    exact two_fin HF.out rfl

set_option maxHeartbeats 4000000 in
theorem two_dlt (x op y : ByteArray) (w : World) (hx : x.size ≤ 9223372036854775807) (hy : y.size ≤ 9223372036854775807) (hop : op.toList = [45, 108, 116]) :
    Calls Tryd.prog 26 #[.string x, .string op, .string y] w (TwoPost x.data.toList op.data.toList y.data.toList w) := by
  have g0 : (op.toList == [61]) = false := by rw [hop]; rfl
  have g1 : (op.toList == [33, 61]) = false := by rw [hop]; rfl
  have g2 : (op.toList == [45, 101, 113]) = false := by rw [hop]; rfl
  have g3 : (op.toList == [45, 110, 101]) = false := by rw [hop]; rfl
  have g4 : (op.toList == [45, 108, 116]) = true := by rw [hop]; rfl
  have g5 : (op.toList == [45, 108, 101]) = false := by rw [hop]; rfl
  have g6 : (op.toList == [45, 103, 116]) = false := by rw [hop]; rfl
  have g7 : (op.toList == [45, 103, 101]) = false := by rw [hop]; rfl
  have hd : op.data.toList = [45, 108, 116] := by rw [← data_toList op]; exact hop
  by_cases hea : (decL x.data.toList).2 = 0
  · by_cases heb : (decL y.data.toList).2 = 0
    · have hfin : twoL x.data.toList op.data.toList y.data.toList = tr (decide ((decL x.data.toList).1 < (decL y.data.toList).1)) := by
        rw [hd]; simp [twoL, hea, heb]
      have HF := Lib.hid hfin
      have ha : ((decL x.data.toList).2 != 0) = false := by rw [hea]; rfl
      have hb : ((decL y.data.toList).2 != 0) = false := by rw [heb]; rfl
      have HEA := Lib.hid hea
      have HEB := Lib.hid heb
      clear hfin hop hd hea heb
      go_enter Tryd.func26, Tryd.ntmps26
      go_wp2_with fail
      refine (decimal_any x _ hx).mono ?_
      rintro e w' ⟨rfl, rfl⟩
      go_wp2_with fail
      refine (decimal_any y _ hy).mono ?_
      rintro e w' ⟨rfl, rfl⟩
      go_wp2_with (go_at_call 23; refine (truth_any _ _).mono ?_; rintro e w' ⟨rfl, rfl⟩)
      go_ret
      exact two_fin HF.out rfl
    · have hfin : twoL x.data.toList op.data.toList y.data.toList = 2 := by
        rw [hd]; simp [twoL, heb]
      have HF := Lib.hid hfin
      have ha : ((decL x.data.toList).2 != 0) = false := by rw [hea]; rfl
      have hb : ((decL y.data.toList).2 != 0) = true := by simpa using heb
      have HEA := Lib.hid hea
      clear hfin hop hd hea heb
      go_enter Tryd.func26, Tryd.ntmps26
      go_wp2_with fail
      refine (decimal_any x _ hx).mono ?_
      rintro e w' ⟨rfl, rfl⟩
      go_wp2_with fail
      refine (decimal_any y _ hy).mono ?_
      rintro e w' ⟨rfl, rfl⟩
      go_wp2
      go_ret
      exact two_fin HF.out rfl
  · have hfin : twoL x.data.toList op.data.toList y.data.toList = 2 := by
      rw [hd]; simp [twoL, hea]
    have HF := Lib.hid hfin
    have ha : ((decL x.data.toList).2 != 0) = true := by simpa using hea
    clear hfin hop hd hea
    go_enter Tryd.func26, Tryd.ntmps26
    go_wp2_with fail
    refine (decimal_any x _ hx).mono ?_
    rintro e w' ⟨rfl, rfl⟩
    go_wp2_with fail
    refine (decimal_any y _ hy).mono ?_
    rintro e w' ⟨rfl, rfl⟩
    go_wp2
    go_ret
    exact two_fin HF.out rfl

set_option maxHeartbeats 4000000 in
theorem two_dle (x op y : ByteArray) (w : World) (hx : x.size ≤ 9223372036854775807) (hy : y.size ≤ 9223372036854775807) (hop : op.toList = [45, 108, 101]) :
    Calls Tryd.prog 26 #[.string x, .string op, .string y] w (TwoPost x.data.toList op.data.toList y.data.toList w) := by
  have g0 : (op.toList == [61]) = false := by rw [hop]; rfl
  have g1 : (op.toList == [33, 61]) = false := by rw [hop]; rfl
  have g2 : (op.toList == [45, 101, 113]) = false := by rw [hop]; rfl
  have g3 : (op.toList == [45, 110, 101]) = false := by rw [hop]; rfl
  have g4 : (op.toList == [45, 108, 116]) = false := by rw [hop]; rfl
  have g5 : (op.toList == [45, 108, 101]) = true := by rw [hop]; rfl
  have g6 : (op.toList == [45, 103, 116]) = false := by rw [hop]; rfl
  have g7 : (op.toList == [45, 103, 101]) = false := by rw [hop]; rfl
  have hd : op.data.toList = [45, 108, 101] := by rw [← data_toList op]; exact hop
  by_cases hea : (decL x.data.toList).2 = 0
  · by_cases heb : (decL y.data.toList).2 = 0
    · have hfin : twoL x.data.toList op.data.toList y.data.toList = tr (decide ((decL x.data.toList).1 ≤ (decL y.data.toList).1)) := by
        rw [hd]; simp [twoL, hea, heb]
      have HF := Lib.hid hfin
      have ha : ((decL x.data.toList).2 != 0) = false := by rw [hea]; rfl
      have hb : ((decL y.data.toList).2 != 0) = false := by rw [heb]; rfl
      have HEA := Lib.hid hea
      have HEB := Lib.hid heb
      clear hfin hop hd hea heb
      go_enter Tryd.func26, Tryd.ntmps26
      go_wp2_with fail
      refine (decimal_any x _ hx).mono ?_
      rintro e w' ⟨rfl, rfl⟩
      go_wp2_with fail
      refine (decimal_any y _ hy).mono ?_
      rintro e w' ⟨rfl, rfl⟩
      go_wp2_with (go_at_call 23; refine (truth_any _ _).mono ?_; rintro e w' ⟨rfl, rfl⟩)
      go_ret
      exact two_fin HF.out rfl
    · have hfin : twoL x.data.toList op.data.toList y.data.toList = 2 := by
        rw [hd]; simp [twoL, heb]
      have HF := Lib.hid hfin
      have ha : ((decL x.data.toList).2 != 0) = false := by rw [hea]; rfl
      have hb : ((decL y.data.toList).2 != 0) = true := by simpa using heb
      have HEA := Lib.hid hea
      clear hfin hop hd hea heb
      go_enter Tryd.func26, Tryd.ntmps26
      go_wp2_with fail
      refine (decimal_any x _ hx).mono ?_
      rintro e w' ⟨rfl, rfl⟩
      go_wp2_with fail
      refine (decimal_any y _ hy).mono ?_
      rintro e w' ⟨rfl, rfl⟩
      go_wp2
      go_ret
      exact two_fin HF.out rfl
  · have hfin : twoL x.data.toList op.data.toList y.data.toList = 2 := by
      rw [hd]; simp [twoL, hea]
    have HF := Lib.hid hfin
    have ha : ((decL x.data.toList).2 != 0) = true := by simpa using hea
    clear hfin hop hd hea
    go_enter Tryd.func26, Tryd.ntmps26
    go_wp2_with fail
    refine (decimal_any x _ hx).mono ?_
    rintro e w' ⟨rfl, rfl⟩
    go_wp2_with fail
    refine (decimal_any y _ hy).mono ?_
    rintro e w' ⟨rfl, rfl⟩
    go_wp2
    go_ret
    exact two_fin HF.out rfl

set_option maxHeartbeats 4000000 in
theorem two_dgt (x op y : ByteArray) (w : World) (hx : x.size ≤ 9223372036854775807) (hy : y.size ≤ 9223372036854775807) (hop : op.toList = [45, 103, 116]) :
    Calls Tryd.prog 26 #[.string x, .string op, .string y] w (TwoPost x.data.toList op.data.toList y.data.toList w) := by
  have g0 : (op.toList == [61]) = false := by rw [hop]; rfl
  have g1 : (op.toList == [33, 61]) = false := by rw [hop]; rfl
  have g2 : (op.toList == [45, 101, 113]) = false := by rw [hop]; rfl
  have g3 : (op.toList == [45, 110, 101]) = false := by rw [hop]; rfl
  have g4 : (op.toList == [45, 108, 116]) = false := by rw [hop]; rfl
  have g5 : (op.toList == [45, 108, 101]) = false := by rw [hop]; rfl
  have g6 : (op.toList == [45, 103, 116]) = true := by rw [hop]; rfl
  have g7 : (op.toList == [45, 103, 101]) = false := by rw [hop]; rfl
  have hd : op.data.toList = [45, 103, 116] := by rw [← data_toList op]; exact hop
  by_cases hea : (decL x.data.toList).2 = 0
  · by_cases heb : (decL y.data.toList).2 = 0
    · have hfin : twoL x.data.toList op.data.toList y.data.toList = tr (decide ((decL y.data.toList).1 < (decL x.data.toList).1)) := by
        rw [hd]; simp [twoL, hea, heb]
      have HF := Lib.hid hfin
      have ha : ((decL x.data.toList).2 != 0) = false := by rw [hea]; rfl
      have hb : ((decL y.data.toList).2 != 0) = false := by rw [heb]; rfl
      have HEA := Lib.hid hea
      have HEB := Lib.hid heb
      clear hfin hop hd hea heb
      go_enter Tryd.func26, Tryd.ntmps26
      go_wp2_with fail
      refine (decimal_any x _ hx).mono ?_
      rintro e w' ⟨rfl, rfl⟩
      go_wp2_with fail
      refine (decimal_any y _ hy).mono ?_
      rintro e w' ⟨rfl, rfl⟩
      go_wp2_with (go_at_call 23; refine (truth_any _ _).mono ?_; rintro e w' ⟨rfl, rfl⟩)
      go_ret
      exact two_fin HF.out rfl
    · have hfin : twoL x.data.toList op.data.toList y.data.toList = 2 := by
        rw [hd]; simp [twoL, heb]
      have HF := Lib.hid hfin
      have ha : ((decL x.data.toList).2 != 0) = false := by rw [hea]; rfl
      have hb : ((decL y.data.toList).2 != 0) = true := by simpa using heb
      have HEA := Lib.hid hea
      clear hfin hop hd hea heb
      go_enter Tryd.func26, Tryd.ntmps26
      go_wp2_with fail
      refine (decimal_any x _ hx).mono ?_
      rintro e w' ⟨rfl, rfl⟩
      go_wp2_with fail
      refine (decimal_any y _ hy).mono ?_
      rintro e w' ⟨rfl, rfl⟩
      go_wp2
      go_ret
      exact two_fin HF.out rfl
  · have hfin : twoL x.data.toList op.data.toList y.data.toList = 2 := by
      rw [hd]; simp [twoL, hea]
    have HF := Lib.hid hfin
    have ha : ((decL x.data.toList).2 != 0) = true := by simpa using hea
    clear hfin hop hd hea
    go_enter Tryd.func26, Tryd.ntmps26
    go_wp2_with fail
    refine (decimal_any x _ hx).mono ?_
    rintro e w' ⟨rfl, rfl⟩
    go_wp2_with fail
    refine (decimal_any y _ hy).mono ?_
    rintro e w' ⟨rfl, rfl⟩
    go_wp2
    go_ret
    exact two_fin HF.out rfl

set_option maxHeartbeats 4000000 in
theorem two_dge (x op y : ByteArray) (w : World) (hx : x.size ≤ 9223372036854775807) (hy : y.size ≤ 9223372036854775807) (hop : op.toList = [45, 103, 101]) :
    Calls Tryd.prog 26 #[.string x, .string op, .string y] w (TwoPost x.data.toList op.data.toList y.data.toList w) := by
  have g0 : (op.toList == [61]) = false := by rw [hop]; rfl
  have g1 : (op.toList == [33, 61]) = false := by rw [hop]; rfl
  have g2 : (op.toList == [45, 101, 113]) = false := by rw [hop]; rfl
  have g3 : (op.toList == [45, 110, 101]) = false := by rw [hop]; rfl
  have g4 : (op.toList == [45, 108, 116]) = false := by rw [hop]; rfl
  have g5 : (op.toList == [45, 108, 101]) = false := by rw [hop]; rfl
  have g6 : (op.toList == [45, 103, 116]) = false := by rw [hop]; rfl
  have g7 : (op.toList == [45, 103, 101]) = true := by rw [hop]; rfl
  have hd : op.data.toList = [45, 103, 101] := by rw [← data_toList op]; exact hop
  by_cases hea : (decL x.data.toList).2 = 0
  · by_cases heb : (decL y.data.toList).2 = 0
    · have hfin : twoL x.data.toList op.data.toList y.data.toList = tr (decide ((decL y.data.toList).1 ≤ (decL x.data.toList).1)) := by
        rw [hd]; simp [twoL, hea, heb]
      have HF := Lib.hid hfin
      have ha : ((decL x.data.toList).2 != 0) = false := by rw [hea]; rfl
      have hb : ((decL y.data.toList).2 != 0) = false := by rw [heb]; rfl
      have HEA := Lib.hid hea
      have HEB := Lib.hid heb
      clear hfin hop hd hea heb
      go_enter Tryd.func26, Tryd.ntmps26
      go_wp2_with fail
      refine (decimal_any x _ hx).mono ?_
      rintro e w' ⟨rfl, rfl⟩
      go_wp2_with fail
      refine (decimal_any y _ hy).mono ?_
      rintro e w' ⟨rfl, rfl⟩
      go_wp2_with (go_at_call 23; refine (truth_any _ _).mono ?_; rintro e w' ⟨rfl, rfl⟩)
      go_ret
      exact two_fin HF.out rfl
    · have hfin : twoL x.data.toList op.data.toList y.data.toList = 2 := by
        rw [hd]; simp [twoL, heb]
      have HF := Lib.hid hfin
      have ha : ((decL x.data.toList).2 != 0) = false := by rw [hea]; rfl
      have hb : ((decL y.data.toList).2 != 0) = true := by simpa using heb
      have HEA := Lib.hid hea
      clear hfin hop hd hea heb
      go_enter Tryd.func26, Tryd.ntmps26
      go_wp2_with fail
      refine (decimal_any x _ hx).mono ?_
      rintro e w' ⟨rfl, rfl⟩
      go_wp2_with fail
      refine (decimal_any y _ hy).mono ?_
      rintro e w' ⟨rfl, rfl⟩
      go_wp2
      go_ret
      exact two_fin HF.out rfl
  · have hfin : twoL x.data.toList op.data.toList y.data.toList = 2 := by
      rw [hd]; simp [twoL, hea]
    have HF := Lib.hid hfin
    have ha : ((decL x.data.toList).2 != 0) = true := by simpa using hea
    clear hfin hop hd hea
    go_enter Tryd.func26, Tryd.ntmps26
    go_wp2_with fail
    refine (decimal_any x _ hx).mono ?_
    rintro e w' ⟨rfl, rfl⟩
    go_wp2_with fail
    refine (decimal_any y _ hy).mono ?_
    rintro e w' ⟨rfl, rfl⟩
    go_wp2
    go_ret
    exact two_fin HF.out rfl

theorem two_any (x op y : ByteArray) (w : World) (hx : x.size ≤ 9223372036854775807) (hy : y.size ≤ 9223372036854775807) :
    Calls Tryd.prog 26 #[.string x, .string op, .string y] w (TwoPost x.data.toList op.data.toList y.data.toList w) := by
  by_cases h0 : op.toList = [61]
  · exact two_seq x op y w h0
  by_cases h1 : op.toList = [33, 61]
  · exact two_sne x op y w h1
  by_cases h2 : op.toList = [45, 101, 113]
  · exact two_deq x op y w hx hy h2
  by_cases h3 : op.toList = [45, 110, 101]
  · exact two_dne x op y w hx hy h3
  by_cases h4 : op.toList = [45, 108, 116]
  · exact two_dlt x op y w hx hy h4
  by_cases h5 : op.toList = [45, 108, 101]
  · exact two_dle x op y w hx hy h5
  by_cases h6 : op.toList = [45, 103, 116]
  · exact two_dgt x op y w hx hy h6
  by_cases h7 : op.toList = [45, 103, 101]
  · exact two_dge x op y w hx hy h7
  exact two_other x op y w hx hy (beq_eq_false_iff_ne.2 h0) (beq_eq_false_iff_ne.2 h1) (beq_eq_false_iff_ne.2 h2) (beq_eq_false_iff_ne.2 h3) (beq_eq_false_iff_ne.2 h4) (beq_eq_false_iff_ne.2 h5) (beq_eq_false_iff_ne.2 h6) (beq_eq_false_iff_ne.2 h7)
end Go.Proofs.YtkkejlmpimamdaaDoor
