import Derived.Test.YtimpdbopkbefiaaDoorAwk15b
import Derived.Test.YtimpdbopkbefiaaDoorSmall
import Derived.Test.YtimpdbopkbefiaaDoorPLines
set_option linter.unusedVariables false
set_option linter.unusedSimpArgs false
namespace Go.Proofs.YtimpdbopkbefiaaDoor
open Go.RowKit

def bytesOf (l : List ByteArray) : List (List UInt8) := l.map fun s => s.data.toList

theorem TextsAt.mono {B B' : Nat} {v : Value} {l : List ByteArray} {w : World} (h : TextsAt B v l w) (hB : B ≤ B') : TextsAt B' v l w := by
  obtain ⟨A, cap, h1, h2, h3, h4⟩ := h
  refine ⟨A, cap, h1, h2, h3, fun hl => ?_⟩
  obtain ⟨g, o, hA, hg, hc⟩ := h4 hl
  exact ⟨g, o, hA, by omega, hc⟩

theorem lines_len (l : List ByteArray) : (linesL (bytesOf l)).length = l.length + totalN l := by
  induction l with
  | nil => rfl
  | cons s r ih =>
    have e : linesL (bytesOf (s :: r)) = (s.data.toList ++ [10]) ++ linesL (bytesOf r) := by simp [linesL, bytesOf]
    rw [e]
    have hs := Lib.size_eq s
    have ht : totalN (s :: r) = s.size + totalN r := by simp [totalN]
    simp only [List.length_append, List.length_cons, List.length_nil, ih, ht]
    omega

theorem lines_snoc (l : List ByteArray) (s : ByteArray) : linesL (bytesOf (l ++ [s])) = linesL (bytesOf l) ++ s.data.toList ++ [10] := by
  simp [linesL, bytesOf]

theorem line_cat (X : List UInt8) (s : ByteArray) : (⟨X.toArray⟩ : ByteArray) ++ s ++ ⟨#[10]⟩ = ⟨(X ++ s.data.toList ++ [10]).toArray⟩ := by
  rw [list_append]
  show (⟨(X ++ s.data.toList).toArray⟩ : ByteArray) ++ ⟨[10].toArray⟩ = _
  rw [ByteArray.mk_append_mk]

theorem total_at {l : List ByteArray} {k : Nat} (h : k < l.length) : totalN (l.take k) + l[k].size ≤ totalN l := by
  have := totalN_mono l (k + 1)
  rw [List.take_succ_eq_append_getElem h, totalN_snoc] at this
  exact this

def TruePost (w : World) (e : Ending) (w' : World) : Prop := e = .returned (.bool true) ∧ Below w.heap.size w w'

set_option maxHeartbeats 4000000 in
theorem lines_walk (v : Value) (l : List ByteArray) (plain : ByteArray) (w : World) (h : TextsAt w.heap.size v l w) (hs : ∀ s ∈ l, s.size ≤ 140737488351232) (hln : l.length ≤ 140737488351232) (hp : plain.size ≤ 140737488351232) :
    Calls Tryd.prog 8 #[v, .string plain] w (TruePost w) := by
  obtain ⟨A, cap, rfl, hlc, hcm, hcell⟩ := h.at_
  go_enter Tryd.func8, Tryd.ntmps8
  go_wp2_with fail
  refine (small_any _ l _ h hs hln).mono ?_
  rintro e w' ⟨b, rfl, rfl, hb⟩
  cases b with
  | false =>
    go_wp2_with (go_at_call 23; refine (awake15 _).mono ?_; rintro e w' ⟨rfl, hB⟩)
    go_ret
    exact ⟨rfl, hB⟩
  | true =>
    have htot := hb rfl
    clear hb
    by_cases h0 : l.length = 0
    · have h0' : ((l.length : Int) == 0) = true := by simp [h0]
      have H0 := Lib.hid h0
      clear h0
      go_wp2_with (go_at_call 23; refine (awake15 _).mono ?_; rintro e w' ⟨rfl, hB⟩)
      go_ret
      exact ⟨rfl, hB⟩
    · have h0' : ((l.length : Int) == 0) = false := by simp; intro e; exact h0 (by rw [e]; rfl)
      by_cases h1 : 1000 < plain.size
      · have h1' : (1000 : Int) < (plain.size : Int) := by omega
        go_wp2_with (go_at_call 23; refine (awake15 _).mono ?_; rintro e w' ⟨rfl, hB⟩)
        go_ret
        exact ⟨rfl, hB⟩
      · have h1' : (plain.size : Int) ≤ 1000 := by omega
        go_wp2
        go_loop [5, 6] (fun s i => ∃ (k : Nat) (X : List UInt8), k ≤ l.length ∧ i = .int .i64 (k : Int) ∧ s = .string ⟨X.toArray⟩ ∧ X = linesL (bytesOf (l.take k))) (fun _ i => l.length - (intOf i).toNat)
        case atStart => exact ⟨0, [], by omega, rfl, rfl, rfl⟩
        case round =>
          obtain ⟨k, X, hk, rfl, rfl, hX⟩ := hrel
          have HX := Lib.hid hX
          have hXl : X.length ≤ 4000 := by
            rw [hX, lines_len]
            have := totalN_mono l k
            simp
            omega
          clear hX
          by_cases hlt : k < l.length
          · obtain ⟨g, o, rfl, hg, hc⟩ := hcell k hlt
            have hsz : l[k].size ≤ 2000 := by have := total_at hlt; omega
            have hnx : X ++ l[k].data.toList ++ [10] = linesL (bytesOf (l.take (k + 1))) := by
              rw [List.take_succ_eq_append_getElem hlt, lines_snoc, HX.out]
            have HN := Lib.hid hnx
            have HC := Lib.hid (line_cat X l[k])
            clear hnx
            go_wp2
            go_round
            case rel => exact ⟨k + 1, _, by omega, by go_num, by rw [HC.out], HN.out⟩
            case measure => simp [intOf]; omega
          · have hkl : k = l.length := by omega
            have hXa : X = linesL (bytesOf l) := by rw [HX.out, hkl, List.take_length]
            have hne : bytesOf l ≠ [] := by
              intro e
              have : l.length = (bytesOf l).length := by simp [bytesOf]
              rw [e] at this
              exact h0 (by simpa using this)
            have hev : printfL [37, 115, 92, 110] (bytesOf l) = (X, true) := by rw [hXa]; exact printf_lines _ hne (by rw [← hXa]; omega)
            have HE := Lib.hid hev
            have HK := Lib.hid hkl
            clear hev hne hXa hkl HX
            go_wp2_with fail
            refine (printf_any ⟨#[37, 115, 92, 110]⟩ _ l _ (by decide) h (fun s hsm => by obtain ⟨j, hj, rfl⟩ := List.getElem_of_mem hsm; have := total_at hj; omega)).mono ?_
            rintro e w1 ⟨rfl, hB1⟩
            rw [show printfL (⟨#[37, 115, 92, 110]⟩ : ByteArray).data.toList (List.map (fun x : ByteArray => x.data.toList) l) = (X, true) from HE.out]
            go_wp2
            go_loop [9] (fun i => ∃ k : Nat, k ≤ plain.size ∧ i = .int .i64 (k : Int) ∧ ∀ c ∈ plain.data.toList.take k, c ≠ 37 ∧ c ≠ 92) (fun i => plain.size - (intOf i).toNat)
            case atStart => exact ⟨0, by omega, rfl, fun c hc => by simp at hc⟩
            case round =>
              obtain ⟨m, hm, rfl, hpl⟩ := hrel
              have HP := Lib.hid hpl
              clear hpl
              by_cases hlt2 : m < plain.size
              · by_cases h37 : plain[m] = 37
                · have t37 : ((plain[m].toNat : Int) == 37) = true := by rw [h37]; rfl
                  have H37 := Lib.hid h37
                  clear h37
                  go_wp2_with (go_at_call 23; refine (awake15 _).mono ?_; rintro e w' ⟨rfl, hB⟩)
                  go_ret
                  exact ⟨rfl, hB1.trans (hB.mono hB1.size)⟩
                · have t37 : ((plain[m].toNat : Int) == 37) = false := u8_ne h37
                  by_cases h92 : plain[m] = 92
                  · have t92 : ((plain[m].toNat : Int) == 92) = true := by rw [h92]; rfl
                    have H92 := Lib.hid h92
                    have H37 := Lib.hid h37
                    clear h92 h37
                    go_wp2_with (go_at_call 23; refine (awake15 _).mono ?_; rintro e w' ⟨rfl, hB⟩)
                    go_ret
                    exact ⟨rfl, hB1.trans (hB.mono hB1.size)⟩
                  · have t92 : ((plain[m].toNat : Int) == 92) = false := u8_ne h92
                    have hnx : ∀ c ∈ plain.data.toList.take (m + 1), c ≠ 37 ∧ c ≠ 92 := by
                      intro c hc
                      rw [take_snoc plain m hlt2] at hc
                      rcases List.mem_append.1 hc with hc | hc
                      · exact HP.out c hc
                      · simp at hc; rw [hc]; exact ⟨h37, h92⟩
                    have HN := Lib.hid hnx
                    have H92 := Lib.hid h92
                    have H37 := Lib.hid h37
                    clear h92 h37 hnx
                    go_wp2
                    go_round
                    case rel => exact ⟨m + 1, by omega, by go_num, HN.out⟩
                    case measure => simp [intOf]; omega
              · have hml : m = plain.size := by omega
                have hall : ∀ c ∈ plain.data.toList, c ≠ 37 ∧ c ≠ 92 := by
                  have := HP.out
                  rw [hml, Lib.size_eq plain, List.take_length] at this
                  exact this
                have hsz := Lib.size_eq plain
                have hev2 : printfL plain.data.toList (bytesOf l) = (plain.data.toList, true) := printf_plain _ _ hall (by omega)
                have HE2 := Lib.hid hev2
                have HM := Lib.hid hml
                clear hev2 hall hsz hml
                go_wp2_with fail
                refine (printf_any plain _ l _ (by omega) ((h.below hB1).mono hB1.size) (fun s hsm => by obtain ⟨j, hj, rfl⟩ := List.getElem_of_mem hsm; have := total_at hj; omega)).mono ?_
                rintro e w2 ⟨rfl, hB2⟩
                rw [show printfL plain.data.toList (List.map (fun x : ByteArray => x.data.toList) l) = (plain.data.toList, true) from HE2.out]
                simp only [Lib.mk_data]
                have k2 := hB1.trans (hB2.mono hB1.size)
                go_wp2_with (go_at_call 23; refine (awake15 _).mono ?_; rintro e w' ⟨rfl, hB⟩)
                go_ret
                exact ⟨rfl, k2.trans (hB.mono k2.size)⟩
end Go.Proofs.YtimpdbopkbefiaaDoor
