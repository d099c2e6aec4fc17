import Derived.Test.YtkkejlmpimamdaaDoorROnce0
import Derived.Test.YtkkejlmpimamdaaDoorLCom
import Derived.Deep.CutBlock
import Derived.Deep.DeepCutAuto
set_option linter.unusedVariables false
set_option linter.unusedSimpArgs false
namespace Go.Proofs.YtkkejlmpimamdaaDoor
open Go.RowKit

structure RSt (B b : Nat) (f : List UInt8) (p : PS) (L : List (List UInt8)) (u0 i u : Nat) (q : PS) (w wr : World) : Prop where
  at_ : OnceAt f p i q
  r : RAt b q L u wr
  u : u ≤ u0 + i
  below : Below B w wr
  box : ∃ C, wr.heap[b + 1]? = some (.cells C 41 (0, 0)) ∧ C.size = 3

theorem hbox_set {b o : Nat} {T : TypeId} {wr : World} {v : Value} (h : ∃ C, wr.heap[b + 1]? = some (.cells C T (0, 0)) ∧ C.size = 3) : ∃ C, (wr.setCell ⟨b, o, none⟩ v).heap[b + 1]? = some (.cells C T (0, 0)) ∧ C.size = 3 := by
  obtain ⟨C, h1, h2⟩ := h
  exact ⟨C, (Below.heap_setCell wr ⟨b, o, none⟩ _ _ (by simp)).trans h1, h2⟩
theorem hbox_below {b : Nat} {T : TypeId} {w1 w2 : World} (h : ∃ C, w1.heap[b + 1]? = some (.cells C T (0, 0)) ∧ C.size = 3) (hB : Below w1.heap.size w1 w2) : ∃ C, w2.heap[b + 1]? = some (.cells C T (0, 0)) ∧ C.size = 3 := by
  obtain ⟨C, h1, h2⟩ := h
  exact ⟨C, (hB.block _ (lt_of_block h1)).trans h1, h2⟩

def strLen : Value → Nat | .string s => s.size | _ => 0
theorem cout (q : List UInt8) (c : UInt8) : (⟨#[c]⟩ : ByteArray) ++ ⟨q.toArray⟩ = ⟨([c] ++ q).toArray⟩ := by
  rw [append_list]
theorem argL_len (v : UInt8) (s : List UInt8) (hs : s.length ≤ 1000000) : (argL v s).1.length ≤ 1000000 := by
  unfold argL
  split
  · simp; omega
  · split
    · have hr : -9223372036854775808 ≤ (if s = [] then ((0 : Int), (0 : Int)) else decL s).1 ∧ (if s = [] then ((0 : Int), (0 : Int)) else decL s).1 ≤ 9223372036854775807 := by
        split
        · simp
        · exact decL_range _
      dsimp only
      generalize (if s = [] then ((0 : Int), (0 : Int)) else decL s) = D at *
      split
      · have := baseL_len64 16 (D.1 % 18446744073709551616).toNat (by omega) (by omega); omega
      · split
        · have := baseL_len64 8 (D.1 % 18446744073709551616).toNat (by omega) (by omega); omega
        · have := textL_len D.1 (by omega) (by omega); omega
    · exact hs
theorem rconv_fin {b : Nat} {q : PS} {L : List (List UInt8)} {u wd : Nat} {left BB bd bq : Bool} {c : UInt8} {S AA V : List UInt8} {w2 : World}
    (hh2 : w2.heap[b]? = some (.cells (#[.string ⟨q.out.toArray⟩, .int .i64 (u : Int), .bool bq].setIfInBounds 1 (.int .i64 ((u : Int) + 1))) 41 (0, 0))) (hargs : q.args = L.drop u) (hc : ¬ c = 37) (hhd : q.args.headD [] = S) (hAA : (argL c S).1 = AA) (hBB : (argL c S).2 = BB) (hV : V = padL left wd AA) (hbd : (q.bad || BB) = bd) :
    RAt b (convertL q left wd c) L (u + 1) ((w2.setCell ⟨b, 2, none⟩ (.bool bd)).setCell ⟨b, 0, none⟩ (.string (⟨q.out.toArray⟩ ++ ⟨V.toArray⟩))) := by
  have e : convertL q left wd c = { out := q.out ++ V, args := q.args.drop 1, used := true, bad := bd } := by
    unfold convertL
    rw [if_neg hc, hhd]
    dsimp only
    rw [hAA, hBB, ← hV, hbd]
  rw [e]
  refine ⟨?_, by rw [hargs, List.drop_drop], by simp⟩
  rw [heap_set (heap_set hh2 _) _, list_append]
  rfl

theorem convLD {c : UInt8} (h : c ∈ ([115, 100, 120, 111, 99, 37] : List UInt8)) (h37 : ¬ c = 37) : c ∈ ([115, 100, 120, 111, 99] : List UInt8) := by
  simp at h ⊢
  rcases h with h | h | h | h | h | h
  · exact .inl h
  · exact .inr (.inl h)
  · exact .inr (.inr (.inl h))
  · exact .inr (.inr (.inr (.inl h)))
  · exact .inr (.inr (.inr (.inr h)))
  · exact absurd h h37

theorem arr3 {C : Array Value} (h : C.size = 3) : ∃ x y z, C = #[x, y, z] := by
  obtain ⟨l⟩ := C
  match l, h with
  | [x, y, z], _ => exact ⟨x, y, z, rfl⟩

set_option maxHeartbeats 8000000 in
set_option maxRecDepth 100000 in
theorem ronce_any (p : PS) (f : ByteArray) (v : Value) (l : List ByteArray) (u0 : Nat) (w : World) (hT : TextsAt w.heap.size v l w) (hf : f.size ≤ 1000) (hu0 : u0 ≤ 1000000) (hsm : p.out.length ≤ 10000000000) (hn : ∀ s ∈ l, s.size ≤ 1000000) (hpa : p.args = (l.map fun s : ByteArray => s.data.toList).drop u0) (hpu : p.used = decide (0 < u0)) :
    Calls Tryd.prog 13 #[.string f, v, .agg #[.string ⟨p.out.toArray⟩, .int .i64 (u0 : Int), .bool p.bad]] w (ROncePost (l.map fun s : ByteArray => s.data.toList) f.data.toList p u0 w) := by
  have hl := Lib.size_eq f
  have HL := Lib.hid hl
  have hargs : ∀ a ∈ p.args, a.length ≤ 1000000 := by
    intro a ha
    rw [hpa] at ha
    obtain ⟨s, hs, rfl⟩ := List.mem_map.1 (List.mem_of_mem_drop ha)
    have := hn s hs
    rw [Lib.size_eq] at this
    exact this
  obtain ⟨A, cap, rfl, hlc, hcm, hcell⟩ := hT.at_
  obtain ⟨L, hL⟩ : ∃ L, (l.map fun s : ByteArray => s.data.toList) = L := ⟨_, rfl⟩
  rw [hL] at hpa ⊢
  have HLL := Lib.hid hL
  have HPA := Lib.hid hpa
  have HPU := Lib.hid hpu
  clear hl hL hpa hpu
  go_enter Tryd.func13, Tryd.ntmps13
  go_wp2
  go_loopg [7] (f.size) (fun k vi wr => ∃ (i u : Nat) (q : PS), vi = .int .i64 (i : Int) ∧ k + i = f.size ∧ RSt w.heap.size w.heap.size f.data.toList p L u0 i u q w wr)
  case atStart => exact ⟨0, u0, p, rfl, rfl, ⟨⟨by omega, rfl, by rw [← HL.out]; omega, hargs⟩, ⟨(Below.heap_alloc _ _ _ (by simp)).trans (Go.heap_alloc_new _ _), HPA.out, HPU.out⟩, by omega, ((Below.refl _ _).alloc (Nat.le_refl _) _).alloc (by simp) _, ⟨_, (by rw [show w.heap.size + 1 = (w.alloc (Obj.cells #[.string ⟨p.out.toArray⟩, .int .i64 (u0 : Int), .bool p.bad] 41)).heap.size by simp]; exact Go.heap_alloc_new _ _), rfl⟩⟩⟩
  case round =>
    obtain ⟨i, u, q, rfl, hgi, hS⟩ := hrel
    obtain ⟨hA, hR, hu, hB, hbox⟩ := hS
    have hle := hA.le
    rw [← HL.out] at hle
    have hq := hA.fits.out
    have c0 := hR.out
    have c1 := hR.n
    have c2 := hR.b
    have f0 := free_at hR.heap 0
    have f1 := free_at hR.heap 1
    have f2 := free_at hR.heap 2
    by_cases hlt : i < f.size
    ·
      as_aux_lemma =>
       have hl2 : i < f.data.toList.length := by rw [← HL.out]; exact hlt
       have hcl : f.data.toList[i] = f[i] := rfl
       cases hesc : (if f[i] = 92 ∧ i + 1 < f.size then escL (f.data.toList.getD (i + 1) 0) else none) with
       | some e =>
        as_aux_lemma =>
         by_cases hcond : f[i] = 92 ∧ i + 1 < f.size
         ·
           as_aux_lemma =>
            rw [if_pos hcond] at hesc
            obtain ⟨h92, hlt1⟩ := hcond
            have t92 : ((f[i].toNat : Int) == 92) = true := by rw [h92]; rfl
            have hl3 : i + 1 < f.data.toList.length := by rw [← HL.out]; exact hlt1
            have he : escL f.data.toList[i + 1] = some e := by rw [← hesc, List.getD_eq_getElem?_getD, List.getElem?_eq_getElem hl3]; rfl
            have hcl1 : f.data.toList[i + 1] = f[i + 1] := rfl
            have hnx := hA.esc hl3 (hcl.trans h92) he
            have hex := ext1 f (i + 1) hlt1
            have HN := Lib.hid hnx
            have hes : (escL f[i + 1]).isSome = true := by rw [← hcl1, he]; rfl
            have HES := Lib.hid hes
            rw [show i + 1 + 1 = i + 2 from rfl] at hex
            rcases esc_cases he with ⟨hd, rfl⟩ | ⟨hd, rfl⟩ | ⟨hd, rfl⟩ | ⟨hd, rfl⟩
            ·
              as_aux_lemma =>
               rw [← hcl1, hd] at hex
               have tn : ((f.extract (i + 1) (i + 2)).toList == [110]) = true := by rw [hex, Lib.toList_data]; rfl
               have tt : ((f.extract (i + 1) (i + 2)).toList == [116]) = false := by rw [hex, Lib.toList_data]; rfl
               have HO := Lib.hid (hR.write ⟨#[10]⟩ (q.out ++ [10]) (outc _ _))
               clear hnx hcl h92 hA hcl1 he hd hesc hex hes
               go_wp2_with (first | (go_at_call 20; refine (rhas_esc _ true HES.out _).mono ?_; rintro e w' ⟨rfl, rfl⟩))
               go_roundg (gk - 2)
               case measure => omega
               case rel => exact ⟨i + 2, u, _, by go_num, by omega, ⟨HN.out, HO.out, by omega, hB.setCell (p := ⟨w.heap.size, 0, none⟩) (Nat.le_refl _) _, hbox_set hbox⟩⟩
            ·
              as_aux_lemma =>
               rw [← hcl1, hd] at hex
               have tn : ((f.extract (i + 1) (i + 2)).toList == [110]) = false := by rw [hex, Lib.toList_data]; rfl
               have tt : ((f.extract (i + 1) (i + 2)).toList == [116]) = true := by rw [hex, Lib.toList_data]; rfl
               have HO := Lib.hid (hR.write ⟨#[9]⟩ (q.out ++ [9]) (outc _ _))
               clear hnx hcl h92 hA hcl1 he hd hesc hex hes
               go_wp2_with (first | (go_at_call 20; refine (rhas_esc _ true HES.out _).mono ?_; rintro e w' ⟨rfl, rfl⟩))
               go_roundg (gk - 2)
               case measure => omega
               case rel => exact ⟨i + 2, u, _, by go_num, by omega, ⟨HN.out, HO.out, by omega, hB.setCell (p := ⟨w.heap.size, 0, none⟩) (Nat.le_refl _) _, hbox_set hbox⟩⟩
            ·
              as_aux_lemma =>
               rw [← hcl1, hd] at hex
               have tn : ((f.extract (i + 1) (i + 2)).toList == [110]) = false := by rw [hex, Lib.toList_data]; rfl
               have tt : ((f.extract (i + 1) (i + 2)).toList == [116]) = false := by rw [hex, Lib.toList_data]; rfl
               have HO := Lib.hid (hR.write (f.extract (i + 1) (i + 2)) (q.out ++ [92]) (by rw [hex]; exact outc _ _))
               clear hnx hcl h92 hA hcl1 he hd hesc hex hes
               go_wp2_with (first | (go_at_call 20; refine (rhas_esc _ true HES.out _).mono ?_; rintro e w' ⟨rfl, rfl⟩))
               go_roundg (gk - 2)
               case measure => omega
               case rel => exact ⟨i + 2, u, _, by go_num, by omega, ⟨HN.out, HO.out, by omega, hB.setCell (p := ⟨w.heap.size, 0, none⟩) (Nat.le_refl _) _, hbox_set hbox⟩⟩
            ·
              as_aux_lemma =>
               rw [← hcl1, hd] at hex
               have tn : ((f.extract (i + 1) (i + 2)).toList == [110]) = false := by rw [hex, Lib.toList_data]; rfl
               have tt : ((f.extract (i + 1) (i + 2)).toList == [116]) = false := by rw [hex, Lib.toList_data]; rfl
               have HO := Lib.hid (hR.write (f.extract (i + 1) (i + 2)) (q.out ++ [34]) (by rw [hex]; exact outc _ _))
               clear hnx hcl h92 hA hcl1 he hd hesc hex hes
               go_wp2_with (first | (go_at_call 20; refine (rhas_esc _ true HES.out _).mono ?_; rintro e w' ⟨rfl, rfl⟩))
               go_roundg (gk - 2)
               case measure => omega
               case rel => exact ⟨i + 2, u, _, by go_num, by omega, ⟨HN.out, HO.out, by omega, hB.setCell (p := ⟨w.heap.size, 0, none⟩) (Nat.le_refl _) _, hbox_set hbox⟩⟩
         · rw [if_neg hcond] at hesc; exact absurd hesc (by simp)
       | none =>
         have HPL : Hid (f.data.toList[i] = 92 → ∀ hd : i + 1 < f.data.toList.length, escL f.data.toList[i + 1] = none) := by
           refine Lib.hid (fun e hd => ?_)
           rw [if_pos ⟨hcl.symm.trans e, by rw [HL.out]; exact hd⟩, List.getD_eq_getElem?_getD, List.getElem?_eq_getElem hd] at hesc
           exact hesc
         obtain ⟨LL, hLL⟩ : ∃ LL, ((f.data.toList.drop (i + 1)).head? == some 45) = LL := ⟨_, rfl⟩
         have HP := Lib.hid hLL
         clear hLL hesc
         have HCL := Lib.hid hcl
         have HA_ := Lib.hid hA
         clear hcl hA
         go_upto_region 3 with fail
         go_cut [37] (fun s37 wx => s37 = .bool false ∧ wr = wx)
         case first =>
           as_aux_lemma =>
            by_cases h92 : f[i] = 92
            ·
              as_aux_lemma =>
               have t92 : ((f[i].toNat : Int) == 92) = true := u8_beq h92
               by_cases hlt1 : i + 1 < f.size
               ·
                 as_aux_lemma =>
                  have hes : (escL f[i + 1]).isSome = false := by
                    have := HPL.out (HCL.out.trans h92) (by rw [← HL.out]; exact hlt1)
                    rw [show f[i + 1] = f.data.toList[i + 1]'(by rw [← HL.out]; exact hlt1) from rfl, this]
                    rfl
                  have HES := Lib.hid hes
                  clear hes h92
                  go_wp2_with (go_at_call 20; refine (rhas_esc _ false HES.out _).mono ?_; rintro e w' ⟨rfl, rfl⟩)
                  go_meet
                  exact ⟨rfl, rfl⟩
               ·
                 as_aux_lemma =>
                  clear h92
                  go_wp2
                  go_meet
                  exact ⟨rfl, rfl⟩
            ·
              as_aux_lemma =>
               have t92 : ((f[i].toNat : Int) == 92) = false := u8_bne h92
               clear h92
               go_wp2
               go_meet
               exact ⟨rfl, rfl⟩
         case rest =>
           as_aux_lemma =>
            obtain ⟨rfl, rfl⟩ := hcut
            go_upto_region 12 with fail
            go_cut [10] (fun s10 wx => s10 = .bool LL ∧ wr = wx)
            case first =>
              as_aux_lemma =>
               by_cases hlt1 : i + 1 < f.size
               ·
                 as_aux_lemma =>
                  have hhd : (f.data.toList.drop (i + 1)).head? = some f[i + 1] := by
                    rw [List.drop_eq_getElem_cons (by rw [← HL.out]; exact hlt1)]; rfl
                  by_cases h45 : f[i + 1] = 45
                  ·
                    as_aux_lemma =>
                     have t45 : ((f[i + 1].toNat : Int) == 45) = true := u8_beq h45
                     have HLT : Hid (LL = true) := Lib.hid (by rw [← HP.out, hhd, h45]; rfl)
                     clear hhd h45
                     go_wp2
                     go_meet
                     exact ⟨by rw [HLT.out], rfl⟩
                  ·
                    as_aux_lemma =>
                     have t45 : ((f[i + 1].toNat : Int) == 45) = false := u8_bne h45
                     have HLT : Hid (LL = false) := Lib.hid (by rw [← HP.out, hhd]; simpa using h45)
                     clear hhd h45
                     go_wp2
                     go_meet
                     exact ⟨by rw [HLT.out], rfl⟩
               ·
                 as_aux_lemma =>
                  have HLT : Hid (LL = false) := Lib.hid (by rw [← HP.out, List.drop_eq_nil_of_le (by rw [← HL.out]; omega)]; rfl)
                  go_wp2
                  go_meet
                  exact ⟨by rw [HLT.out], rfl⟩
            case rest =>
              as_aux_lemma =>
               obtain ⟨rfl, rfl⟩ := hcut
               have hcl := HCL.out
               have hA := HA_.out
               cases LL with
               | true =>
                as_aux_lemma =>
                 have hlt1 : i + 1 < f.size := by
                   rcases Nat.lt_or_ge (i + 1) f.size with h | h
                   · exact h
                   · have := HP.out
                     rw [List.drop_eq_nil_of_le (by rw [← HL.out]; omega)] at this
                     exact absurd this (by decide)
                 have HCL2 := Lib.hid hcl
                 clear hcl
                 have hcl := HCL2.out
                 go_upto_block 2 with fail
                 go_cut [9, 11] (fun s9 s11 wx => ∃ j wd : Nat, s9 = .int .i64 ((i : Int) + 2 + (j : Int)) ∧ s11 = .int .i64 (wd : Int) ∧ ConvAt (f.data.toList.drop (i + 1)) 1 j wd ∧ (j = 2 ∨ 1 + j = (f.data.toList.drop (i + 1)).length ∨ ∃ h : 1 + j < (f.data.toList.drop (i + 1)).length, digitB (f.data.toList.drop (i + 1))[1 + j] = false) ∧ wr = wx)
                 case first =>
                   as_aux_lemma =>
                    go_wp2_with fail
                    go_loop [9, 11] (fun vk vw => ∃ j wd : Nat, vk = .int .i64 ((i : Int) + 2 + (j : Int)) ∧ vw = .int .i64 (wd : Int) ∧ ConvAt (f.data.toList.drop (i + 1)) 1 j wd) (fun vk _ => i + 4 - (intOf vk).toNat)
                    case atStart => exact ⟨0, 0, by go_num, rfl, ⟨by omega, by (rw [List.length_drop, ← HL.out]; omega), fun i hi => absurd hi (by omega), rfl⟩⟩
                    case round =>
                      obtain ⟨j, wd, rfl, rfl, hV⟩ := hrel
                      have hj2 := hV.two
                      have hbd := hV.bound
                      have hwd : wd ≤ 99 := by
                        have : (10 : Nat) ^ j ≤ 10 ^ 2 := Nat.pow_le_pow_right (by omega) hj2
                        omega
                      by_cases hk : i + 2 + j < f.size
                      ·
                        as_aux_lemma =>
                         have hk2 : 1 + j < (f.data.toList.drop (i + 1)).length := by rw [List.length_drop, ← HL.out]; omega
                         have hg : (f.data.toList.drop (i + 1))[1 + j] = f[i + 2 + j] := by
                           simp only [List.getElem_drop]
                           have e : i + 1 + (1 + j) = i + 2 + j := by omega
                           simp only [e]
                           rfl
                         by_cases hj : j < 2
                         ·
                           as_aux_lemma =>
                            cases hd : digitB f[i + 2 + j] with
                            | true =>
                              have hdv := digit_val hd
                              have hnx := hV.next hj hk2 (by rw [hg]; exact hd)
                              rw [hg] at hnx
                              have hcast : ((10 * wd + (f[i + 2 + j].toNat - 48) : Nat) : Int) = 10 * (wd : Int) + ((f[i + 2 + j].toNat : Int) - 48) := by omega
                              have HC := Lib.hid hcast
                              have HNX := Lib.hid hnx
                              have HD := Lib.hid hd
                              clear hg hd hcast hnx hV
                              go_wp2_with (go_at_call 21; refine (rDigit_any _ _).mono ?_; rintro e w' ⟨rfl, rfl⟩; simp only [HD.out])
                              go_round
                              case rel => exact ⟨j + 1, _, by go_num, by rw [HC.out], HNX.out⟩
                              case measure => simp [intOf]; omega
                            | false =>
                              have HV := Lib.hid hV
                              have HEX : Hid (j = 2 ∨ 1 + j = (f.data.toList.drop (i + 1)).length ∨ ∃ h : 1 + j < (f.data.toList.drop (i + 1)).length, digitB (f.data.toList.drop (i + 1))[1 + j] = false) := Lib.hid (.inr (.inr ⟨hk2, by rw [hg]; exact hd⟩))
                              have HD := Lib.hid hd
                              clear hd hg hV
                              go_wp2_with (go_at_call 21; refine (rDigit_any _ _).mono ?_; rintro e w' ⟨rfl, rfl⟩; simp only [HD.out])
                              go_meet
                              exact ⟨j, wd, rfl, rfl, HV.out, HEX.out, rfl⟩
                         ·
                           as_aux_lemma =>
                            have HV := Lib.hid hV
                            have HEX : Hid (j = 2 ∨ 1 + j = (f.data.toList.drop (i + 1)).length ∨ ∃ h : 1 + j < (f.data.toList.drop (i + 1)).length, digitB (f.data.toList.drop (i + 1))[1 + j] = false) := Lib.hid (.inl (by omega))
                            clear hg hV
                            go_wp2
                            go_meet
                            exact ⟨j, wd, rfl, rfl, HV.out, HEX.out, rfl⟩
                      ·
                        as_aux_lemma =>
                         have HV := Lib.hid hV
                         have HEX : Hid (j = 2 ∨ 1 + j = (f.data.toList.drop (i + 1)).length ∨ ∃ h : 1 + j < (f.data.toList.drop (i + 1)).length, digitB (f.data.toList.drop (i + 1))[1 + j] = false) := Lib.hid (.inr (.inl (by have := hV.len; rw [List.length_drop, ← HL.out] at this ⊢; omega)))
                         clear hV
                         go_wp2
                         go_meet
                         exact ⟨j, wd, rfl, rfl, HV.out, HEX.out, rfl⟩
                 case rest =>
                   as_aux_lemma =>
                    obtain ⟨j, wd, rfl, rfl, hV, hex, rfl⟩ := hcut
                    have HEX := Lib.hid hex
                    clear hex
                    have hj2 := hV.two
                    have hbd := hV.bound
                    have hwd : wd ≤ 99 := by
                      have : (10 : Nat) ^ j ≤ 10 ^ 2 := Nat.pow_le_pow_right (by omega) hj2
                      omega
                    by_cases h37 : f[i] = 37
                    ·
                      as_aux_lemma =>
                       have t37 : ((f[i].toNat : Int) == 37) = true := u8_beq h37
                       have t37' : ((f[i].toNat : Int) != 37) = false := by rw [bne, t37]; rfl
                       by_cases hk : i + 2 + j < f.size
                       ·
                         as_aux_lemma =>
                          have hk2 : 1 + j < (f.data.toList.drop (i + 1)).length := by rw [List.length_drop, ← HL.out]; omega
                          have hg : (f.data.toList.drop (i + 1))[1 + j] = f[i + 2 + j] := by
                            simp only [List.getElem_drop]
                            have e : i + 1 + (1 + j) = i + 2 + j := by omega
                            simp only [e]
                            rfl
                          by_cases hv : f[i + 2 + j] ∈ ([115, 100, 120, 111, 99, 37] : List UInt8)
                          ·
                            as_aux_lemma =>
                             have hcv : convL (f.data.toList.drop (i + 1)) = some (true, wd, f[i + 2 + j], 1 + j + 1) := by
                               rw [← hg]
                               exact conv_some (k := 1) HP.out (by rfl) hV HEX.out hk2 (by rw [hg]; exact hv)
                             have hnx := hA.conv hl2 (hcl.trans h37) hcv (by omega) hwd
                             have HV := Lib.hid (decide_eq_true hv)
                             rw [show i + 1 + (1 + j + 1) = i + 2 + j + 1 by omega] at hnx
                             have hcc := convLD hv
                             by_cases hc37 : f[i + 2 + j] = 37
                             ·
                               as_aux_lemma =>
                                have tc : ((f[i + 2 + j].toNat : Int) == 37) = true := u8_beq hc37
                                rw [hc37] at hnx
                                have HN := Lib.hid hnx
                                have HO := Lib.hid (hR.write ⟨#[37]⟩ (q.out ++ [37]) (outc _ _))
                                clear hnx hcv hV hcl hA hg hv hc37 hcc h37
                                go_wp2_with (first | (go_at_call 20; refine (rhas_verb _ true HV.out _).mono ?_; rintro e w' ⟨rfl, rfl⟩))
                                go_roundg (gk - (2 + j + 1))
                                case measure => omega
                                case rel => exact ⟨i + 2 + j + 1, u, _, by go_num, by omega, ⟨HN.out, HO.out, by omega, (hB.setCell (p := ⟨w.heap.size, 0, none⟩) (Nat.le_refl _) _), hbox_set hbox⟩⟩
                             ·
                               as_aux_lemma =>
                                have tc : ((f[i + 2 + j].toNat : Int) == 37) = false := u8_bne hc37
                                have HN := Lib.hid hnx
                                have HCC := Lib.hid (hcc hc37)
                                have H37 := Lib.hid hc37
                                clear hnx hcv hV hcl hA hg hv hc37 hcc h37
                                have hbs := lt_of_block hR.heap
                                have hbs1 : w.heap.size < (wr.setCell ⟨w.heap.size, 1, none⟩ (.int .i64 ((u : Int) + 1))).heap.size := by simpa [World.setCell] using hbs
                                have hB1 := hB.setCell (p := ⟨w.heap.size, 1, none⟩) (Nat.le_refl _) (.int .i64 ((u : Int) + 1))
                                have hbox1 := hbox_set (o := 1) (v := .int .i64 ((u : Int) + 1)) hbox
                                have hh1 := heap_set hR.heap (i := 1) (.int .i64 ((u : Int) + 1))
                                by_cases hau : u < l.length
                                ·
                                  as_aux_lemma =>
                                   obtain ⟨g, o, rfl, hg2, hc⟩ := hcell u hau
                                   have hsz := hn l[u] (List.getElem_mem hau)
                                   have hcu := (hB.cell (p := ⟨g, o + u, none⟩) hg2).trans hc
                                   have hhd : q.args.headD [] = l[u].data.toList := by rw [hR.args, ← HLL.out, List.drop_eq_getElem_cons (by simpa using hau)]; simp
                                   have HHD := Lib.hid hhd
                                   clear hhd
                                   go_wp2_with (first | (go_at_call 20; refine (rhas_verb _ true HV.out _).mono ?_; rintro e w' ⟨rfl, rfl⟩))
                                   refine (rconvert_any l[u] f[i + 2 + j] _ hsz HCC.out).mono ?_
                                   rintro e w2 ⟨rfl, hB2⟩
                                   have hAl := argL_len f[i + 2 + j] (l[u] : ByteArray).data.toList (by rw [← Lib.size_eq]; exact hsz)
                                   obtain ⟨AA, hAA⟩ : ∃ AA, (argL f[i + 2 + j] (l[u] : ByteArray).data.toList).1 = AA := ⟨_, rfl⟩
                                   obtain ⟨BB, hBB⟩ : ∃ BB, (argL f[i + 2 + j] (l[u] : ByteArray).data.toList).2 = BB := ⟨_, rfl⟩
                                   rw [hAA] at hAl
                                   rw [hAA, hBB]
                                   have HAA := Lib.hid hAA
                                   have HBB := Lib.hid hBB
                                   clear hAA hBB
                                   have hh2 := (hB2.block _ hbs1).trans hh1
                                   have hbox2 := hbox_below hbox1 hB2
                                   have d0 : w2.cell? ⟨w.heap.size, 0, none⟩ = some (.string ⟨q.out.toArray⟩) := by rw [cell_at hh2]; rfl
                                   have d2 : w2.cell? ⟨w.heap.size, 2, none⟩ = some (.bool q.bad) := by rw [cell_at hh2]; rfl
                                   have e0 := free_at hh2 0
                                   have e2 := free_at hh2 2
                                   have hB12 := hB1.trans (hB2.mono (Nat.le_of_lt hbs1))
                                   have HH2 := Lib.hid hh2
                                   clear hh2 hh1
                                   go_upto_region 31 with fail
                                   go_cut [] (fun wx => (w2.setCell ⟨w.heap.size, 2, none⟩ (.bool (q.bad || BB))) = wx)
                                   case first =>
                                     as_aux_lemma =>
                                      cases hqb : q.bad with
                                      | true =>
                                        rw [hqb] at d2
                                        have HQB := Lib.hid hqb
                                        clear hqb
                                        go_wp2
                                        go_meet
                                        rw [HQB.out]
                                        rfl
                                      | false =>
                                        rw [hqb] at d2
                                        have HQB := Lib.hid hqb
                                        clear hqb
                                        go_wp2
                                        go_meet
                                        rw [HQB.out]
                                        rfl
                                   case rest =>
                                     as_aux_lemma =>
                                      obtain rfl := hcut
                                      go_wp2
                                      go_loop [14] (fun v => ∃ V, v = .string ⟨V.toArray⟩ ∧ PadAt true wd AA V) (fun v => wd - strLen v)
                                      case atStart => exact ⟨AA, rfl, PadAt.zero _ _ _⟩
                                      case round =>
                                        obtain ⟨V, rfl, hPd⟩ := hrel
                                        have hVl := hPd.len
                                        by_cases hp : V.length < wd
                                        ·
                                          as_aux_lemma =>
                                           have hp' : (V.length : Int) < (wd : Int) := by omega
                                           have hnp := hPd.left hp
                                           have HNP := Lib.hid hnp
                                           clear hnp hPd
                                           go_wp2
                                           go_round
                                           case rel => exact ⟨_, by rw [outc], HNP.out⟩
                                           case measure => simp [strLen, list_size]; omega
                                        ·
                                          as_aux_lemma =>
                                           have hp' : (wd : Int) ≤ (V.length : Int) := by omega
                                           have hVd := hPd.done (by omega)
                                           have HVD := Lib.hid hVd
                                           clear hVd hPd
                                           go_wp2
                                           go_roundg (gk - (2 + j + 1))
                                           case measure => omega
                                           case rel => exact ⟨i + 2 + j + 1, u + 1, _, by go_num, by omega, ⟨HN.out, rconv_fin HH2.out hR.args H37.out HHD.out HAA.out HBB.out HVD.out rfl, by omega, (hB12.setCell (p := ⟨w.heap.size, 2, none⟩) (Nat.le_refl _) _).setCell (p := ⟨w.heap.size, 0, none⟩) (Nat.le_refl _) _, hbox_set (hbox_set hbox2)⟩⟩
                                ·
                                  as_aux_lemma =>
                                   have hsz : (⟨#[]⟩ : ByteArray).size ≤ 1000000 := by decide
                                   have hau' : l.length ≤ u := by omega
                                   have hhd : q.args.headD [] = (⟨#[]⟩ : ByteArray).data.toList := by rw [hR.args, ← HLL.out, List.drop_eq_nil_of_le (by simpa using hau')]; rfl
                                   have HHD := Lib.hid hhd
                                   clear hhd
                                   go_wp2_with (first | (go_at_call 20; refine (rhas_verb _ true HV.out _).mono ?_; rintro e w' ⟨rfl, rfl⟩))
                                   refine (rconvert_any ⟨#[]⟩ f[i + 2 + j] _ hsz HCC.out).mono ?_
                                   rintro e w2 ⟨rfl, hB2⟩
                                   have hAl := argL_len f[i + 2 + j] (⟨#[]⟩ : ByteArray).data.toList (by rw [← Lib.size_eq]; exact hsz)
                                   obtain ⟨AA, hAA⟩ : ∃ AA, (argL f[i + 2 + j] (⟨#[]⟩ : ByteArray).data.toList).1 = AA := ⟨_, rfl⟩
                                   obtain ⟨BB, hBB⟩ : ∃ BB, (argL f[i + 2 + j] (⟨#[]⟩ : ByteArray).data.toList).2 = BB := ⟨_, rfl⟩
                                   rw [hAA] at hAl
                                   rw [hAA, hBB]
                                   have HAA := Lib.hid hAA
                                   have HBB := Lib.hid hBB
                                   clear hAA hBB
                                   have hh2 := (hB2.block _ hbs1).trans hh1
                                   have hbox2 := hbox_below hbox1 hB2
                                   have d0 : w2.cell? ⟨w.heap.size, 0, none⟩ = some (.string ⟨q.out.toArray⟩) := by rw [cell_at hh2]; rfl
                                   have d2 : w2.cell? ⟨w.heap.size, 2, none⟩ = some (.bool q.bad) := by rw [cell_at hh2]; rfl
                                   have e0 := free_at hh2 0
                                   have e2 := free_at hh2 2
                                   have hB12 := hB1.trans (hB2.mono (Nat.le_of_lt hbs1))
                                   have HH2 := Lib.hid hh2
                                   clear hh2 hh1
                                   go_upto_region 31 with fail
                                   go_cut [] (fun wx => (w2.setCell ⟨w.heap.size, 2, none⟩ (.bool (q.bad || BB))) = wx)
                                   case first =>
                                     as_aux_lemma =>
                                      cases hqb : q.bad with
                                      | true =>
                                        rw [hqb] at d2
                                        have HQB := Lib.hid hqb
                                        clear hqb
                                        go_wp2
                                        go_meet
                                        rw [HQB.out]
                                        rfl
                                      | false =>
                                        rw [hqb] at d2
                                        have HQB := Lib.hid hqb
                                        clear hqb
                                        go_wp2
                                        go_meet
                                        rw [HQB.out]
                                        rfl
                                   case rest =>
                                     as_aux_lemma =>
                                      obtain rfl := hcut
                                      go_wp2
                                      go_loop [14] (fun v => ∃ V, v = .string ⟨V.toArray⟩ ∧ PadAt true wd AA V) (fun v => wd - strLen v)
                                      case atStart => exact ⟨AA, rfl, PadAt.zero _ _ _⟩
                                      case round =>
                                        obtain ⟨V, rfl, hPd⟩ := hrel
                                        have hVl := hPd.len
                                        by_cases hp : V.length < wd
                                        ·
                                          as_aux_lemma =>
                                           have hp' : (V.length : Int) < (wd : Int) := by omega
                                           have hnp := hPd.left hp
                                           have HNP := Lib.hid hnp
                                           clear hnp hPd
                                           go_wp2
                                           go_round
                                           case rel => exact ⟨_, by rw [outc], HNP.out⟩
                                           case measure => simp [strLen, list_size]; omega
                                        ·
                                          as_aux_lemma =>
                                           have hp' : (wd : Int) ≤ (V.length : Int) := by omega
                                           have hVd := hPd.done (by omega)
                                           have HVD := Lib.hid hVd
                                           clear hVd hPd
                                           go_wp2
                                           go_roundg (gk - (2 + j + 1))
                                           case measure => omega
                                           case rel => exact ⟨i + 2 + j + 1, u + 1, _, by go_num, by omega, ⟨HN.out, rconv_fin HH2.out hR.args H37.out HHD.out HAA.out HBB.out HVD.out rfl, by omega, (hB12.setCell (p := ⟨w.heap.size, 2, none⟩) (Nat.le_refl _) _).setCell (p := ⟨w.heap.size, 0, none⟩) (Nat.le_refl _) _, hbox_set (hbox_set hbox2)⟩⟩
                          ·
                            as_aux_lemma =>
                             have hcv : convL (f.data.toList.drop (i + 1)) = none := conv_none (k := 1) HP.out (by rfl) hV HEX.out (.inr ⟨hk2, by rw [hg]; exact hv⟩)
                             have HV := Lib.hid (decide_eq_false hv)
                             have hnx := hA.plain hl2 (fun e => by rw [hcl, h37] at e; exact absurd e (by decide)) (fun _ => hcv)
                             rw [hcl] at hnx
                             have HN := Lib.hid hnx
                             have HO := Lib.hid (hR.write (f.extract i (i + 1)) (q.out ++ [f[i]]) (out1 _ f i hlt))
                             clear hnx hcv hV hcl hA hg hv h37
                             go_wp2_with (first | (go_at_call 20; refine (rhas_verb _ false HV.out _).mono ?_; rintro e w' ⟨rfl, rfl⟩))
                             go_region
                             all_goals go_wp2
                             all_goals
                               go_roundg (gk - 1)
                               case measure => omega
                               case rel => exact ⟨i + 1, u, _, by go_num, by omega, ⟨HN.out, HO.out.drew, by omega, (hB.setCell (p := ⟨w.heap.size, 0, none⟩) (Nat.le_refl _) _).drew, hbox_set hbox⟩⟩
                       ·
                         as_aux_lemma =>
                          have hkk : 1 + j = (f.data.toList.drop (i + 1)).length := by have := hV.len; rw [List.length_drop, ← HL.out] at this ⊢; omega
                          have hcv : convL (f.data.toList.drop (i + 1)) = none := conv_none (k := 1) HP.out (by rfl) hV (.inr (.inl hkk)) (.inl hkk)
                          have hnx := hA.plain hl2 (fun e => by rw [hcl, h37] at e; exact absurd e (by decide)) (fun _ => hcv)
                          rw [hcl] at hnx
                          have HN := Lib.hid hnx
                          have HO := Lib.hid (hR.write (f.extract i (i + 1)) (q.out ++ [f[i]]) (out1 _ f i hlt))
                          clear hnx hcv hkk hV hcl hA h37
                          go_wp2
                          go_region
                          all_goals go_wp2
                          all_goals
                            go_roundg (gk - 1)
                            case measure => omega
                            case rel => exact ⟨i + 1, u, _, by go_num, by omega, ⟨HN.out, HO.out.drew, by omega, (hB.setCell (p := ⟨w.heap.size, 0, none⟩) (Nat.le_refl _) _).drew, hbox_set hbox⟩⟩
                    ·
                      as_aux_lemma =>
                       have t37 : ((f[i].toNat : Int) == 37) = false := u8_bne h37
                       have t37' : ((f[i].toNat : Int) != 37) = true := by rw [bne, t37]; rfl
                       have hnx := hA.plain hl2 HPL.out (fun e => by rw [hcl] at e; exact absurd e h37)
                       rw [hcl] at hnx
                       have HN := Lib.hid hnx
                       have HO := Lib.hid (hR.write (f.extract i (i + 1)) (q.out ++ [f[i]]) (out1 _ f i hlt))
                       clear hnx hV hcl hA h37
                       go_wp2
                       go_region
                       all_goals go_wp2
                       all_goals
                         go_roundg (gk - 1)
                         case measure => omega
                         case rel => exact ⟨i + 1, u, _, by go_num, by omega, ⟨HN.out, HO.out.drew, by omega, (hB.setCell (p := ⟨w.heap.size, 0, none⟩) (Nat.le_refl _) _).drew, hbox_set hbox⟩⟩
               | false =>
                as_aux_lemma =>
                 go_upto_block 2 with fail
                 go_cut [9, 11] (fun s9 s11 wx => ∃ j wd : Nat, s9 = .int .i64 ((i : Int) + 1 + (j : Int)) ∧ s11 = .int .i64 (wd : Int) ∧ ConvAt (f.data.toList.drop (i + 1)) 0 j wd ∧ (j = 2 ∨ 0 + j = (f.data.toList.drop (i + 1)).length ∨ ∃ h : 0 + j < (f.data.toList.drop (i + 1)).length, digitB (f.data.toList.drop (i + 1))[0 + j] = false) ∧ wr = wx)
                 case first =>
                   as_aux_lemma =>
                    go_wp2_with fail
                    go_loop [9, 11] (fun vk vw => ∃ j wd : Nat, vk = .int .i64 ((i : Int) + 1 + (j : Int)) ∧ vw = .int .i64 (wd : Int) ∧ ConvAt (f.data.toList.drop (i + 1)) 0 j wd) (fun vk _ => i + 3 - (intOf vk).toNat)
                    case atStart => exact ⟨0, 0, by go_num, rfl, ⟨by omega, by (rw [List.length_drop, ← HL.out]; omega), fun i hi => absurd hi (by omega), rfl⟩⟩
                    case round =>
                      obtain ⟨j, wd, rfl, rfl, hV⟩ := hrel
                      have hj2 := hV.two
                      have hbd := hV.bound
                      have hwd : wd ≤ 99 := by
                        have : (10 : Nat) ^ j ≤ 10 ^ 2 := Nat.pow_le_pow_right (by omega) hj2
                        omega
                      by_cases hk : i + 1 + j < f.size
                      ·
                        as_aux_lemma =>
                         have hk2 : 0 + j < (f.data.toList.drop (i + 1)).length := by rw [List.length_drop, ← HL.out]; omega
                         have hg : (f.data.toList.drop (i + 1))[0 + j] = f[i + 1 + j] := by
                           simp only [List.getElem_drop]
                           have e : i + 1 + (0 + j) = i + 1 + j := by omega
                           simp only [e]
                           rfl
                         by_cases hj : j < 2
                         ·
                           as_aux_lemma =>
                            cases hd : digitB f[i + 1 + j] with
                            | true =>
                              have hdv := digit_val hd
                              have hnx := hV.next hj hk2 (by rw [hg]; exact hd)
                              rw [hg] at hnx
                              have hcast : ((10 * wd + (f[i + 1 + j].toNat - 48) : Nat) : Int) = 10 * (wd : Int) + ((f[i + 1 + j].toNat : Int) - 48) := by omega
                              have HC := Lib.hid hcast
                              have HNX := Lib.hid hnx
                              have HD := Lib.hid hd
                              clear hg hd hcast hnx hV
                              go_wp2_with (go_at_call 21; refine (rDigit_any _ _).mono ?_; rintro e w' ⟨rfl, rfl⟩; simp only [HD.out])
                              go_round
                              case rel => exact ⟨j + 1, _, by go_num, by rw [HC.out], HNX.out⟩
                              case measure => simp [intOf]; omega
                            | false =>
                              have HV := Lib.hid hV
                              have HEX : Hid (j = 2 ∨ 0 + j = (f.data.toList.drop (i + 1)).length ∨ ∃ h : 0 + j < (f.data.toList.drop (i + 1)).length, digitB (f.data.toList.drop (i + 1))[0 + j] = false) := Lib.hid (.inr (.inr ⟨hk2, by rw [hg]; exact hd⟩))
                              have HD := Lib.hid hd
                              clear hd hg hV
                              go_wp2_with (go_at_call 21; refine (rDigit_any _ _).mono ?_; rintro e w' ⟨rfl, rfl⟩; simp only [HD.out])
                              go_meet
                              exact ⟨j, wd, rfl, rfl, HV.out, HEX.out, rfl⟩
                         ·
                           as_aux_lemma =>
                            have HV := Lib.hid hV
                            have HEX : Hid (j = 2 ∨ 0 + j = (f.data.toList.drop (i + 1)).length ∨ ∃ h : 0 + j < (f.data.toList.drop (i + 1)).length, digitB (f.data.toList.drop (i + 1))[0 + j] = false) := Lib.hid (.inl (by omega))
                            clear hg hV
                            go_wp2
                            go_meet
                            exact ⟨j, wd, rfl, rfl, HV.out, HEX.out, rfl⟩
                      ·
                        as_aux_lemma =>
                         have HV := Lib.hid hV
                         have HEX : Hid (j = 2 ∨ 0 + j = (f.data.toList.drop (i + 1)).length ∨ ∃ h : 0 + j < (f.data.toList.drop (i + 1)).length, digitB (f.data.toList.drop (i + 1))[0 + j] = false) := Lib.hid (.inr (.inl (by have := hV.len; rw [List.length_drop, ← HL.out] at this ⊢; omega)))
                         clear hV
                         go_wp2
                         go_meet
                         exact ⟨j, wd, rfl, rfl, HV.out, HEX.out, rfl⟩
                 case rest =>
                   as_aux_lemma =>
                    obtain ⟨j, wd, rfl, rfl, hV, hex, rfl⟩ := hcut
                    have HEX := Lib.hid hex
                    clear hex
                    have hj2 := hV.two
                    have hbd := hV.bound
                    have hwd : wd ≤ 99 := by
                      have : (10 : Nat) ^ j ≤ 10 ^ 2 := Nat.pow_le_pow_right (by omega) hj2
                      omega
                    by_cases h37 : f[i] = 37
                    ·
                      as_aux_lemma =>
                       have t37 : ((f[i].toNat : Int) == 37) = true := u8_beq h37
                       have t37' : ((f[i].toNat : Int) != 37) = false := by rw [bne, t37]; rfl
                       by_cases hk : i + 1 + j < f.size
                       ·
                         as_aux_lemma =>
                          have hk2 : 0 + j < (f.data.toList.drop (i + 1)).length := by rw [List.length_drop, ← HL.out]; omega
                          have hg : (f.data.toList.drop (i + 1))[0 + j] = f[i + 1 + j] := by
                            simp only [List.getElem_drop]
                            have e : i + 1 + (0 + j) = i + 1 + j := by omega
                            simp only [e]
                            rfl
                          by_cases hv : f[i + 1 + j] ∈ ([115, 100, 120, 111, 99, 37] : List UInt8)
                          ·
                            as_aux_lemma =>
                             have hcv : convL (f.data.toList.drop (i + 1)) = some (false, wd, f[i + 1 + j], 0 + j + 1) := by
                               rw [← hg]
                               exact conv_some (k := 0) HP.out (by rfl) hV HEX.out hk2 (by rw [hg]; exact hv)
                             have hnx := hA.conv hl2 (hcl.trans h37) hcv (by omega) hwd
                             have HV := Lib.hid (decide_eq_true hv)
                             rw [show i + 1 + (0 + j + 1) = i + 1 + j + 1 by omega] at hnx
                             have hcc := convLD hv
                             by_cases hc37 : f[i + 1 + j] = 37
                             ·
                               as_aux_lemma =>
                                have tc : ((f[i + 1 + j].toNat : Int) == 37) = true := u8_beq hc37
                                rw [hc37] at hnx
                                have HN := Lib.hid hnx
                                have HO := Lib.hid (hR.write ⟨#[37]⟩ (q.out ++ [37]) (outc _ _))
                                clear hnx hcv hV hcl hA hg hv hc37 hcc h37
                                go_wp2_with (first | (go_at_call 20; refine (rhas_verb _ true HV.out _).mono ?_; rintro e w' ⟨rfl, rfl⟩))
                                go_roundg (gk - (1 + j + 1))
                                case measure => omega
                                case rel => exact ⟨i + 1 + j + 1, u, _, by go_num, by omega, ⟨HN.out, HO.out, by omega, (hB.setCell (p := ⟨w.heap.size, 0, none⟩) (Nat.le_refl _) _), hbox_set hbox⟩⟩
                             ·
                               as_aux_lemma =>
                                have tc : ((f[i + 1 + j].toNat : Int) == 37) = false := u8_bne hc37
                                have HN := Lib.hid hnx
                                have HCC := Lib.hid (hcc hc37)
                                have H37 := Lib.hid hc37
                                clear hnx hcv hV hcl hA hg hv hc37 hcc h37
                                have hbs := lt_of_block hR.heap
                                have hbs1 : w.heap.size < (wr.setCell ⟨w.heap.size, 1, none⟩ (.int .i64 ((u : Int) + 1))).heap.size := by simpa [World.setCell] using hbs
                                have hB1 := hB.setCell (p := ⟨w.heap.size, 1, none⟩) (Nat.le_refl _) (.int .i64 ((u : Int) + 1))
                                have hbox1 := hbox_set (o := 1) (v := .int .i64 ((u : Int) + 1)) hbox
                                have hh1 := heap_set hR.heap (i := 1) (.int .i64 ((u : Int) + 1))
                                by_cases hau : u < l.length
                                ·
                                  as_aux_lemma =>
                                   obtain ⟨g, o, rfl, hg2, hc⟩ := hcell u hau
                                   have hsz := hn l[u] (List.getElem_mem hau)
                                   have hcu := (hB.cell (p := ⟨g, o + u, none⟩) hg2).trans hc
                                   have hhd : q.args.headD [] = l[u].data.toList := by rw [hR.args, ← HLL.out, List.drop_eq_getElem_cons (by simpa using hau)]; simp
                                   have HHD := Lib.hid hhd
                                   clear hhd
                                   go_wp2_with (first | (go_at_call 20; refine (rhas_verb _ true HV.out _).mono ?_; rintro e w' ⟨rfl, rfl⟩))
                                   refine (rconvert_any l[u] f[i + 1 + j] _ hsz HCC.out).mono ?_
                                   rintro e w2 ⟨rfl, hB2⟩
                                   have hAl := argL_len f[i + 1 + j] (l[u] : ByteArray).data.toList (by rw [← Lib.size_eq]; exact hsz)
                                   obtain ⟨AA, hAA⟩ : ∃ AA, (argL f[i + 1 + j] (l[u] : ByteArray).data.toList).1 = AA := ⟨_, rfl⟩
                                   obtain ⟨BB, hBB⟩ : ∃ BB, (argL f[i + 1 + j] (l[u] : ByteArray).data.toList).2 = BB := ⟨_, rfl⟩
                                   rw [hAA] at hAl
                                   rw [hAA, hBB]
                                   have HAA := Lib.hid hAA
                                   have HBB := Lib.hid hBB
                                   clear hAA hBB
                                   have hh2 := (hB2.block _ hbs1).trans hh1
                                   have hbox2 := hbox_below hbox1 hB2
                                   have d0 : w2.cell? ⟨w.heap.size, 0, none⟩ = some (.string ⟨q.out.toArray⟩) := by rw [cell_at hh2]; rfl
                                   have d2 : w2.cell? ⟨w.heap.size, 2, none⟩ = some (.bool q.bad) := by rw [cell_at hh2]; rfl
                                   have e0 := free_at hh2 0
                                   have e2 := free_at hh2 2
                                   have hB12 := hB1.trans (hB2.mono (Nat.le_of_lt hbs1))
                                   have HH2 := Lib.hid hh2
                                   clear hh2 hh1
                                   go_upto_region 31 with fail
                                   go_cut [] (fun wx => (w2.setCell ⟨w.heap.size, 2, none⟩ (.bool (q.bad || BB))) = wx)
                                   case first =>
                                     as_aux_lemma =>
                                      cases hqb : q.bad with
                                      | true =>
                                        rw [hqb] at d2
                                        have HQB := Lib.hid hqb
                                        clear hqb
                                        go_wp2
                                        go_meet
                                        rw [HQB.out]
                                        rfl
                                      | false =>
                                        rw [hqb] at d2
                                        have HQB := Lib.hid hqb
                                        clear hqb
                                        go_wp2
                                        go_meet
                                        rw [HQB.out]
                                        rfl
                                   case rest =>
                                     as_aux_lemma =>
                                      obtain rfl := hcut
                                      go_wp2
                                      go_loop [14] (fun v => ∃ V, v = .string ⟨V.toArray⟩ ∧ PadAt false wd AA V) (fun v => wd - strLen v)
                                      case atStart => exact ⟨AA, rfl, PadAt.zero _ _ _⟩
                                      case round =>
                                        obtain ⟨V, rfl, hPd⟩ := hrel
                                        have hVl := hPd.len
                                        by_cases hp : V.length < wd
                                        ·
                                          as_aux_lemma =>
                                           have hp' : (V.length : Int) < (wd : Int) := by omega
                                           have hnp := hPd.right hp
                                           have HNP := Lib.hid hnp
                                           clear hnp hPd
                                           go_wp2
                                           go_round
                                           case rel => exact ⟨_, by rw [cout], HNP.out⟩
                                           case measure => simp [strLen, list_size]; omega
                                        ·
                                          as_aux_lemma =>
                                           have hp' : (wd : Int) ≤ (V.length : Int) := by omega
                                           have hVd := hPd.done (by omega)
                                           have HVD := Lib.hid hVd
                                           clear hVd hPd
                                           go_wp2
                                           go_roundg (gk - (1 + j + 1))
                                           case measure => omega
                                           case rel => exact ⟨i + 1 + j + 1, u + 1, _, by go_num, by omega, ⟨HN.out, rconv_fin HH2.out hR.args H37.out HHD.out HAA.out HBB.out HVD.out rfl, by omega, (hB12.setCell (p := ⟨w.heap.size, 2, none⟩) (Nat.le_refl _) _).setCell (p := ⟨w.heap.size, 0, none⟩) (Nat.le_refl _) _, hbox_set (hbox_set hbox2)⟩⟩
                                ·
                                  as_aux_lemma =>
                                   have hsz : (⟨#[]⟩ : ByteArray).size ≤ 1000000 := by decide
                                   have hau' : l.length ≤ u := by omega
                                   have hhd : q.args.headD [] = (⟨#[]⟩ : ByteArray).data.toList := by rw [hR.args, ← HLL.out, List.drop_eq_nil_of_le (by simpa using hau')]; rfl
                                   have HHD := Lib.hid hhd
                                   clear hhd
                                   go_wp2_with (first | (go_at_call 20; refine (rhas_verb _ true HV.out _).mono ?_; rintro e w' ⟨rfl, rfl⟩))
                                   refine (rconvert_any ⟨#[]⟩ f[i + 1 + j] _ hsz HCC.out).mono ?_
                                   rintro e w2 ⟨rfl, hB2⟩
                                   have hAl := argL_len f[i + 1 + j] (⟨#[]⟩ : ByteArray).data.toList (by rw [← Lib.size_eq]; exact hsz)
                                   obtain ⟨AA, hAA⟩ : ∃ AA, (argL f[i + 1 + j] (⟨#[]⟩ : ByteArray).data.toList).1 = AA := ⟨_, rfl⟩
                                   obtain ⟨BB, hBB⟩ : ∃ BB, (argL f[i + 1 + j] (⟨#[]⟩ : ByteArray).data.toList).2 = BB := ⟨_, rfl⟩
                                   rw [hAA] at hAl
                                   rw [hAA, hBB]
                                   have HAA := Lib.hid hAA
                                   have HBB := Lib.hid hBB
                                   clear hAA hBB
                                   have hh2 := (hB2.block _ hbs1).trans hh1
                                   have hbox2 := hbox_below hbox1 hB2
                                   have d0 : w2.cell? ⟨w.heap.size, 0, none⟩ = some (.string ⟨q.out.toArray⟩) := by rw [cell_at hh2]; rfl
                                   have d2 : w2.cell? ⟨w.heap.size, 2, none⟩ = some (.bool q.bad) := by rw [cell_at hh2]; rfl
                                   have e0 := free_at hh2 0
                                   have e2 := free_at hh2 2
                                   have hB12 := hB1.trans (hB2.mono (Nat.le_of_lt hbs1))
                                   have HH2 := Lib.hid hh2
                                   clear hh2 hh1
                                   go_upto_region 31 with fail
                                   go_cut [] (fun wx => (w2.setCell ⟨w.heap.size, 2, none⟩ (.bool (q.bad || BB))) = wx)
                                   case first =>
                                     as_aux_lemma =>
                                      cases hqb : q.bad with
                                      | true =>
                                        rw [hqb] at d2
                                        have HQB := Lib.hid hqb
                                        clear hqb
                                        go_wp2
                                        go_meet
                                        rw [HQB.out]
                                        rfl
                                      | false =>
                                        rw [hqb] at d2
                                        have HQB := Lib.hid hqb
                                        clear hqb
                                        go_wp2
                                        go_meet
                                        rw [HQB.out]
                                        rfl
                                   case rest =>
                                     as_aux_lemma =>
                                      obtain rfl := hcut
                                      go_wp2
                                      go_loop [14] (fun v => ∃ V, v = .string ⟨V.toArray⟩ ∧ PadAt false wd AA V) (fun v => wd - strLen v)
                                      case atStart => exact ⟨AA, rfl, PadAt.zero _ _ _⟩
                                      case round =>
                                        obtain ⟨V, rfl, hPd⟩ := hrel
                                        have hVl := hPd.len
                                        by_cases hp : V.length < wd
                                        ·
                                          as_aux_lemma =>
                                           have hp' : (V.length : Int) < (wd : Int) := by omega
                                           have hnp := hPd.right hp
                                           have HNP := Lib.hid hnp
                                           clear hnp hPd
                                           go_wp2
                                           go_round
                                           case rel => exact ⟨_, by rw [cout], HNP.out⟩
                                           case measure => simp [strLen, list_size]; omega
                                        ·
                                          as_aux_lemma =>
                                           have hp' : (wd : Int) ≤ (V.length : Int) := by omega
                                           have hVd := hPd.done (by omega)
                                           have HVD := Lib.hid hVd
                                           clear hVd hPd
                                           go_wp2
                                           go_roundg (gk - (1 + j + 1))
                                           case measure => omega
                                           case rel => exact ⟨i + 1 + j + 1, u + 1, _, by go_num, by omega, ⟨HN.out, rconv_fin HH2.out hR.args H37.out HHD.out HAA.out HBB.out HVD.out rfl, by omega, (hB12.setCell (p := ⟨w.heap.size, 2, none⟩) (Nat.le_refl _) _).setCell (p := ⟨w.heap.size, 0, none⟩) (Nat.le_refl _) _, hbox_set (hbox_set hbox2)⟩⟩
                          ·
                            as_aux_lemma =>
                             have hcv : convL (f.data.toList.drop (i + 1)) = none := conv_none (k := 0) HP.out (by rfl) hV HEX.out (.inr ⟨hk2, by rw [hg]; exact hv⟩)
                             have HV := Lib.hid (decide_eq_false hv)
                             have hnx := hA.plain hl2 (fun e => by rw [hcl, h37] at e; exact absurd e (by decide)) (fun _ => hcv)
                             rw [hcl] at hnx
                             have HN := Lib.hid hnx
                             have HO := Lib.hid (hR.write (f.extract i (i + 1)) (q.out ++ [f[i]]) (out1 _ f i hlt))
                             clear hnx hcv hV hcl hA hg hv h37
                             go_wp2_with (first | (go_at_call 20; refine (rhas_verb _ false HV.out _).mono ?_; rintro e w' ⟨rfl, rfl⟩))
                             go_region
                             all_goals go_wp2
                             all_goals
                               go_roundg (gk - 1)
                               case measure => omega
                               case rel => exact ⟨i + 1, u, _, by go_num, by omega, ⟨HN.out, HO.out.drew, by omega, (hB.setCell (p := ⟨w.heap.size, 0, none⟩) (Nat.le_refl _) _).drew, hbox_set hbox⟩⟩
                       ·
                         as_aux_lemma =>
                          have hkk : 0 + j = (f.data.toList.drop (i + 1)).length := by have := hV.len; rw [List.length_drop, ← HL.out] at this ⊢; omega
                          have hcv : convL (f.data.toList.drop (i + 1)) = none := conv_none (k := 0) HP.out (by rfl) hV (.inr (.inl hkk)) (.inl hkk)
                          have hnx := hA.plain hl2 (fun e => by rw [hcl, h37] at e; exact absurd e (by decide)) (fun _ => hcv)
                          rw [hcl] at hnx
                          have HN := Lib.hid hnx
                          have HO := Lib.hid (hR.write (f.extract i (i + 1)) (q.out ++ [f[i]]) (out1 _ f i hlt))
                          clear hnx hcv hkk hV hcl hA h37
                          go_wp2
                          go_region
                          all_goals go_wp2
                          all_goals
                            go_roundg (gk - 1)
                            case measure => omega
                            case rel => exact ⟨i + 1, u, _, by go_num, by omega, ⟨HN.out, HO.out.drew, by omega, (hB.setCell (p := ⟨w.heap.size, 0, none⟩) (Nat.le_refl _) _).drew, hbox_set hbox⟩⟩
                    ·
                      as_aux_lemma =>
                       have t37 : ((f[i].toNat : Int) == 37) = false := u8_bne h37
                       have t37' : ((f[i].toNat : Int) != 37) = true := by rw [bne, t37]; rfl
                       have hnx := hA.plain hl2 HPL.out (fun e => by rw [hcl] at e; exact absurd e h37)
                       rw [hcl] at hnx
                       have HN := Lib.hid hnx
                       have HO := Lib.hid (hR.write (f.extract i (i + 1)) (q.out ++ [f[i]]) (out1 _ f i hlt))
                       clear hnx hV hcl hA h37
                       go_wp2
                       go_region
                       all_goals go_wp2
                       all_goals
                         go_roundg (gk - 1)
                         case measure => omega
                         case rel => exact ⟨i + 1, u, _, by go_num, by omega, ⟨HN.out, HO.out.drew, by omega, (hB.setCell (p := ⟨w.heap.size, 0, none⟩) (Nat.le_refl _) _).drew, hbox_set hbox⟩⟩
    ·
      as_aux_lemma =>
       have hi : i = f.data.toList.length := by rw [← HL.out]; omega
       have hend : onceL f.data.toList p = q := by
         rw [← hA.same, hi, List.drop_length, onceL_nil]
       obtain ⟨C, hC, hC3⟩ := hbox
       have hfin : ∀ W, Below w.heap.size w W → ROncePost L f.data.toList p u0 w (.returned (.agg #[.string ⟨q.out.toArray⟩, .int .i64 (u : Int), .bool q.bad])) W := fun W hW =>
         ⟨u, by rw [hend], by rw [hend]; exact hR.args, by rw [hend]; exact hR.used, by omega, hW⟩
       have HF := Lib.hid hfin
       obtain ⟨x, y, z, rfl⟩ := arr3 hC3
       have x0 : wr.cell? ⟨w.heap.size + 1, 0, none⟩ = some x := by rw [cell_at hC]; rfl
       have x1 : wr.cell? ⟨w.heap.size + 1, 1, none⟩ = some y := by rw [cell_at hC]; rfl
       have x2 : wr.cell? ⟨w.heap.size + 1, 2, none⟩ = some z := by rw [cell_at hC]; rfl
       have g0 := free_at hC 0
       have g1 := free_at hC 1
       have g2 := free_at hC 2
       obtain ⟨V1, V2, V3⟩ := res3 (a := .string ⟨q.out.toArray⟩) (b := .int .i64 (u : Int)) (c := .bool q.bad) hC
       clear hend hi hA hfin
       go_wp2
       exact bodyPost_ret (v := .agg #[.string ⟨q.out.toArray⟩, .int .i64 (u : Int), .bool q.bad]) (by simp [results, Tryd.results13, go_sem, V1, V2, V3]) rfl (HF.out _ (((hB.setCell (p := ⟨w.heap.size + 1, 0, none⟩) (by simp) _).setCell (p := ⟨w.heap.size + 1, 1, none⟩) (by simp) _).setCell (p := ⟨w.heap.size + 1, 2, none⟩) (by simp) _))
end Go.Proofs.YtkkejlmpimamdaaDoor
