import Derived.Test.YtkkejlmpimamdaaDoorOnce
set_option linter.unusedVariables false
set_option linter.unusedSimpArgs false
namespace Go.Proofs.YtkkejlmpimamdaaDoor
open Go.RowKit

theorem u8_ne {c d : UInt8} (h : ¬ c = d) : ((c.toNat : Int) == (d.toNat : Int)) = false := by
  simp
  intro e
  exact h (UInt8.toNat_inj.1 (by omega))

theorem pw_drewN (w : World) (n : Nat) : Below w.heap.size w (w.drewN n) := by
  induction n with
  | zero => exact Below.refl _ _
  | succ n ih => rw [← World.drew_drewN]; exact ih.drew

theorem BuAt.drewN {T B b : Nat} {bs : List UInt8} {C : Array Value} {w : World} (h : BuAt T B b bs C w) (n : Nat) : BuAt T B b bs C (w.drewN n) := by
  obtain ⟨h1, h2, h3, v, h4, h5, h6⟩ := h
  have hb := pw_drewN w n
  have hg : w.grownBy (w.drewN n) none := ⟨hb.os, hb.tape, hb.output, hb.size, fun i hi _ => hb.block i hi⟩
  exact ⟨h1, (hb.block b (lt_of_block h2)).trans h2, h3, v, h4, h5.kept hg (by cases v.ownBlock <;> simp), h6⟩

theorem PrC.drewN {B b : Nat} {p : PS} {C : Array Value} {w : World} (h : PrC B b p C w) (n : Nat) : PrC B b p C (w.drewN n) := by
  obtain ⟨hbu, hsz, ⟨av, al, hav, hal, hT⟩, hu, hbad⟩ := h
  have hB : B ≤ w.heap.size := by have := hbu.hB; have := lt_of_block hbu.heap; omega
  exact ⟨hbu.drewN n, hsz, ⟨av, al, hav, hal, hT.below ((pw_drewN w n).mono hB)⟩, hu, hbad⟩

def OncePost (B b : Nat) (f : List UInt8) (p : PS) (w : World) (e : Ending) (w' : World) : Prop :=
  e = .returned (.tuple #[]) ∧ PrAt B b (onceL f p) w' ∧ Below B w w'

def OnceRel (B b : Nat) (f : List UInt8) (p0 : PS) (w : World) (vi : Value) (wr : World) : Prop :=
  ∃ (i : Nat) (p : PS), vi = .int .i64 (i : Int) ∧ OnceAt f p0 i p ∧ PrAt B b p wr ∧ Below B w wr

set_option maxHeartbeats 4000000 in
set_option maxRecDepth 100000 in
theorem once_any (B b : Nat) (p : PS) (f : ByteArray) (w : World) (h : PrAt B b p w) (hf : f.size ≤ 1000) (hsm : p.out.length ≤ 10000000000) (hargs : ∀ a ∈ p.args, a.length ≤ 1000000) :
    Calls Tryd.prog 10 #[.pointer (some ⟨b, 0, none⟩), .string f] w (OncePost B b f.data.toList p w) := by
  have hl := Lib.size_eq f
  have HL := Lib.hid hl
  clear hl
  go_enter Tryd.func10, Tryd.ntmps10
  go_wp2
  go_loopw [4] (fun vi wr => ∃ (i : Nat) (q : PS), vi = .int .i64 (i : Int) ∧ OnceAt f.data.toList p i q ∧ PrAt B b q wr ∧ Below B w wr) (fun vi _ => f.size - (intOf vi).toNat)
  case atStart => exact ⟨0, p, rfl, ⟨by omega, rfl, by rw [← HL.out]; omega, hargs⟩, h, Below.refl _ _⟩
  case round =>
    obtain ⟨i, q, rfl, hA, hP, hB⟩ := hrel
    obtain ⟨hlt0, hBb⟩ := hP.lt
    have hBw : B ≤ wr.heap.size := by omega
    have hle := hA.le
    rw [← HL.out] at hle
    obtain ⟨C, hC⟩ := id hP
    have hq := hA.fits.out
    have hT : BuT 36 C.size := by rw [hC.size]; exact buT5
    have hs1 : 1 < C.size := by rw [hC.size]; omega
    by_cases hlt : i < f.size
    · have hl2 : i < f.data.toList.length := by rw [← HL.out]; exact hlt
      have hcl : f.data.toList[i] = f[i] := rfl
      by_cases h92 : f[i] = 92
      · have t92 : ((f[i].toNat : Int) == 92) = true := by rw [h92]; rfl
        have t37 : ((f[i].toNat : Int) == 37) = false := by rw [h92]; rfl
        by_cases hlt1 : i + 1 < f.size
        · have hl3 : i + 1 < f.data.toList.length := by rw [← HL.out]; exact hlt1
          have hcl1 : f.data.toList[i + 1] = f[i + 1] := rfl
          cases he : escL f[i + 1] with
          | none =>
            have hnx := hA.plain hl2 (fun _ _ => he) (fun e => by rw [hcl, h92] at e; exact absurd e (by decide))
            rw [hcl] at hnx
            have HX := Lib.hid (esc_neg _ he)
            have HN := Lib.hid hnx
            clear hnx hcl h92 hA hcl1 he
            go_wp2_with (go_at_call 16; refine (esc_index _ (-1) HX.out _).mono ?_; rintro e w' ⟨rfl, rfl⟩)
            go_region_with ((go_at_call 17; refine (writeByte_any 36 B b q.out C f[i] _ hT hs1 (hC.bu.drewN 1) (by omega) (by exact hBw)).mono ?_; rintro e w10 ⟨rfl, hW⟩))
            all_goals go_wp2
            all_goals
              go_roundw
              case rel => exact ⟨i + 1, _, by go_num, HN.out, (hC.drewN 1).wrote hW, (hB.trans ((pw_drewN wr 1).mono hBw)).trans hW.below⟩
              case measure => simp [intOf]; omega
          | some e =>
            have hnx := hA.esc hl3 (hcl.trans h92) he
            have HN := Lib.hid hnx
            rcases esc_cases he with ⟨hd, rfl⟩ | ⟨hd, rfl⟩ | ⟨hd, rfl⟩ | ⟨hd, rfl⟩
            · have HX : Hid (Lib.indexByte [110, 116, 92, 34] f[i + 1] = 0) := Lib.hid (by rw [hd]; decide)
              clear hnx hcl h92 hA hcl1 he hd
              go_wp2_with (go_at_call 16; refine (esc_index _ 0 HX.out _).mono ?_; rintro e w' ⟨rfl, rfl⟩)
              go_region_with ((go_at_call 17; refine (writeByte_any 36 B b q.out C 10 _ hT hs1 (hC.bu.drewN 1) (by omega) (by exact hBw)).mono ?_; rintro e w10 ⟨rfl, hW⟩))
              all_goals go_wp2
              all_goals
                go_roundw
                case rel => exact ⟨i + 2, _, by go_num, HN.out, (hC.drewN 1).wrote hW, (hB.trans ((pw_drewN wr 1).mono hBw)).trans hW.below⟩
                case measure => simp [intOf]; omega
            · have HX : Hid (Lib.indexByte [110, 116, 92, 34] f[i + 1] = 1) := Lib.hid (by rw [hd]; decide)
              clear hnx hcl h92 hA hcl1 he hd
              go_wp2_with (go_at_call 16; refine (esc_index _ 1 HX.out _).mono ?_; rintro e w' ⟨rfl, rfl⟩)
              go_region_with ((go_at_call 17; refine (writeByte_any 36 B b q.out C 9 _ hT hs1 (hC.bu.drewN 1) (by omega) (by exact hBw)).mono ?_; rintro e w10 ⟨rfl, hW⟩))
              all_goals go_wp2
              all_goals
                go_roundw
                case rel => exact ⟨i + 2, _, by go_num, HN.out, (hC.drewN 1).wrote hW, (hB.trans ((pw_drewN wr 1).mono hBw)).trans hW.below⟩
                case measure => simp [intOf]; omega
            · have HX : Hid (Lib.indexByte [110, 116, 92, 34] f[i + 1] = 2) := Lib.hid (by rw [hd]; decide)
              clear hnx hcl h92 hA hcl1 he hd
              go_wp2_with (go_at_call 16; refine (esc_index _ 2 HX.out _).mono ?_; rintro e w' ⟨rfl, rfl⟩)
              go_region_with ((go_at_call 17; refine (writeByte_any 36 B b q.out C 92 _ hT hs1 (hC.bu.drewN 1) (by omega) (by exact hBw)).mono ?_; rintro e w10 ⟨rfl, hW⟩))
              all_goals go_wp2
              all_goals
                go_roundw
                case rel => exact ⟨i + 2, _, by go_num, HN.out, (hC.drewN 1).wrote hW, (hB.trans ((pw_drewN wr 1).mono hBw)).trans hW.below⟩
                case measure => simp [intOf]; omega
            · have HX : Hid (Lib.indexByte [110, 116, 92, 34] f[i + 1] = 3) := Lib.hid (by rw [hd]; decide)
              clear hnx hcl h92 hA hcl1 he hd
              go_wp2_with (go_at_call 16; refine (esc_index _ 3 HX.out _).mono ?_; rintro e w' ⟨rfl, rfl⟩)
              go_region_with ((go_at_call 17; refine (writeByte_any 36 B b q.out C 34 _ hT hs1 (hC.bu.drewN 1) (by omega) (by exact hBw)).mono ?_; rintro e w10 ⟨rfl, hW⟩))
              all_goals go_wp2
              all_goals
                go_roundw
                case rel => exact ⟨i + 2, _, by go_num, HN.out, (hC.drewN 1).wrote hW, (hB.trans ((pw_drewN wr 1).mono hBw)).trans hW.below⟩
                case measure => simp [intOf]; omega
        · have hnx := hA.plain hl2 (fun _ hd => absurd hd (by rw [← HL.out]; exact hlt1)) (fun e => by rw [hcl, h92] at e; exact absurd e (by decide))
          rw [hcl] at hnx
          have HN := Lib.hid hnx
          clear hnx hcl h92 hA
          go_wp2
          go_region_with ((go_at_call 17; refine (writeByte_any 36 B b q.out C f[i] _ hT hs1 (hC.bu.drewN 1) (by omega) (by exact hBw)).mono ?_; rintro e w10 ⟨rfl, hW⟩))
          all_goals go_wp2
          all_goals
            go_roundw
            case rel => exact ⟨i + 1, _, by go_num, HN.out, (hC.drewN 1).wrote hW, (hB.trans ((pw_drewN wr 1).mono hBw)).trans hW.below⟩
            case measure => simp [intOf]; omega
      · by_cases h37 : f[i] = 37
        · have t92 : ((f[i].toNat : Int) == 92) = false := u8_ne h92
          have t37 : ((f[i].toNat : Int) == 37) = true := by rw [h37]; rfl
          have hex : (f.extract (i + 1) f.size).data.toList = f.data.toList.drop (i + 1) := by
            rw [Lib.extract_data]; exact List.take_of_length_le (by simp)
          have hexs : (f.extract (i + 1) f.size).size ≤ 1000000 := by
            rw [Lib.size_eq, hex]; simp; omega
          have HX := Lib.hid hex
          clear hex
          go_wp2_with fail
          refine (conversion_any _ _ hexs).mono ?_
          rintro e w2 ⟨l, wd, v, n, rfl, hB2, hCv⟩
          rw [HX.out] at hCv
          rcases hCv with ⟨hcv, rfl⟩ | ⟨hcv, hn0, hnl, hwd, hv⟩
          · have hnx := hA.plain hl2 (fun e => absurd e h92) (fun _ => hcv)
            rw [hcl] at hnx
            have HN := Lib.hid hnx
            have hP3 : PrAt B b q (w2.alloc (.cells #[.bool l, .int .i64 (wd : Int), .int .u8 (v.toNat : Int)] 53)) := (hP.below hBw hB2).alloc (by have := hB2.size; omega) _
            obtain ⟨C3, hC3⟩ := id hP3
            have hT3 : BuT 36 C3.size := by rw [hC3.size]; exact buT5
            have hs3 : 1 < C3.size := by rw [hC3.size]; omega
            have hBw2 : B ≤ w2.heap.size := by have := hB2.size; omega
            have hB3 : Below B w (w2.alloc (.cells #[.bool l, .int .i64 (wd : Int), .int .u8 (v.toNat : Int)] 53)) := (hB.trans (hB2.mono hBw)).alloc hBw2 _
            have hBw3 : B ≤ (w2.alloc (.cells #[.bool l, .int .i64 (wd : Int), .int .u8 (v.toNat : Int)] 53)).heap.size := Nat.le_trans hP3.lt.2 (Nat.le_of_lt hP3.lt.1)
            clear hnx hcl h92 h37 hA hC hP
            go_wp2
            go_region_with ((go_at_call 17; refine (writeByte_any 36 B b q.out C3 f[i] _ hT3 hs3 (hC3.bu.drewN 1) (by omega) (by exact hBw3)).mono ?_; rintro e w10 ⟨rfl, hW⟩))
            all_goals go_wp2
            all_goals
              go_roundw
              case rel => exact ⟨i + 1, _, by go_num, HN.out, (hC3.drewN 1).wrote hW, (hB3.trans ((pw_drewN _ 1).mono hBw3)).trans hW.below⟩
              case measure => simp [intOf]; omega
          · have hnx := hA.conv hl2 (hcl.trans h37) hcv hnl hwd
            have HN := Lib.hid hnx
            have hfits := hA.fits
            have hP3 : PrAt B b q (w2.alloc (.cells #[.bool l, .int .i64 (wd : Int), .int .u8 (v.toNat : Int)] 53)) := (hP.below hBw hB2).alloc (by have := hB2.size; omega) _
            have hBw2 : B ≤ w2.heap.size := by have := hB2.size; omega
            have hB3 : Below B w (w2.alloc (.cells #[.bool l, .int .i64 (wd : Int), .int .u8 (v.toNat : Int)] 53)) := (hB.trans (hB2.mono hBw)).alloc hBw2 _
            have hnle := hnx.le
            rw [← HL.out] at hnle
            have hn0' : (0 : Int) < (n : Int) := by omega
            have HV := Lib.hid hv
            clear hnx hcl h92 h37 hA hC hP hcv hv hnl
            go_wp2_with fail
            refine (convert_any B b q l wd v HV.out _ hP3 hfits hwd).mono ?_
            rintro e w4 ⟨rfl, hP4, hB4⟩
            go_wp2
            go_roundw
            case rel => exact ⟨i + 1 + n, _, by go_num, HN.out, hP4, hB3.trans hB4⟩
            case measure => simp [intOf]; omega
        · have hnx := hA.plain hl2 (fun e => absurd e h92) (fun e => absurd e h37)
          rw [hcl] at hnx
          have t92 : ((f[i].toNat : Int) == 92) = false := u8_ne h92
          have t37 : ((f[i].toNat : Int) == 37) = false := u8_ne h37
          have HN := Lib.hid hnx
          clear hnx hcl h92 h37 hA
          go_wp2
          go_region_with ((go_at_call 17; refine (writeByte_any 36 B b q.out C f[i] _ hT hs1 (hC.bu.drewN 1) (by omega) (by exact hBw)).mono ?_; rintro e w10 ⟨rfl, hW⟩))
          all_goals go_wp2
          all_goals
            go_roundw
            case rel => exact ⟨i + 1, _, by go_num, HN.out, (hC.drewN 1).wrote hW, (hB.trans ((pw_drewN wr 1).mono hBw)).trans hW.below⟩
            case measure => simp [intOf]; omega
    · have hi : i = f.data.toList.length := by rw [← HL.out]; omega
      have hend : onceL f.data.toList p = q := by
        rw [← hA.same, hi, List.drop_length, onceL_nil]
      have HE := Lib.hid hend
      clear hend hi hA
      go_wp2
      go_end0
      exact ⟨rfl, by rw [HE.out]; exact hP, hB⟩
end Go.Proofs.YtkkejlmpimamdaaDoor
