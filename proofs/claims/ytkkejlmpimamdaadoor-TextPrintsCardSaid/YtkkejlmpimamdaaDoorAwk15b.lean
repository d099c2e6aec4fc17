import Derived.Test.YtkkejlmpimamdaaDoorAwk15
set_option linter.unusedVariables false
set_option linter.unusedSimpArgs false
namespace Go.Proofs.YtkkejlmpimamdaaDoor
open Go.RowKit

theorem texts_new2 (a b : ByteArray) (T : TypeId) (w : World) : TextsAt (w.alloc (.cells #[.string a, .string b] T)).heap.size (.slice (some ⟨w.heap.size, 0, none⟩) 2 2) [a, b] (w.alloc (.cells #[.string a, .string b] T)) := by
  refine ⟨_, 2, rfl, by simp, by omega, fun _ => ⟨w.heap.size, 0, rfl, by simp, ?_⟩⟩
  intro j hj
  rw [World.cell?_alloc_at _ _ _ _ rfl]
  match j, hj with
  | 0, _ => rfl
  | 1, _ => rfl
theorem texts_new3 (a b c : ByteArray) (T : TypeId) (w : World) : TextsAt (w.alloc (.cells #[.string a, .string b, .string c] T)).heap.size (.slice (some ⟨w.heap.size, 0, none⟩) 3 3) [a, b, c] (w.alloc (.cells #[.string a, .string b, .string c] T)) := by
  refine ⟨_, 3, rfl, by simp, by omega, fun _ => ⟨w.heap.size, 0, rfl, by simp, ?_⟩⟩
  intro j hj
  rw [World.cell?_alloc_at _ _ _ _ rfl]
  match j, hj with
  | 0, _ => rfl
  | 1, _ => rfl
  | 2, _ => rfl

theorem ev_awake : printfL [37, 45, 51, 115, 124, 37, 50, 100, 92, 110] [[97], [53]] = ([97, 32, 32, 124, 32, 53, 10], true) := by decide +kernel
theorem ev_lt : twoL [51] [45, 108, 116] [49, 48] = 0 := by decide +kernel
theorem ev_x : twoL [120] [45, 108, 116] [49, 48] = 2 := by decide +kernel

/-- the chapter's examples hold -/
theorem awake15 (w : World) :
    Calls Tryd.prog 5 #[] w fun e w' => e = .returned (.bool true) ∧ Below w.heap.size w w' := by
  go_enter Tryd.func5, Tryd.ntmps5
  go_wp2_with fail
  refine (printf_any ⟨#[37, 45, 51, 115, 124, 37, 50, 100, 92, 110]⟩ _ _ _ (by decide) (texts_new2 _ _ _ _) (by intro s hs; simp at hs; rcases hs with rfl | rfl <;> decide)).mono ?_
  rintro e w1 ⟨rfl, hB1⟩
  have hev : printfL (⟨#[37, 45, 51, 115, 124, 37, 50, 100, 92, 110]⟩ : ByteArray).data.toList (List.map (fun x : ByteArray => x.data.toList) [⟨#[97]⟩, ⟨#[53]⟩]) = ([97, 32, 32, 124, 32, 53, 10], true) := ev_awake
  rw [hev]
  clear hev
  go_wp2_with fail
  refine (test3 _ _ ⟨#[51]⟩ ⟨#[45, 108, 116]⟩ ⟨#[49, 48]⟩ _ _ (texts_new3 _ _ _ _ _) (by decide) (by decide) (by rw [Lib.toList_data]; decide)).mono ?_
  rintro e w2 ⟨rfl, hB2⟩
  have hev : twoL (⟨#[51]⟩ : ByteArray).data.toList (⟨#[45, 108, 116]⟩ : ByteArray).data.toList (⟨#[49, 48]⟩ : ByteArray).data.toList = 0 := ev_lt
  rw [hev]
  clear hev
  go_wp2_with fail
  refine (test3 _ _ ⟨#[120]⟩ ⟨#[45, 108, 116]⟩ ⟨#[49, 48]⟩ _ _ (texts_new3 _ _ _ _ _) (by decide) (by decide) (by rw [Lib.toList_data]; decide)).mono ?_
  rintro e w3 ⟨rfl, hB3⟩
  have hev : twoL (⟨#[120]⟩ : ByteArray).data.toList (⟨#[45, 108, 116]⟩ : ByteArray).data.toList (⟨#[49, 48]⟩ : ByteArray).data.toList = 2 := ev_x
  rw [hev]
  clear hev
  go_wp2_with fail
  refine (echo_ab _ _ (texts_new2 _ _ _ _)).mono ?_
  rintro e w4 ⟨rfl, hB4⟩
  go_wp2
  go_ret
  refine ⟨rfl, ?_⟩
  have k1 : Below w.heap.size w w1 := ((Below.refl _ w).alloc (Nat.le_refl _) _).trans (hB1.mono (by simp))
  have k2 : Below w.heap.size w w2 := (k1.alloc k1.size _).trans (hB2.mono (by have := k1.size; simp; omega))
  have k3 : Below w.heap.size w w3 := (k2.alloc k2.size _).trans (hB3.mono (by have := k2.size; simp; omega))
  exact (k3.alloc k3.size _).trans (hB4.mono (by have := k3.size; simp; omega))
end Go.Proofs.YtkkejlmpimamdaaDoor
