import Derived.Test.YtkkejlmpimamdaaDoorROnce
import Derived.Test.YtkkejlmpimamdaaDoorPrintf
import Derived.Deep.LoopGhost
set_option linter.unusedVariables false
set_option linter.unusedSimpArgs false
namespace Go.Proofs.YtkkejlmpimamdaaDoor
open Go.RowKit

theorem rprintf_fin {f : List UInt8} {L : List (List UInt8)} {q : PS} {w w' : World} {e : Ending} {s : ByteArray} (h : moreL f L.length (onceL f { out := [], args := L, used := false, bad := false }) = q) (hB : Below w.heap.size w w')
    (hs : s = ⟨(q.out.take 16384).toArray⟩) (he : e = .returned (.tuple #[.string s, .bool (!q.bad)])) : PrintfPost f L w e w' := by
  refine ⟨?_, hB⟩
  rw [he, hs]
  unfold printfL
  rw [h]
theorem cut_small {l : List UInt8} (h : l.length ≤ 16384) : (⟨l.toArray⟩ : ByteArray) = ⟨(l.take 16384).toArray⟩ := by rw [List.take_of_length_le h]
theorem cut_great (l : List UInt8) : (⟨l.toArray⟩ : ByteArray).extract 0 16384 = ⟨(l.take 16384).toArray⟩ := by
  rw [Lib.extract_eq, list_data]
  rfl

theorem RAt.new {q : PS} {L : List (List UInt8)} {u : Nat} (w : World) (h1 : q.args = L.drop u) (h2 : q.used = decide (0 < u)) : RAt w.heap.size q L u (w.alloc (.cells #[.string ⟨q.out.toArray⟩, .int .i64 (u : Int), .bool q.bad] 41)) :=
  ⟨Go.heap_alloc_new _ _, h1, h2⟩
theorem RAt.over {b : Nat} {q q' : PS} {L : List (List UInt8)} {u u' : Nat} {w : World} (h : RAt b q L u w) (h1 : q'.args = L.drop u') (h2 : q'.used = decide (0 < u')) : RAt b q' L u' (((w.setCell ⟨b, 0, none⟩ (.string ⟨q'.out.toArray⟩)).setCell ⟨b, 1, none⟩ (.int .i64 (u' : Int))).setCell ⟨b, 2, none⟩ (.bool q'.bad)) :=
  ⟨by rw [heap_set (heap_set (heap_set h.heap _) _) _]; rfl, h1, h2⟩
theorem RAt.below {b : Nat} {q : PS} {L : List (List UInt8)} {u : Nat} {w w' : World} (h : RAt b q L u w) (hB : Below w.heap.size w w') : RAt b q L u w' :=
  ⟨(hB.block _ (lt_of_block h.heap)).trans h.heap, h.args, h.used⟩

set_option maxHeartbeats 4000000 in
set_option maxRecDepth 100000 in
theorem rprintf_any (f : ByteArray) (v : Value) (l : List ByteArray) (w : World) (hf : f.size ≤ 1000) (hl : TextsAt w.heap.size v l w) (hln : l.length ≤ 100000) (hn : ∀ s ∈ l, s.size ≤ 1000000) :
    Calls Tryd.prog 7 #[.string f, v] w (PrintfPost f.data.toList (l.map (·.data.toList)) w) := by
  have hn' : ∀ a ∈ l.map (fun s : ByteArray => s.data.toList), a.length ≤ 1000000 := by
    intro a ha
    obtain ⟨s, hs, rfl⟩ := List.mem_map.1 ha
    have := hn s hs
    rw [Lib.size_eq] at this
    exact this
  have hfl := Lib.size_eq f
  have HFL := Lib.hid hfl
  obtain ⟨A, cap, rfl, hlc, hcm, _⟩ := id hl
  have hon := fun (p : PS) (u0 : Nat) (w' : World) (hB : Below w.heap.size w w') => ronce_any p f _ l u0 w' ((hl.below hB).mono hB.size) hf
  obtain ⟨L, hL⟩ : ∃ L, l.map (fun s : ByteArray => s.data.toList) = L := ⟨_, rfl⟩
  simp only [hL] at hon hn' ⊢
  have hLl : L.length = l.length := by rw [← hL]; simp
  have HLL := Lib.hid hLl
  have HON := Lib.hid hon
  clear hL hLl hon hfl
  go_enter Tryd.func7, Tryd.ntmps7
  go_wp2_with fail
  refine (HON.out { out := [], args := L, used := false, bad := false } 0 _ (Below.refl _ w) (by omega) (by simp) hn rfl rfl).mono ?_
  rintro e w1 ⟨u1, rfl, ha1, hb1, hu1, hB1⟩
  rw [← HFL.out] at hu1
  have hMA : MoreAt f.data.toList { out := [], args := L, used := false, bad := false } L.length (onceL f.data.toList { out := [], args := L, used := false, bad := false }) :=
    ⟨rfl, by obtain ⟨k, hk⟩ := onceL_uniform f.data.toList.length f.data.toList (Nat.le_refl _); rw [(hk _).1]; simp, fun hu p => onceL_used rfl hu p, fun a ha => hn' a (onceL_args _ _ a ha)⟩
  generalize onceL f.data.toList { out := [], args := L, used := false, bad := false } = q1 at *
  have HMA := Lib.hid hMA
  have HR1 := Lib.hid (RAt.new (q := q1) w1 ha1 hb1)
  clear hMA ha1 hb1
  go_wp2
  go_loopg [] (L.length) (fun k wr => ∃ (q : PS) (u : Nat), MoreAt f.data.toList { out := [], args := L, used := false, bad := false } k q ∧ RAt w1.heap.size q L u wr ∧ u ≤ l.length + 1000 ∧ Below w.heap.size w wr)
  case atStart => exact ⟨_, u1, HMA.out, HR1.out, by omega, hB1.alloc hB1.size _⟩
  case round =>
    obtain ⟨q, u, hA, hR, hu, hB⟩ := hrel
    have hq : q.args.length = L.length - u := by rw [hR.args]; simp
    have hqu := hR.used
    have c0 := hR.out
    have c1 := hR.n
    have c2 := hR.b
    have f0 := free_at hR.heap 0
    have f1 := free_at hR.heap 1
    have f2 := free_at hR.heap 2
    have hargs := hA.args
    rw [HLL.out] at hq
    by_cases h0 : u = 0
    · have hst := hA.stop (fun h => by rw [hqu, h0] at h; exact absurd h.2.1 (by decide))
      have h0' : (u : Int) ≤ 0 := by omega
      clear h0
      have HS := Lib.hid hst
      clear hst hA hqu hargs hq
      by_cases hc2 : q.out.length ≤ 16384
      · have hc3 : (q.out.length : Int) ≤ 16384 := by omega
        go_wp2
        go_region
        all_goals go_wp2
        all_goals go_ret2
        all_goals exact rprintf_fin HS.out hB.drew (cut_small hc2) (by rfl)
      · have hc3 : (16384 : Int) < (q.out.length : Int) := by omega
        go_wp2
        go_region
        all_goals go_wp2
        all_goals go_ret2
        all_goals exact rprintf_fin HS.out (hB.setCell (p := ⟨w1.heap.size, 0, none⟩) hB1.size _).drew (cut_great _) (by rfl)
    · have h0' : (0 : Int) < (u : Int) := by omega
      by_cases h1 : u < l.length
      · by_cases hc2 : q.out.length ≤ 16384
        · have hc3 : (q.out.length : Int) ≤ 16384 := by omega
          have hne : q.args ≠ [] := by
            intro e
            rw [e] at hq
            simp at hq
            omega
          obtain ⟨hk, hnx⟩ := hA.next ⟨hne, by rw [hqu]; simpa using (by omega : 0 < u), hc2⟩
          have HN := Lib.hid hnx
          have ha := hR.args
          have HA := Lib.hid ha
          have HU := Lib.hid hqu
          clear hnx hA hq hne hqu h0 ha
          go_wp2_with fail
          refine (HON.out q u _ hB (by omega) (by omega) hn HA.out HU.out).mono ?_
          rintro e w4 ⟨u4, rfl, ha4, hb4, hu4, hB4⟩
          rw [← HFL.out] at hu4
          have HR4 := Lib.hid ((hR.below hB4).over ha4 hb4)
          have hBs := hB.size
          have hB5 := hB.trans (hB4.mono hBs)
          have f0 := free_at (hR.below hB4).heap 0
          have f1 := free_at (hR.below hB4).heap 1
          have f2 := free_at (hR.below hB4).heap 2
          have c0 := (hR.below hB4).out
          have c1 := (hR.below hB4).n
          have c2 := (hR.below hB4).b
          clear ha4 hb4
          go_wp2
          go_roundg (gk - 1)
          case measure => omega
          case rel => exact ⟨_, u4, HN.out, HR4.out, by omega, ((hB5.setCell (p := ⟨w1.heap.size, 0, none⟩) hB1.size _).setCell (p := ⟨w1.heap.size, 1, none⟩) hB1.size _).setCell (p := ⟨w1.heap.size, 2, none⟩) hB1.size _⟩
        · have hst := hA.stop (fun h => hc2 h.2.2)
          have HS := Lib.hid hst
          clear hst hA hqu hargs hq
          have hc3 : (16384 : Int) < (q.out.length : Int) := by omega
          go_wp2
          go_region
          all_goals go_wp2
          all_goals go_ret2
          all_goals exact rprintf_fin HS.out (hB.setCell (p := ⟨w1.heap.size, 0, none⟩) hB1.size _).drew (cut_great _) (by rfl)
      · have hst := hA.stop (fun h => h.1 (List.eq_nil_of_length_eq_zero (by omega)))
        have h1' : (l.length : Int) ≤ (u : Int) := by omega
        clear h0
        have HS := Lib.hid hst
        clear hst hA hqu hargs hq
        by_cases hc2 : q.out.length ≤ 16384
        · have hc3 : (q.out.length : Int) ≤ 16384 := by omega
          go_wp2
          go_region
          all_goals go_wp2
          all_goals go_ret2
          all_goals exact rprintf_fin HS.out hB.drew (cut_small hc2) (by rfl)
        · have hc3 : (16384 : Int) < (q.out.length : Int) := by omega
          go_wp2
          go_region
          all_goals go_wp2
          all_goals go_ret2
          all_goals exact rprintf_fin HS.out (hB.setCell (p := ⟨w1.heap.size, 0, none⟩) hB1.size _).drew (cut_great _) (by rfl)
end Go.Proofs.YtkkejlmpimamdaaDoor
