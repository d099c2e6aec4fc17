import Derived.Test.YtkkejlmpimamdaaDoorN3
import Derived.Lib.Builder
import Derived.Lib.AppendStr
import Derived.Lib.UnsafeStr
import Derived.Lib.MakeNoZero
import Derived.OneCell
import Derived.RegionTactic
import Derived.Laws.Externs
set_option linter.unusedVariables false
set_option linter.unusedSimpArgs false
namespace Go.Proofs.YtkkejlmpimamdaaDoor
open Go.RowKit

/-- A strings.Builder at the head of block b (type T, cells C), holding the bytes bs; its buffer is its own row. -/
structure BuAt (T : TypeId) (B b : Nat) (bs : List UInt8) (C : Array Value) (w : World) : Prop where
  hB : B ≤ b
  heap : w.heap[b]? = some (.cells C T (0, 0))
  addr : C[0]? = some (.pointer none) ∨ C[0]? = some (.pointer (some ⟨b, 0, none⟩))
  buf : ∃ v, C[1]? = some v ∧ w.ownsRow B 5 1 v bs.length (Lib.byteCells bs) ∧ v.ownBlock ≠ some b

/-- the cells behind the builder's own two are the same -/
def Tail (C C' : Array Value) : Prop := C'.size = C.size ∧ ∀ i, 2 ≤ i → C'[i]? = C[i]?
theorem Tail.refl (C : Array Value) : Tail C C := ⟨rfl, fun _ _ => rfl⟩
theorem Tail.trans {C C' C'' : Array Value} (h : Tail C C') (k : Tail C' C'') : Tail C C'' := ⟨k.1.trans h.1, fun i hi => (k.2 i hi).trans (h.2 i hi)⟩
theorem Tail.set {C : Array Value} (i : Nat) (hi : i < 2) (v : Value) : Tail C (C.setIfInBounds i v) := ⟨by simp, fun j hj => by simp [Array.getElem?_setIfInBounds]; omega⟩

/-- what the unsafe turns ask of the type of the block -/
structure BuT (T : TypeId) (n : Nat) : Prop where
  lies : liesAt Tryd.prog Tryd.prog.depth T (n / Tryd.prog.cellsOf T) 0 34 1 = true
  pos : 0 < n
  ne : T ≠ 5

theorem buSize : (Tryd.prog.info? 34).map (·.size) = some 2 := by kernel_rfl
theorem buT2 : BuT 34 2 := ⟨by kernel_rfl, by decide, by decide⟩
theorem buT5 : BuT 36 5 := ⟨by kernel_rfl, by decide, by decide⟩

theorem set_self {C : Array Value} {i : Nat} {v : Value} (h : C[i]? = some v) : C.setIfInBounds i v = C := by
  apply Array.ext_getElem?
  intro j
  rw [Array.getElem?_setIfInBounds]
  split
  · rename_i e
    subst e
    obtain ⟨hlt, hv⟩ := Array.getElem?_eq_some_iff.1 h
    simp [hlt, hv]
  · rfl

set_option maxHeartbeats 1000000 in
set_option maxRecDepth 100000 in
theorem copyCheck_used (b : Nat) (w : World) (h0 : w.cell? ⟨b, 0, none⟩ = some (.pointer (some ⟨b, 0, none⟩))) :
    Calls Tryd.prog 30 #[.pointer (some ⟨b, 0, none⟩)] w fun e w' => e = .returned (.tuple #[]) ∧ w = w' := by
  obtain ⟨j, hj, _⟩ := Option.map_eq_some_iff.1 buSize
  go_enter Tryd.func30, Tryd.ntmps30
  go_wp2
  rw [Lib.run_neq_ptr_same w _ Tryd.underlying31 hj]
  go_wp2
  go_end0
  exact ⟨rfl, rfl⟩

set_option maxHeartbeats 1000000 in
set_option maxRecDepth 100000 in
theorem copyCheck_fresh (T n b : Nat) (w : World) (hT : BuT T n) (h0 : w.cell? ⟨b, 0, none⟩ = some (.pointer none)) (hsh : w.shape? b = some (T, n)) (hfz : w.frozen? ⟨b, 0, none⟩ = false) :
    Calls Tryd.prog 30 #[.pointer (some ⟨b, 0, none⟩)] w fun e w' => e = .returned (.tuple #[]) ∧ w.setCell ⟨b, 0, none⟩ (.pointer (some ⟨b, 0, none⟩)) = w' := by
  obtain ⟨j, hj, hjs⟩ := Option.map_eq_some_iff.1 buSize
  go_enter Tryd.func30, Tryd.ntmps30
  go_wp2
  rw [Lib.run_to_unsafe w ⟨b, 0, none⟩ Tryd.underlying31 Tryd.underlying78 hj (by rw [hjs]; decide) hsh hT.pos]
  simp only [Result.andThen]
  rw [Oper.upon_value]
  go_wp2
  rw [run_callFunc_extern Tryd.func44 (by kernel_rfl) (by kernel_rfl) (by kernel_rfl) (e := Extern.AbiNoEscape.same) (by kernel_rfl)]
  rw [Lib.run_noEscape]
  simp only [Result.andThen]
  rw [Oper.upon_value]
  go_wp2
  rw [Lib.run_from_unsafe w ⟨b, 0, none⟩ Tryd.underlying78 Tryd.underlying31 hj hsh hT.lies]
  simp only [Result.andThen]
  rw [Oper.upon_value]
  go_wp2
  go_end0
  exact ⟨rfl, rfl⟩

theorem copyCheck_any (T B b : Nat) (bs : List UInt8) (C : Array Value) (w : World) (hT : BuT T C.size) (h : BuAt T B b bs C w) :
    Calls Tryd.prog 30 #[.pointer (some ⟨b, 0, none⟩)] w fun e w' => e = .returned (.tuple #[]) ∧ ∃ C', BuAt T B b bs C' w' ∧ C'[0]? = some (.pointer (some ⟨b, 0, none⟩)) ∧ Tail C C' ∧ Below B w w' ∧ w.heap.size = w'.heap.size := by
  obtain ⟨hB, hh, ha, v, hv, hown, hne⟩ := h
  rcases ha with ha | ha
  · refine (copyCheck_fresh T C.size b w hT (by rw [cell_at hh]; exact ha) (by simp [World.shape?, hh]) (free_at hh 0)).mono ?_
    rintro e w' ⟨rfl, rfl⟩
    have h0 : 0 < C.size := hT.pos
    refine ⟨rfl, C.setIfInBounds 0 (.pointer (some ⟨b, 0, none⟩)), ⟨hB, heap_set hh _, .inr (by simp [h0]), v, by rw [Array.getElem?_setIfInBounds]; simpa using hv, ownsRow_setCell_other hown hne _, hne⟩, by simp [h0], Tail.set 0 (by omega) _, (Below.refl B w).setCell (p := ⟨b, 0, none⟩) hB _, by simp [World.setCell]⟩
  · refine (copyCheck_used b w (by rw [cell_at hh]; exact ha)).mono ?_
    rintro e w' ⟨rfl, rfl⟩
    exact ⟨rfl, C, ⟨hB, hh, .inr ha, v, hv, hown, hne⟩, ha, Tail.refl _, Below.refl _ _, rfl⟩

theorem infoByte : (Tryd.prog.info? 5).map (fun i => (i.zero, i.size, i.bytes)) = some (some (.int .u8 0), 1, 1) := by kernel_rfl

/-- what a writer makes of a builder -/
def Wrote (T B b : Nat) (bs : List UInt8) (C : Array Value) (w w' : World) : Prop := ∃ C', BuAt T B b bs C' w' ∧ Tail C C' ∧ Below B w w'

theorem bu_put {T B b : Nat} {bs : List UInt8} {C : Array Value} {w : World} (hT : T ≠ 5) (hB : B ≤ b) (hh : w.heap[b]? = some (.cells C T (0, 0))) (ha : C[0]? = some (.pointer (some ⟨b, 0, none⟩))) (h1 : 1 < C.size) {v : Value}
    (hown : w.ownsRow B 5 1 v bs.length (Lib.byteCells bs)) : BuAt T B b bs (C.setIfInBounds 1 v) (w.setCell ⟨b, 1, none⟩ v) := by
  have hne : v.ownBlock ≠ some b := by
    intro e
    rcases hown.2 with ⟨rfl, _⟩ | ⟨g, cap, cur, rfl, _, hg, _⟩
    · simp [Value.ownBlock] at e
    · simp [Value.ownBlock] at e
      subst e
      rw [hh] at hg
      injection hg with hg
      injection hg with _ ht
      exact hT ht
  exact ⟨hB, heap_set hh _, .inr (by rw [Array.getElem?_setIfInBounds]; simpa using ha), v, by simp [h1], ownsRow_setCell_other hown hne _, hne⟩

set_option maxHeartbeats 2000000 in
set_option maxRecDepth 100000 in
theorem writeByte_any (T B b : Nat) (bs : List UInt8) (C : Array Value) (c : UInt8) (w : World) (hT : BuT T C.size) (h1 : 1 < C.size) (h : BuAt T B b bs C w) (hlen : bs.length + 1 ≤ 140737488355328) (hBw : B ≤ w.heap.size) :
    Calls Tryd.prog 17 #[.pointer (some ⟨b, 0, none⟩), .int .u8 (c.toNat : Int)] w fun e w' => e = .returned .nilIface ∧ Wrote T B b (bs ++ [c]) C w w' := by
  obtain ⟨i0, hi, hz0, hz1, hz2⟩ := info_parts infoByte
  go_enter Tryd.func17, Tryd.ntmps17
  go_wp2_with (go_at_call 30; refine (copyCheck_any T B b bs C _ hT h).mono ?_)
  rintro e w1 ⟨rfl, C1, h1', ha1, ht1, hb1, hsz⟩
  obtain ⟨hB, hh, _, v, hv, hown, hne⟩ := h1'
  have hs1 := ht1.1
  have c1 : w1.cell? ⟨b, 1, none⟩ = some v := by rw [cell_at hh]; exact hv
  have hlt : b < w1.heap.size := lt_of_block hh
  have HS := Lib.hid hsz
  clear hsz
  go_wp2_with (at_builtin; refine wpList_append_own _ rfl _ _ 32 rfl B 5 i0 (.int .u8 0) 1 1 Tryd.underlying32 hi hz0 hz1 hz2 rfl (by decide) _ _ _ rfl (hown.alloc _) ⟨w1.heap.size, 0, none⟩ 1 1 [.int .u8 (c.toNat : Int)] rfl rfl ?c1 ?c2 ?c3 ?c4 ?c5 ?_)
  case c1 =>
    intro j u hj
    match j, hj with
    | 0, hj => simp at hj; subst hj; simp [Addr.add]
  case c2 => intro u hu; simp at hu; subst hu; rfl
  case c3 => unfold maxLen; omega
  case c4 => omega
  case c5 => have := hb1.size; simp; omega
  intro v' w2 hown' hgrow _
  have hb2 : w2.heap[b]? = some (.cells C1 T (0, 0)) := by
    rw [hgrow.block b (by simp; omega) (fun e => hne e.symm), Lib.alloc_old w1 _ b hlt]
    exact hh
  have d1 : w2.cell? ⟨b, 1, none⟩ = some v := by rw [cell_at hb2]; exact hv
  have f1 : w2.frozen? ⟨b, 1, none⟩ = false := free_at hb2 1
  obtain ⟨g, cap, rfl⟩ : ∃ g cap, v' = .slice (some ⟨g, 0, none⟩) (bs.length + 1) cap := by
    rcases hown'.2 with ⟨_, h0⟩ | ⟨g, cap, cur, hv, _⟩
    · omega
    · exact ⟨g, cap, hv⟩
  have HT1 := Lib.hid ht1
  have HC1 := Lib.hid (show C1.size = C.size from hs1)
  clear ht1 hs1
  go_wp2
  go_ret
  refine ⟨rfl, _, bu_put hT.ne hB hb2 ha1 (by rw [HC1.out]; exact h1) (by simpa [Lib.byteCells] using hown'), HT1.out.trans (Tail.set 1 (by omega) _), ?_⟩
  exact ((hb1.alloc (by have := hb1.size; omega) _).grown hgrow (by have := hb1.size; simp; omega) (fun k hk => (hown.lt k hk).1)).setCell (p := ⟨b, 1, none⟩) hB _

set_option maxHeartbeats 2000000 in
set_option maxRecDepth 100000 in
theorem writeString_any (T B b : Nat) (bs : List UInt8) (C : Array Value) (s : ByteArray) (w : World) (hT : BuT T C.size) (h1 : 1 < C.size) (h : BuAt T B b bs C w) (hlen : bs.length + s.size ≤ 140737488355328) (hBw : B ≤ w.heap.size) :
    Calls Tryd.prog 28 #[.pointer (some ⟨b, 0, none⟩), .string s] w fun e w' => e = .returned (.tuple #[.int .i64 s.size, .nilIface]) ∧ Wrote T B b (bs ++ s.data.toList) C w w' := by
  obtain ⟨i0, hi, hz0, hz1, hz2⟩ := info_parts infoByte
  go_enter Tryd.func28, Tryd.ntmps28
  go_wp2_with (go_at_call 30; refine (copyCheck_any T B b bs C _ hT h).mono ?_)
  rintro e w1 ⟨rfl, C1, h1', ha1, ht1, hb1, hsz⟩
  obtain ⟨hB, hh, _, v, hv, hown, hne⟩ := h1'
  have hs1 := ht1.1
  have c1 : w1.cell? ⟨b, 1, none⟩ = some v := by rw [cell_at hh]; exact hv
  have hlt : b < w1.heap.size := lt_of_block hh
  have HS := Lib.hid hsz
  clear hsz
  go_wp2_with (at_builtin; refine Lib.wpList_append_own_string _ rfl _ _ 32 9 rfl B 5 i0 Tryd.underlying32 Tryd.underlying9 hi hz0 hz1 hz2 _ _ _ rfl hown s rfl ?c3 ?c4 ?c5 ?_)
  case c3 => unfold maxLen; simp [Lib.byteCells_length]; omega
  case c4 => omega
  case c5 => have := hb1.size; omega
  intro v' w2 hown' hgrow _
  have hb2 : w2.heap[b]? = some (.cells C1 T (0, 0)) := by
    rw [hgrow.block b hlt (fun e => hne e.symm)]
    exact hh
  have d1 : w2.cell? ⟨b, 1, none⟩ = some v := by rw [cell_at hb2]; exact hv
  have f1 : w2.frozen? ⟨b, 1, none⟩ = false := free_at hb2 1
  obtain ⟨ao, n', cap, rfl⟩ : ∃ ao n' cap, v' = .slice ao n' cap := by
    rcases hown'.2 with ⟨hv, _⟩ | ⟨g, cap, cur, hv, _⟩
    · exact ⟨_, _, _, hv⟩
    · exact ⟨_, _, _, hv⟩
  have HT1 := Lib.hid ht1
  have HC1 := Lib.hid (show C1.size = C.size from hs1)
  clear ht1 hs1
  go_wp2
  go_ret2
  refine ⟨rfl, _, bu_put hT.ne hB hb2 ha1 (by rw [HC1.out]; exact h1) (by rw [List.length_append, ← Lib.size_eq s, Lib.byteCells_append, ← Lib.strCells_eq]; simpa [Lib.byteCells_length, Lib.strCells_length] using hown'), HT1.out.trans (Tail.set 1 (by omega) _), ?_⟩
  exact (hb1.grown hgrow (by have := hb1.size; omega) (fun k hk => (hown.lt k hk).1)).setCell (p := ⟨b, 1, none⟩) hB _

set_option maxHeartbeats 1000000 in
theorem buLen_any (T B b : Nat) (bs : List UInt8) (C : Array Value) (w : World) (h : BuAt T B b bs C w) :
    Calls Tryd.prog 11 #[.pointer (some ⟨b, 0, none⟩)] w fun e w' => e = .returned (.int .i64 bs.length) ∧ w = w' := by
  obtain ⟨hB, hh, _, v, hv, hown, hne⟩ := h
  obtain ⟨ao, cap, rfl⟩ : ∃ ao cap, v = .slice ao bs.length cap := by
    rcases hown.2 with ⟨hv, h0⟩ | ⟨g, cap, cur, hv, _⟩
    · exact ⟨none, 0, by rw [hv, h0]⟩
    · exact ⟨_, _, hv⟩
  have c1 : w.cell? ⟨b, 1, none⟩ = some (.slice ao bs.length cap) := by rw [cell_at hh]; exact hv
  go_enter Tryd.func11, Tryd.ntmps11
  go_wp2
  go_ret
  exact ⟨rfl, rfl⟩
end Go.Proofs.YtkkejlmpimamdaaDoor
