import Derived.Test.YtkkejlmpimamdaaDoorBld2
import Derived.Test.YtkkejlmpimamdaaDoorTPrint
set_option linter.unusedVariables false
set_option linter.unusedSimpArgs false
namespace Go.Proofs.YtkkejlmpimamdaaDoor
open Go.RowKit

/-- a slice of texts that lies below B -/
def TextsAt (B : Nat) (v : Value) (l : List ByteArray) (w : World) : Prop :=
  ∃ A cap, v = .slice A l.length cap ∧ l.length ≤ cap ∧ cap ≤ 9223372036854775807 ∧ (l ≠ [] → ∃ g o, A = some ⟨g, o, none⟩ ∧ g < B ∧ ∀ j (h : j < l.length), w.cell? ⟨g, o + j, none⟩ = some (.string l[j]))

theorem TextsAt.below {B : Nat} {v : Value} {l : List ByteArray} {w w' : World} (h : TextsAt B v l w) (hb : Below B w w') : TextsAt B v l w' := by
  obtain ⟨A, cap, h1, h2, h3, h4⟩ := h
  refine ⟨A, cap, h1, h2, h3, fun hl => ?_⟩
  obtain ⟨g, o, hA, hg, hc⟩ := h4 hl
  exact ⟨g, o, hA, hg, fun j hj => (hb.cell (p := ⟨g, o + j, none⟩) hg).trans (hc j hj)⟩

/-- only block b was written -/
structure Only (b : Nat) (w w' : World) : Prop where
  os : w'.os = w.os
  tape : w'.tape = w.tape
  output : w'.output = w.output
  size : w'.heap.size = w.heap.size
  block : ∀ k, k ≠ b → w'.heap[k]? = w.heap[k]?
theorem Only.refl (b : Nat) (w : World) : Only b w w := ⟨rfl, rfl, rfl, rfl, fun _ _ => rfl⟩
theorem Only.setCell {b i : Nat} {w w' : World} (h : Only b w w') (v : Value) : Only b w (w'.setCell ⟨b, i, none⟩ v) :=
  ⟨h.os, h.tape, h.output, by rw [← h.size]; simp [World.setCell], fun k hk => by rw [Below.heap_setCell _ _ _ _ hk]; exact h.block k hk⟩
theorem Only.below {b B : Nat} {w w' : World} (h : Only b w w') (hB : B ≤ b) : Below B w w' := ⟨h.os, h.tape, h.output, by rw [h.size]; exact Nat.le_refl _, fun k hk => h.block k (by omega)⟩
theorem Only.cell {b : Nat} {w w' : World} (h : Only b w w') {p : Addr} (hp : p.block ≠ b) : w'.cell? p = w.cell? p := World.cell?_of_block (w := w) (h.block p.block hp)
theorem Only.frozen {b : Nat} {w w' : World} (h : Only b w w') {p : Addr} (hp : p.block ≠ b) : w'.frozen? p = w.frozen? p := World.frozen?_of_block (w := w) (h.block p.block hp)

/-- what a printer keeps, in block b -/
structure PrC (B b : Nat) (p : PS) (C : Array Value) (w : World) : Prop where
  bu : BuAt 36 B b p.out C w
  size : C.size = 5
  args : ∃ av al, C[2]? = some av ∧ p.args = al.map (fun s => s.data.toList) ∧ TextsAt B av al w
  used : C[3]? = some (.bool p.used)
  bad : C[4]? = some (.bool p.bad)
def PrAt (B b : Nat) (p : PS) (w : World) : Prop := ∃ C, PrC B b p C w

theorem BuAt.set_other {T B b : Nat} {bs : List UInt8} {C : Array Value} {w : World} (h : BuAt T B b bs C w) (i : Nat) (hi : 2 ≤ i) (v : Value) : BuAt T B b bs (C.setIfInBounds i v) (w.setCell ⟨b, i, none⟩ v) := by
  obtain ⟨hB, hh, ha, u, hu, hown, hne⟩ := h
  refine ⟨hB, heap_set hh _, ?_, u, ?_, ownsRow_setCell_other hown hne _, hne⟩
  · rw [Array.getElem?_setIfInBounds, if_neg (by omega)]; exact ha
  · rw [Array.getElem?_setIfInBounds, if_neg (by omega)]; exact hu

theorem TextsAt.tail {B : Nat} {s : ByteArray} {l : List ByteArray} {w : World} {cap : Nat} {g o : Nat} (h2 : (s :: l).length ≤ cap) (h3 : cap ≤ 9223372036854775807) (hg : g < B)
    (hc : ∀ j (h : j < (s :: l).length), w.cell? ⟨g, o + j, none⟩ = some (.string (s :: l)[j])) :
    TextsAt B (.slice (some (if cap = 1 then ⟨g, o, none⟩ else ⟨g, o + 1, none⟩)) l.length (cap - 1)) l w := by
  simp at h2
  refine ⟨_, cap - 1, rfl, by omega, by omega, fun hl => ⟨g, o + 1, ?_, hg, fun j hj => ?_⟩⟩
  · have : l.length ≠ 0 := fun e => hl (List.eq_nil_of_length_eq_zero e)
    rw [if_neg (by omega)]
  · have := hc (j + 1) (by simp; omega)
    rw [show o + 1 + j = o + (j + 1) by omega, this]
    rfl

def NextPost (B b : Nat) (p : PS) (w : World) (e : Ending) (w' : World) : Prop :=
  e = .returned (.string ⟨(p.args.headD []).toArray⟩) ∧ PrAt B b { p with args := p.args.drop 1, used := true } w' ∧ Only b w w'

theorem next_fin {B b : Nat} {p : PS} {w : World} {C : Array Value} {al : List ByteArray} {av : Value} (hbu : BuAt 36 B b p.out C w) (hsz : C.size = 5) (hbad : C[4]? = some (.bool p.bad)) (hal : p.args.drop 1 = al.map (fun s => s.data.toList)) (hT : TextsAt B av al w) :
    PrAt B b { p with args := p.args.drop 1, used := true } ((w.setCell ⟨b, 3, none⟩ (.bool true)).setCell ⟨b, 2, none⟩ av) :=
  ⟨_, (hbu.set_other 3 (by omega) (.bool true)).set_other 2 (by omega) av, by simp [hsz], ⟨av, al, by simp [hsz], hal, (hT.below (((Only.refl b w).setCell (i := 3) (.bool true)).setCell (i := 2) av |>.below hbu.hB))⟩, by simp [Array.getElem?_setIfInBounds, hsz], by simp only [Array.getElem?_setIfInBounds]; simpa using hbad⟩

set_option maxHeartbeats 1000000 in
theorem next_any (B b : Nat) (p : PS) (w : World) (h : PrAt B b p w) :
    Calls Tryd.prog 33 #[.pointer (some ⟨b, 0, none⟩)] w (NextPost B b p w) := by
  obtain ⟨C, hbu, hsz, ⟨av, al, hav, hal, hT⟩, hu, hbad⟩ := h
  have hh := hbu.heap
  have c2 : w.cell? ⟨b, 2, none⟩ = some av := by rw [cell_at hh]; exact hav
  have c3 : w.cell? ⟨b, 3, none⟩ = some (.bool p.used) := by rw [cell_at hh]; exact hu
  have f2 := free_at hh 2
  have f3 := free_at hh 3
  have hT0 := hT
  obtain ⟨A, cap, rfl, hlc, hcm, hcell⟩ := hT
  cases al with
  | nil =>
    have ha : p.args = [] := hal
    have hfin : NextPost B b p w (.returned (.string ⟨#[]⟩)) (w.setCell ⟨b, 3, none⟩ (.bool true)) :=
      ⟨by rw [ha]; rfl, ⟨_, hbu.set_other 3 (by omega) (.bool true), by simp [hsz], ⟨_, [], by rw [Array.getElem?_setIfInBounds, if_neg (by omega)]; exact hav, by simp [ha], ⟨A, cap, rfl, hlc, hcm, fun h => absurd rfl h⟩⟩, by simp [hsz], by rw [Array.getElem?_setIfInBounds, if_neg (by omega)]; exact hbad⟩, (Only.refl b w).setCell (i := 3) (.bool true)⟩
    have HF := Lib.hid hfin
    clear hfin ha hal hbad hu hav hsz hbu hT0
    go_enter Tryd.func33, Tryd.ntmps33
    go_wp2
    go_ret
    exact HF.out
  | cons s l =>
    obtain ⟨g, o, rfl, hg, hc⟩ := hcell (by simp)
    have hc0 := hc 0 (by simp)
    simp only [Nat.add_zero, List.getElem_cons_zero] at hc0
    have hgb : g ≠ b := by have := hbu.hB; omega
    have hl : (s :: l).length = l.length + 1 := by simp
    have htail := TextsAt.tail hlc hcm hg hc
    have hfin : NextPost B b p w (.returned (.string s)) ((w.setCell ⟨b, 3, none⟩ (.bool true)).setCell ⟨b, 2, none⟩ (.slice (some (if cap = 1 then ⟨g, o, none⟩ else ⟨g, o + 1, none⟩)) l.length (cap - 1))) :=
      ⟨by rw [hal]; exact ret_str2 (Lib.mk_data s).symm, next_fin hbu hsz hbad (by rw [hal]; rfl) htail, ((Only.refl b w).setCell (i := 3) (.bool true)).setCell (i := 2) _⟩
    have HF := Lib.hid hfin
    rw [hl] at c2 hlc
    have hne : ((l.length : Int) + 1 == 0) = false := by simp; omega
    have hcs : (w.setCell ⟨b, 3, none⟩ (.bool true)).cell? ⟨g, o, none⟩ = some (.string s) := by rw [World.cell?_setCell_other _ _ _ _ (by simp)]; exact hc0
    clear hc hcell hal hav hu hbad hfin hT0 htail hl hsz hbu
    by_cases hcap : cap = 1
    · subst hcap
      obtain rfl : l = [] := List.eq_nil_of_length_eq_zero (by omega)
      rw [if_pos rfl] at HF
      go_enter Tryd.func33, Tryd.ntmps33
      go_wp2
      go_ret
      exact HF.out
    · rw [if_neg hcap] at HF
      go_enter Tryd.func33, Tryd.ntmps33
      go_wp2
      go_ret
      exact HF.out
end Go.Proofs.YtkkejlmpimamdaaDoor
