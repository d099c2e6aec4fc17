/- What printf writes: plain lists, no program in sight. -/
import Derived.Test.YtkkejlmpimamdaaDoorTNum
namespace Go.Proofs.YtkkejlmpimamdaaDoor

structure PS where
  out : List UInt8
  args : List (List UInt8)
  used : Bool
  bad : Bool

def digitB (c : UInt8) : Bool := decide (48 ≤ c.toNat) && decide (c.toNat ≤ 57)

/-- up to two digits ahead: their number, how many -/
def widthL : List UInt8 → Nat × Nat
  | [] => (0, 0)
  | a :: r => if digitB a then (match r with
      | [] => (a.toNat - 48, 1)
      | b :: _ => if digitB b then (10 * (a.toNat - 48) + (b.toNat - 48), 2) else (a.toNat - 48, 1)) else (0, 0)

/-- A conversion behind its %: left, width, verb, how long -/
def convL (s : List UInt8) : Option (Bool × Nat × UInt8 × Nat) :=
  let left := s.head? == some 45
  let k := if left then 1 else 0
  let wn := widthL (s.drop k)
  match (s.drop (k + wn.2)) with
  | [] => none
  | v :: _ => if v ∈ [115, 100, 120, 111, 99, 37] then some (left, wn.1, v, k + wn.2 + 1) else none

def padL (left : Bool) (w : Nat) (s : List UInt8) : List UInt8 :=
  if left then s ++ List.replicate (w - s.length) 32 else List.replicate (w - s.length) 32 ++ s

/-- an argument by a verb, and whether it was bad -/
def argL (v : UInt8) (s : List UInt8) : List UInt8 × Bool :=
  if v = 99 then (s.take 1, false)
  else if v = 100 ∨ v = 120 ∨ v = 111 then
    let d := if s = [] then (0, 0) else decL s
    (if v = 120 then baseL 16 (d.1 % 18446744073709551616).toNat else if v = 111 then baseL 8 (d.1 % 18446744073709551616).toNat else textL d.1, decide (d.2 ≠ 0))
  else (s, false)

def convertL (p : PS) (left : Bool) (w : Nat) (v : UInt8) : PS :=
  if v = 37 then { p with out := p.out ++ [37] }
  else
    let a := argL v (p.args.headD [])
    { out := p.out ++ padL left w a.1, args := p.args.drop 1, used := true, bad := p.bad || a.2 }

def escL (c : UInt8) : Option UInt8 := if c = 110 then some 10 else if c = 116 then some 9 else if c = 92 then some 92 else if c = 34 then some 34 else none

def escStep (c : UInt8) (r : List UInt8) (p : PS) : Option (List UInt8 × PS) :=
  if c = 92 then (match r with | d :: r' => (escL d).map fun e => (r', { p with out := p.out ++ [e] }) | [] => none) else none

/-- one sign of the format -/
def stepL (c : UInt8) (r : List UInt8) (p : PS) : List UInt8 × PS :=
  match escStep c r p with
  | some x => x
  | none => match (if c = 37 then convL r else none) with
    | some (left, w, v, n) => (r.drop n, convertL p left w v)
    | none => (r, { p with out := p.out ++ [c] })

theorem stepL_le (c : UInt8) (r : List UInt8) (p : PS) : (stepL c r p).1.length ≤ r.length := by
  unfold stepL
  split
  · rename_i x h
    unfold escStep at h
    split at h
    · split at h
      · rename_i d r'
        cases he : escL d with
        | none => simp [he] at h
        | some e => simp [he] at h; subst h; simp
      · simp at h
    · simp at h
  · split
    · simp
    · simp

def onceL : List UInt8 → PS → PS
  | [], p => p
  | c :: r, p => onceL (stepL c r p).1 (stepL c r p).2
termination_by s => s.length
decreasing_by
  have := stepL_le c r p
  simp; omega

theorem onceL_nil (p : PS) : onceL [] p = p := by rw [onceL]
theorem onceL_cons (c : UInt8) (r : List UInt8) (p : PS) : onceL (c :: r) p = onceL (stepL c r p).1 (stepL c r p).2 := by rw [onceL]

def moreL (f : List UInt8) : Nat → PS → PS
  | 0, p => p
  | n + 1, p => if p.args ≠ [] ∧ p.used = true ∧ p.out.length ≤ 16384 then moreL f n (onceL f p) else p

def printfL (f : List UInt8) (args : List (List UInt8)) : List UInt8 × Bool :=
  let p := moreL f args.length (onceL f { out := [], args := args, used := false, bad := false })
  (p.out.take 16384, !p.bad)

end Go.Proofs.YtkkejlmpimamdaaDoor
