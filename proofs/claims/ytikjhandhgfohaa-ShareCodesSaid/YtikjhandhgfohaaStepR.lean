import Derived.Test.YtikjhandhgfohaaRd5
import Derived.Test.YtikjhandhgfohaaShort2
set_option linter.unusedVariables false
set_option linter.unusedSimpArgs false
namespace Go.Proofs.Ytikjhandhgfohaa
open Go.RowKit
/-! ### what a reader answers, step by step -/
/-- so many bytes -/
def numR (l : List UInt8) (a : Nat) (k : Int) : Except Nat Nat := if k < 0 ∨ ((l.length - a : Nat) : Int) < k then .error 90 else .ok k.toNat
/-- a number in its short form -/
def shR (l : List UInt8) (a : Nat) : Except Nat Nat := match rdS (l.drop a) 0 0 with | none => .error 90 | some (_, k) => .ok k
def shV (l : List UInt8) (a : Nat) : Nat := match rdS (l.drop a) 0 0 with | none => 0 | some (x, _) => x
/-- 0 or 1 -/
def boolR (l : List UInt8) (a : Nat) : Except Nat Nat := if a < l.length ∧ bt l a ≤ 1 then .ok 1 else .error 90
/-- how many elements -/
def cntL (l : List UInt8) (a : Nat) (most : Int) : Except Nat Nat := match cntR (rdS (l.drop a) 0 0) most with
  | .error n => .error n
  | .ok (x, k) => if a + k + x ≤ l.length then .ok k else .error 90
/-- a read's value and what it leaves -/
def rdV {α : Type} (r : Except Nat Nat) (v z : α) (a f : Nat) : α × Nat × Nat := match effR r f with
  | .ok k => (v, a + k, 0)
  | .error n => (z, a, n)
def listR (l : List UInt8) : Nat → Nat → Nat → List UInt64 → List UInt64 × Nat × Nat
  | 0, a, f, acc => (acc, a, f)
  | n + 1, a, f, acc =>
    let r := rdV (shR l a) (shV l a) 0 a f
    if r.2.2 ≠ 0 then ([], r.2.1, r.2.2) else listR l n r.2.1 r.2.2 (acc ++ [UInt64.ofNat r.1])
structure Gt where
  x : Nat
  b : List UInt8
  ns : List UInt64
  n : Nat
def Gt.no : Gt := ⟨0, [], [], 0⟩
def Gt.ofX (x : Nat) : Gt := ⟨x, [], [], 0⟩
def Gt.ofB (b : List UInt8) : Gt := ⟨0, b, [], 0⟩
/-- the bytes at a place -/
def atR (l : List UInt8) (a n : Nat) : List UInt8 := (l.drop a).take n
def stepR (l : List UInt8) (a f : Nat) (kd n most : Int) : Gt × Nat × Nat :=
  if kd = 1 then rdV (numR l a 1) (.ofX (bt l a)) .no a f
  else if kd = 2 then rdV (numR l a 4) (.ofX (be (atR l a 4))) .no a f
  else if kd = 3 then rdV (numR l a 8) (.ofX (be (atR l a 8))) .no a f
  else if kd = 4 then rdV (shR l a) (.ofX (shV l a)) .no a f
  else if kd = 5 then rdV (boolR l a) (.ofX (bt l a)) .no a f
  else if kd = 6 then rdV (numR l a n) (.ofB (atR l a n.toNat)) .no a f
  else if kd = 7 then rdV (bytR l a most) (.ofB (bytV l a most)) .no a f
  else if kd = 8 then
    let r := rdV (cntL l a most) (shV l a) 0 a f
    let q := listR l r.1 r.2.1 r.2.2 []
    (⟨0, [], q.1, 0⟩, q.2.1, q.2.2)
  else if kd = 9 then (⟨0, [], [], l.length - a⟩, a, f)
  else (.no, a, f)
end Go.Proofs.Ytikjhandhgfohaa
