import Derived.Test.YtpooedfchjpndaaDoorSt
namespace Go.Proofs.YtpooedfchjpndaaDoor
open Go Go.RowKit
def takesL : List Int := [0, 0, 1, 1, 2, 2, 2, 2, 2, 2, 2, 2, 2, 2, 2, 2, 0, 1, 0, 0, 1, 2, 0, 1]
def leavesL : List Int := [0, 1, 2, 0, 2, 3, 1, 1, 1, 1, 1, 1, 1, 1, 1, 1, 0, 0, 0, 0, 1, 0, 1, 0]
def takesOf (op : Int) : Int := takesL[op.toNat]?.getD 0
def leavesOf (op : Int) : Int := leavesL[op.toNat]?.getD 0
def sizeOp (op : Int) : Int := if op = 1 then 2 else if op = 16 ∨ op = 17 ∨ op = 18 then 1 else 0
def sgn16 (n : Int) : Int := if 32768 ≤ n then n - 65536 else n
def compF (op a b : Int) : Int :=
  if op = 6 then (a + b) % 65536
  else if op = 7 then (a - b) % 65536
  else if op = 8 then a * b % 65536
  else if op = 9 then a / b
  else if op = 10 then a % b
  else if op = 11 then ((a.toNat &&& b.toNat : Nat) : Int)
  else if op = 12 then ((a.toNat ||| b.toNat : Nat) : Int)
  else if op = 13 then ((a.toNat ^^^ b.toNat : Nat) : Int)
  else if op = 14 then (if sgn16 a < sgn16 b then 1 else 0)
  else (if a = b then 1 else 0)
/-- The element of a stack with a distance from the top; 0 if there is none. -/
def topF (l : List Int) (d : Nat) : Int := if d < l.length then l[l.length - 1 - d]?.getD 0 else 0
def opOf (s : St) : Int := s.image[s.at_.toNat]?.getD 0
def stopOf (s : St) : Int :=
  if (s.image.length : Int) ≤ s.at_ then 3
  else if 24 ≤ opOf s then 2
  else if (s.image.length : Int) < s.at_ + 1 + sizeOp (opOf s) then 3
  else if (s.data.length : Int) < takesOf (opOf s) ∨ (opOf s = 19 ∧ s.ret.length = 0) then 4
  else if 16 < (s.data.length : Int) - takesOf (opOf s) + leavesOf (opOf s) ∨ (opOf s = 18 ∧ 8 ≤ s.ret.length) then 5
  else if (opOf s = 20 ∨ opOf s = 21) ∧ 32 ≤ topF s.data 0 then 3
  else if (opOf s = 9 ∨ opOf s = 10) ∧ topF s.data 0 = 0 then 6
  else if opOf s = 23 ∧ 1000 ≤ s.output.length then 7
  else 0
def operandF (s : St) : Int :=
  if opOf s = 1 then 256 * (s.image[s.at_.toNat + 1]?.getD 0) + s.image[s.at_.toNat + 2]?.getD 0
  else if opOf s = 16 ∨ opOf s = 17 ∨ opOf s = 18 then s.image[s.at_.toNat + 1]?.getD 0
  else 0
/-- What an instruction leaves on the data stack, and what it does apart from it. -/
def effF (s : St) (op n a b : Int) : List Int × St :=
  if op = 0 then ([], { s with stop := 1 })
  else if op = 1 then ([n], s)
  else if op = 2 then ([b, b], s)
  else if op = 3 then ([], s)
  else if op = 4 then ([b, a], s)
  else if op = 5 then ([a, b, a], s)
  else if op = 16 then ([], { s with at_ := n })
  else if op = 17 then ([], if b = 0 then { s with at_ := n } else s)
  else if op = 18 then ([], { s with ret := s.ret ++ [s.at_], at_ := n })
  else if op = 19 then ([], { s with at_ := topF s.ret 0, ret := s.ret.take (s.ret.length - 1) })
  else if op = 20 then ([s.mem[b.toNat]?.getD 0], s)
  else if op = 21 then ([], { s with mem := s.mem.set b.toNat a })
  else if op = 22 then
    match s.input with
    | [] => ([65535], s)
    | x :: r => ([x], { s with input := r })
  else if op = 23 then ([], { s with output := s.output ++ [b % 256] })
  else ([compF op a b], s)
def stepF (s : St) : St :=
  if stopOf s = 0 then
    let r := effF { s with at_ := s.at_ + 1 + sizeOp (opOf s), data := s.data.take (s.data.length - (takesOf (opOf s)).toNat) } (opOf s) (operandF s) (topF s.data 1) (topF s.data 0)
    { r.2 with data := r.2.data ++ r.1 }
  else { s with stop := stopOf s }
def runF : Nat → St → St × Nat
  | 0, s => (s, 0)
  | n + 1, s => if s.stop = 0 then ((runF n (stepF s)).1, (runF n (stepF s)).2 + 1) else (s, 0)
end Go.Proofs.YtpooedfchjpndaaDoor
