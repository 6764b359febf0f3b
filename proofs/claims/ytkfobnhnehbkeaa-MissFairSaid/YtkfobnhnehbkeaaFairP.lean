/- The lots of fair draws: the plain law. No program in sight. -/
import Derived.Test.YtkfobnhnehbkeaaLots
namespace Mis
def restOf (n x : Nat) : Nat → Nat
  | 0 => x
  | j + 1 => restOf n x j / (n - j)
def lotsOf (n x k : Nat) : List Nat := (List.range k).map fun j => restOf n x j % (n - j)
def prodK (n : Nat) : Nat → Nat
  | 0 => 1
  | i + 1 => prodK n i * (n - i)
def setOf (l : List Nat) : Nat := l.foldl (fun s x => s ||| 2 ^ x) 0
def setAt (n k x : Nat) : Nat := setOf (drawn n (lotsOf n x k))
/-- how many of the first X lists draw the set s -/
def cntK (n k X s : Nat) : Nat := ((List.range X).filter fun x => setAt n k x == s).length
def eachK (k : Nat) : Nat := [1, 1, 2, 6].getD k 0
def fairB (n k : Nat) : Bool := ((List.range 64).all fun s => cntK n k (prodK n k) s == eachK k || cntK n k (prodK n k) s == 0) && ((List.range 64).filter fun s => cntK n k (prodK n k) s == eachK k).length == ch n k
theorem fair_all : ((List.range 6).all fun i => (List.range (min (i + 1) 3 + 1)).all fun k => fairB (i + 1) k) = true := by decide +kernel
end Mis
