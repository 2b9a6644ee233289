/- What registers' numbers with signs are, in plain numbers. -/
import Derived.WalkKit
namespace Go.Proofs.Ytnnknnaimabehaa
open Go.RowKit
set_option maxRecDepth 100000

/-- The least number that has the sign's bit. -/
def halfS (m : Int) : Int := if m = 1 then 32768 else if m = 2 then 2147483648 else 9223372036854775808
def mayB (m : Int) : Bool := decide (m = 1 ∨ m = 2 ∨ m = 4)
def fitsB (v m : Int) : Bool := decide (m = 1 ∧ v < 65536 ∨ m = 2 ∧ v < 4294967296 ∨ m = 4)
def signedV (v m : Int) : Int := if fitsB v m then (if v < halfS m then v else v - 2 * halfS m) else 0
def signedE (v m : Int) : Int := if fitsB v m then 0 else 20
def unsB (v m : Int) : Bool := decide ((m = 1 ∨ m = 2 ∨ m = 4) ∧ -(halfS m) ≤ v ∧ v < halfS m)
def unsV (v m : Int) : Int := if unsB v m then (if 0 ≤ v then v else v + 2 * halfS m) else 0
def unsE (v m : Int) : Int := if unsB v m then 0 else 20
end Go.Proofs.Ytnnknnaimabehaa
