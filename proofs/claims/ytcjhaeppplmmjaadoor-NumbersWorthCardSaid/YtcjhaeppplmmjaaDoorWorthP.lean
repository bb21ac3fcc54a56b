/-
  PLAIN: what great letters are worth together. No program here.
-/
import Derived.Test.YtcjhaeppplmmjaaDoorRomP
namespace Go.Proofs.YtcjhaeppplmmjaaDoor.Rm

def worth (c : UInt8) : Int :=
  if c = 73 then 1 else if c = 86 then 5 else if c = 88 then 10 else if c = 76 then 50 else if c = 67 then 100 else if c = 68 then 500 else if c = 77 then 1000 else 0
/-- The sum behind the first letter on: each its own, less, if a greater one follows. -/
def total : List UInt8 → Int
  | [] => 0
  | [c] => worth c
  | c :: d :: r => (if worth c < worth d then - worth c else worth c) + total (d :: r)
def noFour : List UInt8 → Bool
  | a :: b :: c :: d :: r => !(a == b && a == c && a == d) && noFour (b :: c :: d :: r)
  | _ => true
def fine (n : Nat) : Bool := decide (total (roman n) = n) && noFour (roman n) && (roman n).all (fun c => decide (worth c ≠ 0))
set_option maxRecDepth 100000 in
set_option maxHeartbeats 4000000 in
theorem fine_all : ∀ n, n < 4000 → n = 0 ∨ fine n = true := by decide +kernel
end Go.Proofs.YtcjhaeppplmmjaaDoor.Rm
