/-
  PLAIN: numbers with something between. No program here.
-/
import Derived.Test.YtidccanfjcanoaaGreatDoorPlain
import Derived.Lib.ItoaNum
import Derived.Lib.ItoaLen
namespace Go.Proofs.YtidccanfjcanoaaGreatDoor.Rm
open Go.Lib

/-- The first k numbers told, something between each two. -/
def jn (sep : List UInt8) (l : List Int) : Nat → List UInt8
  | 0 => []
  | k + 1 => jn sep l k ++ (if k = 0 then [] else sep) ++ itoa (l.getD k 0)
def inI (l : List Int) : Prop := ∀ x ∈ l, -9223372036854775808 ≤ x ∧ x ≤ 9223372036854775807
theorem inI_getD {l : List Int} (h : inI l) (k : Nat) : -9223372036854775808 ≤ l.getD k 0 ∧ l.getD k 0 ≤ 9223372036854775807 := by
  rw [List.getD_eq_getElem?_getD]
  cases hk : l[k]? with
  | none => constructor <;> decide
  | some x => exact h x (List.mem_of_getElem? hk)
theorem jn_length (sep : List UInt8) (l : List Int) (h : inI l) : ∀ k, (jn sep l k).length ≤ k * (sep.length + 21)
  | 0 => by simp [jn]
  | k + 1 => by
    have ih := jn_length sep l h k
    have hx := inI_getD h k
    have h1 := itoa_length_le _ hx.1 hx.2
    have h2 : (if k = 0 then ([] : List UInt8) else sep).length ≤ sep.length := by split <;> simp
    rw [jn, List.length_append, List.length_append, Nat.succ_mul]
    omega
end Go.Proofs.YtidccanfjcanoaaGreatDoor.Rm
