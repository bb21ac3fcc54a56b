/-
  PLAIN: great letters and small ones: numbers of lists of bytes. No program here.
-/
import Derived.Test.YtcjhaeppplmmjaaDoorPlain
namespace Go.Proofs.YtcjhaeppplmmjaaDoor.Rm

/-- What stands for a digit, by the letters of one, five and ten. -/
def dg (n : Nat) (o f t : List UInt8) : List UInt8 :=
  if n = 9 then o ++ t else if 5 ≤ n then f ++ (List.replicate (n - 5) o).flatten else if n = 4 then o ++ f else (List.replicate n o).flatten
/-- .. in each place. -/
def tab (k d : Nat) : List UInt8 :=
  match k with
  | 0 => dg d [77] [] []
  | 1 => dg d [67] [68] [77]
  | 2 => dg d [88] [76] [67]
  | _ => dg d [73] [86] [88]
/-- The digit in each place. -/
def digit (n k : Nat) : Nat :=
  match k with
  | 0 => n / 1000
  | 1 => n / 100 % 10
  | 2 => n / 10 % 10
  | _ => n % 10
/-- The letters of the first k places. -/
def upTo (n : Nat) : Nat → List UInt8
  | 0 => []
  | k + 1 => upTo n k ++ tab k (digit n k)
def roman (n : Nat) : List UInt8 := upTo n 4
theorem dg_length (n : Nat) (h : n < 10) (o f t : List UInt8) (ho : o.length ≤ 1) (hf : f.length ≤ 1) (ht : t.length ≤ 1) : (dg n o f t).length ≤ 9 := by
  have hr : ∀ m, (List.replicate m o).flatten.length = m * o.length := by intro m; simp
  have hm : ∀ m, m * o.length ≤ m * 1 := fun m => Nat.mul_le_mul_left m ho
  have h5 := hm (n - 5)
  have h6 := hm n
  have e5 := hr (n - 5)
  have e6 := hr n
  unfold dg
  split
  · simp only [List.length_append]; omega
  · split
    · simp only [List.length_append]; omega
    · split
      · simp only [List.length_append]; omega
      · omega
theorem digit_lt (n k : Nat) (h : n ≤ 3999) : digit n k < 10 := by unfold digit; split <;> omega
theorem digit_lt4 (n : Nat) (h : n ≤ 3999) : digit n 0 < 4 := by show n / 1000 < 4; omega
theorem tab_length (k d : Nat) (h : d < 10) : (tab k d).length ≤ 9 := by
  unfold tab; split <;> exact dg_length d h _ _ _ (by decide) (by decide) (by decide)
theorem upTo_length (n k : Nat) (h : n ≤ 3999) : (upTo n k).length ≤ 9 * k := by
  induction k with
  | zero => simp [upTo]
  | succ k ih =>
    have := tab_length k _ (digit_lt n k h)
    simp only [upTo, List.length_append]; omega
theorem roman_eq (n : Nat) : roman n = dg (n / 1000) [77] [] [] ++ dg (n / 100 % 10) [67] [68] [77] ++ dg (n / 10 % 10) [88] [76] [67] ++ dg (n % 10) [73] [86] [88] := by
  simp [roman, upTo, tab, digit]

/-- Small letters. -/
def letter : Nat → List UInt8
  | 0 => []
  | n + 1 => letter (n / 26) ++ [UInt8.ofNat (97 + n % 26)]
decreasing_by omega
theorem letter_pos (n : Nat) (h : 0 < n) : letter n = letter ((n - 1) / 26) ++ [UInt8.ofNat (97 + (n - 1) % 26)] := by
  cases n with
  | zero => omega
  | succ n => rw [letter]; rfl
theorem letter_length (n : Nat) : (letter n).length ≤ n := by
  induction n using Nat.strongRecOn with
  | _ n ih =>
    cases n with
    | zero => simp [letter]
    | succ n =>
      have := ih (n / 26) (by omega)
      rw [letter]; simp only [List.length_append, List.length_cons, List.length_nil]; omega
end Go.Proofs.YtcjhaeppplmmjaaDoor.Rm
