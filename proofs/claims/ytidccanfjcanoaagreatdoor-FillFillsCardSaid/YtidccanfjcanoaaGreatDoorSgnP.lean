/-
  PLAIN: the first sign's size as the reference reckons it. No program here.
-/
import Derived.Test.YtidccanfjcanoaaGreatDoorFillP
namespace Go.Proofs.YtidccanfjcanoaaGreatDoor.Fi
open Go.Lib
set_option linter.unusedVariables false

theorem sg1 (n b0 b1 b2 b3 : Nat) (h : b0 < 192 ∨ 248 ≤ b0) (hb : b0 < 256) : decW n b0 b1 b2 b3 = 1 := by
  unfold decW decodeN
  repeat' split
  all_goals first | rfl | (exfalso; omega)
theorem sg2 (n b0 b1 b2 b3 : Nat) (h1 : 192 ≤ b0) (h2 : b0 < 224) (hb : b1 < 256) : decW n b0 b1 b2 b3 = if (1 < n ∧ 128 ≤ b1 ∧ b1 < 192) ∧ 128 ≤ (b0 - 192) * 64 + (b1 - 128) then 2 else 1 := by
  unfold decW decodeN
  repeat' split
  all_goals first | rfl | (exfalso; omega)
theorem sg3 (n b0 b1 b2 b3 : Nat) (h1 : 224 ≤ b0) (h2 : b0 < 240) (hb1 : b1 < 256) (hb2 : b2 < 256) : decW n b0 b1 b2 b3 =
    if (1 < n ∧ 128 ≤ b1 ∧ b1 < 192) ∧ (2 < n ∧ 128 ≤ b2 ∧ b2 < 192) ∧ 2048 ≤ ((b0 - 224) * 64 + (b1 - 128)) * 64 + (b2 - 128) ∧ (((b0 - 224) * 64 + (b1 - 128)) * 64 + (b2 - 128) < 55296 ∨ 57343 < ((b0 - 224) * 64 + (b1 - 128)) * 64 + (b2 - 128)) then 3 else 1 := by
  unfold decW decodeN
  repeat' split
  all_goals first | rfl | (exfalso; omega)
theorem sg4 (n b0 b1 b2 b3 : Nat) (h1 : 240 ≤ b0) (h2 : b0 < 248) (hb1 : b1 < 256) (hb2 : b2 < 256) (hb3 : b3 < 256) : decW n b0 b1 b2 b3 =
    if (1 < n ∧ 128 ≤ b1 ∧ b1 < 192) ∧ (2 < n ∧ 128 ≤ b2 ∧ b2 < 192) ∧ (3 < n ∧ 128 ≤ b3 ∧ b3 < 192) ∧ 65536 ≤ (((b0 - 240) * 64 + (b1 - 128)) * 64 + (b2 - 128)) * 64 + (b3 - 128) ∧ (((b0 - 240) * 64 + (b1 - 128)) * 64 + (b2 - 128)) * 64 + (b3 - 128) ≤ 1114111 then 4 else 1 := by
  unfold decW decodeN
  repeat' split
  all_goals first | rfl | (exfalso; omega)

/-- What has been read of a sign when k bytes behind its first have been looked at. -/
def sval (a : Nat) (f : Nat → Nat) : Nat → Nat
  | 0 => a
  | k + 1 => sval a f k * 64 + (f (k + 1) - 128)
set_option maxRecDepth 100000 in
theorem sval_le (a : Nat) (f : Nat → Nat) (ha : a ≤ 31) : ∀ k, k ≤ 3 → (∀ j, 1 ≤ j → j ≤ k → f j < 192) → sval a f k ≤ 8388607
  | 0, _, _ => by show a ≤ 8388607; omega
  | 1, _, h => by
    have := h 1 (by omega) (by omega)
    show a * 64 + (f 1 - 128) ≤ 8388607
    omega
  | 2, _, h => by
    have h1 := h 1 (by omega) (by omega)
    have h2 := h 2 (by omega) (by omega)
    show (a * 64 + (f 1 - 128)) * 64 + (f 2 - 128) ≤ 8388607
    omega
  | 3, _, h => by
    have h1 := h 1 (by omega) (by omega)
    have h2 := h 2 (by omega) (by omega)
    have h3 := h 3 (by omega) (by omega)
    show ((a * 64 + (f 1 - 128)) * 64 + (f 2 - 128)) * 64 + (f 3 - 128) ≤ 8388607
    omega
  | k + 4, hk, _ => by omega
/-- The reference's answer for a sign of m bytes, first byte's rest a, at least ls. -/
def SgnOk (n m a ls : Nat) (f : Nat → Nat) : Bool := decide (m ≤ n ∧ (∀ j, j < m → 1 ≤ j → 128 ≤ f j ∧ f j < 192) ∧ ls ≤ sval a f (m - 1) ∧ sval a f (m - 1) ≤ 1114111 ∧ ¬ (55296 ≤ sval a f (m - 1) ∧ sval a f (m - 1) ≤ 57343))
theorem all2 (P : Nat → Prop) : (∀ j, j < 2 → 1 ≤ j → P j) ↔ P 1 := ⟨fun h => h 1 (by omega) (by omega), fun h j h1 h2 => by obtain rfl : j = 1 := (by omega); exact h⟩
theorem all3 (P : Nat → Prop) : (∀ j, j < 3 → 1 ≤ j → P j) ↔ P 1 ∧ P 2 := ⟨fun h => ⟨h 1 (by omega) (by omega), h 2 (by omega) (by omega)⟩, fun h j h1 h2 => by
  rcases (by omega : j = 1 ∨ j = 2) with rfl | rfl
  · exact h.1
  · exact h.2⟩
theorem all4 (P : Nat → Prop) : (∀ j, j < 4 → 1 ≤ j → P j) ↔ P 1 ∧ P 2 ∧ P 3 := ⟨fun h => ⟨h 1 (by omega) (by omega), h 2 (by omega) (by omega), h 3 (by omega) (by omega)⟩, fun h j h1 h2 => by
  rcases (by omega : j = 1 ∨ j = 2 ∨ j = 3) with rfl | rfl | rfl
  · exact h.1
  · exact h.2.1
  · exact h.2.2⟩
set_option maxRecDepth 100000 in
theorem dw2 (n : Nat) (f : Nat → Nat) (hf : ∀ j, f j < 256) (h1 : 192 ≤ f 0) (h2 : f 0 < 224) : decW n (f 0) (f 1) (f 2) (f 3) = if SgnOk n 2 (f 0 - 192) 128 f = true then 2 else 1 := by
  have hb := hf 1
  rw [sg2 n _ _ _ _ h1 h2 hb]
  have e : sval (f 0 - 192) f (2 - 1) = (f 0 - 192) * 64 + (f 1 - 128) := rfl
  unfold SgnOk
  rw [e]
  simp only [decide_eq_true_eq, all2]
  split <;> split <;> first | rfl | (exfalso; omega)
set_option maxRecDepth 100000 in
theorem dw3 (n : Nat) (f : Nat → Nat) (hf : ∀ j, f j < 256) (h1 : 224 ≤ f 0) (h2 : f 0 < 240) : decW n (f 0) (f 1) (f 2) (f 3) = if SgnOk n 3 (f 0 - 224) 2048 f = true then 3 else 1 := by
  have hb1 := hf 1
  have hb2 := hf 2
  rw [sg3 n _ _ _ _ h1 h2 hb1 hb2]
  have e : sval (f 0 - 224) f (3 - 1) = ((f 0 - 224) * 64 + (f 1 - 128)) * 64 + (f 2 - 128) := rfl
  unfold SgnOk
  rw [e]
  simp only [decide_eq_true_eq, all3]
  split <;> split <;> first | rfl | (exfalso; omega)
set_option maxRecDepth 100000 in
theorem dw4 (n : Nat) (f : Nat → Nat) (hf : ∀ j, f j < 256) (h1 : 240 ≤ f 0) (h2 : f 0 < 248) : decW n (f 0) (f 1) (f 2) (f 3) = if SgnOk n 4 (f 0 - 240) 65536 f = true then 4 else 1 := by
  have hb1 := hf 1
  have hb2 := hf 2
  have hb3 := hf 3
  rw [sg4 n _ _ _ _ h1 h2 hb1 hb2 hb3]
  have e : sval (f 0 - 240) f (4 - 1) = (((f 0 - 240) * 64 + (f 1 - 128)) * 64 + (f 2 - 128)) * 64 + (f 3 - 128) := rfl
  unfold SgnOk
  rw [e]
  simp only [decide_eq_true_eq, all4]
  split <;> split <;> first | rfl | (exfalso; omega)
end Go.Proofs.YtidccanfjcanoaaGreatDoor.Fi
