/-
  PLAIN: the order of small letters. No program here.
-/
import Derived.Test.YtcjhaeppplmmjaaDoorRomP
namespace Go.Proofs.YtcjhaeppplmmjaaDoor.Rm
open Go.Lib

/-- Shorter, or as long and ahead. -/
def later (x y : List UInt8) : Prop := x.length < y.length ∨ (x.length = y.length ∧ compareBytes x y = -1)
theorem cmp_snoc : ∀ (p q : List UInt8) (c d : UInt8), p.length = q.length → compareBytes (p ++ [c]) (q ++ [d]) = if compareBytes p q = 0 then compareBytes [c] [d] else compareBytes p q
  | [], [], c, d, _ => by simp [compareBytes]
  | [], _ :: _, _, _, h => by simp at h
  | _ :: _, [], _, _, h => by simp at h
  | x :: p, y :: q, c, d, h => by
    have ih := cmp_snoc p q c d (by simpa using h)
    simp only [List.cons_append]
    unfold compareBytes
    split
    · simp
    · split
      · simp
      · exact ih
theorem letter_len (n : Nat) (h : 1 ≤ n) : (letter n).length = (letter ((n - 1) / 26)).length + 1 := by
  rw [letter_pos n h]; simp
theorem one_lt (r s : Nat) (hr : r < 26) (hs : s < 26) : compareBytes [UInt8.ofNat (97 + r)] [UInt8.ofNat (97 + s)] = if r < s then -1 else if s < r then 1 else 0 := by
  have h : ∀ a b : Fin 26, compareBytes [UInt8.ofNat (97 + a.val)] [UInt8.ofNat (97 + b.val)] = if a.val < b.val then -1 else if b.val < a.val then 1 else 0 := by decide +kernel
  exact h ⟨r, hr⟩ ⟨s, hs⟩
/-- Smaller numbers have letters that come first; like numbers alone like letters. -/
theorem letter_order : ∀ (a b : Nat), (a < b → later (letter a) (letter b)) ∧ (a = b → (letter a).length = (letter b).length ∧ compareBytes (letter a) (letter b) = 0) ∧
    (b < a → (letter b).length < (letter a).length ∨ ((letter a).length = (letter b).length ∧ compareBytes (letter a) (letter b) = 1)) := by
  intro a
  induction a using Nat.strongRecOn with
  | _ a ih =>
    intro b
    rcases Nat.eq_zero_or_pos a with ha | ha <;> rcases Nat.eq_zero_or_pos b with hb | hb
    · subst ha; subst hb
      have e : letter 0 = [] := by rw [letter]
      rw [e]
      exact ⟨fun h => by omega, fun _ => ⟨rfl, rfl⟩, fun h => by omega⟩
    · subst ha
      have e : letter 0 = [] := by rw [letter]
      have := letter_len b hb
      rw [e]
      exact ⟨fun _ => .inl (by simp; omega), fun h => by omega, fun h => by omega⟩
    · subst hb
      have e : letter 0 = [] := by rw [letter]
      have := letter_len a ha
      rw [e]
      exact ⟨fun h => by omega, fun h => by omega, fun _ => .inl (by simp; omega)⟩
    · obtain ⟨i1, i2, i3⟩ := ih ((a - 1) / 26) (by omega) ((b - 1) / 26)
      have la := letter_len a ha
      have lb' := letter_len b hb
      have hr : (a - 1) % 26 < 26 := Nat.mod_lt _ (by decide)
      have hs : (b - 1) % 26 < 26 := Nat.mod_lt _ (by decide)
      have ho := one_lt _ _ hr hs
      have hc := fun h => cmp_snoc (letter ((a - 1) / 26)) (letter ((b - 1) / 26)) (UInt8.ofNat (97 + (a - 1) % 26)) (UInt8.ofNat (97 + (b - 1) % 26)) h
      rw [← letter_pos a ha, ← letter_pos b hb] at hc
      refine ⟨fun h => ?_, fun h => ?_, fun h => ?_⟩
      · rcases (by omega : (a - 1) / 26 < (b - 1) / 26 ∨ ((a - 1) / 26 = (b - 1) / 26 ∧ (a - 1) % 26 < (b - 1) % 26)) with h1 | ⟨h1, h2⟩
        · rcases i1 h1 with h3 | ⟨h3, h4⟩
          · exact .inl (by omega)
          · exact .inr ⟨by omega, by rw [hc h3, h4, if_neg (by decide)]⟩
        · obtain ⟨h3, h4⟩ := i2 h1
          exact .inr ⟨by omega, by rw [hc h3, h4, if_pos rfl, ho, if_pos h2]⟩
      · subst h
        obtain ⟨h3, h4⟩ := i2 rfl
        exact ⟨rfl, by rw [hc h3, h4, if_pos rfl, ho, if_neg (Nat.lt_irrefl _), if_neg (Nat.lt_irrefl _)]⟩
      · rcases (by omega : (b - 1) / 26 < (a - 1) / 26 ∨ ((a - 1) / 26 = (b - 1) / 26 ∧ (b - 1) % 26 < (a - 1) % 26)) with h1 | ⟨h1, h2⟩
        · rcases i3 h1 with h3 | ⟨h3, h4⟩
          · exact .inl (by omega)
          · exact .inr ⟨by omega, by rw [hc h3, h4, if_neg (by decide)]⟩
        · obtain ⟨h3, h4⟩ := i2 h1
          exact .inr ⟨by omega, by rw [hc h3, h4, if_pos rfl, ho, if_neg (by omega), if_pos h2]⟩
theorem letter_later (a b : Nat) : later (letter a) (letter b) ↔ a < b := by
  constructor
  · intro h
    obtain ⟨_, i2, i3⟩ := letter_order a b
    rcases Nat.lt_trichotomy a b with h1 | h1 | h1
    · exact h1
    · have := i2 h1
      rcases h with h | ⟨_, h⟩
      · omega
      · rw [this.2] at h; cases h
    · rcases i3 h1 with h2 | ⟨h2, h3⟩
      · rcases h with h | h <;> omega
      · rcases h with h | ⟨_, h⟩
        · omega
        · rw [h3] at h; cases h
  · exact (letter_order a b).1
end Go.Proofs.YtcjhaeppplmmjaaDoor.Rm
