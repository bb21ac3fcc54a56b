/-
  PLAIN: great letters read back, greedily: what is read of a number's letters is the number. No program here.
-/
import Derived.Test.YtcjhaeppplmmjaaDoorRomP
namespace Go.Proofs.YtcjhaeppplmmjaaDoor.Rm

/-- A row of the table as it lies: the first place has three letters at most. -/
def row (k d : Nat) : List UInt8 := if k = 0 ∧ 4 ≤ d then [] else tab k d
def best (k : Nat) (rest : List UInt8) : Nat → Nat
  | 0 => 0
  | j + 1 => if (row k (best k rest j)).length < (row k (j + 1)).length ∧ (row k (j + 1)).isPrefixOf rest = true then j + 1 else best k rest j
theorem best_le (k : Nat) (rest : List UInt8) (j : Nat) : best k rest j ≤ j := by
  induction j with
  | zero => exact Nat.le_refl _
  | succ j ih => unfold best; split <;> omega
def back (s : List UInt8) : Nat → Nat × List UInt8
  | 0 => (0, s)
  | k + 1 => ((back s k).1 * 10 + best k (back s k).2 9, (back s k).2.drop (row k (best k (back s k).2 9)).length)
theorem back_lt (s : List UInt8) (k : Nat) : (back s k).1 < 10 ^ k := by
  induction k with
  | zero => exact Nat.one_pos
  | succ k ih =>
    have := best_le k (back s k).2 9
    show (back s k).1 * 10 + best k (back s k).2 9 < 10 ^ (k + 1)
    rw [Nat.pow_succ]; omega
theorem back_rest (s : List UInt8) (k : Nat) : (back s k).2.length ≤ s.length := by
  induction k with
  | zero => exact Nat.le_refl _
  | succ k ih =>
    show ((back s k).2.drop _).length ≤ s.length
    rw [List.length_drop]; omega

def alph : Nat → List UInt8
  | 0 => [77]
  | 1 => [67, 68, 77]
  | 2 => [88, 76, 67]
  | _ => [73, 86, 88]
theorem row_alph (k d : Nat) (hk : k < 4) (hd : d < 10) : ∀ c ∈ row k d, c ∈ alph k := by
  rcases (by omega : k = 0 ∨ k = 1 ∨ k = 2 ∨ k = 3) with rfl | rfl | rfl | rfl <;>
    rcases (by omega : d = 0 ∨ d = 1 ∨ d = 2 ∨ d = 3 ∨ d = 4 ∨ d = 5 ∨ d = 6 ∨ d = 7 ∨ d = 8 ∨ d = 9) with rfl | rfl | rfl | rfl | rfl | rfl | rfl | rfl | rfl | rfl <;> decide
theorem prefix_app (A : List UInt8) (r : List UInt8) (hr : ∀ c ∈ r.head?, c ∉ A) : ∀ (t p : List UInt8), (∀ c ∈ p, c ∈ A) → p.isPrefixOf (t ++ r) = p.isPrefixOf t
  | [], [], _ => by simp
  | [], c :: p, h => by
    rw [List.nil_append]
    cases r with
    | nil => rfl
    | cons x r =>
      have hx : x ∉ A := hr x (by simp)
      have hc : c ∈ A := h c (List.mem_cons_self ..)
      have : (c == x) = false := by
        rw [beq_eq_false_iff_ne]
        intro e
        exact hx (e ▸ hc)
      simp [List.isPrefixOf, this]
  | a :: t, [], _ => by simp [List.isPrefixOf]
  | a :: t, c :: p, h => by
    have ih := prefix_app A r hr t p (fun x hx => h x (List.mem_cons_of_mem _ hx))
    simp only [List.cons_append, List.isPrefixOf, ih]
theorem best_app (k : Nat) (hk : k < 4) (t r : List UInt8) (hr : ∀ c ∈ r.head?, c ∉ alph k) (j : Nat) (hj : j ≤ 9) : best k (t ++ r) j = best k t j := by
  induction j with
  | zero => rfl
  | succ j ih =>
    have ih' := ih (by omega)
    unfold best
    rw [ih', prefix_app (alph k) r hr t _ (row_alph k (j + 1) hk (by omega))]
theorem best_tab (k d : Nat) (hk : k < 4) (hd : d < 10) (h : k = 0 → d < 4) : best k (tab k d) 9 = d := by
  rcases (by omega : k = 0 ∨ k = 1 ∨ k = 2 ∨ k = 3) with rfl | rfl | rfl | rfl <;>
    rcases (by omega : d = 0 ∨ d = 1 ∨ d = 2 ∨ d = 3 ∨ d = 4 ∨ d = 5 ∨ d = 6 ∨ d = 7 ∨ d = 8 ∨ d = 9) with rfl | rfl | rfl | rfl | rfl | rfl | rfl | rfl | rfl | rfl <;>
    first
      | decide +kernel
      | exact absurd (h rfl) (by decide)
theorem tab_head (k d : Nat) (hk : k < 4) (hd : d < 10) : ∀ c ∈ (tab k d).head?, c ∉ (List.range k).flatMap alph := by
  rcases (by omega : k = 0 ∨ k = 1 ∨ k = 2 ∨ k = 3) with rfl | rfl | rfl | rfl <;>
    rcases (by omega : d = 0 ∨ d = 1 ∨ d = 2 ∨ d = 3 ∨ d = 4 ∨ d = 5 ∨ d = 6 ∨ d = 7 ∨ d = 8 ∨ d = 9) with rfl | rfl | rfl | rfl | rfl | rfl | rfl | rfl | rfl | rfl <;> decide
/-- The letters from place k on. -/
def low (m : Nat) : Nat → List UInt8
  | 0 => []
  | j + 1 => tab (3 - j) (digit m (3 - j)) ++ low m j
theorem low_head (m : Nat) (hm : m ≤ 3999) (k : Nat) (hk : k < 4) : ∀ c ∈ (low m (3 - k)).head?, c ∉ alph k := by
  have H : ∀ j, j ≤ 3 - k → ∀ c ∈ (low m j).head?, c ∉ alph k := by
    intro j
    induction j with
    | zero => intro _ c hc; simp [low] at hc
    | succ j ih =>
      intro hj c hc
      have hd := digit_lt m (3 - j) hm
      have h1 := tab_head (3 - j) _ (by omega) hd
      simp only [low] at hc
      cases ht : tab (3 - j) (digit m (3 - j)) with
      | nil =>
        rw [ht, List.nil_append] at hc
        exact ih (by omega) c hc
      | cons x t =>
        rw [ht] at hc h1
        have hx : x = c := by simpa using hc
        have := h1 x (by simp)
        intro hmem
        apply this
        rw [List.mem_flatMap]
        exact ⟨k, List.mem_range.2 (by omega), hx ▸ hmem⟩
  exact H (3 - k) (Nat.le_refl _)
theorem row_tab (k d : Nat) (h : k = 0 → d < 4) : row k d = tab k d := by
  unfold row
  rw [if_neg]
  rintro ⟨h0, h4⟩
  have := h h0
  omega
theorem roman_low (m : Nat) : roman m = low m 4 := by
  simp [roman, upTo, low]
theorem back_low (m : Nat) (hm : m ≤ 3999) : ∀ k, k ≤ 4 → back (roman m) k = (m / 10 ^ (4 - k), low m (4 - k))
  | 0, _ => by
    show (0, roman m) = _
    rw [roman_low, Nat.div_eq_of_lt (by show m < 10000; omega)]
  | k + 1, hk => by
    have ih := back_low m hm k (by omega)
    have hd := digit_lt m k hm
    have h4 := digit_lt4 m hm
    have hk3 : 4 - k = (3 - k) + 1 := by omega
    have e : low m (4 - k) = tab k (digit m k) ++ low m (3 - k) := by
      rw [hk3]
      show tab (3 - (3 - k)) (digit m (3 - (3 - k))) ++ low m (3 - k) = _
      rw [show 3 - (3 - k) = k by omega]
    have hb : best k (low m (4 - k)) 9 = digit m k := by
      rw [e, best_app k (by omega) _ _ (low_head m hm k (by omega)) 9 (by omega), best_tab k _ (by omega) hd (fun h => by subst h; exact h4)]
    show ((back (roman m) k).1 * 10 + best k (back (roman m) k).2 9, (back (roman m) k).2.drop (row k (best k (back (roman m) k).2 9)).length) = _
    rw [ih]
    show (m / 10 ^ (4 - k) * 10 + best k (low m (4 - k)) 9, (low m (4 - k)).drop (row k (best k (low m (4 - k)) 9)).length) = _
    rw [hb, row_tab k _ (fun h => by subst h; exact h4), e, List.drop_left, show 4 - (k + 1) = 3 - k by omega]
    congr 1
    rcases (by omega : k = 0 ∨ k = 1 ∨ k = 2 ∨ k = 3) with rfl | rfl | rfl | rfl
    · show m / 10000 * 10 + m / 1000 = m / 1000; omega
    · show m / 1000 * 10 + m / 100 % 10 = m / 100; omega
    · show m / 100 * 10 + m / 10 % 10 = m / 10; omega
    · show m / 10 * 10 + m % 10 = m / 1; omega
theorem back_roman (m : Nat) (hm : m ≤ 3999) : back (roman m) 4 = (m, []) := by
  rw [back_low m hm 4 (Nat.le_refl _)]
  show (m / 1, _) = _
  rw [Nat.div_one]; rfl
theorem roman_inj (a b : Nat) (ha : a ≤ 3999) (hb : b ≤ 3999) (h : roman a = roman b) : a = b := by
  have h1 := back_roman a ha
  have h2 := back_roman b hb
  rw [h, h2] at h1
  exact (Prod.mk.inj h1).1.symm
theorem tab_len4 (k d : Nat) (hk : k < 4) (hd : d < 10) (h : k = 0 → d < 4) : (tab k d).length ≤ (if k = 0 then 3 else 4) ∧ (1 ≤ d → 1 ≤ (tab k d).length) := by
  rcases (by omega : k = 0 ∨ k = 1 ∨ k = 2 ∨ k = 3) with rfl | rfl | rfl | rfl <;>
    rcases (by omega : d = 0 ∨ d = 1 ∨ d = 2 ∨ d = 3 ∨ d = 4 ∨ d = 5 ∨ d = 6 ∨ d = 7 ∨ d = 8 ∨ d = 9) with rfl | rfl | rfl | rfl | rfl | rfl | rfl | rfl | rfl | rfl <;>
    first
      | decide
      | exact absurd (h rfl) (by decide)
theorem roman_len (n : Nat) (h1 : 1 ≤ n) (h : n ≤ 3999) : 1 ≤ (roman n).length ∧ (roman n).length ≤ 15 := by
  have a0 := tab_len4 0 _ (by omega) (digit_lt n 0 h) (fun _ => digit_lt4 n h)
  have a1 := tab_len4 1 _ (by omega) (digit_lt n 1 h) (fun h => by omega)
  have a2 := tab_len4 2 _ (by omega) (digit_lt n 2 h) (fun h => by omega)
  have a3 := tab_len4 3 _ (by omega) (digit_lt n 3 h) (fun h => by omega)
  have e : (roman n).length = (tab 0 (digit n 0)).length + (tab 1 (digit n 1)).length + (tab 2 (digit n 2)).length + (tab 3 (digit n 3)).length := by
    simp [roman, upTo, Nat.add_assoc]
  simp only [if_pos, if_neg (show ¬ (1 = 0) by decide), if_neg (show ¬ (2 = 0) by decide), if_neg (show ¬ (3 = 0) by decide)] at a0 a1 a2 a3
  have hn : 1 ≤ digit n 0 ∨ 1 ≤ digit n 1 ∨ 1 ≤ digit n 2 ∨ 1 ≤ digit n 3 := by
    show 1 ≤ n / 1000 ∨ 1 ≤ n / 100 % 10 ∨ 1 ≤ n / 10 % 10 ∨ 1 ≤ n % 10
    omega
  rw [e]
  constructor
  · rcases hn with h | h | h | h
    · have := a0.2 h; omega
    · have := a1.2 h; omega
    · have := a2.2 h; omega
    · have := a3.2 h; omega
  · omega
theorem row_zero (k : Nat) (hk : k < 4) : row k 0 = [] := by
  rcases (by omega : k = 0 ∨ k = 1 ∨ k = 2 ∨ k = 3) with rfl | rfl | rfl | rfl <;> rfl
theorem best_prefix (k : Nat) (hk : k < 4) (rest : List UInt8) (j : Nat) : (row k (best k rest j)).length ≤ rest.length := by
  induction j with
  | zero => show (row k 0).length ≤ _; rw [row_zero k hk]; exact Nat.zero_le _
  | succ j ih =>
    unfold best
    split
    · rename_i h
      exact (List.isPrefixOf_iff_prefix.1 h.2).length_le
    · exact ih
theorem row_length (k d : Nat) : (row k d).length ≤ 9 + d := by
  unfold row
  split
  · exact Nat.zero_le _
  · have hr : ∀ (m : Nat) (o : List UInt8), (List.replicate m o).flatten.length = m * o.length := by intro m o; simp
    unfold tab
    split <;> (unfold dg; split <;> (try split) <;> (try split) <;> simp <;> omega)
theorem best_yes (k : Nat) (rest : List UInt8) (j : Nat) (h1 : (row k (best k rest j)).length < (row k (j + 1)).length) (h2 : (row k (j + 1)).isPrefixOf rest = true) : best k rest (j + 1) = j + 1 := by
  rw [best, if_pos ⟨h1, h2⟩]
theorem best_no (k : Nat) (rest : List UInt8) (j : Nat) (h : ¬ ((row k (best k rest j)).length < (row k (j + 1)).length ∧ (row k (j + 1)).isPrefixOf rest = true)) : best k rest (j + 1) = best k rest j := by
  rw [best, if_neg h]
/-- The number whose letters these are; 0: none. -/
def num (s : List UInt8) : Nat := if 1 ≤ (back s 4).1 ∧ (back s 4).1 ≤ 3999 ∧ roman (back s 4).1 = s then (back s 4).1 else 0
theorem num_roman (m : Nat) (h1 : 1 ≤ m) (hm : m ≤ 3999) : num (roman m) = m := by
  unfold num
  rw [back_roman m hm, if_pos ⟨h1, hm, rfl⟩]
theorem num_le (s : List UInt8) : num s ≤ 3999 := by unfold num; split <;> omega
theorem num_pos {s : List UInt8} (h : num s ≠ 0) : roman (num s) = s := by
  unfold num at *
  split at h
  · rename_i hh
    rw [if_pos hh]; exact hh.2.2
  · exact absurd rfl h
theorem num_eq (s : List UInt8) (m : Nat) (h1 : 1 ≤ m) (hm : m ≤ 3999) : roman m = s ↔ num s = m := by
  constructor
  · rintro rfl; exact num_roman m h1 hm
  · intro h
    have := num_pos (s := s) (by omega)
    rwa [h] at this
end Go.Proofs.YtcjhaeppplmmjaaDoor.Rm
