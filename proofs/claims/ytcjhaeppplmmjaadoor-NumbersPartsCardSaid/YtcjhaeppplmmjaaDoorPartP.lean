/-
  PLAIN: numbers with points between: how many points; two lists. No program here.
-/
import Derived.Test.YtcjhaeppplmmjaaDoorJoinP
namespace Go.Proofs.YtcjhaeppplmmjaaDoor.Rm
open Go.Lib

/-- How many points there are. -/
def pts : List UInt8 → Nat
  | [] => 0
  | c :: r => (if c = 46 then 1 else 0) + pts r
theorem pts_append (a b : List UInt8) : pts (a ++ b) = pts a + pts b := by
  induction a with
  | nil => simp [pts]
  | cons c a ih => simp only [List.cons_append, pts, ih]; omega
theorem pts_none (l : List UInt8) (h : ∀ c ∈ l, c ≠ 46) : pts l = 0 := by
  induction l with
  | nil => rfl
  | cons c l ih => rw [pts, if_neg (h c (List.mem_cons_self ..)), ih (fun x hx => h x (List.mem_cons_of_mem _ hx))]
theorem dec_no (u : Nat) : ∀ c ∈ decDigits u, c ≠ 46 := by
  intro c hc
  rw [decDigits_eq] at hc
  obtain ⟨t, _, rfl⟩ := List.mem_map.1 hc
  unfold dg
  intro h
  have hd : u / 10 ^ (nDigits u - 1 - t) % 10 < 10 := Nat.mod_lt _ (by decide)
  generalize u / 10 ^ (nDigits u - 1 - t) % 10 = x at *
  have := congrArg UInt8.toNat h
  rw [UInt8.toNat_ofNat', Nat.mod_eq_of_lt (by omega)] at this
  have h46 : (46 : UInt8).toNat = 46 := rfl
  omega
theorem itoa_no (n : Int) : ∀ c ∈ itoa n, c ≠ 46 := by
  intro c hc
  unfold itoa at hc
  split at hc
  · rcases List.mem_cons.1 hc with rfl | h
    · decide
    · exact dec_no _ c h
  · exact dec_no _ c hc
theorem itoa_ne (n : Int) : itoa n ≠ [] := by
  unfold itoa
  split
  · simp
  · intro h
    have := congrArg List.length h
    rw [decDigits_length] at this
    have h2 := nDigits_pos n.toNat
    simp at this
    omega
theorem jn_pts (l : List Int) : ∀ n, pts (jn [46] l n) = n - 1
  | 0 => rfl
  | n + 1 => by
    rw [jn, pts_append, pts_append, jn_pts l n, pts_none _ (itoa_no _)]
    rcases Nat.eq_zero_or_pos n with h | h
    · subst h; rfl
    · rw [if_neg (by omega)]; simp [pts]; omega
theorem jn_nil (l : List Int) (n : Nat) : jn [46] l n = [] ↔ n = 0 := by
  cases n with
  | zero => simp [jn]
  | succ n =>
    rw [jn]
    constructor
    · intro h
      have := (List.append_eq_nil_iff.1 h).2
      exact absurd this (itoa_ne _)
    · intro h; omega
theorem jn_left (a b : List Int) : ∀ n, n ≤ a.length → jn [46] (a ++ b) n = jn [46] a n
  | 0, _ => rfl
  | n + 1, h => by
    rw [jn, jn, jn_left a b n (by omega)]
    have : (a ++ b).getD n 0 = a.getD n 0 := by rw [List.getD_eq_getElem?_getD, List.getD_eq_getElem?_getD, List.getElem?_append_left (by omega)]
    rw [this]
theorem jn_right (a b : List Int) (ha : a ≠ []) : ∀ m, m + 1 ≤ b.length → jn [46] (a ++ b) (a.length + (m + 1)) = jn [46] a a.length ++ [46] ++ jn [46] b (m + 1)
  | 0, h => by
    have hp : 0 < a.length := List.length_pos_iff.2 ha
    have : (a ++ b).getD a.length 0 = b.getD 0 0 := by rw [List.getD_eq_getElem?_getD, List.getD_eq_getElem?_getD, List.getElem?_append_right (by omega), Nat.sub_self]
    rw [Nat.zero_add, jn, jn_left a b a.length (Nat.le_refl _), if_neg (by omega), this]
    simp [jn]
  | m + 1, h => by
    have hp : 0 < a.length := List.length_pos_iff.2 ha
    have ih := jn_right a b ha m (by omega)
    have : (a ++ b).getD (a.length + (m + 1)) 0 = b.getD (m + 1) 0 := by
      rw [List.getD_eq_getElem?_getD, List.getD_eq_getElem?_getD, List.getElem?_append_right (by omega)]
      congr 2; omega
    rw [show a.length + (m + 1 + 1) = (a.length + (m + 1)) + 1 by omega, jn, ih, if_neg (by omega), this]
    conv => rhs; rw [jn]
    rw [if_neg (by omega)]
    simp
/-- Both lists, one behind the other. -/
theorem jn_both (a b : List Int) : jn [46] (a ++ b) (a.length + b.length) = if a = [] ∨ b = [] then jn [46] a a.length ++ jn [46] b b.length else jn [46] a a.length ++ [46] ++ jn [46] b b.length := by
  by_cases ha : a = []
  · subst ha; simp [jn]
  by_cases hb : b = []
  · subst hb; simp [jn]
  · rw [if_neg (by simp [ha, hb])]
    obtain ⟨m, hm⟩ : ∃ m, b.length = m + 1 := ⟨b.length - 1, by have := List.length_pos_iff.2 hb; omega⟩
    rw [hm]
    exact jn_right a b ha m (by omega)
end Go.Proofs.YtcjhaeppplmmjaaDoor.Rm
