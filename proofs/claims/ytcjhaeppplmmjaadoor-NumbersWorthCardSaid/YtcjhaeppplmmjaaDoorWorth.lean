/-
  NumbersWorth: the walk.
-/
import Derived.Test.YtcjhaeppplmmjaaDoorWorthW
import Derived.BigQuiet
namespace Go.Proofs.YtcjhaeppplmmjaaDoor
open Go.RowKit
set_option linter.unusedVariables false

theorem total_step (l : List UInt8) (j : Nat) (h : j < l.length) :
    Rm.total (l.drop j) = (if j + 1 < l.length ∧ Rm.worth (l.getD j 0) < Rm.worth (l.getD (j + 1) 0) then - Rm.worth (l.getD j 0) else Rm.worth (l.getD j 0)) + Rm.total (l.drop (j + 1)) := by
  rw [List.drop_eq_getElem_cons h]
  have e0 : l.getD j 0 = l[j] := by rw [List.getD_eq_getElem?_getD, List.getElem?_eq_getElem h]; rfl
  rw [e0]
  by_cases h1 : j + 1 < l.length
  · rw [List.drop_eq_getElem_cons h1]
    have e1 : l.getD (j + 1) 0 = l[j + 1] := by rw [List.getD_eq_getElem?_getD, List.getElem?_eq_getElem h1]; rfl
    rw [e1, Rm.total]
    by_cases h2 : Rm.worth l[j] < Rm.worth l[j + 1]
    · rw [if_pos h2, if_pos ⟨h1, h2⟩]
    · rw [if_neg h2, if_neg (fun h => h2 h.2)]
  · rw [List.drop_eq_nil_of_le (by omega), if_neg (fun h => h1 h.1)]
    simp [Rm.total]
theorem noFour_at : ∀ (j : Nat) (l : List UInt8), Rm.noFour l = true → j + 3 < l.length → ¬ (l.getD (j + 3) 0 = l.getD (j + 2) 0 ∧ l.getD (j + 3) 0 = l.getD (j + 1) 0 ∧ l.getD (j + 3) 0 = l.getD j 0)
  | 0, a :: b :: c :: d :: r, h, _ => by
    intro ⟨h1, h2, h3⟩
    simp at h1 h2 h3
    subst h1
    subst h2
    subst h3
    simp [Rm.noFour] at h
  | j + 1, a :: b :: c :: d :: r, h, hl => by
    have h' : Rm.noFour (b :: c :: d :: r) = true := by
      rw [Rm.noFour] at h
      simp only [Bool.and_eq_true] at h
      exact h.2
    have := noFour_at j (b :: c :: d :: r) h' (by simpa using hl)
    simpa using this
  | _, [], _, hl => by simp at hl
  | _, [_], _, hl => by simp at hl
  | _, [_, _], _, hl => by simp at hl; omega
  | _, [_, _, _], _, hl => by simp at hl; omega
end Go.Proofs.YtcjhaeppplmmjaaDoor
