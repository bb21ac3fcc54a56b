/-
  A slice of ints among the arguments, opened.
-/
import Derived.Test.YtidccanfjcanoaaGreatDoorIntW
import Derived.Test.YtidccanfjcanoaaGreatDoorJoinP
import Derived.ProofKit
import Derived.OpenShut
import Derived.Lib.SmallJoins
namespace Go.Proofs.YtidccanfjcanoaaGreatDoor
open Go.ChangeShapes Go.WideShapes Go.ChangeAt Go.RowKit
set_option linter.unusedVariables false

/-- A slice of ints that came in: nil, or at an address. -/
def IA (w : World) (A : Option Addr) (c : Nat) (l : List Int) : Prop := (A = none ∧ c = 0 ∧ l = []) ∨ ∃ ad, A = some ad ∧ (l = [] ∨ ∃ b off, ad = ⟨b, off, none⟩ ∧ b < w.heap.size ∧ ∀ j, j < l.length → w.cell? ⟨b, off + j, none⟩ = some (.int .i64 (l.getD j 0)))
theorem IA.ir {w : World} {A : Option Addr} {c : Nat} {l : List Int} (h : IA w A c l) : IR w A l := by
  intro hn
  rcases h with ⟨_, _, rfl⟩ | ⟨ad, rfl, rfl | ⟨b, off, rfl, h⟩⟩
  · exact absurd rfl hn
  · exact absurd rfl hn
  · exact ⟨b, off, rfl, h⟩
theorem open_ints_ia {H : Type} {enc : TypeId × Value → H} {P : Program} {w : World} {base : Nat} {spare : Nat → Bool} {held : Bool} {r : Reach} {b0 : Nat} {t e : TypeId} {v : Value} {d : DataW H} {p : List MemPlace}
    (ht : P.underlying t = some (.slice e)) (he : P.underlying e = some (.int .i64)) (hE : P.cellsOf e = 1) (hv : Value.okWide P w r b0 t v) (h : DataW.Trod enc P w base spare held t v d p) :
    ∃ A n c l, v = .slice A n c ∧ l.length = n ∧ IA w A c l ∧ Rm.inI l := by
  obtain ⟨A, n, c, rfl⟩ := okWide_slice ht hv
  obtain ⟨fuel, hf⟩ := h
  rcases open_ints ht he hE hf with ⟨hcs, _⟩ | ⟨a, len', cap', zs, hcs, _, hl, hm, hz, _, hcell, hwz⟩
  · simp [Value.cells] at hcs
    obtain ⟨rfl, rfl, rfl⟩ := hcs
    exact ⟨none, 0, 0, [], rfl, rfl, .inl ⟨rfl, rfl, rfl⟩, fun x hx => by simp at hx⟩
  · simp [Value.cells] at hcs
    obtain ⟨rfl, rfl, rfl⟩ := hcs
    have hlen : n ≤ zs.length := by rw [hz]; split <;> omega
    refine ⟨some a, n, c, zs.take n, rfl, by rw [List.length_take]; omega, .inr ⟨a, rfl, ?_⟩, ?_⟩
    · rcases Nat.eq_zero_or_pos n with h0 | h0
      · subst h0; exact .inl rfl
      · right
        obtain ⟨b, off, spot⟩ := a
        have hspot : spot = none := by simpa [Addr.add] using World.cell?_spot (hcell 0 (by omega))
        subst hspot
        refine ⟨b, off, rfl, World.block_lt_of_cell? _ _ (by have := hcell 0 (by omega); rwa [Addr.add_lit] at this), fun j hj => ?_⟩
        rw [List.length_take] at hj
        rw [← Addr.add_lit, hcell j (by omega)]
        simp only [List.getD_eq_getElem?_getD]
        rw [List.getElem?_take_of_lt (by omega)]
    · intro x hx
      have := hwz x (List.mem_of_mem_take hx)
      simp only [Lit.wf, Bool.and_eq_true, decide_eq_true_eq] at this
      exact this
end Go.Proofs.YtidccanfjcanoaaGreatDoor
