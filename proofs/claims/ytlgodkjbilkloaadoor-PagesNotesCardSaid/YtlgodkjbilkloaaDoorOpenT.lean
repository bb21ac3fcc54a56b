/-
  A slice of strings among the arguments, opened (behind PgQ).
-/
import Derived.Test.YtlgodkjbilkloaaDoorPgQ
import Derived.ProofKit
import Derived.OpenShut
import Derived.SliceStrings
import Derived.SizedLaws
import Derived.Lib.SmallJoins
namespace Go.Proofs.YtlgodkjbilkloaaDoor
open Go.ChangeShapes Go.WideShapes Go.ChangeAt Go.RowKit
set_option linter.unusedVariables false

theorem TR.nil (w : World) (A : Option Addr) : TR w A [] := fun h => absurd rfl h
theorem weights_all {H : Type} {P : Program} {e : TypeId} : ∀ (l : List (DataW H)) (d : DataW H), d ∈ l → ∀ n ∈ d.weights P e, n ∈ DataW.weightsAll P e l
  | x :: l, d, hd, n, hn => by
    simp only [DataW.weightsAll, List.mem_append]
    rcases List.mem_cons.1 hd with rfl | hd
    · exact .inl hn
    · exact .inr (weights_all l d hd n hn)
theorem open_texts {H : Type} {enc : TypeId × Value → H} {P : Program} {w : World} {base : Nat} {spare : Nat → Bool} {held : Bool} {r : Reach} {b0 : Nat} {t e : TypeId} {v : Value} {d : DataW H} {p : List MemPlace}
    (ht : P.underlying t = some (.slice e)) (he : P.underlying e = some .string) (hE : P.cellsOf e = 1) (hB : P.bytesOf e = 16) (hv : Value.okWide P w r b0 t v) (h : DataW.Trod enc P w base spare held t v d p) (hw : ∀ m ∈ d.weights P t, m ≤ reachBytes) :
    ∃ (A : Option Addr) (n c : Nat) (l : List ByteArray), v = .slice A n c ∧ l.length = n ∧ TR w A l ∧ n ≤ 8796093022208 ∧ ∀ i, (l.getD i ByteArray.empty).size ≤ 140737488351232 := by
  obtain ⟨A, n, c, rfl⟩ := okWide_slice ht hv
  obtain ⟨fuel, hf⟩ := h
  rcases open_strings ht he hE hf with ⟨hcs, _⟩ | ⟨a, len', cap', ss, hcs, _, hl, hm, hz, hd, hcell, hws⟩
  · simp [Value.cells] at hcs
    obtain ⟨rfl, rfl, rfl⟩ := hcs
    exact ⟨none, 0, 0, [], rfl, rfl, TR.nil _ _, by omega, fun i => by simp⟩
  · simp [Value.cells] at hcs
    obtain ⟨rfl, rfl, rfl⟩ := hcs
    have hlen : n ≤ ss.length := by rw [hz]; split <;> omega
    have hd0 : d = .slice (strs (ss.take n)) (strs (ss.drop n)) := congrArg Prod.fst hd
    have hws2 := hw
    rw [hd0] at hws2
    have hn : n * 16 ≤ reachBytes := by
      have := hws2 (((strs (ss.take n) : List (DataW H)).length + (strs (ss.drop n) : List (DataW H)).length) * P.bytesOf e) (by simp [DataW.weights, ht])
      simp only [strs, List.length_map, List.length_take, List.length_drop, hB] at this
      omega
    unfold reachBytes at hn
    refine ⟨some a, n, c, ss.take n, rfl, by rw [List.length_take]; omega, ?_, by omega, fun i => ?_⟩
    · intro hne
      have h0 : 0 < n := by
        rcases Nat.eq_zero_or_pos n with h0 | h0
        · exact absurd (by rw [h0]; rfl) hne
        · exact h0
      obtain ⟨b, off, spot⟩ := a
      have hspot : spot = none := by simpa [Addr.add] using World.cell?_spot (hcell 0 (by omega))
      subst hspot
      refine ⟨b, off, rfl, World.block_lt_of_cell? _ _ (by have := hcell 0 (by omega); rwa [Addr.add_lit] at this), fun j hj => ?_⟩
      rw [List.length_take] at hj
      rw [← Addr.add_lit, hcell j (by omega)]
      simp only [List.getD_eq_getElem?_getD]
      rw [List.getElem?_take_of_lt (by omega)]
    · by_cases hi : i < (ss.take n).length
      · have hm' : ((ss.take n).getD i ByteArray.empty) ∈ ss.take n := by
          rw [List.getD_eq_getElem?_getD, List.getElem?_eq_getElem hi]
          exact List.getElem_mem _
        generalize (ss.take n).getD i ByteArray.empty = u at *
        have := hws2 u.data.toList.length (by
          simp only [DataW.weights, ht, List.mem_cons, List.mem_append]
          refine .inr (.inl (weights_all _ (.lit (.string u.data.toList)) (by simp only [strs, List.mem_map]; exact ⟨u, hm', rfl⟩) _ (by simp [DataW.weights])))
          )
        rw [Lib.size_eq]
        unfold reachBytes at this
        exact this
      · rw [List.getD_eq_getElem?_getD, List.getElem?_eq_none (by omega)]
        simp
end Go.Proofs.YtlgodkjbilkloaaDoor
