/-
  An element among the arguments, opened.
-/
import Derived.Test.YtcjhaeppplmmjaaETags
import Derived.Test.YtcjhaeppplmmjaaRows
import Derived.ProofKit
import Derived.OpenShut
import Derived.SizedLaws
import Derived.Lib.SmallJoins
namespace Go.Proofs.Ytcjhaeppplmmjaa
open Go.ChangeShapes Go.WideShapes Go.ChangeAt Go.RowKit
set_option linter.unusedVariables false

theorem open_elem {H : Type} {enc : TypeId × Value → H} {w : World} {base : Nat} {spare : Nat → Bool} {held : Bool} {r : Reach} {b0 : Nat} {v : Value} {d : DataW H} {p : List MemPlace}
    (hv : Value.okWide Try.prog w r b0 23 v) (h : DataW.Trod enc Try.prog w base spare held 23 v d p) :
    ∃ a b c e : ByteArray, v = .agg #[.string a, .string b, .string c, .string e] ∧ d = .agg [.lit (.string a.data.toList), .lit (.string b.data.toList), .lit (.string c.data.toList), .lit (.string e.data.toList)] := by
  obtain ⟨v0, v1, v2, v3, y0, y1, y2, y3, n, rfl, rfl, _, h0, h1, h2, h3⟩ := Joins.open_agg4 Try.underlying23 (by kernel_rfl) (by kernel_rfl) hv h
  obtain ⟨s0, e0, f0, _⟩ := DataW.trod_string Try.underlying9 h0
  obtain ⟨s1, e1, f1, _⟩ := DataW.trod_string Try.underlying9 h1
  obtain ⟨s2, e2, f2, _⟩ := DataW.trod_string Try.underlying9 h2
  obtain ⟨s3, e3, f3, _⟩ := DataW.trod_string Try.underlying9 h3
  simp at e0 e1 e2 e3
  subst e0 e1 e2 e3 f0 f1 f2 f3
  exact ⟨s0, s1, s2, s3, rfl, rfl⟩
theorem elem_sizes {H : Type} {a b c e : ByteArray} {ts : List TypeId} {ds : List (DataW H)}
    (h : (DataW.weightsEach Try.prog (23 :: ts) ((DataW.agg [.lit (.string a.data.toList), .lit (.string b.data.toList), .lit (.string c.data.toList), .lit (.string e.data.toList)] : DataW H) :: ds)).all (· ≤ reachBytes) = true) :
    a.size ≤ 140737488351232 ∧ b.size ≤ 140737488351232 ∧ c.size ≤ 140737488351232 ∧ e.size ≤ 140737488351232 := by
  have key : ∀ x : ByteArray, x.data.toList.length ∈ DataW.weightsEach Try.prog (23 :: ts) ((DataW.agg [.lit (.string a.data.toList), .lit (.string b.data.toList), .lit (.string c.data.toList), .lit (.string e.data.toList)] : DataW H) :: ds) → x.size ≤ 140737488351232 := by
    intro x hx
    have := List.all_eq_true.1 h _ hx
    rw [Lib.size_eq]
    have h2 := of_decide_eq_true this
    unfold reachBytes at h2
    exact h2
  refine ⟨key a ?_, key b ?_, key c ?_, key e ?_⟩
  all_goals
    refine DataW.weights_mem_each (j := 0) rfl rfl _ ?_
    simp [DataW.weights, DataW.weightsEach, Try.underlying23]
end Go.Proofs.Ytcjhaeppplmmjaa
