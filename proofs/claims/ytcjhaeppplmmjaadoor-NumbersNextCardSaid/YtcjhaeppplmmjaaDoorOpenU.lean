/-
  Three numbers of 16 bits among the arguments, opened.
-/
import Derived.Test.YtcjhaeppplmmjaaDoorNNext
import Derived.ProofKit
import Derived.OpenShut
import Derived.Lib.SmallJoins
namespace Go.Proofs.YtcjhaeppplmmjaaDoor
open Go.ChangeShapes Go.WideShapes Go.ChangeAt Go.RowKit
set_option linter.unusedVariables false

theorem open_u16x3 {H : Type} {enc : TypeId × Value → H} {P : Program} {w : World} {base : Nat} {spare : Nat → Bool} {held : Bool} {r : Reach} {b0 : Nat} {t e : TypeId} {v : Value} {d : DataW H} {p : List MemPlace}
    (ht : P.underlying t = some (.array 3 e)) (he : P.underlying e = some (.int .u16)) (hC : P.cellsOf t = 3) (hE : P.cellsOf e = 1) (hv : Value.okWide P w r b0 t v) (h : DataW.Trod enc P w base spare held t v d p) :
    ∃ a b c : Int, v = .agg #[.int .u16 a, .int .u16 b, .int .u16 c] ∧ (Lit.int .u16 a).wf = true ∧ (Lit.int .u16 b).wf = true ∧ (Lit.int .u16 c).wf = true := by
  unfold Value.okWide at hv
  rw [ht] at hv
  obtain ⟨cs, rfl, hsz, _⟩ := hv
  obtain ⟨c0, c1, c2, rfl⟩ := Joins.array3 (hsz.trans hC)
  obtain ⟨fuel, hf⟩ := h
  obtain ⟨xs, m, _, _, _, hl, hx⟩ := DataW.trod_array ht hf
  have h0 := hx 0 (by omega)
  have h1 := hx 1 (by omega)
  have h2 := hx 2 (by omega)
  rw [List.getElem?_eq_getElem (by omega)] at h0 h1 h2
  simp only [hE, Value.cells] at h0 h1 h2
  obtain ⟨a, e0, _, w0⟩ := DataW.trod_int he h0
  obtain ⟨b, e1, _, w1⟩ := DataW.trod_int he h1
  obtain ⟨c, e2, _, w2⟩ := DataW.trod_int he h2
  simp at e0 e1 e2
  exact ⟨a, b, c, by rw [e0, e1, e2], w0, w1, w2⟩
end Go.Proofs.YtcjhaeppplmmjaaDoor
