/-
  The listed table of powers of ten, read.
-/
import Derived.Test.YtlgodkjbilkloaaDoorPgA
import Derived.Test.YtlgodkjbilkloaaDoorFlat
import Derived.Test.YtlgodkjbilkloaaDoorRows
import Derived.LaidLaws
namespace Go.Proofs.YtlgodkjbilkloaaDoor
open Go.RowKit
set_option linter.unusedVariables false

theorem tabIs_of_laid {P : Program} {W : World} {l : List (String × DataW Unit)} {n : String} {d : DataW Unit} {g m : Nat} {t : TypeId} {k : IntKind} {zs : List Int} (h : laidMet P l W) (hm : (n, d) ∈ l)
    (hg : P.globalNamed n = some g) (hty : (P.globals[g]?).map (·.type) = some t) (hp : flatT P m t = true) (hd : flat m d = zs.map (Value.int k)) : Lib.TabIs P W n k zs := by
  obtain ⟨ps, hv, _⟩ := h
  obtain ⟨g', t', cs, fuel, p, hg', ht', hvar, htr⟩ := laidVars_mem hv hm
  obtain rfl := Option.some.inj (hg.symm.trans hg')
  obtain rfl := Option.some.inj (hty.symm.trans ht')
  unfold Lib.TabIs
  have := trod_flat m fuel t cs.toList (d, p) hp htr
  rw [hvar]
  congr 1
  rw [← hd, this]
theorem gPow : Pow10At 0 := by unfold Pow10At; kernel_rfl
theorem gPowType : (Tryd.prog.globals[0]?).map (·.type) = some 130 := by kernel_rfl
theorem gPowFlat : flatT Tryd.prog 4 130 = true := by kernel_rfl
theorem pow_flat : flat 4 (Rows.laid_internal_strconv_uint64pow10 (H := Unit)) = Lib.pow10Tab.map (Value.int .u64) := by
  simp [flat, Rows.laid_internal_strconv_uint64pow10, Lib.pow10Tab, List.range, List.range.loop]
theorem pow_of {W : World} {l : List (String × DataW Unit)} (h : laidMet Tryd.prog l W) (h2 : ("internal/strconv.uint64pow10", Rows.laid_internal_strconv_uint64pow10) ∈ l) : Pow10 W :=
  tabIs_of_laid h h2 gPow gPowType gPowFlat pow_flat
end Go.Proofs.YtlgodkjbilkloaaDoor
