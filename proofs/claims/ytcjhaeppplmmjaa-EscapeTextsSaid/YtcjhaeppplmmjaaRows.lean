/-
  No cell of these rows narrows 'for every input' (looked for: loops, veiled, ifaces, maps, wideKeys, modest, calm, conditions, laid).
  DERIVED. THE GIVEN ROWS OF THIS SEAT. 6 by the template 'for every input the law returns true; each argument reads behind the call as it read before'; 0 by the template 'total and deterministic' (their statements: YtcjhaeppplmmjaaTotals.lean).
  GIVEN WITH THE SEED: the statements are not yours to turn. If you find one false, say at which input.
  Laid BY PROGRAM, IN A SANDBOX (cutbox-rows.mjs): the forced cells as the released guide's own fill.sh prints them over the translation 5c03dc8cd1d404c0… (all of the seat's roots in one cut). By AI agents, Wed Nov 11 2026. No macro, syntax, notation, axiom, sorry.
-/
import Derived.Test.YtcjhaeppplmmjaaChecked
import GoSem.Claim
import GoSem.ClaimJoined
import GoSem.ClaimMapViews
import Derived.JoinedTies
import Derived.KernelRfl
namespace Go.Proofs.Ytcjhaeppplmmjaa
/- THE CELL 'sum', in the pinned program and in every row, IS THE sha256 OF THE DUMP (.gsa) THAT YtcjhaeppplmmjaaProg.lean LOADS. Nothing in Lean hashes anything: it is a label: what it is worth is what the hold of that sum in a sandbox is worth. -/
noncomputable def Try.pinned : Pinned := { name := "ytcjhaeppplmmjaa", sum := "5c03dc8cd1d404c070ca99348555bbdb7e5607c2612cad583265fe947b22aa27", checked := Try.checked }
namespace Rows
def none {H : Type} : Left H := { results := [], args := [] }

/-- 'binderylaw06.EscapeTags': WHATEVER THE INPUT: true; the input reads as it did. -/
def escapeTagsSpec : ChangeSpec := { name := "escapeTags", fn := fun _ => fun
  | [d] => { results := [.lit (.bool true)], args := [d] }
  | _ => none }
def escapeTagsRow : OpenClaim := { program := "ytcjhaeppplmmjaa", sum := "5c03dc8cd1d404c070ca99348555bbdb7e5607c2612cad583265fe947b22aa27", func := "bindery/binderylaw06.EscapeTags", spec := "escapeTags", inPlace := ["internal/abi.NoEscape"], apart := false }
def EscapeTagsSaid : Prop := escapeTagsRow.holds Try.pinned (OpenSpec.ofChange escapeTagsSpec)

/-- ITS FALSE NEIGHBOUR: 'it returns false'. Refute it at one input. -/
def escapeTagsWrong : ChangeSpec := { name := "escapeTags", fn := fun _ => fun
  | [d] => { results := [.lit (.bool false)], args := [d] }
  | _ => none }
def EscapeTagsWrongFalsely : Prop := escapeTagsRow.holds Try.pinned (OpenSpec.ofChange escapeTagsWrong)

/-- 'binderylaw06.EscapeTexts': WHATEVER THE INPUT: true; the input reads as it did. -/
def escapeTextsSpec : ChangeSpec := { name := "escapeTexts", fn := fun _ => fun
  | [d] => { results := [.lit (.bool true)], args := [d] }
  | _ => none }
def escapeTextsRow : OpenClaim := { program := "ytcjhaeppplmmjaa", sum := "5c03dc8cd1d404c070ca99348555bbdb7e5607c2612cad583265fe947b22aa27", func := "bindery/binderylaw06.EscapeTexts", spec := "escapeTexts", inPlace := ["internal/abi.NoEscape"], apart := false }
def EscapeTextsSaid : Prop := escapeTextsRow.holds Try.pinned (OpenSpec.ofChange escapeTextsSpec)

/-- ITS FALSE NEIGHBOUR: 'it returns false'. Refute it at one input. -/
def escapeTextsWrong : ChangeSpec := { name := "escapeTexts", fn := fun _ => fun
  | [d] => { results := [.lit (.bool false)], args := [d] }
  | _ => none }
def EscapeTextsWrongFalsely : Prop := escapeTextsRow.holds Try.pinned (OpenSpec.ofChange escapeTextsWrong)

/-- 'binderylaw06.EscapeBack': WHATEVER THE INPUT: true; the input reads as it did. -/
def escapeBackSpec : ChangeSpec := { name := "escapeBack", fn := fun _ => fun
  | [d] => { results := [.lit (.bool true)], args := [d] }
  | _ => none }
def escapeBackRow : OpenClaim := { program := "ytcjhaeppplmmjaa", sum := "5c03dc8cd1d404c070ca99348555bbdb7e5607c2612cad583265fe947b22aa27", func := "bindery/binderylaw06.EscapeBack", spec := "escapeBack", inPlace := ["internal/abi.NoEscape"], apart := false }
def EscapeBackSaid : Prop := escapeBackRow.holds Try.pinned (OpenSpec.ofChange escapeBackSpec)

/-- ITS FALSE NEIGHBOUR: 'it returns false'. Refute it at one input. -/
def escapeBackWrong : ChangeSpec := { name := "escapeBack", fn := fun _ => fun
  | [d] => { results := [.lit (.bool false)], args := [d] }
  | _ => none }
def EscapeBackWrongFalsely : Prop := escapeBackRow.holds Try.pinned (OpenSpec.ofChange escapeBackWrong)

/-- 'binderylaw06.EscapeClean': WHATEVER THE INPUT: true; the input reads as it did. -/
def escapeCleanSpec : ChangeSpec := { name := "escapeClean", fn := fun _ => fun
  | [d] => { results := [.lit (.bool true)], args := [d] }
  | _ => none }
def escapeCleanRow : OpenClaim := { program := "ytcjhaeppplmmjaa", sum := "5c03dc8cd1d404c070ca99348555bbdb7e5607c2612cad583265fe947b22aa27", func := "bindery/binderylaw06.EscapeClean", spec := "escapeClean", inPlace := ["internal/abi.NoEscape"], apart := false }
def EscapeCleanSaid : Prop := escapeCleanRow.holds Try.pinned (OpenSpec.ofChange escapeCleanSpec)

/-- ITS FALSE NEIGHBOUR: 'it returns false'. Refute it at one input. -/
def escapeCleanWrong : ChangeSpec := { name := "escapeClean", fn := fun _ => fun
  | [d] => { results := [.lit (.bool false)], args := [d] }
  | _ => none }
def EscapeCleanWrongFalsely : Prop := escapeCleanRow.holds Try.pinned (OpenSpec.ofChange escapeCleanWrong)

/-- 'binderylaw06.EscapeJoins': WHATEVER THE INPUT: true; the input reads as it did. -/
def escapeJoinsSpec : ChangeSpec := { name := "escapeJoins", fn := fun _ => fun
  | [d1, d2] => { results := [.lit (.bool true)], args := [d1, d2] }
  | _ => none }
def escapeJoinsRow : OpenClaim := { program := "ytcjhaeppplmmjaa", sum := "5c03dc8cd1d404c070ca99348555bbdb7e5607c2612cad583265fe947b22aa27", func := "bindery/binderylaw06.EscapeJoins", spec := "escapeJoins", inPlace := ["internal/abi.NoEscape"], apart := false }
def EscapeJoinsSaid : Prop := escapeJoinsRow.holds Try.pinned (OpenSpec.ofChange escapeJoinsSpec)

/-- ITS FALSE NEIGHBOUR: 'it returns false'. Refute it at one input. -/
def escapeJoinsWrong : ChangeSpec := { name := "escapeJoins", fn := fun _ => fun
  | [d1, d2] => { results := [.lit (.bool false)], args := [d1, d2] }
  | _ => none }
def EscapeJoinsWrongFalsely : Prop := escapeJoinsRow.holds Try.pinned (OpenSpec.ofChange escapeJoinsWrong)

/-- 'binderylaw06.EscapeWhole': WHATEVER THE INPUT: true; the input reads as it did. -/
def escapeWholeSpec : ChangeSpec := { name := "escapeWhole", fn := fun _ => fun
  | [d] => { results := [.lit (.bool true)], args := [d] }
  | _ => none }
def escapeWholeRow : OpenClaim := { program := "ytcjhaeppplmmjaa", sum := "5c03dc8cd1d404c070ca99348555bbdb7e5607c2612cad583265fe947b22aa27", func := "bindery/binderylaw06.EscapeWhole", spec := "escapeWhole", inPlace := ["internal/abi.NoEscape"], apart := false }
def EscapeWholeSaid : Prop := escapeWholeRow.holds Try.pinned (OpenSpec.ofChange escapeWholeSpec)

/-- ITS FALSE NEIGHBOUR: 'it returns false'. Refute it at one input. -/
def escapeWholeWrong : ChangeSpec := { name := "escapeWhole", fn := fun _ => fun
  | [d] => { results := [.lit (.bool false)], args := [d] }
  | _ => none }
def EscapeWholeWrongFalsely : Prop := escapeWholeRow.holds Try.pinned (OpenSpec.ofChange escapeWholeWrong)

/- THE SECOND FORM. 'bulk': how many values and letters a reading holds, each counted each time it is reached (what is shared counts as often as it is met; a slice's spare places count too). A statement '..UptoSaid' is the law's where the arguments, and the package variables that the reading takes, are together of bulk at most 1048576: NARROWER than '..Said'. Prove '..Said' where nothing that the law and all that it calls make is longer than what came in: it says more and counts as full. Else prove '..UptoSaid'. A law counts once. -/
mutual
def uptoBulk {H : Type} : DataW H → Nat
  | .lit (.string bytes) => bytes.length + 1
  | .lit _ => 1
  | .nil => 1
  | .ptr d => uptoBulk d + 1
  | .slice elems spare => uptoBulkAll elems + uptoBulkAll spare + 1
  | .agg parts => uptoBulkAll parts + 1
  | .iface _ d => uptoBulk d + 1
  | .map entries => uptoBulkEntries entries + 1
  | .held _ => 1
def uptoBulkAll {H : Type} : List (DataW H) → Nat
  | [] => 0
  | d :: r => uptoBulk d + uptoBulkAll r
def uptoBulkEntries {H : Type} : List (Lit × DataW H) → Nat
  | [] => 0
  | x :: r => uptoBulkEntry x + uptoBulkEntries r
def uptoBulkEntry {H : Type} : Lit × DataW H → Nat
  | (.string bytes, d) => bytes.length + uptoBulk d + 1
  | (_, d) => uptoBulk d + 1
 end
def uptoSmall : (H : Type) → List (DataW H) → Bool := fun _ ds => decide (uptoBulkAll ds ≤ 1048576)
def OpenSpec.upto (s : _root_.Go.ChangeSpec) : _root_.Go.OpenSpec := { _root_.Go.OpenSpec.ofChange s with cond := some uptoSmall }

/-- 'binderylaw06.EscapeTags', WHERE WHAT IT READS IS OF BULK AT MOST 1048576: true; the input reads as it did. -/
def escapeTagsUptoRow : OpenClaim := { program := "ytcjhaeppplmmjaa", sum := "5c03dc8cd1d404c070ca99348555bbdb7e5607c2612cad583265fe947b22aa27", func := "bindery/binderylaw06.EscapeTags", spec := "escapeTags", inPlace := ["internal/abi.NoEscape"], apart := false, narrowed := true }
def EscapeTagsUptoSaid : Prop := escapeTagsUptoRow.holds Try.pinned (OpenSpec.upto escapeTagsSpec)

/-- 'binderylaw06.EscapeTexts', WHERE WHAT IT READS IS OF BULK AT MOST 1048576: true; the input reads as it did. -/
def escapeTextsUptoRow : OpenClaim := { program := "ytcjhaeppplmmjaa", sum := "5c03dc8cd1d404c070ca99348555bbdb7e5607c2612cad583265fe947b22aa27", func := "bindery/binderylaw06.EscapeTexts", spec := "escapeTexts", inPlace := ["internal/abi.NoEscape"], apart := false, narrowed := true }
def EscapeTextsUptoSaid : Prop := escapeTextsUptoRow.holds Try.pinned (OpenSpec.upto escapeTextsSpec)

/-- 'binderylaw06.EscapeBack', WHERE WHAT IT READS IS OF BULK AT MOST 1048576: true; the input reads as it did. -/
def escapeBackUptoRow : OpenClaim := { program := "ytcjhaeppplmmjaa", sum := "5c03dc8cd1d404c070ca99348555bbdb7e5607c2612cad583265fe947b22aa27", func := "bindery/binderylaw06.EscapeBack", spec := "escapeBack", inPlace := ["internal/abi.NoEscape"], apart := false, narrowed := true }
def EscapeBackUptoSaid : Prop := escapeBackUptoRow.holds Try.pinned (OpenSpec.upto escapeBackSpec)

/-- 'binderylaw06.EscapeClean', WHERE WHAT IT READS IS OF BULK AT MOST 1048576: true; the input reads as it did. -/
def escapeCleanUptoRow : OpenClaim := { program := "ytcjhaeppplmmjaa", sum := "5c03dc8cd1d404c070ca99348555bbdb7e5607c2612cad583265fe947b22aa27", func := "bindery/binderylaw06.EscapeClean", spec := "escapeClean", inPlace := ["internal/abi.NoEscape"], apart := false, narrowed := true }
def EscapeCleanUptoSaid : Prop := escapeCleanUptoRow.holds Try.pinned (OpenSpec.upto escapeCleanSpec)

/-- 'binderylaw06.EscapeJoins', WHERE WHAT IT READS IS OF BULK AT MOST 1048576: true; the input reads as it did. -/
def escapeJoinsUptoRow : OpenClaim := { program := "ytcjhaeppplmmjaa", sum := "5c03dc8cd1d404c070ca99348555bbdb7e5607c2612cad583265fe947b22aa27", func := "bindery/binderylaw06.EscapeJoins", spec := "escapeJoins", inPlace := ["internal/abi.NoEscape"], apart := false, narrowed := true }
def EscapeJoinsUptoSaid : Prop := escapeJoinsUptoRow.holds Try.pinned (OpenSpec.upto escapeJoinsSpec)

/-- 'binderylaw06.EscapeWhole', WHERE WHAT IT READS IS OF BULK AT MOST 1048576: true; the input reads as it did. -/
def escapeWholeUptoRow : OpenClaim := { program := "ytcjhaeppplmmjaa", sum := "5c03dc8cd1d404c070ca99348555bbdb7e5607c2612cad583265fe947b22aa27", func := "bindery/binderylaw06.EscapeWhole", spec := "escapeWhole", inPlace := ["internal/abi.NoEscape"], apart := false, narrowed := true }
def EscapeWholeUptoSaid : Prop := escapeWholeUptoRow.holds Try.pinned (OpenSpec.upto escapeWholeSpec)

end Rows
end Go.Proofs.Ytcjhaeppplmmjaa
