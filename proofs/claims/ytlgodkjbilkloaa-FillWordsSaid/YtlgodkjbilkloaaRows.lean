/-
  No cell of these rows narrows 'for every input' (looked for: loops, veiled, ifaces, maps, wideKeys, modest, calm, conditions, laid).
  DERIVED. THE GIVEN ROWS OF THIS SEAT. 5 by the template 'for every input the law returns true; each argument reads behind the call as it read before'; 0 by the template 'total and deterministic' (their statements: YtlgodkjbilkloaaTotals.lean).
  GIVEN WITH THE SEED: the statements are not yours to turn. If you find one false, say at which input.
  Laid BY PROGRAM, IN A SANDBOX (cutbox-rows.mjs): the forced cells as the released guide's own fill.sh prints them over the translation 99fa238fba297c8d… (all of the seat's roots in one cut). By AI agents, Wed Nov 11 2026. No macro, syntax, notation, axiom, sorry.
-/
import Derived.Test.YtlgodkjbilkloaaChecked
import GoSem.Claim
import GoSem.ClaimJoined
import GoSem.ClaimMapViews
import Derived.JoinedTies
import Derived.KernelRfl
namespace Go.Proofs.Ytlgodkjbilkloaa
/- THE CELL 'sum', in the pinned program and in every row, IS THE sha256 OF THE DUMP (.gsa) THAT YtlgodkjbilkloaaProg.lean LOADS. Nothing in Lean hashes anything: it is a label: what it is worth is what the hold of that sum in a sandbox is worth. -/
noncomputable def Try.pinned : Pinned := { name := "ytlgodkjbilkloaa", sum := "99fa238fba297c8dd45934d61f24b22d03802d0a45d60f6fa32115b2e0641d95", checked := Try.checked }
namespace Rows
def none {H : Type} : Left H := { results := [], args := [] }

/-- 'binderylaw11.FillWords': WHATEVER THE INPUT: true; the input reads as it did. -/
def fillWordsSpec : ChangeSpec := { name := "fillWords", fn := fun _ => fun
  | [d1, d2] => { results := [.lit (.bool true)], args := [d1, d2] }
  | _ => none }
def fillWordsRow : OpenClaim := { program := "ytlgodkjbilkloaa", sum := "99fa238fba297c8dd45934d61f24b22d03802d0a45d60f6fa32115b2e0641d95", func := "bindery/binderylaw11.FillWords", spec := "fillWords", inPlace := ["internal/abi.NoEscape", "internal/bytealg.MakeNoZero"], unfollowed := true, recurses := true, apart := false }
def FillWordsSaid : Prop := fillWordsRow.holds Try.pinned (OpenSpec.ofChange fillWordsSpec)

/-- ITS FALSE NEIGHBOUR: 'it returns false'. Refute it at one input. -/
def fillWordsWrong : ChangeSpec := { name := "fillWords", fn := fun _ => fun
  | [d1, d2] => { results := [.lit (.bool false)], args := [d1, d2] }
  | _ => none }
def FillWordsWrongFalsely : Prop := fillWordsRow.holds Try.pinned (OpenSpec.ofChange fillWordsWrong)

/-- 'binderylaw11.FillAgain': WHATEVER THE INPUT: true; the input reads as it did. -/
def fillAgainSpec : ChangeSpec := { name := "fillAgain", fn := fun _ => fun
  | [d1, d2] => { results := [.lit (.bool true)], args := [d1, d2] }
  | _ => none }
def fillAgainRow : OpenClaim := { program := "ytlgodkjbilkloaa", sum := "99fa238fba297c8dd45934d61f24b22d03802d0a45d60f6fa32115b2e0641d95", func := "bindery/binderylaw11.FillAgain", spec := "fillAgain", inPlace := ["internal/abi.NoEscape", "internal/bytealg.MakeNoZero"], unfollowed := true, recurses := true, apart := false }
def FillAgainSaid : Prop := fillAgainRow.holds Try.pinned (OpenSpec.ofChange fillAgainSpec)

/-- ITS FALSE NEIGHBOUR: 'it returns false'. Refute it at one input. -/
def fillAgainWrong : ChangeSpec := { name := "fillAgain", fn := fun _ => fun
  | [d1, d2] => { results := [.lit (.bool false)], args := [d1, d2] }
  | _ => none }
def FillAgainWrongFalsely : Prop := fillAgainRow.holds Try.pinned (OpenSpec.ofChange fillAgainWrong)

/-- 'binderylaw11.FillWider': WHATEVER THE INPUT: true; the input reads as it did. -/
def fillWiderSpec : ChangeSpec := { name := "fillWider", fn := fun _ => fun
  | [d1, d2, d3] => { results := [.lit (.bool true)], args := [d1, d2, d3] }
  | _ => none }
def fillWiderRow : OpenClaim := { program := "ytlgodkjbilkloaa", sum := "99fa238fba297c8dd45934d61f24b22d03802d0a45d60f6fa32115b2e0641d95", func := "bindery/binderylaw11.FillWider", spec := "fillWider", inPlace := ["internal/abi.NoEscape", "internal/bytealg.MakeNoZero"], unfollowed := true, recurses := true, apart := false }
def FillWiderSaid : Prop := fillWiderRow.holds Try.pinned (OpenSpec.ofChange fillWiderSpec)

/-- ITS FALSE NEIGHBOUR: 'it returns false'. Refute it at one input. -/
def fillWiderWrong : ChangeSpec := { name := "fillWider", fn := fun _ => fun
  | [d1, d2, d3] => { results := [.lit (.bool false)], args := [d1, d2, d3] }
  | _ => none }
def FillWiderWrongFalsely : Prop := fillWiderRow.holds Try.pinned (OpenSpec.ofChange fillWiderWrong)

/-- 'binderylaw11.FillBlanks': WHATEVER THE INPUT: true; the input reads as it did. -/
def fillBlanksSpec : ChangeSpec := { name := "fillBlanks", fn := fun _ => fun
  | [d1, d2] => { results := [.lit (.bool true)], args := [d1, d2] }
  | _ => none }
def fillBlanksRow : OpenClaim := { program := "ytlgodkjbilkloaa", sum := "99fa238fba297c8dd45934d61f24b22d03802d0a45d60f6fa32115b2e0641d95", func := "bindery/binderylaw11.FillBlanks", spec := "fillBlanks", inPlace := ["internal/abi.NoEscape", "internal/bytealg.MakeNoZero"], unfollowed := true, recurses := true, apart := false }
def FillBlanksSaid : Prop := fillBlanksRow.holds Try.pinned (OpenSpec.ofChange fillBlanksSpec)

/-- ITS FALSE NEIGHBOUR: 'it returns false'. Refute it at one input. -/
def fillBlanksWrong : ChangeSpec := { name := "fillBlanks", fn := fun _ => fun
  | [d1, d2] => { results := [.lit (.bool false)], args := [d1, d2] }
  | _ => none }
def FillBlanksWrongFalsely : Prop := fillBlanksRow.holds Try.pinned (OpenSpec.ofChange fillBlanksWrong)

/-- 'binderylaw11.FillMiddle': WHATEVER THE INPUT: true; the input reads as it did. -/
def fillMiddleSpec : ChangeSpec := { name := "fillMiddle", fn := fun _ => fun
  | [d1, d2, d3] => { results := [.lit (.bool true)], args := [d1, d2, d3] }
  | _ => none }
def fillMiddleRow : OpenClaim := { program := "ytlgodkjbilkloaa", sum := "99fa238fba297c8dd45934d61f24b22d03802d0a45d60f6fa32115b2e0641d95", func := "bindery/binderylaw11.FillMiddle", spec := "fillMiddle", inPlace := ["internal/abi.NoEscape", "internal/bytealg.MakeNoZero"], unfollowed := true, recurses := true, apart := false }
def FillMiddleSaid : Prop := fillMiddleRow.holds Try.pinned (OpenSpec.ofChange fillMiddleSpec)

/-- ITS FALSE NEIGHBOUR: 'it returns false'. Refute it at one input. -/
def fillMiddleWrong : ChangeSpec := { name := "fillMiddle", fn := fun _ => fun
  | [d1, d2, d3] => { results := [.lit (.bool false)], args := [d1, d2, d3] }
  | _ => none }
def FillMiddleWrongFalsely : Prop := fillMiddleRow.holds Try.pinned (OpenSpec.ofChange fillMiddleWrong)

/- THE SECOND FORM. 'bulk': how many values and letters a reading holds, each counted each time it is reached (what is shared counts as often as it is met; a slice's spare places count too). A statement '..UptoSaid' is the law's where the arguments, and the package variables that the reading takes, are together of bulk at most 1048576: NARROWER than '..Said'. Prove '..Said' where nothing that the law and all that it calls make is longer than what came in: it says more and counts as full. Else prove '..UptoSaid'. A law counts once. -/
mutual
def uptoBulk {H : Type} : DataW H → Nat
  | .lit (.string bytes) => bytes.length + 1
  | .lit _ => 1
  | .nil => 1
  | .ptr d => uptoBulk d + 1
  | .slice elems spare => uptoBulkAll elems + uptoBulkAll spare + 1
  | .agg parts => uptoBulkAll parts + 1
  | .iface _ d => uptoBulk d + 1
  | .map entries => uptoBulkEntries entries + 1
  | .held _ => 1
def uptoBulkAll {H : Type} : List (DataW H) → Nat
  | [] => 0
  | d :: r => uptoBulk d + uptoBulkAll r
def uptoBulkEntries {H : Type} : List (Lit × DataW H) → Nat
  | [] => 0
  | x :: r => uptoBulkEntry x + uptoBulkEntries r
def uptoBulkEntry {H : Type} : Lit × DataW H → Nat
  | (.string bytes, d) => bytes.length + uptoBulk d + 1
  | (_, d) => uptoBulk d + 1
 end
def uptoSmall : (H : Type) → List (DataW H) → Bool := fun _ ds => decide (uptoBulkAll ds ≤ 1048576)
def OpenSpec.upto (s : _root_.Go.ChangeSpec) : _root_.Go.OpenSpec := { _root_.Go.OpenSpec.ofChange s with cond := some uptoSmall }

/-- 'binderylaw11.FillWords', WHERE WHAT IT READS IS OF BULK AT MOST 1048576: true; the input reads as it did. -/
def fillWordsUptoRow : OpenClaim := { program := "ytlgodkjbilkloaa", sum := "99fa238fba297c8dd45934d61f24b22d03802d0a45d60f6fa32115b2e0641d95", func := "bindery/binderylaw11.FillWords", spec := "fillWords", inPlace := ["internal/abi.NoEscape", "internal/bytealg.MakeNoZero"], unfollowed := true, recurses := true, apart := false, narrowed := true }
def FillWordsUptoSaid : Prop := fillWordsUptoRow.holds Try.pinned (OpenSpec.upto fillWordsSpec)

/-- 'binderylaw11.FillAgain', WHERE WHAT IT READS IS OF BULK AT MOST 1048576: true; the input reads as it did. -/
def fillAgainUptoRow : OpenClaim := { program := "ytlgodkjbilkloaa", sum := "99fa238fba297c8dd45934d61f24b22d03802d0a45d60f6fa32115b2e0641d95", func := "bindery/binderylaw11.FillAgain", spec := "fillAgain", inPlace := ["internal/abi.NoEscape", "internal/bytealg.MakeNoZero"], unfollowed := true, recurses := true, apart := false, narrowed := true }
def FillAgainUptoSaid : Prop := fillAgainUptoRow.holds Try.pinned (OpenSpec.upto fillAgainSpec)

/-- 'binderylaw11.FillWider', WHERE WHAT IT READS IS OF BULK AT MOST 1048576: true; the input reads as it did. -/
def fillWiderUptoRow : OpenClaim := { program := "ytlgodkjbilkloaa", sum := "99fa238fba297c8dd45934d61f24b22d03802d0a45d60f6fa32115b2e0641d95", func := "bindery/binderylaw11.FillWider", spec := "fillWider", inPlace := ["internal/abi.NoEscape", "internal/bytealg.MakeNoZero"], unfollowed := true, recurses := true, apart := false, narrowed := true }
def FillWiderUptoSaid : Prop := fillWiderUptoRow.holds Try.pinned (OpenSpec.upto fillWiderSpec)

/-- 'binderylaw11.FillBlanks', WHERE WHAT IT READS IS OF BULK AT MOST 1048576: true; the input reads as it did. -/
def fillBlanksUptoRow : OpenClaim := { program := "ytlgodkjbilkloaa", sum := "99fa238fba297c8dd45934d61f24b22d03802d0a45d60f6fa32115b2e0641d95", func := "bindery/binderylaw11.FillBlanks", spec := "fillBlanks", inPlace := ["internal/abi.NoEscape", "internal/bytealg.MakeNoZero"], unfollowed := true, recurses := true, apart := false, narrowed := true }
def FillBlanksUptoSaid : Prop := fillBlanksUptoRow.holds Try.pinned (OpenSpec.upto fillBlanksSpec)

/-- 'binderylaw11.FillMiddle', WHERE WHAT IT READS IS OF BULK AT MOST 1048576: true; the input reads as it did. -/
def fillMiddleUptoRow : OpenClaim := { program := "ytlgodkjbilkloaa", sum := "99fa238fba297c8dd45934d61f24b22d03802d0a45d60f6fa32115b2e0641d95", func := "bindery/binderylaw11.FillMiddle", spec := "fillMiddle", inPlace := ["internal/abi.NoEscape", "internal/bytealg.MakeNoZero"], unfollowed := true, recurses := true, apart := false, narrowed := true }
def FillMiddleUptoSaid : Prop := fillMiddleUptoRow.holds Try.pinned (OpenSpec.upto fillMiddleSpec)

end Rows
end Go.Proofs.Ytlgodkjbilkloaa
