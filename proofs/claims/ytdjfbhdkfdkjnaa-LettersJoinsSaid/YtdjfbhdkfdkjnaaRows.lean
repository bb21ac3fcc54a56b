/-
  No cell of these rows narrows 'for every input' (looked for: loops, veiled, ifaces, maps, wideKeys, modest, calm, conditions, laid).
  DERIVED. THE GIVEN ROWS OF THIS SEAT. 9 by the template 'for every input the law returns true; each argument reads behind the call as it read before'; 0 by the template 'total and deterministic' (their statements: YtdjfbhdkfdkjnaaTotals.lean).
  GIVEN WITH THE SEED: the statements are not yours to turn. If you find one false, say at which input.
  Laid BY PROGRAM, IN A SANDBOX (cutbox-rows.mjs): the forced cells as the released guide's own fill.sh prints them over the translation 0e1fb7778ab7f407… (all of the seat's roots in one cut). By AI agents, Wed Nov 11 2026. No macro, syntax, notation, axiom, sorry.
-/
import Derived.Test.YtdjfbhdkfdkjnaaChecked
import GoSem.Claim
import GoSem.ClaimJoined
import GoSem.ClaimMapViews
import Derived.JoinedTies
import Derived.KernelRfl
namespace Go.Proofs.Ytdjfbhdkfdkjnaa
/- THE CELL 'sum', in the pinned program and in every row, IS THE sha256 OF THE DUMP (.gsa) THAT YtdjfbhdkfdkjnaaProg.lean LOADS. Nothing in Lean hashes anything: it is a label: what it is worth is what the hold of that sum in a sandbox is worth. -/
noncomputable def Try.pinned : Pinned := { name := "ytdjfbhdkfdkjnaa", sum := "0e1fb7778ab7f40712655ac3e80055b1a4c6533b6eb687a6d9d186a3558ed746", checked := Try.checked }
namespace Rows
def none {H : Type} : Left H := { results := [], args := [] }

/-- 'binderylaw02.PathsLinks': WHATEVER THE INPUT: true; the input reads as it did. -/
def pathsLinksSpec : ChangeSpec := { name := "pathsLinks", fn := fun _ => fun
  | [d1, d2, d3] => { results := [.lit (.bool true)], args := [d1, d2, d3] }
  | _ => none }
def pathsLinksRow : OpenClaim := { program := "ytdjfbhdkfdkjnaa", sum := "0e1fb7778ab7f40712655ac3e80055b1a4c6533b6eb687a6d9d186a3558ed746", func := "bindery/binderylaw02.PathsLinks", spec := "pathsLinks", apart := false }
def PathsLinksSaid : Prop := pathsLinksRow.holds Try.pinned (OpenSpec.ofChange pathsLinksSpec)

/-- ITS FALSE NEIGHBOUR: 'it returns false'. Refute it at one input. -/
def pathsLinksWrong : ChangeSpec := { name := "pathsLinks", fn := fun _ => fun
  | [d1, d2, d3] => { results := [.lit (.bool false)], args := [d1, d2, d3] }
  | _ => none }
def PathsLinksWrongFalsely : Prop := pathsLinksRow.holds Try.pinned (OpenSpec.ofChange pathsLinksWrong)

/-- 'binderylaw01.LettersLowers': WHATEVER THE INPUT: true; the input reads as it did. -/
def lettersLowersSpec : ChangeSpec := { name := "lettersLowers", fn := fun _ => fun
  | [d] => { results := [.lit (.bool true)], args := [d] }
  | _ => none }
def lettersLowersRow : OpenClaim := { program := "ytdjfbhdkfdkjnaa", sum := "0e1fb7778ab7f40712655ac3e80055b1a4c6533b6eb687a6d9d186a3558ed746", func := "bindery/binderylaw01.LettersLowers", spec := "lettersLowers", unfollowed := true, recurses := true, apart := false }
def LettersLowersSaid : Prop := lettersLowersRow.holds Try.pinned (OpenSpec.ofChange lettersLowersSpec)

/-- ITS FALSE NEIGHBOUR: 'it returns false'. Refute it at one input. -/
def lettersLowersWrong : ChangeSpec := { name := "lettersLowers", fn := fun _ => fun
  | [d] => { results := [.lit (.bool false)], args := [d] }
  | _ => none }
def LettersLowersWrongFalsely : Prop := lettersLowersRow.holds Try.pinned (OpenSpec.ofChange lettersLowersWrong)

/-- 'binderylaw01.LettersNames': WHATEVER THE INPUT: true; the input reads as it did. -/
def lettersNamesSpec : ChangeSpec := { name := "lettersNames", fn := fun _ => fun
  | [d] => { results := [.lit (.bool true)], args := [d] }
  | _ => none }
def lettersNamesRow : OpenClaim := { program := "ytdjfbhdkfdkjnaa", sum := "0e1fb7778ab7f40712655ac3e80055b1a4c6533b6eb687a6d9d186a3558ed746", func := "bindery/binderylaw01.LettersNames", spec := "lettersNames", apart := false }
def LettersNamesSaid : Prop := lettersNamesRow.holds Try.pinned (OpenSpec.ofChange lettersNamesSpec)

/-- ITS FALSE NEIGHBOUR: 'it returns false'. Refute it at one input. -/
def lettersNamesWrong : ChangeSpec := { name := "lettersNames", fn := fun _ => fun
  | [d] => { results := [.lit (.bool false)], args := [d] }
  | _ => none }
def LettersNamesWrongFalsely : Prop := lettersNamesRow.holds Try.pinned (OpenSpec.ofChange lettersNamesWrong)

/-- 'binderylaw01.LettersOrders': WHATEVER THE INPUT: true; the input reads as it did. -/
def lettersOrdersSpec : ChangeSpec := { name := "lettersOrders", fn := fun _ => fun
  | [d1, d2] => { results := [.lit (.bool true)], args := [d1, d2] }
  | _ => none }
def lettersOrdersRow : OpenClaim := { program := "ytdjfbhdkfdkjnaa", sum := "0e1fb7778ab7f40712655ac3e80055b1a4c6533b6eb687a6d9d186a3558ed746", func := "bindery/binderylaw01.LettersOrders", spec := "lettersOrders", inPlace := ["internal/bytealg.Compare", "internal/bytealg.abigen_runtime_cmpstring"], unfollowed := true, recurses := true, apart := false }
def LettersOrdersSaid : Prop := lettersOrdersRow.holds Try.pinned (OpenSpec.ofChange lettersOrdersSpec)

/-- ITS FALSE NEIGHBOUR: 'it returns false'. Refute it at one input. -/
def lettersOrdersWrong : ChangeSpec := { name := "lettersOrders", fn := fun _ => fun
  | [d1, d2] => { results := [.lit (.bool false)], args := [d1, d2] }
  | _ => none }
def LettersOrdersWrongFalsely : Prop := lettersOrdersRow.holds Try.pinned (OpenSpec.ofChange lettersOrdersWrong)

/-- 'binderylaw01.LettersTurned': WHATEVER THE INPUT: true; the input reads as it did. -/
def lettersTurnedSpec : ChangeSpec := { name := "lettersTurned", fn := fun _ => fun
  | [d1, d2] => { results := [.lit (.bool true)], args := [d1, d2] }
  | _ => none }
def lettersTurnedRow : OpenClaim := { program := "ytdjfbhdkfdkjnaa", sum := "0e1fb7778ab7f40712655ac3e80055b1a4c6533b6eb687a6d9d186a3558ed746", func := "bindery/binderylaw01.LettersTurned", spec := "lettersTurned", inPlace := ["internal/bytealg.Compare", "internal/bytealg.abigen_runtime_cmpstring"], unfollowed := true, recurses := true, apart := false }
def LettersTurnedSaid : Prop := lettersTurnedRow.holds Try.pinned (OpenSpec.ofChange lettersTurnedSpec)

/-- ITS FALSE NEIGHBOUR: 'it returns false'. Refute it at one input. -/
def lettersTurnedWrong : ChangeSpec := { name := "lettersTurned", fn := fun _ => fun
  | [d1, d2] => { results := [.lit (.bool false)], args := [d1, d2] }
  | _ => none }
def LettersTurnedWrongFalsely : Prop := lettersTurnedRow.holds Try.pinned (OpenSpec.ofChange lettersTurnedWrong)

/-- 'binderylaw01.LettersThree': WHATEVER THE INPUT: true; the input reads as it did. -/
def lettersThreeSpec : ChangeSpec := { name := "lettersThree", fn := fun _ => fun
  | [d1, d2, d3] => { results := [.lit (.bool true)], args := [d1, d2, d3] }
  | _ => none }
def lettersThreeRow : OpenClaim := { program := "ytdjfbhdkfdkjnaa", sum := "0e1fb7778ab7f40712655ac3e80055b1a4c6533b6eb687a6d9d186a3558ed746", func := "bindery/binderylaw01.LettersThree", spec := "lettersThree", inPlace := ["internal/bytealg.Compare", "internal/bytealg.abigen_runtime_cmpstring"], unfollowed := true, recurses := true, apart := false }
def LettersThreeSaid : Prop := lettersThreeRow.holds Try.pinned (OpenSpec.ofChange lettersThreeSpec)

/-- ITS FALSE NEIGHBOUR: 'it returns false'. Refute it at one input. -/
def lettersThreeWrong : ChangeSpec := { name := "lettersThree", fn := fun _ => fun
  | [d1, d2, d3] => { results := [.lit (.bool false)], args := [d1, d2, d3] }
  | _ => none }
def LettersThreeWrongFalsely : Prop := lettersThreeRow.holds Try.pinned (OpenSpec.ofChange lettersThreeWrong)

/-- 'binderylaw01.LettersBetween': WHATEVER THE INPUT: true; the input reads as it did. -/
def lettersBetweenSpec : ChangeSpec := { name := "lettersBetween", fn := fun _ => fun
  | [d1, d2, d3] => { results := [.lit (.bool true)], args := [d1, d2, d3] }
  | _ => none }
def lettersBetweenRow : OpenClaim := { program := "ytdjfbhdkfdkjnaa", sum := "0e1fb7778ab7f40712655ac3e80055b1a4c6533b6eb687a6d9d186a3558ed746", func := "bindery/binderylaw01.LettersBetween", spec := "lettersBetween", inPlace := ["internal/bytealg.Compare", "internal/bytealg.abigen_runtime_cmpstring"], unfollowed := true, recurses := true, apart := false }
def LettersBetweenSaid : Prop := lettersBetweenRow.holds Try.pinned (OpenSpec.ofChange lettersBetweenSpec)

/-- ITS FALSE NEIGHBOUR: 'it returns false'. Refute it at one input. -/
def lettersBetweenWrong : ChangeSpec := { name := "lettersBetween", fn := fun _ => fun
  | [d1, d2, d3] => { results := [.lit (.bool false)], args := [d1, d2, d3] }
  | _ => none }
def LettersBetweenWrongFalsely : Prop := lettersBetweenRow.holds Try.pinned (OpenSpec.ofChange lettersBetweenWrong)

/-- 'binderylaw01.LettersNamed': WHATEVER THE INPUT: true; the input reads as it did. -/
def lettersNamedSpec : ChangeSpec := { name := "lettersNamed", fn := fun _ => fun
  | [d1, d2] => { results := [.lit (.bool true)], args := [d1, d2] }
  | _ => none }
def lettersNamedRow : OpenClaim := { program := "ytdjfbhdkfdkjnaa", sum := "0e1fb7778ab7f40712655ac3e80055b1a4c6533b6eb687a6d9d186a3558ed746", func := "bindery/binderylaw01.LettersNamed", spec := "lettersNamed", inPlace := ["internal/bytealg.Compare", "internal/bytealg.abigen_runtime_cmpstring"], unfollowed := true, recurses := true, apart := false }
def LettersNamedSaid : Prop := lettersNamedRow.holds Try.pinned (OpenSpec.ofChange lettersNamedSpec)

/-- ITS FALSE NEIGHBOUR: 'it returns false'. Refute it at one input. -/
def lettersNamedWrong : ChangeSpec := { name := "lettersNamed", fn := fun _ => fun
  | [d1, d2] => { results := [.lit (.bool false)], args := [d1, d2] }
  | _ => none }
def LettersNamedWrongFalsely : Prop := lettersNamedRow.holds Try.pinned (OpenSpec.ofChange lettersNamedWrong)

/-- 'binderylaw01.LettersJoins': WHATEVER THE INPUT: true; the input reads as it did. -/
def lettersJoinsSpec : ChangeSpec := { name := "lettersJoins", fn := fun _ => fun
  | [d1, d2, d3] => { results := [.lit (.bool true)], args := [d1, d2, d3] }
  | _ => none }
def lettersJoinsRow : OpenClaim := { program := "ytdjfbhdkfdkjnaa", sum := "0e1fb7778ab7f40712655ac3e80055b1a4c6533b6eb687a6d9d186a3558ed746", func := "bindery/binderylaw01.LettersJoins", spec := "lettersJoins", inPlace := ["internal/bytealg.Compare", "internal/bytealg.abigen_runtime_cmpstring"], unfollowed := true, recurses := true, apart := false }
def LettersJoinsSaid : Prop := lettersJoinsRow.holds Try.pinned (OpenSpec.ofChange lettersJoinsSpec)

/-- ITS FALSE NEIGHBOUR: 'it returns false'. Refute it at one input. -/
def lettersJoinsWrong : ChangeSpec := { name := "lettersJoins", fn := fun _ => fun
  | [d1, d2, d3] => { results := [.lit (.bool false)], args := [d1, d2, d3] }
  | _ => none }
def LettersJoinsWrongFalsely : Prop := lettersJoinsRow.holds Try.pinned (OpenSpec.ofChange lettersJoinsWrong)

/- THE SECOND FORM. 'bulk': how many values and letters a reading holds, each counted each time it is reached (what is shared counts as often as it is met; a slice's spare places count too). A statement '..UptoSaid' is the law's where the arguments, and the package variables that the reading takes, are together of bulk at most 1048576: NARROWER than '..Said'. Prove '..Said' where nothing that the law and all that it calls make is longer than what came in: it says more and counts as full. Else prove '..UptoSaid'. A law counts once. -/
mutual
def uptoBulk {H : Type} : DataW H → Nat
  | .lit (.string bytes) => bytes.length + 1
  | .lit _ => 1
  | .nil => 1
  | .ptr d => uptoBulk d + 1
  | .slice elems spare => uptoBulkAll elems + uptoBulkAll spare + 1
  | .agg parts => uptoBulkAll parts + 1
  | .iface _ d => uptoBulk d + 1
  | .map entries => uptoBulkEntries entries + 1
  | .held _ => 1
def uptoBulkAll {H : Type} : List (DataW H) → Nat
  | [] => 0
  | d :: r => uptoBulk d + uptoBulkAll r
def uptoBulkEntries {H : Type} : List (Lit × DataW H) → Nat
  | [] => 0
  | x :: r => uptoBulkEntry x + uptoBulkEntries r
def uptoBulkEntry {H : Type} : Lit × DataW H → Nat
  | (.string bytes, d) => bytes.length + uptoBulk d + 1
  | (_, d) => uptoBulk d + 1
 end
def uptoSmall : (H : Type) → List (DataW H) → Bool := fun _ ds => decide (uptoBulkAll ds ≤ 1048576)
def OpenSpec.upto (s : _root_.Go.ChangeSpec) : _root_.Go.OpenSpec := { _root_.Go.OpenSpec.ofChange s with cond := some uptoSmall }

/-- 'binderylaw02.PathsLinks', WHERE WHAT IT READS IS OF BULK AT MOST 1048576: true; the input reads as it did. -/
def pathsLinksUptoRow : OpenClaim := { program := "ytdjfbhdkfdkjnaa", sum := "0e1fb7778ab7f40712655ac3e80055b1a4c6533b6eb687a6d9d186a3558ed746", func := "bindery/binderylaw02.PathsLinks", spec := "pathsLinks", apart := false, narrowed := true }
def PathsLinksUptoSaid : Prop := pathsLinksUptoRow.holds Try.pinned (OpenSpec.upto pathsLinksSpec)

/-- 'binderylaw01.LettersLowers', WHERE WHAT IT READS IS OF BULK AT MOST 1048576: true; the input reads as it did. -/
def lettersLowersUptoRow : OpenClaim := { program := "ytdjfbhdkfdkjnaa", sum := "0e1fb7778ab7f40712655ac3e80055b1a4c6533b6eb687a6d9d186a3558ed746", func := "bindery/binderylaw01.LettersLowers", spec := "lettersLowers", unfollowed := true, recurses := true, apart := false, narrowed := true }
def LettersLowersUptoSaid : Prop := lettersLowersUptoRow.holds Try.pinned (OpenSpec.upto lettersLowersSpec)

/-- 'binderylaw01.LettersNames', WHERE WHAT IT READS IS OF BULK AT MOST 1048576: true; the input reads as it did. -/
def lettersNamesUptoRow : OpenClaim := { program := "ytdjfbhdkfdkjnaa", sum := "0e1fb7778ab7f40712655ac3e80055b1a4c6533b6eb687a6d9d186a3558ed746", func := "bindery/binderylaw01.LettersNames", spec := "lettersNames", apart := false, narrowed := true }
def LettersNamesUptoSaid : Prop := lettersNamesUptoRow.holds Try.pinned (OpenSpec.upto lettersNamesSpec)

/-- 'binderylaw01.LettersOrders', WHERE WHAT IT READS IS OF BULK AT MOST 1048576: true; the input reads as it did. -/
def lettersOrdersUptoRow : OpenClaim := { program := "ytdjfbhdkfdkjnaa", sum := "0e1fb7778ab7f40712655ac3e80055b1a4c6533b6eb687a6d9d186a3558ed746", func := "bindery/binderylaw01.LettersOrders", spec := "lettersOrders", inPlace := ["internal/bytealg.Compare", "internal/bytealg.abigen_runtime_cmpstring"], unfollowed := true, recurses := true, apart := false, narrowed := true }
def LettersOrdersUptoSaid : Prop := lettersOrdersUptoRow.holds Try.pinned (OpenSpec.upto lettersOrdersSpec)

/-- 'binderylaw01.LettersTurned', WHERE WHAT IT READS IS OF BULK AT MOST 1048576: true; the input reads as it did. -/
def lettersTurnedUptoRow : OpenClaim := { program := "ytdjfbhdkfdkjnaa", sum := "0e1fb7778ab7f40712655ac3e80055b1a4c6533b6eb687a6d9d186a3558ed746", func := "bindery/binderylaw01.LettersTurned", spec := "lettersTurned", inPlace := ["internal/bytealg.Compare", "internal/bytealg.abigen_runtime_cmpstring"], unfollowed := true, recurses := true, apart := false, narrowed := true }
def LettersTurnedUptoSaid : Prop := lettersTurnedUptoRow.holds Try.pinned (OpenSpec.upto lettersTurnedSpec)

/-- 'binderylaw01.LettersThree', WHERE WHAT IT READS IS OF BULK AT MOST 1048576: true; the input reads as it did. -/
def lettersThreeUptoRow : OpenClaim := { program := "ytdjfbhdkfdkjnaa", sum := "0e1fb7778ab7f40712655ac3e80055b1a4c6533b6eb687a6d9d186a3558ed746", func := "bindery/binderylaw01.LettersThree", spec := "lettersThree", inPlace := ["internal/bytealg.Compare", "internal/bytealg.abigen_runtime_cmpstring"], unfollowed := true, recurses := true, apart := false, narrowed := true }
def LettersThreeUptoSaid : Prop := lettersThreeUptoRow.holds Try.pinned (OpenSpec.upto lettersThreeSpec)

/-- 'binderylaw01.LettersBetween', WHERE WHAT IT READS IS OF BULK AT MOST 1048576: true; the input reads as it did. -/
def lettersBetweenUptoRow : OpenClaim := { program := "ytdjfbhdkfdkjnaa", sum := "0e1fb7778ab7f40712655ac3e80055b1a4c6533b6eb687a6d9d186a3558ed746", func := "bindery/binderylaw01.LettersBetween", spec := "lettersBetween", inPlace := ["internal/bytealg.Compare", "internal/bytealg.abigen_runtime_cmpstring"], unfollowed := true, recurses := true, apart := false, narrowed := true }
def LettersBetweenUptoSaid : Prop := lettersBetweenUptoRow.holds Try.pinned (OpenSpec.upto lettersBetweenSpec)

/-- 'binderylaw01.LettersNamed', WHERE WHAT IT READS IS OF BULK AT MOST 1048576: true; the input reads as it did. -/
def lettersNamedUptoRow : OpenClaim := { program := "ytdjfbhdkfdkjnaa", sum := "0e1fb7778ab7f40712655ac3e80055b1a4c6533b6eb687a6d9d186a3558ed746", func := "bindery/binderylaw01.LettersNamed", spec := "lettersNamed", inPlace := ["internal/bytealg.Compare", "internal/bytealg.abigen_runtime_cmpstring"], unfollowed := true, recurses := true, apart := false, narrowed := true }
def LettersNamedUptoSaid : Prop := lettersNamedUptoRow.holds Try.pinned (OpenSpec.upto lettersNamedSpec)

/-- 'binderylaw01.LettersJoins', WHERE WHAT IT READS IS OF BULK AT MOST 1048576: true; the input reads as it did. -/
def lettersJoinsUptoRow : OpenClaim := { program := "ytdjfbhdkfdkjnaa", sum := "0e1fb7778ab7f40712655ac3e80055b1a4c6533b6eb687a6d9d186a3558ed746", func := "bindery/binderylaw01.LettersJoins", spec := "lettersJoins", inPlace := ["internal/bytealg.Compare", "internal/bytealg.abigen_runtime_cmpstring"], unfollowed := true, recurses := true, apart := false, narrowed := true }
def LettersJoinsUptoSaid : Prop := lettersJoinsUptoRow.holds Try.pinned (OpenSpec.upto lettersJoinsSpec)

end Rows
end Go.Proofs.Ytdjfbhdkfdkjnaa
