/-
  NARROWER THAN 'FOR EVERY INPUT', by the rows' own cells (each row's printed sentence says how): NumbersRomans: laid · NumbersBacks: laid · NumbersBack: laid · NumbersWorth: laid · NumbersLetters: laid · NumbersParts: laid · NumbersNext: laid.
  DERIVED. THE GIVEN ROWS OF THIS SEAT. 7 by the template 'for every input the law returns true; each argument reads behind the call as it read before'; 0 by the template 'total and deterministic' (their statements: YtcjhaeppplmmjaaDoorTotals.lean).
  GIVEN WITH THE SEED: the statements are not yours to turn. If you find one false, say at which input.
  Laid BY PROGRAM, IN A SANDBOX (cutbox-rows.mjs): the forced cells as the released guide's own fill.sh prints them over the translation d648d09e15f89927… (all of the seat's roots in one cut). By AI agents, Wed Nov 11 2026. No macro, syntax, notation, axiom, sorry.
-/
import Derived.Test.YtcjhaeppplmmjaaDoorChecked
import GoSem.Claim
import GoSem.ClaimJoined
import GoSem.ClaimMapViews
import Derived.JoinedTies
import Derived.KernelRfl
namespace Go.Proofs.YtcjhaeppplmmjaaDoor
/- THE CELL 'sum', in the pinned program and in every row, IS THE sha256 OF THE DUMP (.gsa) THAT YtcjhaeppplmmjaaDoorProg.lean LOADS. Nothing in Lean hashes anything: it is a label: what it is worth is what the hold of that sum in a sandbox is worth. -/
noncomputable def Tryd.pinned : Pinned := { name := "ytcjhaeppplmmjaadoor", sum := "d648d09e15f8992713a698f88bbd4c96ec87a043d54c915a76b51e16915251c0", checked := Tryd.checked }
namespace Rows
def none {H : Type} : Left H := { results := [], args := [] }

/- WHAT THE LISTED PACKAGE-LEVEL VARIABLES READ AS WHEN THE CALL BEGINS. Each datum BY PROGRAM (the guide's laid-datum.mjs) off the statement by which the dump's own 'gosem.cut.vars' lays the variable. In a bare row this is a premise. The card (YtcjhaeppplmmjaaDoorCards.lean) ties it to the program's text. -/
def laid_bindery_numbers_roman {H : Type} : DataW H := .agg [.agg [.lit (.string []), .lit (.string [77]), .lit (.string [77, 77]), .lit (.string [77, 77, 77]), .lit (.string []), .lit (.string []), .lit (.string []), .lit (.string []), .lit (.string []), .lit (.string [])], .agg [.lit (.string []), .lit (.string [67]), .lit (.string [67, 67]), .lit (.string [67, 67, 67]), .lit (.string [67, 68]), .lit (.string [68]), .lit (.string [68, 67]), .lit (.string [68, 67, 67]), .lit (.string [68, 67, 67, 67]), .lit (.string [67, 77])], .agg [.lit (.string []), .lit (.string [88]), .lit (.string [88, 88]), .lit (.string [88, 88, 88]), .lit (.string [88, 76]), .lit (.string [76]), .lit (.string [76, 88]), .lit (.string [76, 88, 88]), .lit (.string [76, 88, 88, 88]), .lit (.string [88, 67])], .agg [.lit (.string []), .lit (.string [73]), .lit (.string [73, 73]), .lit (.string [73, 73, 73]), .lit (.string [73, 86]), .lit (.string [86]), .lit (.string [86, 73]), .lit (.string [86, 73, 73]), .lit (.string [86, 73, 73, 73]), .lit (.string [73, 88])]]
def laid_math_bits_deBruijn32tab {H : Type} : DataW H := .agg [.lit (.int .u8 0), .lit (.int .u8 1), .lit (.int .u8 28), .lit (.int .u8 2), .lit (.int .u8 29), .lit (.int .u8 14), .lit (.int .u8 24), .lit (.int .u8 3), .lit (.int .u8 30), .lit (.int .u8 22), .lit (.int .u8 20), .lit (.int .u8 15), .lit (.int .u8 25), .lit (.int .u8 17), .lit (.int .u8 4), .lit (.int .u8 8), .lit (.int .u8 31), .lit (.int .u8 27), .lit (.int .u8 13), .lit (.int .u8 23), .lit (.int .u8 21), .lit (.int .u8 19), .lit (.int .u8 16), .lit (.int .u8 7), .lit (.int .u8 26), .lit (.int .u8 12), .lit (.int .u8 18), .lit (.int .u8 6), .lit (.int .u8 11), .lit (.int .u8 5), .lit (.int .u8 10), .lit (.int .u8 9)]
def laid_math_bits_deBruijn64tab {H : Type} : DataW H := .agg [.lit (.int .u8 0), .lit (.int .u8 1), .lit (.int .u8 56), .lit (.int .u8 2), .lit (.int .u8 57), .lit (.int .u8 49), .lit (.int .u8 28), .lit (.int .u8 3), .lit (.int .u8 61), .lit (.int .u8 58), .lit (.int .u8 42), .lit (.int .u8 50), .lit (.int .u8 38), .lit (.int .u8 29), .lit (.int .u8 17), .lit (.int .u8 4), .lit (.int .u8 62), .lit (.int .u8 47), .lit (.int .u8 59), .lit (.int .u8 36), .lit (.int .u8 45), .lit (.int .u8 43), .lit (.int .u8 51), .lit (.int .u8 22), .lit (.int .u8 53), .lit (.int .u8 39), .lit (.int .u8 33), .lit (.int .u8 30), .lit (.int .u8 24), .lit (.int .u8 18), .lit (.int .u8 12), .lit (.int .u8 5), .lit (.int .u8 63), .lit (.int .u8 55), .lit (.int .u8 48), .lit (.int .u8 27), .lit (.int .u8 60), .lit (.int .u8 41), .lit (.int .u8 37), .lit (.int .u8 16), .lit (.int .u8 46), .lit (.int .u8 35), .lit (.int .u8 44), .lit (.int .u8 21), .lit (.int .u8 52), .lit (.int .u8 32), .lit (.int .u8 23), .lit (.int .u8 11), .lit (.int .u8 54), .lit (.int .u8 26), .lit (.int .u8 40), .lit (.int .u8 15), .lit (.int .u8 34), .lit (.int .u8 20), .lit (.int .u8 31), .lit (.int .u8 10), .lit (.int .u8 25), .lit (.int .u8 14), .lit (.int .u8 19), .lit (.int .u8 9), .lit (.int .u8 13), .lit (.int .u8 8), .lit (.int .u8 7), .lit (.int .u8 6)]
def laid_internal_strconv_uint64pow10 {H : Type} : DataW H := .agg [.lit (.int .u64 1), .lit (.int .u64 10), .lit (.int .u64 100), .lit (.int .u64 1000), .lit (.int .u64 10000), .lit (.int .u64 100000), .lit (.int .u64 1000000), .lit (.int .u64 10000000), .lit (.int .u64 100000000), .lit (.int .u64 1000000000), .lit (.int .u64 10000000000), .lit (.int .u64 100000000000), .lit (.int .u64 1000000000000), .lit (.int .u64 10000000000000), .lit (.int .u64 100000000000000), .lit (.int .u64 1000000000000000), .lit (.int .u64 10000000000000000), .lit (.int .u64 100000000000000000), .lit (.int .u64 1000000000000000000), .lit (.int .u64 10000000000000000000)]

/-- 'binderylaw12.NumbersRomans': WHATEVER THE INPUT: true; the input reads as it did. -/
def numbersRomansSpec : ChangeSpec := { name := "numbersRomans", fn := fun _ => fun
  | [d] => { results := [.lit (.bool true)], args := [d] }
  | _ => none }
def numbersRomansRow : OpenClaim := { program := "ytcjhaeppplmmjaadoor", sum := "d648d09e15f8992713a698f88bbd4c96ec87a043d54c915a76b51e16915251c0", func := "bindery/binderylaw12.NumbersRomans", spec := "numbersRomans", inPlace := ["internal/abi.NoEscape"], recurses := true, named := ["bindery/numbers.roman"], apart := false, laid := [("bindery/numbers.roman", laid_bindery_numbers_roman)] }
def NumbersRomansSaid : Prop := numbersRomansRow.holds Tryd.pinned (OpenSpec.ofChange numbersRomansSpec)

/-- ITS FALSE NEIGHBOUR: 'it returns false'. Refute it at one input. -/
def numbersRomansWrong : ChangeSpec := { name := "numbersRomans", fn := fun _ => fun
  | [d] => { results := [.lit (.bool false)], args := [d] }
  | _ => none }
def NumbersRomansWrongFalsely : Prop := numbersRomansRow.holds Tryd.pinned (OpenSpec.ofChange numbersRomansWrong)

/-- 'binderylaw12.NumbersBacks': WHATEVER THE INPUT: true; the input reads as it did. -/
def numbersBacksSpec : ChangeSpec := { name := "numbersBacks", fn := fun _ => fun
  | [d] => { results := [.lit (.bool true)], args := [d] }
  | _ => none }
def numbersBacksRow : OpenClaim := { program := "ytcjhaeppplmmjaadoor", sum := "d648d09e15f8992713a698f88bbd4c96ec87a043d54c915a76b51e16915251c0", func := "bindery/binderylaw12.NumbersBacks", spec := "numbersBacks", inPlace := ["internal/abi.NoEscape"], recurses := true, named := ["bindery/numbers.roman"], apart := false, laid := [("bindery/numbers.roman", laid_bindery_numbers_roman)] }
def NumbersBacksSaid : Prop := numbersBacksRow.holds Tryd.pinned (OpenSpec.ofChange numbersBacksSpec)

/-- ITS FALSE NEIGHBOUR: 'it returns false'. Refute it at one input. -/
def numbersBacksWrong : ChangeSpec := { name := "numbersBacks", fn := fun _ => fun
  | [d] => { results := [.lit (.bool false)], args := [d] }
  | _ => none }
def NumbersBacksWrongFalsely : Prop := numbersBacksRow.holds Tryd.pinned (OpenSpec.ofChange numbersBacksWrong)

/-- 'binderylaw12.NumbersBack': WHATEVER THE INPUT: true; the input reads as it did. -/
def numbersBackSpec : ChangeSpec := { name := "numbersBack", fn := fun _ => fun
  | [d1, d2] => { results := [.lit (.bool true)], args := [d1, d2] }
  | _ => none }
def numbersBackRow : OpenClaim := { program := "ytcjhaeppplmmjaadoor", sum := "d648d09e15f8992713a698f88bbd4c96ec87a043d54c915a76b51e16915251c0", func := "bindery/binderylaw12.NumbersBack", spec := "numbersBack", inPlace := ["internal/abi.NoEscape"], named := ["bindery/numbers.roman", "internal/strconv.uint64pow10", "math/bits.deBruijn32tab", "math/bits.deBruijn64tab"], apart := false, laid := [("math/bits.deBruijn32tab", laid_math_bits_deBruijn32tab), ("math/bits.deBruijn64tab", laid_math_bits_deBruijn64tab), ("internal/strconv.uint64pow10", laid_internal_strconv_uint64pow10), ("bindery/numbers.roman", laid_bindery_numbers_roman)] }
def NumbersBackSaid : Prop := numbersBackRow.holds Tryd.pinned (OpenSpec.ofChange numbersBackSpec)

/-- ITS FALSE NEIGHBOUR: 'it returns false'. Refute it at one input. -/
def numbersBackWrong : ChangeSpec := { name := "numbersBack", fn := fun _ => fun
  | [d1, d2] => { results := [.lit (.bool false)], args := [d1, d2] }
  | _ => none }
def NumbersBackWrongFalsely : Prop := numbersBackRow.holds Tryd.pinned (OpenSpec.ofChange numbersBackWrong)

/-- 'binderylaw12.NumbersWorth': WHATEVER THE INPUT: true; the input reads as it did. -/
def numbersWorthSpec : ChangeSpec := { name := "numbersWorth", fn := fun _ => fun
  | [d] => { results := [.lit (.bool true)], args := [d] }
  | _ => none }
def numbersWorthRow : OpenClaim := { program := "ytcjhaeppplmmjaadoor", sum := "d648d09e15f8992713a698f88bbd4c96ec87a043d54c915a76b51e16915251c0", func := "bindery/binderylaw12.NumbersWorth", spec := "numbersWorth", inPlace := ["internal/abi.NoEscape"], named := ["bindery/numbers.roman", "internal/strconv.uint64pow10", "math/bits.deBruijn32tab", "math/bits.deBruijn64tab"], apart := false, laid := [("math/bits.deBruijn32tab", laid_math_bits_deBruijn32tab), ("math/bits.deBruijn64tab", laid_math_bits_deBruijn64tab), ("internal/strconv.uint64pow10", laid_internal_strconv_uint64pow10), ("bindery/numbers.roman", laid_bindery_numbers_roman)] }
def NumbersWorthSaid : Prop := numbersWorthRow.holds Tryd.pinned (OpenSpec.ofChange numbersWorthSpec)

/-- ITS FALSE NEIGHBOUR: 'it returns false'. Refute it at one input. -/
def numbersWorthWrong : ChangeSpec := { name := "numbersWorth", fn := fun _ => fun
  | [d] => { results := [.lit (.bool false)], args := [d] }
  | _ => none }
def NumbersWorthWrongFalsely : Prop := numbersWorthRow.holds Tryd.pinned (OpenSpec.ofChange numbersWorthWrong)

/-- 'binderylaw12.NumbersLetters': WHATEVER THE INPUT: true; the input reads as it did. -/
def numbersLettersSpec : ChangeSpec := { name := "numbersLetters", fn := fun _ => fun
  | [d1, d2] => { results := [.lit (.bool true)], args := [d1, d2] }
  | _ => none }
def numbersLettersRow : OpenClaim := { program := "ytcjhaeppplmmjaadoor", sum := "d648d09e15f8992713a698f88bbd4c96ec87a043d54c915a76b51e16915251c0", func := "bindery/binderylaw12.NumbersLetters", spec := "numbersLetters", inPlace := ["internal/abi.NoEscape"], named := ["bindery/numbers.roman", "internal/strconv.uint64pow10", "math/bits.deBruijn32tab", "math/bits.deBruijn64tab"], apart := false, laid := [("math/bits.deBruijn32tab", laid_math_bits_deBruijn32tab), ("math/bits.deBruijn64tab", laid_math_bits_deBruijn64tab), ("internal/strconv.uint64pow10", laid_internal_strconv_uint64pow10), ("bindery/numbers.roman", laid_bindery_numbers_roman)] }
def NumbersLettersSaid : Prop := numbersLettersRow.holds Tryd.pinned (OpenSpec.ofChange numbersLettersSpec)

/-- ITS FALSE NEIGHBOUR: 'it returns false'. Refute it at one input. -/
def numbersLettersWrong : ChangeSpec := { name := "numbersLetters", fn := fun _ => fun
  | [d1, d2] => { results := [.lit (.bool false)], args := [d1, d2] }
  | _ => none }
def NumbersLettersWrongFalsely : Prop := numbersLettersRow.holds Tryd.pinned (OpenSpec.ofChange numbersLettersWrong)

/-- 'binderylaw12.NumbersParts': WHATEVER THE INPUT: true; the input reads as it did. -/
def numbersPartsSpec : ChangeSpec := { name := "numbersParts", fn := fun _ => fun
  | [d1, d2] => { results := [.lit (.bool true)], args := [d1, d2] }
  | _ => none }
def numbersPartsRow : OpenClaim := { program := "ytcjhaeppplmmjaadoor", sum := "d648d09e15f8992713a698f88bbd4c96ec87a043d54c915a76b51e16915251c0", func := "bindery/binderylaw12.NumbersParts", spec := "numbersParts", inPlace := ["internal/abi.NoEscape"], named := ["bindery/numbers.roman", "internal/strconv.uint64pow10", "math/bits.deBruijn32tab", "math/bits.deBruijn64tab"], apart := false, laid := [("math/bits.deBruijn32tab", laid_math_bits_deBruijn32tab), ("math/bits.deBruijn64tab", laid_math_bits_deBruijn64tab), ("internal/strconv.uint64pow10", laid_internal_strconv_uint64pow10), ("bindery/numbers.roman", laid_bindery_numbers_roman)] }
def NumbersPartsSaid : Prop := numbersPartsRow.holds Tryd.pinned (OpenSpec.ofChange numbersPartsSpec)

/-- ITS FALSE NEIGHBOUR: 'it returns false'. Refute it at one input. -/
def numbersPartsWrong : ChangeSpec := { name := "numbersParts", fn := fun _ => fun
  | [d1, d2] => { results := [.lit (.bool false)], args := [d1, d2] }
  | _ => none }
def NumbersPartsWrongFalsely : Prop := numbersPartsRow.holds Tryd.pinned (OpenSpec.ofChange numbersPartsWrong)

/-- 'binderylaw12.NumbersNext': WHATEVER THE INPUT: true; the input reads as it did. -/
def numbersNextSpec : ChangeSpec := { name := "numbersNext", fn := fun _ => fun
  | [d1, d2, d3] => { results := [.lit (.bool true)], args := [d1, d2, d3] }
  | _ => none }
def numbersNextRow : OpenClaim := { program := "ytcjhaeppplmmjaadoor", sum := "d648d09e15f8992713a698f88bbd4c96ec87a043d54c915a76b51e16915251c0", func := "bindery/binderylaw12.NumbersNext", spec := "numbersNext", inPlace := ["internal/abi.NoEscape"], named := ["bindery/numbers.roman", "internal/strconv.uint64pow10", "math/bits.deBruijn32tab", "math/bits.deBruijn64tab"], apart := false, laid := [("math/bits.deBruijn32tab", laid_math_bits_deBruijn32tab), ("math/bits.deBruijn64tab", laid_math_bits_deBruijn64tab), ("internal/strconv.uint64pow10", laid_internal_strconv_uint64pow10), ("bindery/numbers.roman", laid_bindery_numbers_roman)] }
def NumbersNextSaid : Prop := numbersNextRow.holds Tryd.pinned (OpenSpec.ofChange numbersNextSpec)

/-- ITS FALSE NEIGHBOUR: 'it returns false'. Refute it at one input. -/
def numbersNextWrong : ChangeSpec := { name := "numbersNext", fn := fun _ => fun
  | [d1, d2, d3] => { results := [.lit (.bool false)], args := [d1, d2, d3] }
  | _ => none }
def NumbersNextWrongFalsely : Prop := numbersNextRow.holds Tryd.pinned (OpenSpec.ofChange numbersNextWrong)

/- THE SECOND FORM. 'bulk': how many values and letters a reading holds, each counted each time it is reached (what is shared counts as often as it is met; a slice's spare places count too). A statement '..UptoSaid' is the law's where the arguments, and the package variables that the reading takes, are together of bulk at most 1048576: NARROWER than '..Said'. Prove '..Said' where nothing that the law and all that it calls make is longer than what came in: it says more and counts as full. Else prove '..UptoSaid'. A law counts once. -/
mutual
def uptoBulk {H : Type} : DataW H → Nat
  | .lit (.string bytes) => bytes.length + 1
  | .lit _ => 1
  | .nil => 1
  | .ptr d => uptoBulk d + 1
  | .slice elems spare => uptoBulkAll elems + uptoBulkAll spare + 1
  | .agg parts => uptoBulkAll parts + 1
  | .iface _ d => uptoBulk d + 1
  | .map entries => uptoBulkEntries entries + 1
  | .held _ => 1
def uptoBulkAll {H : Type} : List (DataW H) → Nat
  | [] => 0
  | d :: r => uptoBulk d + uptoBulkAll r
def uptoBulkEntries {H : Type} : List (Lit × DataW H) → Nat
  | [] => 0
  | x :: r => uptoBulkEntry x + uptoBulkEntries r
def uptoBulkEntry {H : Type} : Lit × DataW H → Nat
  | (.string bytes, d) => bytes.length + uptoBulk d + 1
  | (_, d) => uptoBulk d + 1
 end
def uptoSmall : (H : Type) → List (DataW H) → Bool := fun _ ds => decide (uptoBulkAll ds ≤ 1048576)
def OpenSpec.upto (s : _root_.Go.ChangeSpec) : _root_.Go.OpenSpec := { _root_.Go.OpenSpec.ofChange s with cond := some uptoSmall }

/-- 'binderylaw12.NumbersRomans', WHERE WHAT IT READS IS OF BULK AT MOST 1048576: true; the input reads as it did. -/
def numbersRomansUptoRow : OpenClaim := { program := "ytcjhaeppplmmjaadoor", sum := "d648d09e15f8992713a698f88bbd4c96ec87a043d54c915a76b51e16915251c0", func := "bindery/binderylaw12.NumbersRomans", spec := "numbersRomans", inPlace := ["internal/abi.NoEscape"], recurses := true, named := ["bindery/numbers.roman"], apart := false, laid := [("bindery/numbers.roman", laid_bindery_numbers_roman)], narrowed := true }
def NumbersRomansUptoSaid : Prop := numbersRomansUptoRow.holds Tryd.pinned (OpenSpec.upto numbersRomansSpec)

/-- 'binderylaw12.NumbersBacks', WHERE WHAT IT READS IS OF BULK AT MOST 1048576: true; the input reads as it did. -/
def numbersBacksUptoRow : OpenClaim := { program := "ytcjhaeppplmmjaadoor", sum := "d648d09e15f8992713a698f88bbd4c96ec87a043d54c915a76b51e16915251c0", func := "bindery/binderylaw12.NumbersBacks", spec := "numbersBacks", inPlace := ["internal/abi.NoEscape"], recurses := true, named := ["bindery/numbers.roman"], apart := false, laid := [("bindery/numbers.roman", laid_bindery_numbers_roman)], narrowed := true }
def NumbersBacksUptoSaid : Prop := numbersBacksUptoRow.holds Tryd.pinned (OpenSpec.upto numbersBacksSpec)

/-- 'binderylaw12.NumbersBack', WHERE WHAT IT READS IS OF BULK AT MOST 1048576: true; the input reads as it did. -/
def numbersBackUptoRow : OpenClaim := { program := "ytcjhaeppplmmjaadoor", sum := "d648d09e15f8992713a698f88bbd4c96ec87a043d54c915a76b51e16915251c0", func := "bindery/binderylaw12.NumbersBack", spec := "numbersBack", inPlace := ["internal/abi.NoEscape"], named := ["bindery/numbers.roman", "internal/strconv.uint64pow10", "math/bits.deBruijn32tab", "math/bits.deBruijn64tab"], apart := false, laid := [("math/bits.deBruijn32tab", laid_math_bits_deBruijn32tab), ("math/bits.deBruijn64tab", laid_math_bits_deBruijn64tab), ("internal/strconv.uint64pow10", laid_internal_strconv_uint64pow10), ("bindery/numbers.roman", laid_bindery_numbers_roman)], narrowed := true }
def NumbersBackUptoSaid : Prop := numbersBackUptoRow.holds Tryd.pinned (OpenSpec.upto numbersBackSpec)

/-- 'binderylaw12.NumbersWorth', WHERE WHAT IT READS IS OF BULK AT MOST 1048576: true; the input reads as it did. -/
def numbersWorthUptoRow : OpenClaim := { program := "ytcjhaeppplmmjaadoor", sum := "d648d09e15f8992713a698f88bbd4c96ec87a043d54c915a76b51e16915251c0", func := "bindery/binderylaw12.NumbersWorth", spec := "numbersWorth", inPlace := ["internal/abi.NoEscape"], named := ["bindery/numbers.roman", "internal/strconv.uint64pow10", "math/bits.deBruijn32tab", "math/bits.deBruijn64tab"], apart := false, laid := [("math/bits.deBruijn32tab", laid_math_bits_deBruijn32tab), ("math/bits.deBruijn64tab", laid_math_bits_deBruijn64tab), ("internal/strconv.uint64pow10", laid_internal_strconv_uint64pow10), ("bindery/numbers.roman", laid_bindery_numbers_roman)], narrowed := true }
def NumbersWorthUptoSaid : Prop := numbersWorthUptoRow.holds Tryd.pinned (OpenSpec.upto numbersWorthSpec)

/-- 'binderylaw12.NumbersLetters', WHERE WHAT IT READS IS OF BULK AT MOST 1048576: true; the input reads as it did. -/
def numbersLettersUptoRow : OpenClaim := { program := "ytcjhaeppplmmjaadoor", sum := "d648d09e15f8992713a698f88bbd4c96ec87a043d54c915a76b51e16915251c0", func := "bindery/binderylaw12.NumbersLetters", spec := "numbersLetters", inPlace := ["internal/abi.NoEscape"], named := ["bindery/numbers.roman", "internal/strconv.uint64pow10", "math/bits.deBruijn32tab", "math/bits.deBruijn64tab"], apart := false, laid := [("math/bits.deBruijn32tab", laid_math_bits_deBruijn32tab), ("math/bits.deBruijn64tab", laid_math_bits_deBruijn64tab), ("internal/strconv.uint64pow10", laid_internal_strconv_uint64pow10), ("bindery/numbers.roman", laid_bindery_numbers_roman)], narrowed := true }
def NumbersLettersUptoSaid : Prop := numbersLettersUptoRow.holds Tryd.pinned (OpenSpec.upto numbersLettersSpec)

/-- 'binderylaw12.NumbersParts', WHERE WHAT IT READS IS OF BULK AT MOST 1048576: true; the input reads as it did. -/
def numbersPartsUptoRow : OpenClaim := { program := "ytcjhaeppplmmjaadoor", sum := "d648d09e15f8992713a698f88bbd4c96ec87a043d54c915a76b51e16915251c0", func := "bindery/binderylaw12.NumbersParts", spec := "numbersParts", inPlace := ["internal/abi.NoEscape"], named := ["bindery/numbers.roman", "internal/strconv.uint64pow10", "math/bits.deBruijn32tab", "math/bits.deBruijn64tab"], apart := false, laid := [("math/bits.deBruijn32tab", laid_math_bits_deBruijn32tab), ("math/bits.deBruijn64tab", laid_math_bits_deBruijn64tab), ("internal/strconv.uint64pow10", laid_internal_strconv_uint64pow10), ("bindery/numbers.roman", laid_bindery_numbers_roman)], narrowed := true }
def NumbersPartsUptoSaid : Prop := numbersPartsUptoRow.holds Tryd.pinned (OpenSpec.upto numbersPartsSpec)

/-- 'binderylaw12.NumbersNext', WHERE WHAT IT READS IS OF BULK AT MOST 1048576: true; the input reads as it did. -/
def numbersNextUptoRow : OpenClaim := { program := "ytcjhaeppplmmjaadoor", sum := "d648d09e15f8992713a698f88bbd4c96ec87a043d54c915a76b51e16915251c0", func := "bindery/binderylaw12.NumbersNext", spec := "numbersNext", inPlace := ["internal/abi.NoEscape"], named := ["bindery/numbers.roman", "internal/strconv.uint64pow10", "math/bits.deBruijn32tab", "math/bits.deBruijn64tab"], apart := false, laid := [("math/bits.deBruijn32tab", laid_math_bits_deBruijn32tab), ("math/bits.deBruijn64tab", laid_math_bits_deBruijn64tab), ("internal/strconv.uint64pow10", laid_internal_strconv_uint64pow10), ("bindery/numbers.roman", laid_bindery_numbers_roman)], narrowed := true }
def NumbersNextUptoSaid : Prop := numbersNextUptoRow.holds Tryd.pinned (OpenSpec.upto numbersNextSpec)

end Rows
end Go.Proofs.YtcjhaeppplmmjaaDoor
