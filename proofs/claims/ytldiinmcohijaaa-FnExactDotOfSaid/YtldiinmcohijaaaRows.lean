/-
  No cell of these rows narrows 'for every input' (looked for: loops, veiled, ifaces, maps, wideKeys, modest, calm, conditions, laid).
  DERIVED. THE GIVEN ROWS OF THIS SEAT. 14 by the template 'for every input the law returns true; each argument reads behind the call as it read before'; 0 by the template 'total and deterministic' (their statements: YtldiinmcohijaaaTotals.lean).
  GIVEN WITH THE SEED: the statements are not yours to turn. If you find one false, say at which input.
  Laid BY PROGRAM, IN A SANDBOX (cutbox-rows.mjs): the forced cells as the released guide's own fill.sh prints them over the translation 815ffc897eb17613… (all of the seat's roots in one cut). By AI agents, Wed Nov 11 2026. No macro, syntax, notation, axiom, sorry.
-/
import Derived.Test.YtldiinmcohijaaaChecked
import GoSem.Claim
import GoSem.ClaimJoined
import GoSem.ClaimMapViews
import Derived.JoinedTies
import Derived.KernelRfl
namespace Go.Proofs.Ytldiinmcohijaaa
/- THE CELL 'sum', in the pinned program and in every row, IS THE sha256 OF THE DUMP (.gsa) THAT YtldiinmcohijaaaProg.lean LOADS. Nothing in Lean hashes anything: it is a label: what it is worth is what the hold of that sum in a sandbox is worth. -/
noncomputable def Try.pinned : Pinned := { name := "ytldiinmcohijaaa", sum := "815ffc897eb17613c38adae8ff76de19b0e322c5eab959fe7aad5ce28567ce48", checked := Try.checked }
namespace Rows
def none {H : Type} : Left H := { results := [], args := [] }

/-- 'laws.FnExactConstants': WHATEVER THE INPUT: true; the input reads as it did. -/
def fnExactConstantsSpec : ChangeSpec := { name := "fnExactConstants", fn := fun _ => fun
  | [] => { results := [.lit (.bool true)], args := [] }
  | _ => none }
def fnExactConstantsRow : OpenClaim := { program := "ytldiinmcohijaaa", sum := "815ffc897eb17613c38adae8ff76de19b0e322c5eab959fe7aad5ce28567ce48", func := "loop.example/g01124/laws.FnExactConstants", spec := "fnExactConstants", apart := false }
def FnExactConstantsSaid : Prop := fnExactConstantsRow.holds Try.pinned (OpenSpec.ofChange fnExactConstantsSpec)

/-- ITS FALSE NEIGHBOUR: 'it returns false'. Refute it at one input. -/
def fnExactConstantsWrong : ChangeSpec := { name := "fnExactConstants", fn := fun _ => fun
  | [] => { results := [.lit (.bool false)], args := [] }
  | _ => none }
def FnExactConstantsWrongFalsely : Prop := fnExactConstantsRow.holds Try.pinned (OpenSpec.ofChange fnExactConstantsWrong)

/-- 'laws.FnExactIsPrime': WHATEVER THE INPUT: true; the input reads as it did. -/
def fnExactIsPrimeSpec : ChangeSpec := { name := "fnExactIsPrime", fn := fun _ => fun
  | [d] => { results := [.lit (.bool true)], args := [d] }
  | _ => none }
def fnExactIsPrimeRow : OpenClaim := { program := "ytldiinmcohijaaa", sum := "815ffc897eb17613c38adae8ff76de19b0e322c5eab959fe7aad5ce28567ce48", func := "loop.example/g01124/laws.FnExactIsPrime", spec := "fnExactIsPrime", apart := false }
def FnExactIsPrimeSaid : Prop := fnExactIsPrimeRow.holds Try.pinned (OpenSpec.ofChange fnExactIsPrimeSpec)

/-- ITS FALSE NEIGHBOUR: 'it returns false'. Refute it at one input. -/
def fnExactIsPrimeWrong : ChangeSpec := { name := "fnExactIsPrime", fn := fun _ => fun
  | [d] => { results := [.lit (.bool false)], args := [d] }
  | _ => none }
def FnExactIsPrimeWrongFalsely : Prop := fnExactIsPrimeRow.holds Try.pinned (OpenSpec.ofChange fnExactIsPrimeWrong)

/-- 'laws.FnExactNumberOf': WHATEVER THE INPUT: true; the input reads as it did. -/
def fnExactNumberOfSpec : ChangeSpec := { name := "fnExactNumberOf", fn := fun _ => fun
  | [d1, d2] => { results := [.lit (.bool true)], args := [d1, d2] }
  | _ => none }
def fnExactNumberOfRow : OpenClaim := { program := "ytldiinmcohijaaa", sum := "815ffc897eb17613c38adae8ff76de19b0e322c5eab959fe7aad5ce28567ce48", func := "loop.example/g01124/laws.FnExactNumberOf", spec := "fnExactNumberOf", apart := false }
def FnExactNumberOfSaid : Prop := fnExactNumberOfRow.holds Try.pinned (OpenSpec.ofChange fnExactNumberOfSpec)

/-- ITS FALSE NEIGHBOUR: 'it returns false'. Refute it at one input. -/
def fnExactNumberOfWrong : ChangeSpec := { name := "fnExactNumberOf", fn := fun _ => fun
  | [d1, d2] => { results := [.lit (.bool false)], args := [d1, d2] }
  | _ => none }
def FnExactNumberOfWrongFalsely : Prop := fnExactNumberOfRow.holds Try.pinned (OpenSpec.ofChange fnExactNumberOfWrong)

/-- 'laws.FnExactPrimitiveNumber': WHATEVER THE INPUT: true; the input reads as it did. -/
def fnExactPrimitiveNumberSpec : ChangeSpec := { name := "fnExactPrimitiveNumber", fn := fun _ => fun
  | [d] => { results := [.lit (.bool true)], args := [d] }
  | _ => none }
def fnExactPrimitiveNumberRow : OpenClaim := { program := "ytldiinmcohijaaa", sum := "815ffc897eb17613c38adae8ff76de19b0e322c5eab959fe7aad5ce28567ce48", func := "loop.example/g01124/laws.FnExactPrimitiveNumber", spec := "fnExactPrimitiveNumber", apart := false }
def FnExactPrimitiveNumberSaid : Prop := fnExactPrimitiveNumberRow.holds Try.pinned (OpenSpec.ofChange fnExactPrimitiveNumberSpec)

/-- ITS FALSE NEIGHBOUR: 'it returns false'. Refute it at one input. -/
def fnExactPrimitiveNumberWrong : ChangeSpec := { name := "fnExactPrimitiveNumber", fn := fun _ => fun
  | [d] => { results := [.lit (.bool false)], args := [d] }
  | _ => none }
def FnExactPrimitiveNumberWrongFalsely : Prop := fnExactPrimitiveNumberRow.holds Try.pinned (OpenSpec.ofChange fnExactPrimitiveNumberWrong)

/-- 'laws.FnExactAddNumbers': WHATEVER THE INPUT: true; the input reads as it did. -/
def fnExactAddNumbersSpec : ChangeSpec := { name := "fnExactAddNumbers", fn := fun _ => fun
  | [d1, d2, d3] => { results := [.lit (.bool true)], args := [d1, d2, d3] }
  | _ => none }
def fnExactAddNumbersRow : OpenClaim := { program := "ytldiinmcohijaaa", sum := "815ffc897eb17613c38adae8ff76de19b0e322c5eab959fe7aad5ce28567ce48", func := "loop.example/g01124/laws.FnExactAddNumbers", spec := "fnExactAddNumbers", apart := false }
def FnExactAddNumbersSaid : Prop := fnExactAddNumbersRow.holds Try.pinned (OpenSpec.ofChange fnExactAddNumbersSpec)

/-- ITS FALSE NEIGHBOUR: 'it returns false'. Refute it at one input. -/
def fnExactAddNumbersWrong : ChangeSpec := { name := "fnExactAddNumbers", fn := fun _ => fun
  | [d1, d2, d3] => { results := [.lit (.bool false)], args := [d1, d2, d3] }
  | _ => none }
def FnExactAddNumbersWrongFalsely : Prop := fnExactAddNumbersRow.holds Try.pinned (OpenSpec.ofChange fnExactAddNumbersWrong)

/-- 'laws.FnExactMultiplyNumbers': WHATEVER THE INPUT: true; the input reads as it did. -/
def fnExactMultiplyNumbersSpec : ChangeSpec := { name := "fnExactMultiplyNumbers", fn := fun _ => fun
  | [d1, d2, d3] => { results := [.lit (.bool true)], args := [d1, d2, d3] }
  | _ => none }
def fnExactMultiplyNumbersRow : OpenClaim := { program := "ytldiinmcohijaaa", sum := "815ffc897eb17613c38adae8ff76de19b0e322c5eab959fe7aad5ce28567ce48", func := "loop.example/g01124/laws.FnExactMultiplyNumbers", spec := "fnExactMultiplyNumbers", apart := false }
def FnExactMultiplyNumbersSaid : Prop := fnExactMultiplyNumbersRow.holds Try.pinned (OpenSpec.ofChange fnExactMultiplyNumbersSpec)

/-- ITS FALSE NEIGHBOUR: 'it returns false'. Refute it at one input. -/
def fnExactMultiplyNumbersWrong : ChangeSpec := { name := "fnExactMultiplyNumbers", fn := fun _ => fun
  | [d1, d2, d3] => { results := [.lit (.bool false)], args := [d1, d2, d3] }
  | _ => none }
def FnExactMultiplyNumbersWrongFalsely : Prop := fnExactMultiplyNumbersRow.holds Try.pinned (OpenSpec.ofChange fnExactMultiplyNumbersWrong)

/-- 'laws.FnExactSubtractNumbers': WHATEVER THE INPUT: true; the input reads as it did. -/
def fnExactSubtractNumbersSpec : ChangeSpec := { name := "fnExactSubtractNumbers", fn := fun _ => fun
  | [d1, d2, d3] => { results := [.lit (.bool true)], args := [d1, d2, d3] }
  | _ => none }
def fnExactSubtractNumbersRow : OpenClaim := { program := "ytldiinmcohijaaa", sum := "815ffc897eb17613c38adae8ff76de19b0e322c5eab959fe7aad5ce28567ce48", func := "loop.example/g01124/laws.FnExactSubtractNumbers", spec := "fnExactSubtractNumbers", apart := false }
def FnExactSubtractNumbersSaid : Prop := fnExactSubtractNumbersRow.holds Try.pinned (OpenSpec.ofChange fnExactSubtractNumbersSpec)

/-- ITS FALSE NEIGHBOUR: 'it returns false'. Refute it at one input. -/
def fnExactSubtractNumbersWrong : ChangeSpec := { name := "fnExactSubtractNumbers", fn := fun _ => fun
  | [d1, d2, d3] => { results := [.lit (.bool false)], args := [d1, d2, d3] }
  | _ => none }
def FnExactSubtractNumbersWrongFalsely : Prop := fnExactSubtractNumbersRow.holds Try.pinned (OpenSpec.ofChange fnExactSubtractNumbersWrong)

/-- 'laws.FnExactDotOf': WHATEVER THE INPUT: true; the input reads as it did. -/
def fnExactDotOfSpec : ChangeSpec := { name := "fnExactDotOf", fn := fun _ => fun
  | [d1, d2, d3] => { results := [.lit (.bool true)], args := [d1, d2, d3] }
  | _ => none }
def fnExactDotOfRow : OpenClaim := { program := "ytldiinmcohijaaa", sum := "815ffc897eb17613c38adae8ff76de19b0e322c5eab959fe7aad5ce28567ce48", func := "loop.example/g01124/laws.FnExactDotOf", spec := "fnExactDotOf", apart := false }
def FnExactDotOfSaid : Prop := fnExactDotOfRow.holds Try.pinned (OpenSpec.ofChange fnExactDotOfSpec)

/-- ITS FALSE NEIGHBOUR: 'it returns false'. Refute it at one input. -/
def fnExactDotOfWrong : ChangeSpec := { name := "fnExactDotOf", fn := fun _ => fun
  | [d1, d2, d3] => { results := [.lit (.bool false)], args := [d1, d2, d3] }
  | _ => none }
def FnExactDotOfWrongFalsely : Prop := fnExactDotOfRow.holds Try.pinned (OpenSpec.ofChange fnExactDotOfWrong)

/-- 'laws.FnExactIsSquare': WHATEVER THE INPUT: true; the input reads as it did. -/
def fnExactIsSquareSpec : ChangeSpec := { name := "fnExactIsSquare", fn := fun _ => fun
  | [d1, d2] => { results := [.lit (.bool true)], args := [d1, d2] }
  | _ => none }
def fnExactIsSquareRow : OpenClaim := { program := "ytldiinmcohijaaa", sum := "815ffc897eb17613c38adae8ff76de19b0e322c5eab959fe7aad5ce28567ce48", func := "loop.example/g01124/laws.FnExactIsSquare", spec := "fnExactIsSquare", apart := false }
def FnExactIsSquareSaid : Prop := fnExactIsSquareRow.holds Try.pinned (OpenSpec.ofChange fnExactIsSquareSpec)

/-- ITS FALSE NEIGHBOUR: 'it returns false'. Refute it at one input. -/
def fnExactIsSquareWrong : ChangeSpec := { name := "fnExactIsSquare", fn := fun _ => fun
  | [d1, d2] => { results := [.lit (.bool false)], args := [d1, d2] }
  | _ => none }
def FnExactIsSquareWrongFalsely : Prop := fnExactIsSquareRow.holds Try.pinned (OpenSpec.ofChange fnExactIsSquareWrong)

/-- 'laws.FnExactOrderOfNumber': WHATEVER THE INPUT: true; the input reads as it did. -/
def fnExactOrderOfNumberSpec : ChangeSpec := { name := "fnExactOrderOfNumber", fn := fun _ => fun
  | [d1, d2] => { results := [.lit (.bool true)], args := [d1, d2] }
  | _ => none }
def fnExactOrderOfNumberRow : OpenClaim := { program := "ytldiinmcohijaaa", sum := "815ffc897eb17613c38adae8ff76de19b0e322c5eab959fe7aad5ce28567ce48", func := "loop.example/g01124/laws.FnExactOrderOfNumber", spec := "fnExactOrderOfNumber", apart := false }
def FnExactOrderOfNumberSaid : Prop := fnExactOrderOfNumberRow.holds Try.pinned (OpenSpec.ofChange fnExactOrderOfNumberSpec)

/-- ITS FALSE NEIGHBOUR: 'it returns false'. Refute it at one input. -/
def fnExactOrderOfNumberWrong : ChangeSpec := { name := "fnExactOrderOfNumber", fn := fun _ => fun
  | [d1, d2] => { results := [.lit (.bool false)], args := [d1, d2] }
  | _ => none }
def FnExactOrderOfNumberWrongFalsely : Prop := fnExactOrderOfNumberRow.holds Try.pinned (OpenSpec.ofChange fnExactOrderOfNumberWrong)

/-- 'laws.FnExactDivideNumbers': WHATEVER THE INPUT: true; the input reads as it did. -/
def fnExactDivideNumbersSpec : ChangeSpec := { name := "fnExactDivideNumbers", fn := fun _ => fun
  | [d1, d2, d3] => { results := [.lit (.bool true)], args := [d1, d2, d3] }
  | _ => none }
def fnExactDivideNumbersRow : OpenClaim := { program := "ytldiinmcohijaaa", sum := "815ffc897eb17613c38adae8ff76de19b0e322c5eab959fe7aad5ce28567ce48", func := "loop.example/g01124/laws.FnExactDivideNumbers", spec := "fnExactDivideNumbers", apart := false }
def FnExactDivideNumbersSaid : Prop := fnExactDivideNumbersRow.holds Try.pinned (OpenSpec.ofChange fnExactDivideNumbersSpec)

/-- ITS FALSE NEIGHBOUR: 'it returns false'. Refute it at one input. -/
def fnExactDivideNumbersWrong : ChangeSpec := { name := "fnExactDivideNumbers", fn := fun _ => fun
  | [d1, d2, d3] => { results := [.lit (.bool false)], args := [d1, d2, d3] }
  | _ => none }
def FnExactDivideNumbersWrongFalsely : Prop := fnExactDivideNumbersRow.holds Try.pinned (OpenSpec.ofChange fnExactDivideNumbersWrong)

/-- 'laws.FnExactSquareRoot': WHATEVER THE INPUT: true; the input reads as it did. -/
def fnExactSquareRootSpec : ChangeSpec := { name := "fnExactSquareRoot", fn := fun _ => fun
  | [d1, d2] => { results := [.lit (.bool true)], args := [d1, d2] }
  | _ => none }
def fnExactSquareRootRow : OpenClaim := { program := "ytldiinmcohijaaa", sum := "815ffc897eb17613c38adae8ff76de19b0e322c5eab959fe7aad5ce28567ce48", func := "loop.example/g01124/laws.FnExactSquareRoot", spec := "fnExactSquareRoot", apart := false }
def FnExactSquareRootSaid : Prop := fnExactSquareRootRow.holds Try.pinned (OpenSpec.ofChange fnExactSquareRootSpec)

/-- ITS FALSE NEIGHBOUR: 'it returns false'. Refute it at one input. -/
def fnExactSquareRootWrong : ChangeSpec := { name := "fnExactSquareRoot", fn := fun _ => fun
  | [d1, d2] => { results := [.lit (.bool false)], args := [d1, d2] }
  | _ => none }
def FnExactSquareRootWrongFalsely : Prop := fnExactSquareRootRow.holds Try.pinned (OpenSpec.ofChange fnExactSquareRootWrong)

/-- 'laws.FnExactSumOfSquares': WHATEVER THE INPUT: true; the input reads as it did. -/
def fnExactSumOfSquaresSpec : ChangeSpec := { name := "fnExactSumOfSquares", fn := fun _ => fun
  | [d1, d2] => { results := [.lit (.bool true)], args := [d1, d2] }
  | _ => none }
def fnExactSumOfSquaresRow : OpenClaim := { program := "ytldiinmcohijaaa", sum := "815ffc897eb17613c38adae8ff76de19b0e322c5eab959fe7aad5ce28567ce48", func := "loop.example/g01124/laws.FnExactSumOfSquares", spec := "fnExactSumOfSquares", apart := false }
def FnExactSumOfSquaresSaid : Prop := fnExactSumOfSquaresRow.holds Try.pinned (OpenSpec.ofChange fnExactSumOfSquaresSpec)

/-- ITS FALSE NEIGHBOUR: 'it returns false'. Refute it at one input. -/
def fnExactSumOfSquaresWrong : ChangeSpec := { name := "fnExactSumOfSquares", fn := fun _ => fun
  | [d1, d2] => { results := [.lit (.bool false)], args := [d1, d2] }
  | _ => none }
def FnExactSumOfSquaresWrongFalsely : Prop := fnExactSumOfSquaresRow.holds Try.pinned (OpenSpec.ofChange fnExactSumOfSquaresWrong)

/-- 'laws.FnExactPowerNumber': WHATEVER THE INPUT: true; the input reads as it did. -/
def fnExactPowerNumberSpec : ChangeSpec := { name := "fnExactPowerNumber", fn := fun _ => fun
  | [d1, d2, d3] => { results := [.lit (.bool true)], args := [d1, d2, d3] }
  | _ => none }
def fnExactPowerNumberRow : OpenClaim := { program := "ytldiinmcohijaaa", sum := "815ffc897eb17613c38adae8ff76de19b0e322c5eab959fe7aad5ce28567ce48", func := "loop.example/g01124/laws.FnExactPowerNumber", spec := "fnExactPowerNumber", apart := false }
def FnExactPowerNumberSaid : Prop := fnExactPowerNumberRow.holds Try.pinned (OpenSpec.ofChange fnExactPowerNumberSpec)

/-- ITS FALSE NEIGHBOUR: 'it returns false'. Refute it at one input. -/
def fnExactPowerNumberWrong : ChangeSpec := { name := "fnExactPowerNumber", fn := fun _ => fun
  | [d1, d2, d3] => { results := [.lit (.bool false)], args := [d1, d2, d3] }
  | _ => none }
def FnExactPowerNumberWrongFalsely : Prop := fnExactPowerNumberRow.holds Try.pinned (OpenSpec.ofChange fnExactPowerNumberWrong)

/- THE SECOND FORM. 'bulk': how many values and letters a reading holds, each counted each time it is reached (what is shared counts as often as it is met; a slice's spare places count too). A statement '..UptoSaid' is the law's where the arguments, and the package variables that the reading takes, are together of bulk at most 1048576: NARROWER than '..Said'. Prove '..Said' where nothing that the law and all that it calls make is longer than what came in: it says more and counts as full. Else prove '..UptoSaid'. A law counts once. -/
mutual
def uptoBulk {H : Type} : DataW H → Nat
  | .lit (.string bytes) => bytes.length + 1
  | .lit _ => 1
  | .nil => 1
  | .ptr d => uptoBulk d + 1
  | .slice elems spare => uptoBulkAll elems + uptoBulkAll spare + 1
  | .agg parts => uptoBulkAll parts + 1
  | .iface _ d => uptoBulk d + 1
  | .map entries => uptoBulkEntries entries + 1
  | .held _ => 1
def uptoBulkAll {H : Type} : List (DataW H) → Nat
  | [] => 0
  | d :: r => uptoBulk d + uptoBulkAll r
def uptoBulkEntries {H : Type} : List (Lit × DataW H) → Nat
  | [] => 0
  | x :: r => uptoBulkEntry x + uptoBulkEntries r
def uptoBulkEntry {H : Type} : Lit × DataW H → Nat
  | (.string bytes, d) => bytes.length + uptoBulk d + 1
  | (_, d) => uptoBulk d + 1
 end
def uptoSmall : (H : Type) → List (DataW H) → Bool := fun _ ds => decide (uptoBulkAll ds ≤ 1048576)
def OpenSpec.upto (s : _root_.Go.ChangeSpec) : _root_.Go.OpenSpec := { _root_.Go.OpenSpec.ofChange s with cond := some uptoSmall }

/-- 'laws.FnExactConstants', WHERE WHAT IT READS IS OF BULK AT MOST 1048576: true; the input reads as it did. -/
def fnExactConstantsUptoRow : OpenClaim := { program := "ytldiinmcohijaaa", sum := "815ffc897eb17613c38adae8ff76de19b0e322c5eab959fe7aad5ce28567ce48", func := "loop.example/g01124/laws.FnExactConstants", spec := "fnExactConstants", apart := false, narrowed := true }
def FnExactConstantsUptoSaid : Prop := fnExactConstantsUptoRow.holds Try.pinned (OpenSpec.upto fnExactConstantsSpec)

/-- 'laws.FnExactIsPrime', WHERE WHAT IT READS IS OF BULK AT MOST 1048576: true; the input reads as it did. -/
def fnExactIsPrimeUptoRow : OpenClaim := { program := "ytldiinmcohijaaa", sum := "815ffc897eb17613c38adae8ff76de19b0e322c5eab959fe7aad5ce28567ce48", func := "loop.example/g01124/laws.FnExactIsPrime", spec := "fnExactIsPrime", apart := false, narrowed := true }
def FnExactIsPrimeUptoSaid : Prop := fnExactIsPrimeUptoRow.holds Try.pinned (OpenSpec.upto fnExactIsPrimeSpec)

/-- 'laws.FnExactNumberOf', WHERE WHAT IT READS IS OF BULK AT MOST 1048576: true; the input reads as it did. -/
def fnExactNumberOfUptoRow : OpenClaim := { program := "ytldiinmcohijaaa", sum := "815ffc897eb17613c38adae8ff76de19b0e322c5eab959fe7aad5ce28567ce48", func := "loop.example/g01124/laws.FnExactNumberOf", spec := "fnExactNumberOf", apart := false, narrowed := true }
def FnExactNumberOfUptoSaid : Prop := fnExactNumberOfUptoRow.holds Try.pinned (OpenSpec.upto fnExactNumberOfSpec)

/-- 'laws.FnExactPrimitiveNumber', WHERE WHAT IT READS IS OF BULK AT MOST 1048576: true; the input reads as it did. -/
def fnExactPrimitiveNumberUptoRow : OpenClaim := { program := "ytldiinmcohijaaa", sum := "815ffc897eb17613c38adae8ff76de19b0e322c5eab959fe7aad5ce28567ce48", func := "loop.example/g01124/laws.FnExactPrimitiveNumber", spec := "fnExactPrimitiveNumber", apart := false, narrowed := true }
def FnExactPrimitiveNumberUptoSaid : Prop := fnExactPrimitiveNumberUptoRow.holds Try.pinned (OpenSpec.upto fnExactPrimitiveNumberSpec)

/-- 'laws.FnExactAddNumbers', WHERE WHAT IT READS IS OF BULK AT MOST 1048576: true; the input reads as it did. -/
def fnExactAddNumbersUptoRow : OpenClaim := { program := "ytldiinmcohijaaa", sum := "815ffc897eb17613c38adae8ff76de19b0e322c5eab959fe7aad5ce28567ce48", func := "loop.example/g01124/laws.FnExactAddNumbers", spec := "fnExactAddNumbers", apart := false, narrowed := true }
def FnExactAddNumbersUptoSaid : Prop := fnExactAddNumbersUptoRow.holds Try.pinned (OpenSpec.upto fnExactAddNumbersSpec)

/-- 'laws.FnExactMultiplyNumbers', WHERE WHAT IT READS IS OF BULK AT MOST 1048576: true; the input reads as it did. -/
def fnExactMultiplyNumbersUptoRow : OpenClaim := { program := "ytldiinmcohijaaa", sum := "815ffc897eb17613c38adae8ff76de19b0e322c5eab959fe7aad5ce28567ce48", func := "loop.example/g01124/laws.FnExactMultiplyNumbers", spec := "fnExactMultiplyNumbers", apart := false, narrowed := true }
def FnExactMultiplyNumbersUptoSaid : Prop := fnExactMultiplyNumbersUptoRow.holds Try.pinned (OpenSpec.upto fnExactMultiplyNumbersSpec)

/-- 'laws.FnExactSubtractNumbers', WHERE WHAT IT READS IS OF BULK AT MOST 1048576: true; the input reads as it did. -/
def fnExactSubtractNumbersUptoRow : OpenClaim := { program := "ytldiinmcohijaaa", sum := "815ffc897eb17613c38adae8ff76de19b0e322c5eab959fe7aad5ce28567ce48", func := "loop.example/g01124/laws.FnExactSubtractNumbers", spec := "fnExactSubtractNumbers", apart := false, narrowed := true }
def FnExactSubtractNumbersUptoSaid : Prop := fnExactSubtractNumbersUptoRow.holds Try.pinned (OpenSpec.upto fnExactSubtractNumbersSpec)

/-- 'laws.FnExactDotOf', WHERE WHAT IT READS IS OF BULK AT MOST 1048576: true; the input reads as it did. -/
def fnExactDotOfUptoRow : OpenClaim := { program := "ytldiinmcohijaaa", sum := "815ffc897eb17613c38adae8ff76de19b0e322c5eab959fe7aad5ce28567ce48", func := "loop.example/g01124/laws.FnExactDotOf", spec := "fnExactDotOf", apart := false, narrowed := true }
def FnExactDotOfUptoSaid : Prop := fnExactDotOfUptoRow.holds Try.pinned (OpenSpec.upto fnExactDotOfSpec)

/-- 'laws.FnExactIsSquare', WHERE WHAT IT READS IS OF BULK AT MOST 1048576: true; the input reads as it did. -/
def fnExactIsSquareUptoRow : OpenClaim := { program := "ytldiinmcohijaaa", sum := "815ffc897eb17613c38adae8ff76de19b0e322c5eab959fe7aad5ce28567ce48", func := "loop.example/g01124/laws.FnExactIsSquare", spec := "fnExactIsSquare", apart := false, narrowed := true }
def FnExactIsSquareUptoSaid : Prop := fnExactIsSquareUptoRow.holds Try.pinned (OpenSpec.upto fnExactIsSquareSpec)

/-- 'laws.FnExactOrderOfNumber', WHERE WHAT IT READS IS OF BULK AT MOST 1048576: true; the input reads as it did. -/
def fnExactOrderOfNumberUptoRow : OpenClaim := { program := "ytldiinmcohijaaa", sum := "815ffc897eb17613c38adae8ff76de19b0e322c5eab959fe7aad5ce28567ce48", func := "loop.example/g01124/laws.FnExactOrderOfNumber", spec := "fnExactOrderOfNumber", apart := false, narrowed := true }
def FnExactOrderOfNumberUptoSaid : Prop := fnExactOrderOfNumberUptoRow.holds Try.pinned (OpenSpec.upto fnExactOrderOfNumberSpec)

/-- 'laws.FnExactDivideNumbers', WHERE WHAT IT READS IS OF BULK AT MOST 1048576: true; the input reads as it did. -/
def fnExactDivideNumbersUptoRow : OpenClaim := { program := "ytldiinmcohijaaa", sum := "815ffc897eb17613c38adae8ff76de19b0e322c5eab959fe7aad5ce28567ce48", func := "loop.example/g01124/laws.FnExactDivideNumbers", spec := "fnExactDivideNumbers", apart := false, narrowed := true }
def FnExactDivideNumbersUptoSaid : Prop := fnExactDivideNumbersUptoRow.holds Try.pinned (OpenSpec.upto fnExactDivideNumbersSpec)

/-- 'laws.FnExactSquareRoot', WHERE WHAT IT READS IS OF BULK AT MOST 1048576: true; the input reads as it did. -/
def fnExactSquareRootUptoRow : OpenClaim := { program := "ytldiinmcohijaaa", sum := "815ffc897eb17613c38adae8ff76de19b0e322c5eab959fe7aad5ce28567ce48", func := "loop.example/g01124/laws.FnExactSquareRoot", spec := "fnExactSquareRoot", apart := false, narrowed := true }
def FnExactSquareRootUptoSaid : Prop := fnExactSquareRootUptoRow.holds Try.pinned (OpenSpec.upto fnExactSquareRootSpec)

/-- 'laws.FnExactSumOfSquares', WHERE WHAT IT READS IS OF BULK AT MOST 1048576: true; the input reads as it did. -/
def fnExactSumOfSquaresUptoRow : OpenClaim := { program := "ytldiinmcohijaaa", sum := "815ffc897eb17613c38adae8ff76de19b0e322c5eab959fe7aad5ce28567ce48", func := "loop.example/g01124/laws.FnExactSumOfSquares", spec := "fnExactSumOfSquares", apart := false, narrowed := true }
def FnExactSumOfSquaresUptoSaid : Prop := fnExactSumOfSquaresUptoRow.holds Try.pinned (OpenSpec.upto fnExactSumOfSquaresSpec)

/-- 'laws.FnExactPowerNumber', WHERE WHAT IT READS IS OF BULK AT MOST 1048576: true; the input reads as it did. -/
def fnExactPowerNumberUptoRow : OpenClaim := { program := "ytldiinmcohijaaa", sum := "815ffc897eb17613c38adae8ff76de19b0e322c5eab959fe7aad5ce28567ce48", func := "loop.example/g01124/laws.FnExactPowerNumber", spec := "fnExactPowerNumber", apart := false, narrowed := true }
def FnExactPowerNumberUptoSaid : Prop := fnExactPowerNumberUptoRow.holds Try.pinned (OpenSpec.upto fnExactPowerNumberSpec)

end Rows
end Go.Proofs.Ytldiinmcohijaaa
