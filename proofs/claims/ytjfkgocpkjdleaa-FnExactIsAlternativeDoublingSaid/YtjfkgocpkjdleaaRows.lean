/-
  No cell of these rows narrows 'for every input' (looked for: loops, veiled, ifaces, maps, wideKeys, modest, calm, conditions, laid).
  DERIVED. THE GIVEN ROWS OF THIS SEAT. 11 by the template 'for every input the law returns true; each argument reads behind the call as it read before'; 0 by the template 'total and deterministic' (their statements: YtjfkgocpkjdleaaTotals.lean).
  GIVEN WITH THE SEED: the statements are not yours to turn. If you find one false, say at which input.
  Laid BY PROGRAM, IN A SANDBOX (cutbox-rows.mjs): the forced cells as the released guide's own fill.sh prints them over the translation f740cee82590bac6… (all of the seat's roots in one cut). By AI agents, Wed Nov 11 2026. No macro, syntax, notation, axiom, sorry.
-/
import Derived.Test.YtjfkgocpkjdleaaChecked
import GoSem.Claim
import GoSem.ClaimJoined
import GoSem.ClaimMapViews
import Derived.JoinedTies
import Derived.KernelRfl
namespace Go.Proofs.Ytjfkgocpkjdleaa
/- THE CELL 'sum', in the pinned program and in every row, IS THE sha256 OF THE DUMP (.gsa) THAT YtjfkgocpkjdleaaProg.lean LOADS. Nothing in Lean hashes anything: it is a label: what it is worth is what the hold of that sum in a sandbox is worth. -/
noncomputable def Try.pinned : Pinned := { name := "ytjfkgocpkjdleaa", sum := "f740cee82590bac6e7d14aacb698104667f6b884889a88da08dfc9c1ac3e5c3f", checked := Try.checked }
namespace Rows
def none {H : Type} : Left H := { results := [], args := [] }

/-- 'laws.FnExactIsDoubling': WHATEVER THE INPUT: true; the input reads as it did. -/
def fnExactIsDoublingSpec : ChangeSpec := { name := "fnExactIsDoubling", fn := fun _ => fun
  | [d] => { results := [.lit (.bool true)], args := [d] }
  | _ => none }
def fnExactIsDoublingRow : OpenClaim := { program := "ytjfkgocpkjdleaa", sum := "f740cee82590bac6e7d14aacb698104667f6b884889a88da08dfc9c1ac3e5c3f", func := "loop.example/g01124/laws.FnExactIsDoubling", spec := "fnExactIsDoubling", apart := false }
def FnExactIsDoublingSaid : Prop := fnExactIsDoublingRow.holds Try.pinned (OpenSpec.ofChange fnExactIsDoublingSpec)

/-- ITS FALSE NEIGHBOUR: 'it returns false'. Refute it at one input. -/
def fnExactIsDoublingWrong : ChangeSpec := { name := "fnExactIsDoubling", fn := fun _ => fun
  | [d] => { results := [.lit (.bool false)], args := [d] }
  | _ => none }
def FnExactIsDoublingWrongFalsely : Prop := fnExactIsDoublingRow.holds Try.pinned (OpenSpec.ofChange fnExactIsDoublingWrong)

/-- 'laws.FnExactDoublingSize': WHATEVER THE INPUT: true; the input reads as it did. -/
def fnExactDoublingSizeSpec : ChangeSpec := { name := "fnExactDoublingSize", fn := fun _ => fun
  | [d] => { results := [.lit (.bool true)], args := [d] }
  | _ => none }
def fnExactDoublingSizeRow : OpenClaim := { program := "ytjfkgocpkjdleaa", sum := "f740cee82590bac6e7d14aacb698104667f6b884889a88da08dfc9c1ac3e5c3f", func := "loop.example/g01124/laws.FnExactDoublingSize", spec := "fnExactDoublingSize", apart := false }
def FnExactDoublingSizeSaid : Prop := fnExactDoublingSizeRow.holds Try.pinned (OpenSpec.ofChange fnExactDoublingSizeSpec)

/-- ITS FALSE NEIGHBOUR: 'it returns false'. Refute it at one input. -/
def fnExactDoublingSizeWrong : ChangeSpec := { name := "fnExactDoublingSize", fn := fun _ => fun
  | [d] => { results := [.lit (.bool false)], args := [d] }
  | _ => none }
def FnExactDoublingSizeWrongFalsely : Prop := fnExactDoublingSizeRow.holds Try.pinned (OpenSpec.ofChange fnExactDoublingSizeWrong)

/-- 'laws.FnExactDoubleUnit': WHATEVER THE INPUT: true; the input reads as it did. -/
def fnExactDoubleUnitSpec : ChangeSpec := { name := "fnExactDoubleUnit", fn := fun _ => fun
  | [d] => { results := [.lit (.bool true)], args := [d] }
  | _ => none }
def fnExactDoubleUnitRow : OpenClaim := { program := "ytjfkgocpkjdleaa", sum := "f740cee82590bac6e7d14aacb698104667f6b884889a88da08dfc9c1ac3e5c3f", func := "loop.example/g01124/laws.FnExactDoubleUnit", spec := "fnExactDoubleUnit", apart := false }
def FnExactDoubleUnitSaid : Prop := fnExactDoubleUnitRow.holds Try.pinned (OpenSpec.ofChange fnExactDoubleUnitSpec)

/-- ITS FALSE NEIGHBOUR: 'it returns false'. Refute it at one input. -/
def fnExactDoubleUnitWrong : ChangeSpec := { name := "fnExactDoubleUnit", fn := fun _ => fun
  | [d] => { results := [.lit (.bool false)], args := [d] }
  | _ => none }
def FnExactDoubleUnitWrongFalsely : Prop := fnExactDoubleUnitRow.holds Try.pinned (OpenSpec.ofChange fnExactDoubleUnitWrong)

/-- 'laws.FnExactDoubleTrace': WHATEVER THE INPUT: true; the input reads as it did. -/
def fnExactDoubleTraceSpec : ChangeSpec := { name := "fnExactDoubleTrace", fn := fun _ => fun
  | [d1, d2] => { results := [.lit (.bool true)], args := [d1, d2] }
  | _ => none }
def fnExactDoubleTraceRow : OpenClaim := { program := "ytjfkgocpkjdleaa", sum := "f740cee82590bac6e7d14aacb698104667f6b884889a88da08dfc9c1ac3e5c3f", func := "loop.example/g01124/laws.FnExactDoubleTrace", spec := "fnExactDoubleTrace", unfollowed := true, recurses := true, apart := false }
def FnExactDoubleTraceSaid : Prop := fnExactDoubleTraceRow.holds Try.pinned (OpenSpec.ofChange fnExactDoubleTraceSpec)

/-- ITS FALSE NEIGHBOUR: 'it returns false'. Refute it at one input. -/
def fnExactDoubleTraceWrong : ChangeSpec := { name := "fnExactDoubleTrace", fn := fun _ => fun
  | [d1, d2] => { results := [.lit (.bool false)], args := [d1, d2] }
  | _ => none }
def FnExactDoubleTraceWrongFalsely : Prop := fnExactDoubleTraceRow.holds Try.pinned (OpenSpec.ofChange fnExactDoubleTraceWrong)

/-- 'laws.FnExactIsCommutativeDoubling': WHATEVER THE INPUT: true; the input reads as it did. -/
def fnExactIsCommutativeDoublingSpec : ChangeSpec := { name := "fnExactIsCommutativeDoubling", fn := fun _ => fun
  | [d] => { results := [.lit (.bool true)], args := [d] }
  | _ => none }
def fnExactIsCommutativeDoublingRow : OpenClaim := { program := "ytjfkgocpkjdleaa", sum := "f740cee82590bac6e7d14aacb698104667f6b884889a88da08dfc9c1ac3e5c3f", func := "loop.example/g01124/laws.FnExactIsCommutativeDoubling", spec := "fnExactIsCommutativeDoubling", recurses := true, apart := false }
def FnExactIsCommutativeDoublingSaid : Prop := fnExactIsCommutativeDoublingRow.holds Try.pinned (OpenSpec.ofChange fnExactIsCommutativeDoublingSpec)

/-- ITS FALSE NEIGHBOUR: 'it returns false'. Refute it at one input. -/
def fnExactIsCommutativeDoublingWrong : ChangeSpec := { name := "fnExactIsCommutativeDoubling", fn := fun _ => fun
  | [d] => { results := [.lit (.bool false)], args := [d] }
  | _ => none }
def FnExactIsCommutativeDoublingWrongFalsely : Prop := fnExactIsCommutativeDoublingRow.holds Try.pinned (OpenSpec.ofChange fnExactIsCommutativeDoublingWrong)

/-- 'laws.FnExactIsAssociativeDoubling': WHATEVER THE INPUT: true; the input reads as it did. -/
def fnExactIsAssociativeDoublingSpec : ChangeSpec := { name := "fnExactIsAssociativeDoubling", fn := fun _ => fun
  | [d] => { results := [.lit (.bool true)], args := [d] }
  | _ => none }
def fnExactIsAssociativeDoublingRow : OpenClaim := { program := "ytjfkgocpkjdleaa", sum := "f740cee82590bac6e7d14aacb698104667f6b884889a88da08dfc9c1ac3e5c3f", func := "loop.example/g01124/laws.FnExactIsAssociativeDoubling", spec := "fnExactIsAssociativeDoubling", recurses := true, apart := false }
def FnExactIsAssociativeDoublingSaid : Prop := fnExactIsAssociativeDoublingRow.holds Try.pinned (OpenSpec.ofChange fnExactIsAssociativeDoublingSpec)

/-- ITS FALSE NEIGHBOUR: 'it returns false'. Refute it at one input. -/
def fnExactIsAssociativeDoublingWrong : ChangeSpec := { name := "fnExactIsAssociativeDoubling", fn := fun _ => fun
  | [d] => { results := [.lit (.bool false)], args := [d] }
  | _ => none }
def FnExactIsAssociativeDoublingWrongFalsely : Prop := fnExactIsAssociativeDoublingRow.holds Try.pinned (OpenSpec.ofChange fnExactIsAssociativeDoublingWrong)

/-- 'laws.FnExactIsAlternativeDoubling': WHATEVER THE INPUT: true; the input reads as it did. -/
def fnExactIsAlternativeDoublingSpec : ChangeSpec := { name := "fnExactIsAlternativeDoubling", fn := fun _ => fun
  | [d] => { results := [.lit (.bool true)], args := [d] }
  | _ => none }
def fnExactIsAlternativeDoublingRow : OpenClaim := { program := "ytjfkgocpkjdleaa", sum := "f740cee82590bac6e7d14aacb698104667f6b884889a88da08dfc9c1ac3e5c3f", func := "loop.example/g01124/laws.FnExactIsAlternativeDoubling", spec := "fnExactIsAlternativeDoubling", recurses := true, apart := false }
def FnExactIsAlternativeDoublingSaid : Prop := fnExactIsAlternativeDoublingRow.holds Try.pinned (OpenSpec.ofChange fnExactIsAlternativeDoublingSpec)

/-- ITS FALSE NEIGHBOUR: 'it returns false'. Refute it at one input. -/
def fnExactIsAlternativeDoublingWrong : ChangeSpec := { name := "fnExactIsAlternativeDoubling", fn := fun _ => fun
  | [d] => { results := [.lit (.bool false)], args := [d] }
  | _ => none }
def FnExactIsAlternativeDoublingWrongFalsely : Prop := fnExactIsAlternativeDoublingRow.holds Try.pinned (OpenSpec.ofChange fnExactIsAlternativeDoublingWrong)

/-- 'laws.FnExactNormDiagonal': WHATEVER THE INPUT: true; the input reads as it did. -/
def fnExactNormDiagonalSpec : ChangeSpec := { name := "fnExactNormDiagonal", fn := fun _ => fun
  | [d] => { results := [.lit (.bool true)], args := [d] }
  | _ => none }
def fnExactNormDiagonalRow : OpenClaim := { program := "ytjfkgocpkjdleaa", sum := "f740cee82590bac6e7d14aacb698104667f6b884889a88da08dfc9c1ac3e5c3f", func := "loop.example/g01124/laws.FnExactNormDiagonal", spec := "fnExactNormDiagonal", recurses := true, apart := false }
def FnExactNormDiagonalSaid : Prop := fnExactNormDiagonalRow.holds Try.pinned (OpenSpec.ofChange fnExactNormDiagonalSpec)

/-- ITS FALSE NEIGHBOUR: 'it returns false'. Refute it at one input. -/
def fnExactNormDiagonalWrong : ChangeSpec := { name := "fnExactNormDiagonal", fn := fun _ => fun
  | [d] => { results := [.lit (.bool false)], args := [d] }
  | _ => none }
def FnExactNormDiagonalWrongFalsely : Prop := fnExactNormDiagonalRow.holds Try.pinned (OpenSpec.ofChange fnExactNormDiagonalWrong)

/-- 'laws.FnExactDoubleConjugate': WHATEVER THE INPUT: true; the input reads as it did. -/
def fnExactDoubleConjugateSpec : ChangeSpec := { name := "fnExactDoubleConjugate", fn := fun _ => fun
  | [d1, d2] => { results := [.lit (.bool true)], args := [d1, d2] }
  | _ => none }
def fnExactDoubleConjugateRow : OpenClaim := { program := "ytjfkgocpkjdleaa", sum := "f740cee82590bac6e7d14aacb698104667f6b884889a88da08dfc9c1ac3e5c3f", func := "loop.example/g01124/laws.FnExactDoubleConjugate", spec := "fnExactDoubleConjugate", unfollowed := true, recurses := true, apart := false }
def FnExactDoubleConjugateSaid : Prop := fnExactDoubleConjugateRow.holds Try.pinned (OpenSpec.ofChange fnExactDoubleConjugateSpec)

/-- ITS FALSE NEIGHBOUR: 'it returns false'. Refute it at one input. -/
def fnExactDoubleConjugateWrong : ChangeSpec := { name := "fnExactDoubleConjugate", fn := fun _ => fun
  | [d1, d2] => { results := [.lit (.bool false)], args := [d1, d2] }
  | _ => none }
def FnExactDoubleConjugateWrongFalsely : Prop := fnExactDoubleConjugateRow.holds Try.pinned (OpenSpec.ofChange fnExactDoubleConjugateWrong)

/-- 'laws.FnExactDoubleNorm': WHATEVER THE INPUT: true; the input reads as it did. -/
def fnExactDoubleNormSpec : ChangeSpec := { name := "fnExactDoubleNorm", fn := fun _ => fun
  | [d1, d2] => { results := [.lit (.bool true)], args := [d1, d2] }
  | _ => none }
def fnExactDoubleNormRow : OpenClaim := { program := "ytjfkgocpkjdleaa", sum := "f740cee82590bac6e7d14aacb698104667f6b884889a88da08dfc9c1ac3e5c3f", func := "loop.example/g01124/laws.FnExactDoubleNorm", spec := "fnExactDoubleNorm", unfollowed := true, recurses := true, apart := false }
def FnExactDoubleNormSaid : Prop := fnExactDoubleNormRow.holds Try.pinned (OpenSpec.ofChange fnExactDoubleNormSpec)

/-- ITS FALSE NEIGHBOUR: 'it returns false'. Refute it at one input. -/
def fnExactDoubleNormWrong : ChangeSpec := { name := "fnExactDoubleNorm", fn := fun _ => fun
  | [d1, d2] => { results := [.lit (.bool false)], args := [d1, d2] }
  | _ => none }
def FnExactDoubleNormWrongFalsely : Prop := fnExactDoubleNormRow.holds Try.pinned (OpenSpec.ofChange fnExactDoubleNormWrong)

/-- 'laws.FnExactDoubleTimes': WHATEVER THE INPUT: true; the input reads as it did. -/
def fnExactDoubleTimesSpec : ChangeSpec := { name := "fnExactDoubleTimes", fn := fun _ => fun
  | [d1, d2, d3] => { results := [.lit (.bool true)], args := [d1, d2, d3] }
  | _ => none }
def fnExactDoubleTimesRow : OpenClaim := { program := "ytjfkgocpkjdleaa", sum := "f740cee82590bac6e7d14aacb698104667f6b884889a88da08dfc9c1ac3e5c3f", func := "loop.example/g01124/laws.FnExactDoubleTimes", spec := "fnExactDoubleTimes", unfollowed := true, recurses := true, apart := false }
def FnExactDoubleTimesSaid : Prop := fnExactDoubleTimesRow.holds Try.pinned (OpenSpec.ofChange fnExactDoubleTimesSpec)

/-- ITS FALSE NEIGHBOUR: 'it returns false'. Refute it at one input. -/
def fnExactDoubleTimesWrong : ChangeSpec := { name := "fnExactDoubleTimes", fn := fun _ => fun
  | [d1, d2, d3] => { results := [.lit (.bool false)], args := [d1, d2, d3] }
  | _ => none }
def FnExactDoubleTimesWrongFalsely : Prop := fnExactDoubleTimesRow.holds Try.pinned (OpenSpec.ofChange fnExactDoubleTimesWrong)

/- THE SECOND FORM. 'bulk': how many values and letters a reading holds, each counted each time it is reached (what is shared counts as often as it is met; a slice's spare places count too). A statement '..UptoSaid' is the law's where the arguments, and the package variables that the reading takes, are together of bulk at most 1048576: NARROWER than '..Said'. Prove '..Said' where nothing that the law and all that it calls make is longer than what came in: it says more and counts as full. Else prove '..UptoSaid'. A law counts once. -/
mutual
def uptoBulk {H : Type} : DataW H → Nat
  | .lit (.string bytes) => bytes.length + 1
  | .lit _ => 1
  | .nil => 1
  | .ptr d => uptoBulk d + 1
  | .slice elems spare => uptoBulkAll elems + uptoBulkAll spare + 1
  | .agg parts => uptoBulkAll parts + 1
  | .iface _ d => uptoBulk d + 1
  | .map entries => uptoBulkEntries entries + 1
  | .held _ => 1
def uptoBulkAll {H : Type} : List (DataW H) → Nat
  | [] => 0
  | d :: r => uptoBulk d + uptoBulkAll r
def uptoBulkEntries {H : Type} : List (Lit × DataW H) → Nat
  | [] => 0
  | x :: r => uptoBulkEntry x + uptoBulkEntries r
def uptoBulkEntry {H : Type} : Lit × DataW H → Nat
  | (.string bytes, d) => bytes.length + uptoBulk d + 1
  | (_, d) => uptoBulk d + 1
 end
def uptoSmall : (H : Type) → List (DataW H) → Bool := fun _ ds => decide (uptoBulkAll ds ≤ 1048576)
def OpenSpec.upto (s : _root_.Go.ChangeSpec) : _root_.Go.OpenSpec := { _root_.Go.OpenSpec.ofChange s with cond := some uptoSmall }

/-- 'laws.FnExactIsDoubling', WHERE WHAT IT READS IS OF BULK AT MOST 1048576: true; the input reads as it did. -/
def fnExactIsDoublingUptoRow : OpenClaim := { program := "ytjfkgocpkjdleaa", sum := "f740cee82590bac6e7d14aacb698104667f6b884889a88da08dfc9c1ac3e5c3f", func := "loop.example/g01124/laws.FnExactIsDoubling", spec := "fnExactIsDoubling", apart := false, narrowed := true }
def FnExactIsDoublingUptoSaid : Prop := fnExactIsDoublingUptoRow.holds Try.pinned (OpenSpec.upto fnExactIsDoublingSpec)

/-- 'laws.FnExactDoublingSize', WHERE WHAT IT READS IS OF BULK AT MOST 1048576: true; the input reads as it did. -/
def fnExactDoublingSizeUptoRow : OpenClaim := { program := "ytjfkgocpkjdleaa", sum := "f740cee82590bac6e7d14aacb698104667f6b884889a88da08dfc9c1ac3e5c3f", func := "loop.example/g01124/laws.FnExactDoublingSize", spec := "fnExactDoublingSize", apart := false, narrowed := true }
def FnExactDoublingSizeUptoSaid : Prop := fnExactDoublingSizeUptoRow.holds Try.pinned (OpenSpec.upto fnExactDoublingSizeSpec)

/-- 'laws.FnExactDoubleUnit', WHERE WHAT IT READS IS OF BULK AT MOST 1048576: true; the input reads as it did. -/
def fnExactDoubleUnitUptoRow : OpenClaim := { program := "ytjfkgocpkjdleaa", sum := "f740cee82590bac6e7d14aacb698104667f6b884889a88da08dfc9c1ac3e5c3f", func := "loop.example/g01124/laws.FnExactDoubleUnit", spec := "fnExactDoubleUnit", apart := false, narrowed := true }
def FnExactDoubleUnitUptoSaid : Prop := fnExactDoubleUnitUptoRow.holds Try.pinned (OpenSpec.upto fnExactDoubleUnitSpec)

/-- 'laws.FnExactDoubleTrace', WHERE WHAT IT READS IS OF BULK AT MOST 1048576: true; the input reads as it did. -/
def fnExactDoubleTraceUptoRow : OpenClaim := { program := "ytjfkgocpkjdleaa", sum := "f740cee82590bac6e7d14aacb698104667f6b884889a88da08dfc9c1ac3e5c3f", func := "loop.example/g01124/laws.FnExactDoubleTrace", spec := "fnExactDoubleTrace", unfollowed := true, recurses := true, apart := false, narrowed := true }
def FnExactDoubleTraceUptoSaid : Prop := fnExactDoubleTraceUptoRow.holds Try.pinned (OpenSpec.upto fnExactDoubleTraceSpec)

/-- 'laws.FnExactIsCommutativeDoubling', WHERE WHAT IT READS IS OF BULK AT MOST 1048576: true; the input reads as it did. -/
def fnExactIsCommutativeDoublingUptoRow : OpenClaim := { program := "ytjfkgocpkjdleaa", sum := "f740cee82590bac6e7d14aacb698104667f6b884889a88da08dfc9c1ac3e5c3f", func := "loop.example/g01124/laws.FnExactIsCommutativeDoubling", spec := "fnExactIsCommutativeDoubling", recurses := true, apart := false, narrowed := true }
def FnExactIsCommutativeDoublingUptoSaid : Prop := fnExactIsCommutativeDoublingUptoRow.holds Try.pinned (OpenSpec.upto fnExactIsCommutativeDoublingSpec)

/-- 'laws.FnExactIsAssociativeDoubling', WHERE WHAT IT READS IS OF BULK AT MOST 1048576: true; the input reads as it did. -/
def fnExactIsAssociativeDoublingUptoRow : OpenClaim := { program := "ytjfkgocpkjdleaa", sum := "f740cee82590bac6e7d14aacb698104667f6b884889a88da08dfc9c1ac3e5c3f", func := "loop.example/g01124/laws.FnExactIsAssociativeDoubling", spec := "fnExactIsAssociativeDoubling", recurses := true, apart := false, narrowed := true }
def FnExactIsAssociativeDoublingUptoSaid : Prop := fnExactIsAssociativeDoublingUptoRow.holds Try.pinned (OpenSpec.upto fnExactIsAssociativeDoublingSpec)

/-- 'laws.FnExactIsAlternativeDoubling', WHERE WHAT IT READS IS OF BULK AT MOST 1048576: true; the input reads as it did. -/
def fnExactIsAlternativeDoublingUptoRow : OpenClaim := { program := "ytjfkgocpkjdleaa", sum := "f740cee82590bac6e7d14aacb698104667f6b884889a88da08dfc9c1ac3e5c3f", func := "loop.example/g01124/laws.FnExactIsAlternativeDoubling", spec := "fnExactIsAlternativeDoubling", recurses := true, apart := false, narrowed := true }
def FnExactIsAlternativeDoublingUptoSaid : Prop := fnExactIsAlternativeDoublingUptoRow.holds Try.pinned (OpenSpec.upto fnExactIsAlternativeDoublingSpec)

/-- 'laws.FnExactNormDiagonal', WHERE WHAT IT READS IS OF BULK AT MOST 1048576: true; the input reads as it did. -/
def fnExactNormDiagonalUptoRow : OpenClaim := { program := "ytjfkgocpkjdleaa", sum := "f740cee82590bac6e7d14aacb698104667f6b884889a88da08dfc9c1ac3e5c3f", func := "loop.example/g01124/laws.FnExactNormDiagonal", spec := "fnExactNormDiagonal", recurses := true, apart := false, narrowed := true }
def FnExactNormDiagonalUptoSaid : Prop := fnExactNormDiagonalUptoRow.holds Try.pinned (OpenSpec.upto fnExactNormDiagonalSpec)

/-- 'laws.FnExactDoubleConjugate', WHERE WHAT IT READS IS OF BULK AT MOST 1048576: true; the input reads as it did. -/
def fnExactDoubleConjugateUptoRow : OpenClaim := { program := "ytjfkgocpkjdleaa", sum := "f740cee82590bac6e7d14aacb698104667f6b884889a88da08dfc9c1ac3e5c3f", func := "loop.example/g01124/laws.FnExactDoubleConjugate", spec := "fnExactDoubleConjugate", unfollowed := true, recurses := true, apart := false, narrowed := true }
def FnExactDoubleConjugateUptoSaid : Prop := fnExactDoubleConjugateUptoRow.holds Try.pinned (OpenSpec.upto fnExactDoubleConjugateSpec)

/-- 'laws.FnExactDoubleNorm', WHERE WHAT IT READS IS OF BULK AT MOST 1048576: true; the input reads as it did. -/
def fnExactDoubleNormUptoRow : OpenClaim := { program := "ytjfkgocpkjdleaa", sum := "f740cee82590bac6e7d14aacb698104667f6b884889a88da08dfc9c1ac3e5c3f", func := "loop.example/g01124/laws.FnExactDoubleNorm", spec := "fnExactDoubleNorm", unfollowed := true, recurses := true, apart := false, narrowed := true }
def FnExactDoubleNormUptoSaid : Prop := fnExactDoubleNormUptoRow.holds Try.pinned (OpenSpec.upto fnExactDoubleNormSpec)

/-- 'laws.FnExactDoubleTimes', WHERE WHAT IT READS IS OF BULK AT MOST 1048576: true; the input reads as it did. -/
def fnExactDoubleTimesUptoRow : OpenClaim := { program := "ytjfkgocpkjdleaa", sum := "f740cee82590bac6e7d14aacb698104667f6b884889a88da08dfc9c1ac3e5c3f", func := "loop.example/g01124/laws.FnExactDoubleTimes", spec := "fnExactDoubleTimes", unfollowed := true, recurses := true, apart := false, narrowed := true }
def FnExactDoubleTimesUptoSaid : Prop := fnExactDoubleTimesUptoRow.holds Try.pinned (OpenSpec.upto fnExactDoubleTimesSpec)

end Rows
end Go.Proofs.Ytjfkgocpkjdleaa
