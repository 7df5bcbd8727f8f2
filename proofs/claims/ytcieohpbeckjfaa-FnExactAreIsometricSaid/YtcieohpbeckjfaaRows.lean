/-
  No cell of these rows narrows 'for every input' (looked for: loops, veiled, ifaces, maps, wideKeys, modest, calm, conditions, laid).
  DERIVED. THE GIVEN ROWS OF THIS SEAT. 12 by the template 'for every input the law returns true; each argument reads behind the call as it read before'; 0 by the template 'total and deterministic' (their statements: YtcieohpbeckjfaaTotals.lean).
  GIVEN WITH THE SEED: the statements are not yours to turn. If you find one false, say at which input.
  Laid BY PROGRAM, IN A SANDBOX (cutbox-rows.mjs): the forced cells as the released guide's own fill.sh prints them over the translation fc1297bd9ec0a34d… (all of the seat's roots in one cut). By AI agents, Wed Nov 11 2026. No macro, syntax, notation, axiom, sorry.
-/
import Derived.Test.YtcieohpbeckjfaaChecked
import GoSem.Claim
import GoSem.ClaimJoined
import GoSem.ClaimMapViews
import Derived.JoinedTies
import Derived.KernelRfl
namespace Go.Proofs.Ytcieohpbeckjfaa
/- THE CELL 'sum', in the pinned program and in every row, IS THE sha256 OF THE DUMP (.gsa) THAT YtcieohpbeckjfaaProg.lean LOADS. Nothing in Lean hashes anything: it is a label: what it is worth is what the hold of that sum in a sandbox is worth. -/
noncomputable def Try.pinned : Pinned := { name := "ytcieohpbeckjfaa", sum := "fc1297bd9ec0a34d96eae1cc35ec66d354109bdba7e55dee3c276dace3ebc940", checked := Try.checked }
namespace Rows
def none {H : Type} : Left H := { results := [], args := [] }

/-- 'laws.FnExactIsSpace': WHATEVER THE INPUT: true; the input reads as it did. -/
def fnExactIsSpaceSpec : ChangeSpec := { name := "fnExactIsSpace", fn := fun _ => fun
  | [d] => { results := [.lit (.bool true)], args := [d] }
  | _ => none }
def fnExactIsSpaceRow : OpenClaim := { program := "ytcieohpbeckjfaa", sum := "fc1297bd9ec0a34d96eae1cc35ec66d354109bdba7e55dee3c276dace3ebc940", func := "loop.example/g01124/laws.FnExactIsSpace", spec := "fnExactIsSpace", apart := false }
def FnExactIsSpaceSaid : Prop := fnExactIsSpaceRow.holds Try.pinned (OpenSpec.ofChange fnExactIsSpaceSpec)

/-- ITS FALSE NEIGHBOUR: 'it returns false'. Refute it at one input. -/
def fnExactIsSpaceWrong : ChangeSpec := { name := "fnExactIsSpace", fn := fun _ => fun
  | [d] => { results := [.lit (.bool false)], args := [d] }
  | _ => none }
def FnExactIsSpaceWrongFalsely : Prop := fnExactIsSpaceRow.holds Try.pinned (OpenSpec.ofChange fnExactIsSpaceWrong)

/-- 'laws.FnExactIsMultivector': WHATEVER THE INPUT: true; the input reads as it did. -/
def fnExactIsMultivectorSpec : ChangeSpec := { name := "fnExactIsMultivector", fn := fun _ => fun
  | [d1, d2] => { results := [.lit (.bool true)], args := [d1, d2] }
  | _ => none }
def fnExactIsMultivectorRow : OpenClaim := { program := "ytcieohpbeckjfaa", sum := "fc1297bd9ec0a34d96eae1cc35ec66d354109bdba7e55dee3c276dace3ebc940", func := "loop.example/g01124/laws.FnExactIsMultivector", spec := "fnExactIsMultivector", apart := false }
def FnExactIsMultivectorSaid : Prop := fnExactIsMultivectorRow.holds Try.pinned (OpenSpec.ofChange fnExactIsMultivectorSpec)

/-- ITS FALSE NEIGHBOUR: 'it returns false'. Refute it at one input. -/
def fnExactIsMultivectorWrong : ChangeSpec := { name := "fnExactIsMultivector", fn := fun _ => fun
  | [d1, d2] => { results := [.lit (.bool false)], args := [d1, d2] }
  | _ => none }
def FnExactIsMultivectorWrongFalsely : Prop := fnExactIsMultivectorRow.holds Try.pinned (OpenSpec.ofChange fnExactIsMultivectorWrong)

/-- 'laws.FnExactDiscriminantOf': WHATEVER THE INPUT: true; the input reads as it did. -/
def fnExactDiscriminantOfSpec : ChangeSpec := { name := "fnExactDiscriminantOf", fn := fun _ => fun
  | [d] => { results := [.lit (.bool true)], args := [d] }
  | _ => none }
def fnExactDiscriminantOfRow : OpenClaim := { program := "ytcieohpbeckjfaa", sum := "fc1297bd9ec0a34d96eae1cc35ec66d354109bdba7e55dee3c276dace3ebc940", func := "loop.example/g01124/laws.FnExactDiscriminantOf", spec := "fnExactDiscriminantOf", apart := false }
def FnExactDiscriminantOfSaid : Prop := fnExactDiscriminantOfRow.holds Try.pinned (OpenSpec.ofChange fnExactDiscriminantOfSpec)

/-- ITS FALSE NEIGHBOUR: 'it returns false'. Refute it at one input. -/
def fnExactDiscriminantOfWrong : ChangeSpec := { name := "fnExactDiscriminantOf", fn := fun _ => fun
  | [d] => { results := [.lit (.bool false)], args := [d] }
  | _ => none }
def FnExactDiscriminantOfWrongFalsely : Prop := fnExactDiscriminantOfRow.holds Try.pinned (OpenSpec.ofChange fnExactDiscriminantOfWrong)

/-- 'laws.FnExactIsRegular': WHATEVER THE INPUT: true; the input reads as it did. -/
def fnExactIsRegularSpec : ChangeSpec := { name := "fnExactIsRegular", fn := fun _ => fun
  | [d] => { results := [.lit (.bool true)], args := [d] }
  | _ => none }
def fnExactIsRegularRow : OpenClaim := { program := "ytcieohpbeckjfaa", sum := "fc1297bd9ec0a34d96eae1cc35ec66d354109bdba7e55dee3c276dace3ebc940", func := "loop.example/g01124/laws.FnExactIsRegular", spec := "fnExactIsRegular", apart := false }
def FnExactIsRegularSaid : Prop := fnExactIsRegularRow.holds Try.pinned (OpenSpec.ofChange fnExactIsRegularSpec)

/-- ITS FALSE NEIGHBOUR: 'it returns false'. Refute it at one input. -/
def fnExactIsRegularWrong : ChangeSpec := { name := "fnExactIsRegular", fn := fun _ => fun
  | [d] => { results := [.lit (.bool false)], args := [d] }
  | _ => none }
def FnExactIsRegularWrongFalsely : Prop := fnExactIsRegularRow.holds Try.pinned (OpenSpec.ofChange fnExactIsRegularWrong)

/-- 'laws.FnExactCountVectors': WHATEVER THE INPUT: true; the input reads as it did. -/
def fnExactCountVectorsSpec : ChangeSpec := { name := "fnExactCountVectors", fn := fun _ => fun
  | [d1, d2] => { results := [.lit (.bool true)], args := [d1, d2] }
  | _ => none }
def fnExactCountVectorsRow : OpenClaim := { program := "ytcieohpbeckjfaa", sum := "fc1297bd9ec0a34d96eae1cc35ec66d354109bdba7e55dee3c276dace3ebc940", func := "loop.example/g01124/laws.FnExactCountVectors", spec := "fnExactCountVectors", apart := false }
def FnExactCountVectorsSaid : Prop := fnExactCountVectorsRow.holds Try.pinned (OpenSpec.ofChange fnExactCountVectorsSpec)

/-- ITS FALSE NEIGHBOUR: 'it returns false'. Refute it at one input. -/
def fnExactCountVectorsWrong : ChangeSpec := { name := "fnExactCountVectors", fn := fun _ => fun
  | [d1, d2] => { results := [.lit (.bool false)], args := [d1, d2] }
  | _ => none }
def FnExactCountVectorsWrongFalsely : Prop := fnExactCountVectorsRow.holds Try.pinned (OpenSpec.ofChange fnExactCountVectorsWrong)

/-- 'laws.FnExactScalarOf': WHATEVER THE INPUT: true; the input reads as it did. -/
def fnExactScalarOfSpec : ChangeSpec := { name := "fnExactScalarOf", fn := fun _ => fun
  | [d1, d2] => { results := [.lit (.bool true)], args := [d1, d2] }
  | _ => none }
def fnExactScalarOfRow : OpenClaim := { program := "ytcieohpbeckjfaa", sum := "fc1297bd9ec0a34d96eae1cc35ec66d354109bdba7e55dee3c276dace3ebc940", func := "loop.example/g01124/laws.FnExactScalarOf", spec := "fnExactScalarOf", unfollowed := true, recurses := true, apart := false }
def FnExactScalarOfSaid : Prop := fnExactScalarOfRow.holds Try.pinned (OpenSpec.ofChange fnExactScalarOfSpec)

/-- ITS FALSE NEIGHBOUR: 'it returns false'. Refute it at one input. -/
def fnExactScalarOfWrong : ChangeSpec := { name := "fnExactScalarOf", fn := fun _ => fun
  | [d1, d2] => { results := [.lit (.bool false)], args := [d1, d2] }
  | _ => none }
def FnExactScalarOfWrongFalsely : Prop := fnExactScalarOfRow.holds Try.pinned (OpenSpec.ofChange fnExactScalarOfWrong)

/-- 'laws.FnExactPairOf': WHATEVER THE INPUT: true; the input reads as it did. -/
def fnExactPairOfSpec : ChangeSpec := { name := "fnExactPairOf", fn := fun _ => fun
  | [d1, d2, d3] => { results := [.lit (.bool true)], args := [d1, d2, d3] }
  | _ => none }
def fnExactPairOfRow : OpenClaim := { program := "ytcieohpbeckjfaa", sum := "fc1297bd9ec0a34d96eae1cc35ec66d354109bdba7e55dee3c276dace3ebc940", func := "loop.example/g01124/laws.FnExactPairOf", spec := "fnExactPairOf", unfollowed := true, recurses := true, apart := false }
def FnExactPairOfSaid : Prop := fnExactPairOfRow.holds Try.pinned (OpenSpec.ofChange fnExactPairOfSpec)

/-- ITS FALSE NEIGHBOUR: 'it returns false'. Refute it at one input. -/
def fnExactPairOfWrong : ChangeSpec := { name := "fnExactPairOf", fn := fun _ => fun
  | [d1, d2, d3] => { results := [.lit (.bool false)], args := [d1, d2, d3] }
  | _ => none }
def FnExactPairOfWrongFalsely : Prop := fnExactPairOfRow.holds Try.pinned (OpenSpec.ofChange fnExactPairOfWrong)

/-- 'laws.FnExactNormOf': WHATEVER THE INPUT: true; the input reads as it did. -/
def fnExactNormOfSpec : ChangeSpec := { name := "fnExactNormOf", fn := fun _ => fun
  | [d1, d2] => { results := [.lit (.bool true)], args := [d1, d2] }
  | _ => none }
def fnExactNormOfRow : OpenClaim := { program := "ytcieohpbeckjfaa", sum := "fc1297bd9ec0a34d96eae1cc35ec66d354109bdba7e55dee3c276dace3ebc940", func := "loop.example/g01124/laws.FnExactNormOf", spec := "fnExactNormOf", unfollowed := true, recurses := true, apart := false }
def FnExactNormOfSaid : Prop := fnExactNormOfRow.holds Try.pinned (OpenSpec.ofChange fnExactNormOfSpec)

/-- ITS FALSE NEIGHBOUR: 'it returns false'. Refute it at one input. -/
def fnExactNormOfWrong : ChangeSpec := { name := "fnExactNormOf", fn := fun _ => fun
  | [d1, d2] => { results := [.lit (.bool false)], args := [d1, d2] }
  | _ => none }
def FnExactNormOfWrongFalsely : Prop := fnExactNormOfRow.holds Try.pinned (OpenSpec.ofChange fnExactNormOfWrong)

/-- 'laws.FnExactWittIndex': WHATEVER THE INPUT: true; the input reads as it did. -/
def fnExactWittIndexSpec : ChangeSpec := { name := "fnExactWittIndex", fn := fun _ => fun
  | [d] => { results := [.lit (.bool true)], args := [d] }
  | _ => none }
def fnExactWittIndexRow : OpenClaim := { program := "ytcieohpbeckjfaa", sum := "fc1297bd9ec0a34d96eae1cc35ec66d354109bdba7e55dee3c276dace3ebc940", func := "loop.example/g01124/laws.FnExactWittIndex", spec := "fnExactWittIndex", apart := false }
def FnExactWittIndexSaid : Prop := fnExactWittIndexRow.holds Try.pinned (OpenSpec.ofChange fnExactWittIndexSpec)

/-- ITS FALSE NEIGHBOUR: 'it returns false'. Refute it at one input. -/
def fnExactWittIndexWrong : ChangeSpec := { name := "fnExactWittIndex", fn := fun _ => fun
  | [d] => { results := [.lit (.bool false)], args := [d] }
  | _ => none }
def FnExactWittIndexWrongFalsely : Prop := fnExactWittIndexRow.holds Try.pinned (OpenSpec.ofChange fnExactWittIndexWrong)

/-- 'laws.FnExactAreIsometric': WHATEVER THE INPUT: true; the input reads as it did. -/
def fnExactAreIsometricSpec : ChangeSpec := { name := "fnExactAreIsometric", fn := fun _ => fun
  | [d1, d2] => { results := [.lit (.bool true)], args := [d1, d2] }
  | _ => none }
def fnExactAreIsometricRow : OpenClaim := { program := "ytcieohpbeckjfaa", sum := "fc1297bd9ec0a34d96eae1cc35ec66d354109bdba7e55dee3c276dace3ebc940", func := "loop.example/g01124/laws.FnExactAreIsometric", spec := "fnExactAreIsometric", unfollowed := true, recurses := true, apart := false }
def FnExactAreIsometricSaid : Prop := fnExactAreIsometricRow.holds Try.pinned (OpenSpec.ofChange fnExactAreIsometricSpec)

/-- ITS FALSE NEIGHBOUR: 'it returns false'. Refute it at one input. -/
def fnExactAreIsometricWrong : ChangeSpec := { name := "fnExactAreIsometric", fn := fun _ => fun
  | [d1, d2] => { results := [.lit (.bool false)], args := [d1, d2] }
  | _ => none }
def FnExactAreIsometricWrongFalsely : Prop := fnExactAreIsometricRow.holds Try.pinned (OpenSpec.ofChange fnExactAreIsometricWrong)

/-- 'laws.FnExactCountBivectors': WHATEVER THE INPUT: true; the input reads as it did. -/
def fnExactCountBivectorsSpec : ChangeSpec := { name := "fnExactCountBivectors", fn := fun _ => fun
  | [d] => { results := [.lit (.bool true)], args := [d] }
  | _ => none }
def fnExactCountBivectorsRow : OpenClaim := { program := "ytcieohpbeckjfaa", sum := "fc1297bd9ec0a34d96eae1cc35ec66d354109bdba7e55dee3c276dace3ebc940", func := "loop.example/g01124/laws.FnExactCountBivectors", spec := "fnExactCountBivectors", unfollowed := true, recurses := true, apart := false }
def FnExactCountBivectorsSaid : Prop := fnExactCountBivectorsRow.holds Try.pinned (OpenSpec.ofChange fnExactCountBivectorsSpec)

/-- ITS FALSE NEIGHBOUR: 'it returns false'. Refute it at one input. -/
def fnExactCountBivectorsWrong : ChangeSpec := { name := "fnExactCountBivectors", fn := fun _ => fun
  | [d] => { results := [.lit (.bool false)], args := [d] }
  | _ => none }
def FnExactCountBivectorsWrongFalsely : Prop := fnExactCountBivectorsRow.holds Try.pinned (OpenSpec.ofChange fnExactCountBivectorsWrong)

/-- 'laws.FnExactCountOrthogonal': WHATEVER THE INPUT: true; the input reads as it did. -/
def fnExactCountOrthogonalSpec : ChangeSpec := { name := "fnExactCountOrthogonal", fn := fun _ => fun
  | [d] => { results := [.lit (.bool true)], args := [d] }
  | _ => none }
def fnExactCountOrthogonalRow : OpenClaim := { program := "ytcieohpbeckjfaa", sum := "fc1297bd9ec0a34d96eae1cc35ec66d354109bdba7e55dee3c276dace3ebc940", func := "loop.example/g01124/laws.FnExactCountOrthogonal", spec := "fnExactCountOrthogonal", apart := false }
def FnExactCountOrthogonalSaid : Prop := fnExactCountOrthogonalRow.holds Try.pinned (OpenSpec.ofChange fnExactCountOrthogonalSpec)

/-- ITS FALSE NEIGHBOUR: 'it returns false'. Refute it at one input. -/
def fnExactCountOrthogonalWrong : ChangeSpec := { name := "fnExactCountOrthogonal", fn := fun _ => fun
  | [d] => { results := [.lit (.bool false)], args := [d] }
  | _ => none }
def FnExactCountOrthogonalWrongFalsely : Prop := fnExactCountOrthogonalRow.holds Try.pinned (OpenSpec.ofChange fnExactCountOrthogonalWrong)

/- THE SECOND FORM. 'bulk': how many values and letters a reading holds, each counted each time it is reached (what is shared counts as often as it is met; a slice's spare places count too). A statement '..UptoSaid' is the law's where the arguments, and the package variables that the reading takes, are together of bulk at most 1048576: NARROWER than '..Said'. Prove '..Said' where nothing that the law and all that it calls make is longer than what came in: it says more and counts as full. Else prove '..UptoSaid'. A law counts once. -/
mutual
def uptoBulk {H : Type} : DataW H → Nat
  | .lit (.string bytes) => bytes.length + 1
  | .lit _ => 1
  | .nil => 1
  | .ptr d => uptoBulk d + 1
  | .slice elems spare => uptoBulkAll elems + uptoBulkAll spare + 1
  | .agg parts => uptoBulkAll parts + 1
  | .iface _ d => uptoBulk d + 1
  | .map entries => uptoBulkEntries entries + 1
  | .held _ => 1
def uptoBulkAll {H : Type} : List (DataW H) → Nat
  | [] => 0
  | d :: r => uptoBulk d + uptoBulkAll r
def uptoBulkEntries {H : Type} : List (Lit × DataW H) → Nat
  | [] => 0
  | x :: r => uptoBulkEntry x + uptoBulkEntries r
def uptoBulkEntry {H : Type} : Lit × DataW H → Nat
  | (.string bytes, d) => bytes.length + uptoBulk d + 1
  | (_, d) => uptoBulk d + 1
 end
def uptoSmall : (H : Type) → List (DataW H) → Bool := fun _ ds => decide (uptoBulkAll ds ≤ 1048576)
def OpenSpec.upto (s : _root_.Go.ChangeSpec) : _root_.Go.OpenSpec := { _root_.Go.OpenSpec.ofChange s with cond := some uptoSmall }

/-- 'laws.FnExactIsSpace', WHERE WHAT IT READS IS OF BULK AT MOST 1048576: true; the input reads as it did. -/
def fnExactIsSpaceUptoRow : OpenClaim := { program := "ytcieohpbeckjfaa", sum := "fc1297bd9ec0a34d96eae1cc35ec66d354109bdba7e55dee3c276dace3ebc940", func := "loop.example/g01124/laws.FnExactIsSpace", spec := "fnExactIsSpace", apart := false, narrowed := true }
def FnExactIsSpaceUptoSaid : Prop := fnExactIsSpaceUptoRow.holds Try.pinned (OpenSpec.upto fnExactIsSpaceSpec)

/-- 'laws.FnExactIsMultivector', WHERE WHAT IT READS IS OF BULK AT MOST 1048576: true; the input reads as it did. -/
def fnExactIsMultivectorUptoRow : OpenClaim := { program := "ytcieohpbeckjfaa", sum := "fc1297bd9ec0a34d96eae1cc35ec66d354109bdba7e55dee3c276dace3ebc940", func := "loop.example/g01124/laws.FnExactIsMultivector", spec := "fnExactIsMultivector", apart := false, narrowed := true }
def FnExactIsMultivectorUptoSaid : Prop := fnExactIsMultivectorUptoRow.holds Try.pinned (OpenSpec.upto fnExactIsMultivectorSpec)

/-- 'laws.FnExactDiscriminantOf', WHERE WHAT IT READS IS OF BULK AT MOST 1048576: true; the input reads as it did. -/
def fnExactDiscriminantOfUptoRow : OpenClaim := { program := "ytcieohpbeckjfaa", sum := "fc1297bd9ec0a34d96eae1cc35ec66d354109bdba7e55dee3c276dace3ebc940", func := "loop.example/g01124/laws.FnExactDiscriminantOf", spec := "fnExactDiscriminantOf", apart := false, narrowed := true }
def FnExactDiscriminantOfUptoSaid : Prop := fnExactDiscriminantOfUptoRow.holds Try.pinned (OpenSpec.upto fnExactDiscriminantOfSpec)

/-- 'laws.FnExactIsRegular', WHERE WHAT IT READS IS OF BULK AT MOST 1048576: true; the input reads as it did. -/
def fnExactIsRegularUptoRow : OpenClaim := { program := "ytcieohpbeckjfaa", sum := "fc1297bd9ec0a34d96eae1cc35ec66d354109bdba7e55dee3c276dace3ebc940", func := "loop.example/g01124/laws.FnExactIsRegular", spec := "fnExactIsRegular", apart := false, narrowed := true }
def FnExactIsRegularUptoSaid : Prop := fnExactIsRegularUptoRow.holds Try.pinned (OpenSpec.upto fnExactIsRegularSpec)

/-- 'laws.FnExactCountVectors', WHERE WHAT IT READS IS OF BULK AT MOST 1048576: true; the input reads as it did. -/
def fnExactCountVectorsUptoRow : OpenClaim := { program := "ytcieohpbeckjfaa", sum := "fc1297bd9ec0a34d96eae1cc35ec66d354109bdba7e55dee3c276dace3ebc940", func := "loop.example/g01124/laws.FnExactCountVectors", spec := "fnExactCountVectors", apart := false, narrowed := true }
def FnExactCountVectorsUptoSaid : Prop := fnExactCountVectorsUptoRow.holds Try.pinned (OpenSpec.upto fnExactCountVectorsSpec)

/-- 'laws.FnExactScalarOf', WHERE WHAT IT READS IS OF BULK AT MOST 1048576: true; the input reads as it did. -/
def fnExactScalarOfUptoRow : OpenClaim := { program := "ytcieohpbeckjfaa", sum := "fc1297bd9ec0a34d96eae1cc35ec66d354109bdba7e55dee3c276dace3ebc940", func := "loop.example/g01124/laws.FnExactScalarOf", spec := "fnExactScalarOf", unfollowed := true, recurses := true, apart := false, narrowed := true }
def FnExactScalarOfUptoSaid : Prop := fnExactScalarOfUptoRow.holds Try.pinned (OpenSpec.upto fnExactScalarOfSpec)

/-- 'laws.FnExactPairOf', WHERE WHAT IT READS IS OF BULK AT MOST 1048576: true; the input reads as it did. -/
def fnExactPairOfUptoRow : OpenClaim := { program := "ytcieohpbeckjfaa", sum := "fc1297bd9ec0a34d96eae1cc35ec66d354109bdba7e55dee3c276dace3ebc940", func := "loop.example/g01124/laws.FnExactPairOf", spec := "fnExactPairOf", unfollowed := true, recurses := true, apart := false, narrowed := true }
def FnExactPairOfUptoSaid : Prop := fnExactPairOfUptoRow.holds Try.pinned (OpenSpec.upto fnExactPairOfSpec)

/-- 'laws.FnExactNormOf', WHERE WHAT IT READS IS OF BULK AT MOST 1048576: true; the input reads as it did. -/
def fnExactNormOfUptoRow : OpenClaim := { program := "ytcieohpbeckjfaa", sum := "fc1297bd9ec0a34d96eae1cc35ec66d354109bdba7e55dee3c276dace3ebc940", func := "loop.example/g01124/laws.FnExactNormOf", spec := "fnExactNormOf", unfollowed := true, recurses := true, apart := false, narrowed := true }
def FnExactNormOfUptoSaid : Prop := fnExactNormOfUptoRow.holds Try.pinned (OpenSpec.upto fnExactNormOfSpec)

/-- 'laws.FnExactWittIndex', WHERE WHAT IT READS IS OF BULK AT MOST 1048576: true; the input reads as it did. -/
def fnExactWittIndexUptoRow : OpenClaim := { program := "ytcieohpbeckjfaa", sum := "fc1297bd9ec0a34d96eae1cc35ec66d354109bdba7e55dee3c276dace3ebc940", func := "loop.example/g01124/laws.FnExactWittIndex", spec := "fnExactWittIndex", apart := false, narrowed := true }
def FnExactWittIndexUptoSaid : Prop := fnExactWittIndexUptoRow.holds Try.pinned (OpenSpec.upto fnExactWittIndexSpec)

/-- 'laws.FnExactAreIsometric', WHERE WHAT IT READS IS OF BULK AT MOST 1048576: true; the input reads as it did. -/
def fnExactAreIsometricUptoRow : OpenClaim := { program := "ytcieohpbeckjfaa", sum := "fc1297bd9ec0a34d96eae1cc35ec66d354109bdba7e55dee3c276dace3ebc940", func := "loop.example/g01124/laws.FnExactAreIsometric", spec := "fnExactAreIsometric", unfollowed := true, recurses := true, apart := false, narrowed := true }
def FnExactAreIsometricUptoSaid : Prop := fnExactAreIsometricUptoRow.holds Try.pinned (OpenSpec.upto fnExactAreIsometricSpec)

/-- 'laws.FnExactCountBivectors', WHERE WHAT IT READS IS OF BULK AT MOST 1048576: true; the input reads as it did. -/
def fnExactCountBivectorsUptoRow : OpenClaim := { program := "ytcieohpbeckjfaa", sum := "fc1297bd9ec0a34d96eae1cc35ec66d354109bdba7e55dee3c276dace3ebc940", func := "loop.example/g01124/laws.FnExactCountBivectors", spec := "fnExactCountBivectors", unfollowed := true, recurses := true, apart := false, narrowed := true }
def FnExactCountBivectorsUptoSaid : Prop := fnExactCountBivectorsUptoRow.holds Try.pinned (OpenSpec.upto fnExactCountBivectorsSpec)

/-- 'laws.FnExactCountOrthogonal', WHERE WHAT IT READS IS OF BULK AT MOST 1048576: true; the input reads as it did. -/
def fnExactCountOrthogonalUptoRow : OpenClaim := { program := "ytcieohpbeckjfaa", sum := "fc1297bd9ec0a34d96eae1cc35ec66d354109bdba7e55dee3c276dace3ebc940", func := "loop.example/g01124/laws.FnExactCountOrthogonal", spec := "fnExactCountOrthogonal", apart := false, narrowed := true }
def FnExactCountOrthogonalUptoSaid : Prop := fnExactCountOrthogonalUptoRow.holds Try.pinned (OpenSpec.upto fnExactCountOrthogonalSpec)

end Rows
end Go.Proofs.Ytcieohpbeckjfaa
