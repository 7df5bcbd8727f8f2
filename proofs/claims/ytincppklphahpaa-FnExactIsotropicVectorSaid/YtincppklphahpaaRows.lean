/-
  No cell of these rows narrows 'for every input' (looked for: loops, veiled, ifaces, maps, wideKeys, modest, calm, conditions, laid).
  DERIVED. THE GIVEN ROWS OF THIS SEAT. 11 by the template 'for every input the law returns true; each argument reads behind the call as it read before'; 0 by the template 'total and deterministic' (their statements: YtincppklphahpaaTotals.lean).
  GIVEN WITH THE SEED: the statements are not yours to turn. If you find one false, say at which input.
  Laid BY PROGRAM, IN A SANDBOX (cutbox-rows.mjs): the forced cells as the released guide's own fill.sh prints them over the translation 57c756cb4263a8bd… (all of the seat's roots in one cut). By AI agents, Wed Nov 11 2026. No macro, syntax, notation, axiom, sorry.
-/
import Derived.Test.YtincppklphahpaaChecked
import GoSem.Claim
import GoSem.ClaimJoined
import GoSem.ClaimMapViews
import Derived.JoinedTies
import Derived.KernelRfl
namespace Go.Proofs.Ytincppklphahpaa
/- THE CELL 'sum', in the pinned program and in every row, IS THE sha256 OF THE DUMP (.gsa) THAT YtincppklphahpaaProg.lean LOADS. Nothing in Lean hashes anything: it is a label: what it is worth is what the hold of that sum in a sandbox is worth. -/
noncomputable def Try.pinned : Pinned := { name := "ytincppklphahpaa", sum := "57c756cb4263a8bddddb1784132728b61668d0f38e7080e62854c1059748d705", checked := Try.checked }
namespace Rows
def none {H : Type} : Left H := { results := [], args := [] }

/-- 'laws.FnExactPseudoscalarOf': WHATEVER THE INPUT: true; the input reads as it did. -/
def fnExactPseudoscalarOfSpec : ChangeSpec := { name := "fnExactPseudoscalarOf", fn := fun _ => fun
  | [d] => { results := [.lit (.bool true)], args := [d] }
  | _ => none }
def fnExactPseudoscalarOfRow : OpenClaim := { program := "ytincppklphahpaa", sum := "57c756cb4263a8bddddb1784132728b61668d0f38e7080e62854c1059748d705", func := "loop.example/g01124/laws.FnExactPseudoscalarOf", spec := "fnExactPseudoscalarOf", apart := false }
def FnExactPseudoscalarOfSaid : Prop := fnExactPseudoscalarOfRow.holds Try.pinned (OpenSpec.ofChange fnExactPseudoscalarOfSpec)

/-- ITS FALSE NEIGHBOUR: 'it returns false'. Refute it at one input. -/
def fnExactPseudoscalarOfWrong : ChangeSpec := { name := "fnExactPseudoscalarOf", fn := fun _ => fun
  | [d] => { results := [.lit (.bool false)], args := [d] }
  | _ => none }
def FnExactPseudoscalarOfWrongFalsely : Prop := fnExactPseudoscalarOfRow.holds Try.pinned (OpenSpec.ofChange fnExactPseudoscalarOfWrong)

/-- 'laws.FnExactBladeOf': WHATEVER THE INPUT: true; the input reads as it did. -/
def fnExactBladeOfSpec : ChangeSpec := { name := "fnExactBladeOf", fn := fun _ => fun
  | [d1, d2] => { results := [.lit (.bool true)], args := [d1, d2] }
  | _ => none }
def fnExactBladeOfRow : OpenClaim := { program := "ytincppklphahpaa", sum := "57c756cb4263a8bddddb1784132728b61668d0f38e7080e62854c1059748d705", func := "loop.example/g01124/laws.FnExactBladeOf", spec := "fnExactBladeOf", apart := false }
def FnExactBladeOfSaid : Prop := fnExactBladeOfRow.holds Try.pinned (OpenSpec.ofChange fnExactBladeOfSpec)

/-- ITS FALSE NEIGHBOUR: 'it returns false'. Refute it at one input. -/
def fnExactBladeOfWrong : ChangeSpec := { name := "fnExactBladeOf", fn := fun _ => fun
  | [d1, d2] => { results := [.lit (.bool false)], args := [d1, d2] }
  | _ => none }
def FnExactBladeOfWrongFalsely : Prop := fnExactBladeOfRow.holds Try.pinned (OpenSpec.ofChange fnExactBladeOfWrong)

/-- 'laws.FnExactVectorOf': WHATEVER THE INPUT: true; the input reads as it did. -/
def fnExactVectorOfSpec : ChangeSpec := { name := "fnExactVectorOf", fn := fun _ => fun
  | [d1, d2] => { results := [.lit (.bool true)], args := [d1, d2] }
  | _ => none }
def fnExactVectorOfRow : OpenClaim := { program := "ytincppklphahpaa", sum := "57c756cb4263a8bddddb1784132728b61668d0f38e7080e62854c1059748d705", func := "loop.example/g01124/laws.FnExactVectorOf", spec := "fnExactVectorOf", unfollowed := true, recurses := true, apart := false }
def FnExactVectorOfSaid : Prop := fnExactVectorOfRow.holds Try.pinned (OpenSpec.ofChange fnExactVectorOfSpec)

/-- ITS FALSE NEIGHBOUR: 'it returns false'. Refute it at one input. -/
def fnExactVectorOfWrong : ChangeSpec := { name := "fnExactVectorOf", fn := fun _ => fun
  | [d1, d2] => { results := [.lit (.bool false)], args := [d1, d2] }
  | _ => none }
def FnExactVectorOfWrongFalsely : Prop := fnExactVectorOfRow.holds Try.pinned (OpenSpec.ofChange fnExactVectorOfWrong)

/-- 'laws.FnExactAddMultivectors': WHATEVER THE INPUT: true; the input reads as it did. -/
def fnExactAddMultivectorsSpec : ChangeSpec := { name := "fnExactAddMultivectors", fn := fun _ => fun
  | [d1, d2, d3] => { results := [.lit (.bool true)], args := [d1, d2, d3] }
  | _ => none }
def fnExactAddMultivectorsRow : OpenClaim := { program := "ytincppklphahpaa", sum := "57c756cb4263a8bddddb1784132728b61668d0f38e7080e62854c1059748d705", func := "loop.example/g01124/laws.FnExactAddMultivectors", spec := "fnExactAddMultivectors", unfollowed := true, recurses := true, apart := false }
def FnExactAddMultivectorsSaid : Prop := fnExactAddMultivectorsRow.holds Try.pinned (OpenSpec.ofChange fnExactAddMultivectorsSpec)

/-- ITS FALSE NEIGHBOUR: 'it returns false'. Refute it at one input. -/
def fnExactAddMultivectorsWrong : ChangeSpec := { name := "fnExactAddMultivectors", fn := fun _ => fun
  | [d1, d2, d3] => { results := [.lit (.bool false)], args := [d1, d2, d3] }
  | _ => none }
def FnExactAddMultivectorsWrongFalsely : Prop := fnExactAddMultivectorsRow.holds Try.pinned (OpenSpec.ofChange fnExactAddMultivectorsWrong)

/-- 'laws.FnExactScaleMultivector': WHATEVER THE INPUT: true; the input reads as it did. -/
def fnExactScaleMultivectorSpec : ChangeSpec := { name := "fnExactScaleMultivector", fn := fun _ => fun
  | [d1, d2, d3] => { results := [.lit (.bool true)], args := [d1, d2, d3] }
  | _ => none }
def fnExactScaleMultivectorRow : OpenClaim := { program := "ytincppklphahpaa", sum := "57c756cb4263a8bddddb1784132728b61668d0f38e7080e62854c1059748d705", func := "loop.example/g01124/laws.FnExactScaleMultivector", spec := "fnExactScaleMultivector", unfollowed := true, recurses := true, apart := false }
def FnExactScaleMultivectorSaid : Prop := fnExactScaleMultivectorRow.holds Try.pinned (OpenSpec.ofChange fnExactScaleMultivectorSpec)

/-- ITS FALSE NEIGHBOUR: 'it returns false'. Refute it at one input. -/
def fnExactScaleMultivectorWrong : ChangeSpec := { name := "fnExactScaleMultivector", fn := fun _ => fun
  | [d1, d2, d3] => { results := [.lit (.bool false)], args := [d1, d2, d3] }
  | _ => none }
def FnExactScaleMultivectorWrongFalsely : Prop := fnExactScaleMultivectorRow.holds Try.pinned (OpenSpec.ofChange fnExactScaleMultivectorWrong)

/-- 'laws.FnExactGradePart': WHATEVER THE INPUT: true; the input reads as it did. -/
def fnExactGradePartSpec : ChangeSpec := { name := "fnExactGradePart", fn := fun _ => fun
  | [d1, d2, d3] => { results := [.lit (.bool true)], args := [d1, d2, d3] }
  | _ => none }
def fnExactGradePartRow : OpenClaim := { program := "ytincppklphahpaa", sum := "57c756cb4263a8bddddb1784132728b61668d0f38e7080e62854c1059748d705", func := "loop.example/g01124/laws.FnExactGradePart", spec := "fnExactGradePart", unfollowed := true, recurses := true, apart := false }
def FnExactGradePartSaid : Prop := fnExactGradePartRow.holds Try.pinned (OpenSpec.ofChange fnExactGradePartSpec)

/-- ITS FALSE NEIGHBOUR: 'it returns false'. Refute it at one input. -/
def fnExactGradePartWrong : ChangeSpec := { name := "fnExactGradePart", fn := fun _ => fun
  | [d1, d2, d3] => { results := [.lit (.bool false)], args := [d1, d2, d3] }
  | _ => none }
def FnExactGradePartWrongFalsely : Prop := fnExactGradePartRow.holds Try.pinned (OpenSpec.ofChange fnExactGradePartWrong)

/-- 'laws.FnExactEvenBasis': WHATEVER THE INPUT: true; the input reads as it did. -/
def fnExactEvenBasisSpec : ChangeSpec := { name := "fnExactEvenBasis", fn := fun _ => fun
  | [d] => { results := [.lit (.bool true)], args := [d] }
  | _ => none }
def fnExactEvenBasisRow : OpenClaim := { program := "ytincppklphahpaa", sum := "57c756cb4263a8bddddb1784132728b61668d0f38e7080e62854c1059748d705", func := "loop.example/g01124/laws.FnExactEvenBasis", spec := "fnExactEvenBasis", unfollowed := true, recurses := true, apart := false }
def FnExactEvenBasisSaid : Prop := fnExactEvenBasisRow.holds Try.pinned (OpenSpec.ofChange fnExactEvenBasisSpec)

/-- ITS FALSE NEIGHBOUR: 'it returns false'. Refute it at one input. -/
def fnExactEvenBasisWrong : ChangeSpec := { name := "fnExactEvenBasis", fn := fun _ => fun
  | [d] => { results := [.lit (.bool false)], args := [d] }
  | _ => none }
def FnExactEvenBasisWrongFalsely : Prop := fnExactEvenBasisRow.holds Try.pinned (OpenSpec.ofChange fnExactEvenBasisWrong)

/-- 'laws.FnExactInvoluteOf': WHATEVER THE INPUT: true; the input reads as it did. -/
def fnExactInvoluteOfSpec : ChangeSpec := { name := "fnExactInvoluteOf", fn := fun _ => fun
  | [d1, d2] => { results := [.lit (.bool true)], args := [d1, d2] }
  | _ => none }
def fnExactInvoluteOfRow : OpenClaim := { program := "ytincppklphahpaa", sum := "57c756cb4263a8bddddb1784132728b61668d0f38e7080e62854c1059748d705", func := "loop.example/g01124/laws.FnExactInvoluteOf", spec := "fnExactInvoluteOf", unfollowed := true, recurses := true, apart := false }
def FnExactInvoluteOfSaid : Prop := fnExactInvoluteOfRow.holds Try.pinned (OpenSpec.ofChange fnExactInvoluteOfSpec)

/-- ITS FALSE NEIGHBOUR: 'it returns false'. Refute it at one input. -/
def fnExactInvoluteOfWrong : ChangeSpec := { name := "fnExactInvoluteOf", fn := fun _ => fun
  | [d1, d2] => { results := [.lit (.bool false)], args := [d1, d2] }
  | _ => none }
def FnExactInvoluteOfWrongFalsely : Prop := fnExactInvoluteOfRow.holds Try.pinned (OpenSpec.ofChange fnExactInvoluteOfWrong)

/-- 'laws.FnExactReverseOf': WHATEVER THE INPUT: true; the input reads as it did. -/
def fnExactReverseOfSpec : ChangeSpec := { name := "fnExactReverseOf", fn := fun _ => fun
  | [d1, d2] => { results := [.lit (.bool true)], args := [d1, d2] }
  | _ => none }
def fnExactReverseOfRow : OpenClaim := { program := "ytincppklphahpaa", sum := "57c756cb4263a8bddddb1784132728b61668d0f38e7080e62854c1059748d705", func := "loop.example/g01124/laws.FnExactReverseOf", spec := "fnExactReverseOf", unfollowed := true, recurses := true, apart := false }
def FnExactReverseOfSaid : Prop := fnExactReverseOfRow.holds Try.pinned (OpenSpec.ofChange fnExactReverseOfSpec)

/-- ITS FALSE NEIGHBOUR: 'it returns false'. Refute it at one input. -/
def fnExactReverseOfWrong : ChangeSpec := { name := "fnExactReverseOf", fn := fun _ => fun
  | [d1, d2] => { results := [.lit (.bool false)], args := [d1, d2] }
  | _ => none }
def FnExactReverseOfWrongFalsely : Prop := fnExactReverseOfRow.holds Try.pinned (OpenSpec.ofChange fnExactReverseOfWrong)

/-- 'laws.FnExactConjugateOf': WHATEVER THE INPUT: true; the input reads as it did. -/
def fnExactConjugateOfSpec : ChangeSpec := { name := "fnExactConjugateOf", fn := fun _ => fun
  | [d1, d2] => { results := [.lit (.bool true)], args := [d1, d2] }
  | _ => none }
def fnExactConjugateOfRow : OpenClaim := { program := "ytincppklphahpaa", sum := "57c756cb4263a8bddddb1784132728b61668d0f38e7080e62854c1059748d705", func := "loop.example/g01124/laws.FnExactConjugateOf", spec := "fnExactConjugateOf", unfollowed := true, recurses := true, apart := false }
def FnExactConjugateOfSaid : Prop := fnExactConjugateOfRow.holds Try.pinned (OpenSpec.ofChange fnExactConjugateOfSpec)

/-- ITS FALSE NEIGHBOUR: 'it returns false'. Refute it at one input. -/
def fnExactConjugateOfWrong : ChangeSpec := { name := "fnExactConjugateOf", fn := fun _ => fun
  | [d1, d2] => { results := [.lit (.bool false)], args := [d1, d2] }
  | _ => none }
def FnExactConjugateOfWrongFalsely : Prop := fnExactConjugateOfRow.holds Try.pinned (OpenSpec.ofChange fnExactConjugateOfWrong)

/-- 'laws.FnExactIsotropicVector': WHATEVER THE INPUT: true; the input reads as it did. -/
def fnExactIsotropicVectorSpec : ChangeSpec := { name := "fnExactIsotropicVector", fn := fun _ => fun
  | [d] => { results := [.lit (.bool true)], args := [d] }
  | _ => none }
def fnExactIsotropicVectorRow : OpenClaim := { program := "ytincppklphahpaa", sum := "57c756cb4263a8bddddb1784132728b61668d0f38e7080e62854c1059748d705", func := "loop.example/g01124/laws.FnExactIsotropicVector", spec := "fnExactIsotropicVector", unfollowed := true, recurses := true, apart := false }
def FnExactIsotropicVectorSaid : Prop := fnExactIsotropicVectorRow.holds Try.pinned (OpenSpec.ofChange fnExactIsotropicVectorSpec)

/-- ITS FALSE NEIGHBOUR: 'it returns false'. Refute it at one input. -/
def fnExactIsotropicVectorWrong : ChangeSpec := { name := "fnExactIsotropicVector", fn := fun _ => fun
  | [d] => { results := [.lit (.bool false)], args := [d] }
  | _ => none }
def FnExactIsotropicVectorWrongFalsely : Prop := fnExactIsotropicVectorRow.holds Try.pinned (OpenSpec.ofChange fnExactIsotropicVectorWrong)

/- THE SECOND FORM. 'bulk': how many values and letters a reading holds, each counted each time it is reached (what is shared counts as often as it is met; a slice's spare places count too). A statement '..UptoSaid' is the law's where the arguments, and the package variables that the reading takes, are together of bulk at most 1048576: NARROWER than '..Said'. Prove '..Said' where nothing that the law and all that it calls make is longer than what came in: it says more and counts as full. Else prove '..UptoSaid'. A law counts once. -/
mutual
def uptoBulk {H : Type} : DataW H → Nat
  | .lit (.string bytes) => bytes.length + 1
  | .lit _ => 1
  | .nil => 1
  | .ptr d => uptoBulk d + 1
  | .slice elems spare => uptoBulkAll elems + uptoBulkAll spare + 1
  | .agg parts => uptoBulkAll parts + 1
  | .iface _ d => uptoBulk d + 1
  | .map entries => uptoBulkEntries entries + 1
  | .held _ => 1
def uptoBulkAll {H : Type} : List (DataW H) → Nat
  | [] => 0
  | d :: r => uptoBulk d + uptoBulkAll r
def uptoBulkEntries {H : Type} : List (Lit × DataW H) → Nat
  | [] => 0
  | x :: r => uptoBulkEntry x + uptoBulkEntries r
def uptoBulkEntry {H : Type} : Lit × DataW H → Nat
  | (.string bytes, d) => bytes.length + uptoBulk d + 1
  | (_, d) => uptoBulk d + 1
 end
def uptoSmall : (H : Type) → List (DataW H) → Bool := fun _ ds => decide (uptoBulkAll ds ≤ 1048576)
def OpenSpec.upto (s : _root_.Go.ChangeSpec) : _root_.Go.OpenSpec := { _root_.Go.OpenSpec.ofChange s with cond := some uptoSmall }

/-- 'laws.FnExactPseudoscalarOf', WHERE WHAT IT READS IS OF BULK AT MOST 1048576: true; the input reads as it did. -/
def fnExactPseudoscalarOfUptoRow : OpenClaim := { program := "ytincppklphahpaa", sum := "57c756cb4263a8bddddb1784132728b61668d0f38e7080e62854c1059748d705", func := "loop.example/g01124/laws.FnExactPseudoscalarOf", spec := "fnExactPseudoscalarOf", apart := false, narrowed := true }
def FnExactPseudoscalarOfUptoSaid : Prop := fnExactPseudoscalarOfUptoRow.holds Try.pinned (OpenSpec.upto fnExactPseudoscalarOfSpec)

/-- 'laws.FnExactBladeOf', WHERE WHAT IT READS IS OF BULK AT MOST 1048576: true; the input reads as it did. -/
def fnExactBladeOfUptoRow : OpenClaim := { program := "ytincppklphahpaa", sum := "57c756cb4263a8bddddb1784132728b61668d0f38e7080e62854c1059748d705", func := "loop.example/g01124/laws.FnExactBladeOf", spec := "fnExactBladeOf", apart := false, narrowed := true }
def FnExactBladeOfUptoSaid : Prop := fnExactBladeOfUptoRow.holds Try.pinned (OpenSpec.upto fnExactBladeOfSpec)

/-- 'laws.FnExactVectorOf', WHERE WHAT IT READS IS OF BULK AT MOST 1048576: true; the input reads as it did. -/
def fnExactVectorOfUptoRow : OpenClaim := { program := "ytincppklphahpaa", sum := "57c756cb4263a8bddddb1784132728b61668d0f38e7080e62854c1059748d705", func := "loop.example/g01124/laws.FnExactVectorOf", spec := "fnExactVectorOf", unfollowed := true, recurses := true, apart := false, narrowed := true }
def FnExactVectorOfUptoSaid : Prop := fnExactVectorOfUptoRow.holds Try.pinned (OpenSpec.upto fnExactVectorOfSpec)

/-- 'laws.FnExactAddMultivectors', WHERE WHAT IT READS IS OF BULK AT MOST 1048576: true; the input reads as it did. -/
def fnExactAddMultivectorsUptoRow : OpenClaim := { program := "ytincppklphahpaa", sum := "57c756cb4263a8bddddb1784132728b61668d0f38e7080e62854c1059748d705", func := "loop.example/g01124/laws.FnExactAddMultivectors", spec := "fnExactAddMultivectors", unfollowed := true, recurses := true, apart := false, narrowed := true }
def FnExactAddMultivectorsUptoSaid : Prop := fnExactAddMultivectorsUptoRow.holds Try.pinned (OpenSpec.upto fnExactAddMultivectorsSpec)

/-- 'laws.FnExactScaleMultivector', WHERE WHAT IT READS IS OF BULK AT MOST 1048576: true; the input reads as it did. -/
def fnExactScaleMultivectorUptoRow : OpenClaim := { program := "ytincppklphahpaa", sum := "57c756cb4263a8bddddb1784132728b61668d0f38e7080e62854c1059748d705", func := "loop.example/g01124/laws.FnExactScaleMultivector", spec := "fnExactScaleMultivector", unfollowed := true, recurses := true, apart := false, narrowed := true }
def FnExactScaleMultivectorUptoSaid : Prop := fnExactScaleMultivectorUptoRow.holds Try.pinned (OpenSpec.upto fnExactScaleMultivectorSpec)

/-- 'laws.FnExactGradePart', WHERE WHAT IT READS IS OF BULK AT MOST 1048576: true; the input reads as it did. -/
def fnExactGradePartUptoRow : OpenClaim := { program := "ytincppklphahpaa", sum := "57c756cb4263a8bddddb1784132728b61668d0f38e7080e62854c1059748d705", func := "loop.example/g01124/laws.FnExactGradePart", spec := "fnExactGradePart", unfollowed := true, recurses := true, apart := false, narrowed := true }
def FnExactGradePartUptoSaid : Prop := fnExactGradePartUptoRow.holds Try.pinned (OpenSpec.upto fnExactGradePartSpec)

/-- 'laws.FnExactEvenBasis', WHERE WHAT IT READS IS OF BULK AT MOST 1048576: true; the input reads as it did. -/
def fnExactEvenBasisUptoRow : OpenClaim := { program := "ytincppklphahpaa", sum := "57c756cb4263a8bddddb1784132728b61668d0f38e7080e62854c1059748d705", func := "loop.example/g01124/laws.FnExactEvenBasis", spec := "fnExactEvenBasis", unfollowed := true, recurses := true, apart := false, narrowed := true }
def FnExactEvenBasisUptoSaid : Prop := fnExactEvenBasisUptoRow.holds Try.pinned (OpenSpec.upto fnExactEvenBasisSpec)

/-- 'laws.FnExactInvoluteOf', WHERE WHAT IT READS IS OF BULK AT MOST 1048576: true; the input reads as it did. -/
def fnExactInvoluteOfUptoRow : OpenClaim := { program := "ytincppklphahpaa", sum := "57c756cb4263a8bddddb1784132728b61668d0f38e7080e62854c1059748d705", func := "loop.example/g01124/laws.FnExactInvoluteOf", spec := "fnExactInvoluteOf", unfollowed := true, recurses := true, apart := false, narrowed := true }
def FnExactInvoluteOfUptoSaid : Prop := fnExactInvoluteOfUptoRow.holds Try.pinned (OpenSpec.upto fnExactInvoluteOfSpec)

/-- 'laws.FnExactReverseOf', WHERE WHAT IT READS IS OF BULK AT MOST 1048576: true; the input reads as it did. -/
def fnExactReverseOfUptoRow : OpenClaim := { program := "ytincppklphahpaa", sum := "57c756cb4263a8bddddb1784132728b61668d0f38e7080e62854c1059748d705", func := "loop.example/g01124/laws.FnExactReverseOf", spec := "fnExactReverseOf", unfollowed := true, recurses := true, apart := false, narrowed := true }
def FnExactReverseOfUptoSaid : Prop := fnExactReverseOfUptoRow.holds Try.pinned (OpenSpec.upto fnExactReverseOfSpec)

/-- 'laws.FnExactConjugateOf', WHERE WHAT IT READS IS OF BULK AT MOST 1048576: true; the input reads as it did. -/
def fnExactConjugateOfUptoRow : OpenClaim := { program := "ytincppklphahpaa", sum := "57c756cb4263a8bddddb1784132728b61668d0f38e7080e62854c1059748d705", func := "loop.example/g01124/laws.FnExactConjugateOf", spec := "fnExactConjugateOf", unfollowed := true, recurses := true, apart := false, narrowed := true }
def FnExactConjugateOfUptoSaid : Prop := fnExactConjugateOfUptoRow.holds Try.pinned (OpenSpec.upto fnExactConjugateOfSpec)

/-- 'laws.FnExactIsotropicVector', WHERE WHAT IT READS IS OF BULK AT MOST 1048576: true; the input reads as it did. -/
def fnExactIsotropicVectorUptoRow : OpenClaim := { program := "ytincppklphahpaa", sum := "57c756cb4263a8bddddb1784132728b61668d0f38e7080e62854c1059748d705", func := "loop.example/g01124/laws.FnExactIsotropicVector", spec := "fnExactIsotropicVector", unfollowed := true, recurses := true, apart := false, narrowed := true }
def FnExactIsotropicVectorUptoSaid : Prop := fnExactIsotropicVectorUptoRow.holds Try.pinned (OpenSpec.upto fnExactIsotropicVectorSpec)

end Rows
end Go.Proofs.Ytincppklphahpaa
