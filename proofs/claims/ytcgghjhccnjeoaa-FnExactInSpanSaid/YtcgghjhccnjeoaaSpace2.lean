/- Contracts: discriminant, regularity, multivectors as arguments. Conditions stand in each theorem. -/
import Derived.Test.YtcgghjhccnjeoaaSpace
namespace Go.Proofs.Ytcgghjhccnjeoaa
open Go.RowKit
set_option linter.unusedVariables false

def regV (p : Int) (xs : List Int) : Bool := if spaceB p xs then regB xs else false

end Go.Proofs.Ytcgghjhccnjeoaa
