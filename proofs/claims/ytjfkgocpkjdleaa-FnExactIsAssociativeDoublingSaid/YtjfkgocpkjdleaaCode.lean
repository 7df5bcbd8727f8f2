/- Contracts of the number layer: codes, and the functions over two numbers. Conditions stand in each theorem. -/
import Derived.Test.YtjfkgocpkjdleaaNum
namespace Go.Proofs.Ytjfkgocpkjdleaa
open Go.RowKit

end Go.Proofs.Ytjfkgocpkjdleaa
