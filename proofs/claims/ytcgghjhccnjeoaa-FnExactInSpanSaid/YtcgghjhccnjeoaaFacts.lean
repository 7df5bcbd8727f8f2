/- Closed facts of the whole translation, reckoned once for all rows of the seat. No condition. -/
import Derived.Test.YtcgghjhccnjeoaaChecked
import Derived.WalkKit
import Derived.ProofKit
import Derived.JoinedOf
import Derived.KernelRfl
namespace Go.Proofs.Ytcgghjhccnjeoaa
theorem threeT : (Try.prog.mayEnter, Try.prog.make, Try.prog.liftsFinal) = (true, some .cut, false) := by kernel_rfl
theorem mayEnterT : Try.prog.mayEnter = true := (Prod.mk.inj threeT).1
theorem makeT : Try.prog.make = some .cut := (Prod.mk.inj (Prod.mk.inj threeT).2).1
theorem liftsFinalT : Try.prog.liftsFinal = false := (Prod.mk.inj (Prod.mk.inj threeT).2).2
theorem stopsHeardT : Try.prog.stopsHeard = true := by kernel_rfl
theorem own : ownKnob Try.prog.godebug = none := by kernel_rfl
theorem laidOut : laidOutB Try.prog = true := by kernel_rfl
end Go.Proofs.Ytcgghjhccnjeoaa
