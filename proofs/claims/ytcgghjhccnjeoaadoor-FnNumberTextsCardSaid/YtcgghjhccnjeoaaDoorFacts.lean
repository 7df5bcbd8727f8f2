/- Closed facts of the whole translation, reckoned once for all rows of the seat. No condition. -/
import Derived.Test.YtcgghjhccnjeoaaDoorChecked
import Derived.WalkKit
import Derived.ProofKit
import Derived.JoinedOf
import Derived.KernelRfl
namespace Go.Proofs.YtcgghjhccnjeoaaDoor
theorem threeT : (Tryd.prog.mayEnter, Tryd.prog.make, Tryd.prog.liftsFinal) = (true, some .cut, false) := by kernel_rfl
theorem mayEnterT : Tryd.prog.mayEnter = true := (Prod.mk.inj threeT).1
theorem makeT : Tryd.prog.make = some .cut := (Prod.mk.inj (Prod.mk.inj threeT).2).1
theorem liftsFinalT : Tryd.prog.liftsFinal = false := (Prod.mk.inj (Prod.mk.inj threeT).2).2
theorem stopsHeardT : Tryd.prog.stopsHeard = true := by kernel_rfl
theorem own : ownKnob Tryd.prog.godebug = none := by kernel_rfl
theorem laidOut : laidOutB Tryd.prog = true := by kernel_rfl
end Go.Proofs.YtcgghjhccnjeoaaDoor
