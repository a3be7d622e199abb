import Derived.Test.YtacmaamllpiloaaGreatZ04
import Derived.Test.YtacmaamllpiloaaGreatZ07
import Derived.Test.YtacmaamllpiloaaGreatZ02
import Derived.Test.YtacmaamllpiloaaGreatRows
import Derived.ProofKit
namespace Go.Proofs.YtacmaamllpiloaaGreat
open Go Go.Wk Go.ChangeShapes Go.WideShapes Go.ChangeAt Go.RowKit
theorem Tryz.own : ownKnob Tryz.prog.godebug = none := by kernel_rfl
theorem Tryz.laidOut : laidOutB Tryz.prog = true := by kernel_rfl
instance : Inp Tryz.prog 3 Int := xB6 Tryz.underlying3
instance : Inp Tryz.prog 4 Bool := xBZ Tryz.underlying4
instance : Inp Tryz.prog 5 UInt8 := xCa Tryz.underlying5
instance : Inp Tryz.prog 28 (SL Int) := xBG Tryz.underlying28 (by kernel_rfl)
end Go.Proofs.YtacmaamllpiloaaGreat
