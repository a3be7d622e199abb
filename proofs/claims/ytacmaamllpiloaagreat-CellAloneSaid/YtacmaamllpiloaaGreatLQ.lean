import Derived.Test.YtacmaamllpiloaaGreatZ08
import Derived.Test.YtacmaamllpiloaaGreatZ16
import Derived.Test.YtacmaamllpiloaaGreatZ05
import Derived.Test.YtacmaamllpiloaaGreatRows
import Derived.ProofKit
namespace Go.Proofs.YtacmaamllpiloaaGreat
open Go Go.Wk Go.ChangeShapes Go.WideShapes Go.ChangeAt Go.RowKit
theorem Tryz.own : ownKnob Tryz.prog.godebug = none := by kernel_rfl
theorem Tryz.laidOut : laidOutB Tryz.prog = true := by kernel_rfl
instance : Inp Tryz.prog 3 Int := inp_int Tryz.underlying3
instance : Inp Tryz.prog 4 Bool := inp_bool Tryz.underlying4
instance : Inp Tryz.prog 5 UInt8 := inp_u8 Tryz.underlying5
instance : Inp Tryz.prog 28 (SL Int) := inp_slice Tryz.underlying28 (by kernel_rfl)
end Go.Proofs.YtacmaamllpiloaaGreat
