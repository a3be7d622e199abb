import Derived.Test.YtkapfpliiaegfaaGreatZ07
import Derived.Test.YtkapfpliiaegfaaGreatZ02
import Derived.Test.YtkapfpliiaegfaaGreatRows
import Derived.ProofKit
namespace Go.Proofs.YtkapfpliiaegfaaGreat
open Go Go.Wk Go.ChangeShapes Go.WideShapes Go.ChangeAt Go.RowKit
theorem Tryz.own : ownKnob Tryz.prog.godebug = none := by kernel_rfl
theorem Tryz.laidOut : laidOutB Tryz.prog = true := by kernel_rfl
instance : Inp Tryz.prog 3 Int := xKj Tryz.underlying3
instance : Inp Tryz.prog 4 Bool := xJy Tryz.underlying4
instance : Inp Tryz.prog 5 UInt8 := xLf Tryz.underlying5
instance : Inp Tryz.prog 29 (SL Int) := xBQ Tryz.underlying29 (by kernel_rfl)
end Go.Proofs.YtkapfpliiaegfaaGreat
