import Derived.Test.YtlhmbcmkpafjoaaCF
import Derived.Test.YtlhmbcmkpafjoaaTb2
import Derived.Test.YtlhmbcmkpafjoaaWkA
import Derived.Test.YtlhmbcmkpafjoaaRows
import Derived.ProofKit
namespace Go.Proofs.Ytlhmbcmkpafjoaa
open Go Go.Wk Go.ChangeShapes Go.WideShapes Go.ChangeAt Go.RowKit
theorem Try.own : ownKnob Try.prog.godebug = none := by kernel_rfl
theorem Try.laidOut : laidOutB Try.prog = true := by kernel_rfl
instance : Inp Try.prog 3 Int := inp_int Try.underlying3
instance : Inp Try.prog 4 Bool := inp_bool Try.underlying4
instance : Inp Try.prog 5 UInt8 := inp_u8 Try.underlying5
instance : Inp Try.prog 22 (SL Int) := inp_slice Try.underlying22 (by kernel_rfl)
end Go.Proofs.Ytlhmbcmkpafjoaa
