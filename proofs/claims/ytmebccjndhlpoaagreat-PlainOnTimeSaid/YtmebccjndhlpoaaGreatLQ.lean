import Derived.Test.YtmebccjndhlpoaaGreatZ04
import Derived.Test.YtmebccjndhlpoaaGreatZ02
import Derived.Test.YtmebccjndhlpoaaGreatRows
import Derived.ProofKit
namespace Go.Proofs.YtmebccjndhlpoaaGreat
open Go Go.Wk Go.ChangeShapes Go.WideShapes Go.ChangeAt Go.RowKit
theorem Tryz.own:ownKnob Tryz.prog.godebug=none:=by kernel_rfl
theorem Tryz.laidOut:laidOutB Tryz.prog=true:=by kernel_rfl
instance:Inp Tryz.prog 3 Int:=xKU Tryz.underlying3
instance:Inp Tryz.prog 4 Bool:=xKj Tryz.underlying4
instance:Inp Tryz.prog 5 UInt8:=xMA Tryz.underlying5
instance:Inp Tryz.prog 29 (SL Int):=xB2 Tryz.underlying29 (by kernel_rfl)
end Go.Proofs.YtmebccjndhlpoaaGreat
