import Derived.Test.YtgkhjgpgdfbdpaaGreatDoorXax
namespace Go.Proofs.YtgkhjgpgdfbdpaaGreatDoor
open Go Go.Wk
set_option maxRecDepth 100000
/-! ### splitting at blanks -/
abbrev mxB (m : Int) : Asrt := sl true (mxV 0) [m]
def wordsS (s : List UInt8) : List Str := (wordsA 32 s).map Str.mk
theorem split_ok {s : List UInt8} {m : Int} (hs : s.length ≤ 4294967280) : Trip Tryz.prog 22 [.string (bstr s), .string (bstr [32])].toArray [mxB m] fun v l' => ∃ t : SV, v = t.v ∧ l' = [sl false t.v (wordsS s)] := trip_split Tryz.strings_Split hs

end Go.Proofs.YtgkhjgpgdfbdpaaGreatDoor
