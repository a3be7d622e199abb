/- More closed facts on types, printed by a program. -/
import Derived.Test.YtlhmbcmkpafjoaaTab
import Derived.Test.YtlhmbcmkpafjoaaWkx
namespace Go.Proofs.Ytlhmbcmkpafjoaa
open Go Go.Wk
instance intt_2 : IntT Try.prog 2 .i64 := ⟨Try.underlying2⟩
instance intt_3 : IntT Try.prog 3 .i64 := ⟨Try.underlying3⟩
instance intt_5 : IntT Try.prog 5 .u8 := ⟨Try.underlying5⟩
instance intt_6 : IntT Try.prog 6 .u8 := ⟨Try.underlying6⟩
instance strt_9 : StrT Try.prog 9 := ⟨Try.underlying9⟩
instance strt_10 : StrT Try.prog 10 := ⟨Try.underlying10⟩
instance strt_11 : StrT Try.prog 11 := ⟨Try.underlying11⟩
instance intt_12 : IntT Try.prog 12 .u64 := ⟨Try.underlying12⟩
instance intt_21 : IntT Try.prog 21 .i32 := ⟨Try.underlying21⟩
instance intt_35 : IntT Try.prog 35 .i8 := ⟨Try.underlying35⟩
instance bytt_65 : BytT Try.prog 65 := bytB_spec (by kernel_rfl)
instance arrt_165 : ArrT Try.prog 165 0 1 := arrB_spec (by kernel_rfl)
instance intt_168 : IntT Try.prog 168 .u32 := ⟨Try.underlying168⟩
instance intt_169 : IntT Try.prog 169 .u8 := ⟨Try.underlying169⟩
instance intt_170 : IntT Try.prog 170 .u8 := ⟨Try.underlying170⟩
instance intt_173 : IntT Try.prog 173 .i32 := ⟨Try.underlying173⟩
instance intt_174 : IntT Try.prog 174 .i32 := ⟨Try.underlying174⟩
instance meth_151_101 : MethT Try.prog 151 "anchorhold/port.len" 101 := ⟨by kernel_rfl⟩
instance meth_151_102 : MethT Try.prog 151 "anchorhold/port.put" 102 := ⟨by kernel_rfl⟩
instance meth_154_103 : MethT Try.prog 154 "anchorhold/port.len" 103 := ⟨by kernel_rfl⟩
instance meth_154_104 : MethT Try.prog 154 "anchorhold/port.put" 104 := ⟨by kernel_rfl⟩
instance zera_151 : Zer Try.prog 151 (.pointer none) := ⟨by kernel_rfl⟩
instance cont_151 : ConT Try.prog 151 := ⟨by kernel_rfl⟩
instance zera_154 : Zer Try.prog 154 (.pointer none) := ⟨by kernel_rfl⟩
instance cont_154 : ConT Try.prog 154 := ⟨by kernel_rfl⟩
end Go.Proofs.Ytlhmbcmkpafjoaa
