/- More closed facts on types, printed by a program. -/
import Derived.Test.YtlmcoiloepoggaaTab
import Derived.Test.YtlmcoiloepoggaaWkH
namespace Go.Proofs.Ytlmcoiloepoggaa
open Go Go.Wk
instance intt_2 : IntT Try.prog 2 .i64 := ⟨Try.underlying2⟩
instance intt_3 : IntT Try.prog 3 .i64 := ⟨Try.underlying3⟩
instance intt_5 : IntT Try.prog 5 .u8 := ⟨Try.underlying5⟩
instance intt_6 : IntT Try.prog 6 .u8 := ⟨Try.underlying6⟩
instance strt_9 : StrT Try.prog 9 := ⟨Try.underlying9⟩
instance strt_10 : StrT Try.prog 10 := ⟨Try.underlying10⟩
instance strt_11 : StrT Try.prog 11 := ⟨Try.underlying11⟩
instance intt_12 : IntT Try.prog 12 .u64 := ⟨Try.underlying12⟩
instance intt_21 : IntT Try.prog 21 .i32 := ⟨Try.underlying21⟩
instance arrt_41 : ArrT Try.prog 41 2 1 := arrB_spec (by kernel_rfl)
instance bytt_63 : BytT Try.prog 63 := bytB_spec (by kernel_rfl)
instance arrt_197 : ArrT Try.prog 197 0 1 := arrB_spec (by kernel_rfl)
instance intt_200 : IntT Try.prog 200 .u32 := ⟨Try.underlying200⟩
instance intt_201 : IntT Try.prog 201 .u8 := ⟨Try.underlying201⟩
instance intt_202 : IntT Try.prog 202 .u8 := ⟨Try.underlying202⟩
instance intt_205 : IntT Try.prog 205 .i32 := ⟨Try.underlying205⟩
instance intt_206 : IntT Try.prog 206 .i32 := ⟨Try.underlying206⟩
instance meth_164_156 : MethT Try.prog 164 "anchorhold/port.put" 156 := ⟨by kernel_rfl⟩
instance meth_164_155 : MethT Try.prog 164 "anchorhold/port.len" 155 := ⟨by kernel_rfl⟩
instance meth_167_158 : MethT Try.prog 167 "anchorhold/port.put" 158 := ⟨by kernel_rfl⟩
instance meth_167_157 : MethT Try.prog 167 "anchorhold/port.len" 157 := ⟨by kernel_rfl⟩
instance zera_164 : Zer Try.prog 164 (.pointer none) := ⟨by kernel_rfl⟩
instance cont_164 : ConT Try.prog 164 := ⟨by kernel_rfl⟩
instance zera_167 : Zer Try.prog 167 (.pointer none) := ⟨by kernel_rfl⟩
instance cont_167 : ConT Try.prog 167 := ⟨by kernel_rfl⟩
end Go.Proofs.Ytlmcoiloepoggaa
