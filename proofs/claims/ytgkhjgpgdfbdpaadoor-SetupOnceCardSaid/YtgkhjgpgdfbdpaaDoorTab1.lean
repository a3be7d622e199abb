/- Tables, printed by a program: each function with its plans; closed facts on types. -/
import Derived.Test.YtgkhjgpgdfbdpaaDoorProg
import Derived.Test.YtgkhjgpgdfbdpaaDoorWkF
import Derived.KernelRfl
namespace Go.Proofs.YtgkhjgpgdfbdpaaDoor
open Go Go.Wk
-- anchorhold/anchorholdlaw28.TraceReads
noncomputable def cd4 : Code := match Tryd.f4.body with
  | some c => c
  | none => .skip
noncomputable def pl4 : Nat → Plan := fun _ => .fin
theorem fn4 : FnOK Tryd.prog 4 Tryd.f4 cd4 pl4 := ⟨Tryd.func4, rfl, by kernel_rfl, by kernel_rfl⟩
instance isf4 : IsFn Tryd.prog 4 := ⟨by kernel_rfl⟩
-- anchorhold/anchorholdlaw29.ScriptReads
noncomputable def cd8 : Code := match Tryd.f8.body with
  | some c => c
  | none => .skip
noncomputable def pl8 : Nat → Plan := fun _ => .fin
theorem fn8 : FnOK Tryd.prog 8 Tryd.f8 cd8 pl8 := ⟨Tryd.func8, rfl, by kernel_rfl, by kernel_rfl⟩
instance isf8 : IsFn Tryd.prog 8 := ⟨by kernel_rfl⟩
-- anchorhold/anchorholdlaw34.SetupBack
noncomputable def cd11 : Code := match Tryd.f11.body with
  | some c => c
  | none => .skip
noncomputable def pl11 : Nat → Plan := fun _ => .fin
theorem fn11 : FnOK Tryd.prog 11 Tryd.f11 cd11 pl11 := ⟨Tryd.func11, rfl, by kernel_rfl, by kernel_rfl⟩
instance isf11 : IsFn Tryd.prog 11 := ⟨by kernel_rfl⟩
-- anchorhold/anchorholdlaw34.SetupOnce
noncomputable def cd12 : Code := match Tryd.f12.body with
  | some c => c
  | none => .skip
noncomputable def pl12 : Nat → Plan := fun _ => .fin
theorem fn12 : FnOK Tryd.prog 12 Tryd.f12 cd12 pl12 := ⟨Tryd.func12, rfl, by kernel_rfl, by kernel_rfl⟩
instance isf12 : IsFn Tryd.prog 12 := ⟨by kernel_rfl⟩
-- anchorhold/anchorholdref28.Print
noncomputable def cd15 : Code := match Tryd.f15.body with
  | some c => c
  | none => .skip
noncomputable def pl15 : Nat → Plan := fun _ => .fin
theorem fn15 : FnOK Tryd.prog 15 Tryd.f15 cd15 pl15 := ⟨Tryd.func15, rfl, by kernel_rfl, by kernel_rfl⟩
instance isf15 : IsFn Tryd.prog 15 := ⟨by kernel_rfl⟩
-- anchorhold/anchorholdref28.Word
noncomputable def cd19 : Code := match Tryd.f19.body with
  | some c => c
  | none => .skip
noncomputable def pl19 : Nat → Plan := fun _ => .fin
theorem fn19 : FnOK Tryd.prog 19 Tryd.f19 cd19 pl19 := ⟨Tryd.func19, rfl, by kernel_rfl, by kernel_rfl⟩
instance isf19 : IsFn Tryd.prog 19 := ⟨by kernel_rfl⟩
-- anchorhold/trace.Windows
noncomputable def cd23 : Code := match Tryd.f23.body with
  | some c => c
  | none => .skip
noncomputable def pl23 : Nat → Plan
  | 7 => .st ⟨0, false, []⟩ (.st ⟨1, false, []⟩ (.st ⟨2, false, []⟩ (.st ⟨3, false, []⟩ (.st ⟨4, false, []⟩ (.st ⟨5, false, []⟩ (.st ⟨6, false, []⟩ (.st ⟨7, false, []⟩ (.st ⟨8, true, [1, 2, 4, 5, 6]⟩ (.st ⟨9, true, [1, 2]⟩ (.st ⟨10, true, []⟩ (.fin)))))))))))
  | _ => .fin
theorem fn23 : FnOK Tryd.prog 23 Tryd.f23 cd23 pl23 := ⟨Tryd.func23, rfl, by kernel_rfl, by kernel_rfl⟩
instance isf23 : IsFn Tryd.prog 23 := ⟨by kernel_rfl⟩
-- anchorhold/anchorholdref28.Faults
noncomputable def cd27 : Code := match Tryd.f27.body with
  | some c => c
  | none => .skip
noncomputable def pl27 : Nat → Plan := fun _ => .fin
theorem fn27 : FnOK Tryd.prog 27 Tryd.f27 cd27 pl27 := ⟨Tryd.func27, rfl, by kernel_rfl, by kernel_rfl⟩
instance isf27 : IsFn Tryd.prog 27 := ⟨by kernel_rfl⟩
-- anchorhold/script.Print
instance isf30 : IsFn Tryd.prog 30 := ⟨by kernel_rfl⟩
-- anchorhold/anchorholdref29.Print
noncomputable def cd31 : Code := match Tryd.f31.body with
  | some c => c
  | none => .skip
noncomputable def pl31 : Nat → Plan := fun _ => .fin
theorem fn31 : FnOK Tryd.prog 31 Tryd.f31 cd31 pl31 := ⟨Tryd.func31, rfl, by kernel_rfl, by kernel_rfl⟩
instance isf31 : IsFn Tryd.prog 31 := ⟨by kernel_rfl⟩
-- anchorhold/script.Norm
noncomputable def cd33 : Code := match Tryd.f33.body with
  | some c => c
  | none => .skip
noncomputable def pl33 : Nat → Plan := fun _ => .fin
theorem fn33 : FnOK Tryd.prog 33 Tryd.f33 cd33 pl33 := ⟨Tryd.func33, rfl, by kernel_rfl, by kernel_rfl⟩
instance isf33 : IsFn Tryd.prog 33 := ⟨by kernel_rfl⟩
-- anchorhold/anchorholdref29.Norm
noncomputable def cd34 : Code := match Tryd.f34.body with
  | some c => c
  | none => .skip
noncomputable def pl34 : Nat → Plan := fun _ => .fin
theorem fn34 : FnOK Tryd.prog 34 Tryd.f34 cd34 pl34 := ⟨Tryd.func34, rfl, by kernel_rfl, by kernel_rfl⟩
instance isf34 : IsFn Tryd.prog 34 := ⟨by kernel_rfl⟩
-- anchorhold/anchorholdref29.Read
noncomputable def cd37 : Code := match Tryd.f37.body with
  | some c => c
  | none => .skip
noncomputable def pl37 : Nat → Plan
  | 25 => .st ⟨0, false, []⟩ (.st ⟨1, false, []⟩ (.st ⟨2, false, []⟩ (.st ⟨3, false, []⟩ (.st ⟨4, false, []⟩ (.st ⟨5, false, []⟩ (.st ⟨6, false, []⟩ (.st ⟨7, false, []⟩ (.st ⟨8, true, [0, 1, 3, 4, 6, 7]⟩ (.st ⟨9, true, [0, 1]⟩ (.st ⟨10, false, []⟩ (.st ⟨11, true, []⟩ (.fin))))))))))))
  | 30 => .st ⟨0, false, []⟩ (.st ⟨1, false, []⟩ (.st ⟨2, false, []⟩ (.st ⟨3, false, []⟩ (.st ⟨4, false, []⟩ (.st ⟨5, false, []⟩ (.st ⟨6, false, []⟩ (.st ⟨7, false, []⟩ (.st ⟨8, false, []⟩ (.st ⟨9, false, []⟩ (.st ⟨10, false, []⟩ (.st ⟨11, false, []⟩ (.st ⟨12, false, []⟩ (.st ⟨13, false, []⟩ (.st ⟨14, false, []⟩ (.st ⟨15, true, [0, 1, 3, 4, 6, 7, 9, 10, 12, 13]⟩ (.st ⟨16, true, [0, 1, 3, 4]⟩ (.st ⟨17, false, []⟩ (.st ⟨18, true, []⟩ (.fin)))))))))))))))))))
  | _ => .fin
theorem fn37 : FnOK Tryd.prog 37 Tryd.f37 cd37 pl37 := ⟨Tryd.func37, rfl, by kernel_rfl, by kernel_rfl⟩
instance isf37 : IsFn Tryd.prog 37 := ⟨by kernel_rfl⟩
-- anchorhold/trace.Line
noncomputable def cd44 : Code := match Tryd.f44.body with
  | some c => c
  | none => .skip
noncomputable def pl44 : Nat → Plan
  | 1 => .st ⟨0, false, []⟩ (.st ⟨1, false, []⟩ (.st ⟨3, false, []⟩ (.st ⟨4, false, []⟩ (.st ⟨6, false, []⟩ (.st ⟨7, false, []⟩ (.st ⟨9, false, []⟩ (.st ⟨10, false, []⟩ (.st ⟨12, false, []⟩ (.st ⟨13, false, []⟩ (.st ⟨15, false, []⟩ (.st ⟨16, false, []⟩ (.st ⟨2, true, [3, 4, 6, 7, 9, 10, 12, 13, 15, 16]⟩ (.st ⟨5, true, [6, 7, 9, 10, 12, 13, 15, 16]⟩ (.st ⟨8, true, [9, 10, 12, 13, 15, 16]⟩ (.st ⟨11, true, [12, 13, 15, 16]⟩ (.st ⟨14, true, [15, 16]⟩ (.st ⟨17, true, []⟩ (.st ⟨18, true, []⟩ (.st ⟨19, true, []⟩ (.st ⟨20, false, []⟩ (.fin)))))))))))))))))))))
  | _ => .fin
theorem fn44 : FnOK Tryd.prog 44 Tryd.f44 cd44 pl44 := ⟨Tryd.func44, rfl, by kernel_rfl, by kernel_rfl⟩
instance isf44 : IsFn Tryd.prog 44 := ⟨by kernel_rfl⟩
-- anchorhold/call.Number
noncomputable def cd50 : Code := match Tryd.f50.body with
  | some c => c
  | none => .skip
noncomputable def pl50 : Nat → Plan := fun _ => .fin
theorem fn50 : FnOK Tryd.prog 50 Tryd.f50 cd50 pl50 := ⟨Tryd.func50, rfl, by kernel_rfl, by kernel_rfl⟩
instance isf50 : IsFn Tryd.prog 50 := ⟨by kernel_rfl⟩
-- anchorhold/call.Name
noncomputable def cd55 : Code := match Tryd.f55.body with
  | some c => c
  | none => .skip
noncomputable def pl55 : Nat → Plan := fun _ => .fin
theorem fn55 : FnOK Tryd.prog 55 Tryd.f55 cd55 pl55 := ⟨Tryd.func55, rfl, by kernel_rfl, by kernel_rfl⟩
instance isf55 : IsFn Tryd.prog 55 := ⟨by kernel_rfl⟩
-- anchorhold/anchorholdref22.Is
noncomputable def cd59 : Code := match Tryd.f59.body with
  | some c => c
  | none => .skip
noncomputable def pl59 : Nat → Plan := fun _ => .fin
theorem fn59 : FnOK Tryd.prog 59 Tryd.f59 cd59 pl59 := ⟨Tryd.func59, rfl, by kernel_rfl, by kernel_rfl⟩
instance isf59 : IsFn Tryd.prog 59 := ⟨by kernel_rfl⟩
-- strings.Cut
instance isf63 : IsFn Tryd.prog 63 := ⟨by kernel_rfl⟩
-- anchorhold/trace.one
noncomputable def cd64 : Code := match Tryd.f64.body with
  | some c => c
  | none => .skip
noncomputable def pl64 : Nat → Plan := fun _ => .fin
theorem fn64 : FnOK Tryd.prog 64 Tryd.f64 cd64 pl64 := ⟨Tryd.func64, rfl, by kernel_rfl, by kernel_rfl⟩
instance isf64 : IsFn Tryd.prog 64 := ⟨by kernel_rfl⟩
-- anchorhold/anchorholdref29.Frame
noncomputable def cd68 : Code := match Tryd.f68.body with
  | some c => c
  | none => .skip
noncomputable def pl68 : Nat → Plan
  | 1 => .st ⟨0, false, []⟩ (.st ⟨1, false, []⟩ (.st ⟨5, false, []⟩ (.st ⟨6, false, []⟩ (.st ⟨10, false, []⟩ (.st ⟨11, false, []⟩ (.st ⟨15, false, []⟩ (.st ⟨16, false, []⟩ (.st ⟨2, true, [5, 6, 10, 11, 15, 16]⟩ (.st ⟨3, false, []⟩ (.st ⟨4, false, []⟩ (.st ⟨7, true, [10, 11, 15, 16, 3, 4]⟩ (.st ⟨8, false, []⟩ (.st ⟨9, false, []⟩ (.st ⟨12, true, [15, 16, 3, 4, 8, 9]⟩ (.st ⟨13, false, []⟩ (.st ⟨14, false, []⟩ (.st ⟨17, true, [3, 4, 8, 9, 13, 14]⟩ (.st ⟨18, false, []⟩ (.st ⟨19, false, []⟩ (.fin))))))))))))))))))))
  | _ => .fin
theorem fn68 : FnOK Tryd.prog 68 Tryd.f68 cd68 pl68 := ⟨Tryd.func68, rfl, by kernel_rfl, by kernel_rfl⟩
instance isf68 : IsFn Tryd.prog 68 := ⟨by kernel_rfl⟩
-- anchorhold/anchorholdref22.Read
noncomputable def cd74 : Code := match Tryd.f74.body with
  | some c => c
  | none => .skip
noncomputable def pl74 : Nat → Plan
  | 25 => .st ⟨0, false, []⟩ (.st ⟨1, false, []⟩ (.st ⟨2, false, []⟩ (.st ⟨3, false, []⟩ (.st ⟨4, false, []⟩ (.st ⟨5, false, []⟩ (.st ⟨6, false, []⟩ (.st ⟨7, false, []⟩ (.st ⟨8, false, []⟩ (.st ⟨9, false, []⟩ (.st ⟨10, false, []⟩ (.st ⟨11, false, []⟩ (.st ⟨12, false, []⟩ (.st ⟨13, false, []⟩ (.st ⟨14, false, []⟩ (.st ⟨15, true, []⟩ (.st ⟨16, false, []⟩ (.fin)))))))))))))))))
  | _ => .fin
theorem fn74 : FnOK Tryd.prog 74 Tryd.f74 cd74 pl74 := ⟨Tryd.func74, rfl, by kernel_rfl, by kernel_rfl⟩
instance isf74 : IsFn Tryd.prog 74 := ⟨by kernel_rfl⟩
-- slices.EqualFunc[[][][]anchorhold/api.Step,[][][]anchorhold/api.Step,[][]anchorhold/api.Step,[][]anchorhold/api.Step]
noncomputable def cd78 : Code := match Tryd.f78.body with
  | some c => c
  | none => .skip
noncomputable def pl78 : Nat → Plan := fun _ => .fin
theorem fn78 : FnOK Tryd.prog 78 Tryd.f78 cd78 pl78 := ⟨Tryd.func78, rfl, by kernel_rfl, by kernel_rfl⟩
instance isf78 : IsFn Tryd.prog 78 := ⟨by kernel_rfl⟩
-- (*anchorhold/setup.writer).part
noncomputable def cd82 : Code := match Tryd.f82.body with
  | some c => c
  | none => .skip
noncomputable def pl82 : Nat → Plan
  | 5 => .st ⟨0, false, []⟩ (.st ⟨1, false, []⟩ (.st ⟨2, false, []⟩ (.st ⟨3, false, []⟩ (.st ⟨4, false, []⟩ (.st ⟨5, false, []⟩ (.st ⟨6, false, []⟩ (.st ⟨7, true, [1, 2, 3, 4]⟩ (.st ⟨8, true, []⟩ (.st ⟨9, true, []⟩ (.fin))))))))))
  | 15 => .st ⟨0, false, []⟩ (.st ⟨1, false, []⟩ (.st ⟨2, false, []⟩ (.st ⟨4, false, []⟩ (.st ⟨5, false, []⟩ (.st ⟨7, false, []⟩ (.st ⟨8, false, []⟩ (.st ⟨9, false, []⟩ (.st ⟨10, false, []⟩ (.st ⟨3, true, [4, 5, 7, 8, 9, 10]⟩ (.st ⟨6, true, [7, 8, 9, 10]⟩ (.st ⟨11, true, []⟩ (.st ⟨12, true, []⟩ (.fin)))))))))))))
  | _ => .fin
theorem fn82 : FnOK Tryd.prog 82 Tryd.f82 cd82 pl82 := ⟨Tryd.func82, rfl, by kernel_rfl, by kernel_rfl⟩
instance isf82 : IsFn Tryd.prog 82 := ⟨by kernel_rfl⟩
-- slices.IndexFunc[[]anchorhold/call.kind,anchorhold/call.kind]
noncomputable def cd89 : Code := match Tryd.f89.body with
  | some c => c
  | none => .skip
noncomputable def pl89 : Nat → Plan := fun _ => .fin
theorem fn89 : FnOK Tryd.prog 89 Tryd.f89 cd89 pl89 := ⟨Tryd.func89, rfl, by kernel_rfl, by kernel_rfl⟩
instance isf89 : IsFn Tryd.prog 89 := ⟨by kernel_rfl⟩
-- strings.TrimPrefix
instance isf92 : IsFn Tryd.prog 92 := ⟨by kernel_rfl⟩
-- anchorhold/monitor.word
noncomputable def cd94 : Code := match Tryd.f94.body with
  | some c => c
  | none => .skip
noncomputable def pl94 : Nat → Plan := fun _ => .fin
theorem fn94 : FnOK Tryd.prog 94 Tryd.f94 cd94 pl94 := ⟨Tryd.func94, rfl, by kernel_rfl, by kernel_rfl⟩
instance isf94 : IsFn Tryd.prog 94 := ⟨by kernel_rfl⟩
-- anchorhold/anchorholdref22.Words
noncomputable def cd98 : Code := match Tryd.f98.body with
  | some c => c
  | none => .skip
noncomputable def pl98 : Nat → Plan := fun _ => .fin
theorem fn98 : FnOK Tryd.prog 98 Tryd.f98 cd98 pl98 := ⟨Tryd.func98, rfl, by kernel_rfl, by kernel_rfl⟩
instance isf98 : IsFn Tryd.prog 98 := ⟨by kernel_rfl⟩
-- anchorhold/call.Print
noncomputable def cd100 : Code := match Tryd.f100.body with
  | some c => c
  | none => .skip
noncomputable def pl100 : Nat → Plan
  | 1 => .st ⟨0, false, []⟩ (.st ⟨1, false, []⟩ (.st ⟨3, false, []⟩ (.st ⟨4, false, []⟩ (.st ⟨2, true, [3, 4]⟩ (.st ⟨5, true, []⟩ (.st ⟨6, true, []⟩ (.st ⟨7, false, []⟩ (.fin))))))))
  | 3 => .st ⟨0, false, []⟩ (.st ⟨1, false, []⟩ (.st ⟨3, false, []⟩ (.st ⟨4, false, []⟩ (.st ⟨2, true, [3, 4]⟩ (.st ⟨5, true, []⟩ (.st ⟨6, true, []⟩ (.st ⟨7, false, []⟩ (.fin))))))))
  | _ => .fin
theorem fn100 : FnOK Tryd.prog 100 Tryd.f100 cd100 pl100 := ⟨Tryd.func100, rfl, by kernel_rfl, by kernel_rfl⟩
instance isf100 : IsFn Tryd.prog 100 := ⟨by kernel_rfl⟩
-- (*anchorhold/script.reader).procs
noncomputable def cd106 : Code := match Tryd.f106.body with
  | some c => c
  | none => .skip
noncomputable def pl106 : Nat → Plan := fun _ => .fin
theorem fn106 : FnOK Tryd.prog 106 Tryd.f106 cd106 pl106 := ⟨Tryd.func106, rfl, by kernel_rfl, by kernel_rfl⟩
instance isf106 : IsFn Tryd.prog 106 := ⟨by kernel_rfl⟩
-- anchorhold/setup.number
noncomputable def cd110 : Code := match Tryd.f110.body with
  | some c => c
  | none => .skip
noncomputable def pl110 : Nat → Plan := fun _ => .fin
theorem fn110 : FnOK Tryd.prog 110 Tryd.f110 cd110 pl110 := ⟨Tryd.func110, rfl, by kernel_rfl, by kernel_rfl⟩
instance isf110 : IsFn Tryd.prog 110 := ⟨by kernel_rfl⟩
-- (*anchorhold/setup.reader).part
noncomputable def cd114 : Code := match Tryd.f114.body with
  | some c => c
  | none => .skip
noncomputable def pl114 : Nat → Plan
  | 1 => .st ⟨0, false, []⟩ (.st ⟨1, false, []⟩ (.st ⟨2, false, []⟩ (.st ⟨3, false, []⟩ (.st ⟨4, false, []⟩ (.st ⟨5, false, []⟩ (.st ⟨6, false, []⟩ (.st ⟨7, false, []⟩ (.st ⟨8, false, []⟩ (.st ⟨9, false, []⟩ (.st ⟨10, false, []⟩ (.st ⟨11, false, []⟩ (.st ⟨12, false, []⟩ (.st ⟨13, true, [1, 2, 4, 5, 7, 8, 10, 11, 12]⟩ (.st ⟨14, true, []⟩ (.fin)))))))))))))))
  | _ => .fin
theorem fn114 : FnOK Tryd.prog 114 Tryd.f114 cd114 pl114 := ⟨Tryd.func114, rfl, by kernel_rfl, by kernel_rfl⟩
instance isf114 : IsFn Tryd.prog 114 := ⟨by kernel_rfl⟩
-- (*anchorhold/setup.reader).config$2
noncomputable def cd120 : Code := match Tryd.f120.body with
  | some c => c
  | none => .skip
noncomputable def pl120 : Nat → Plan
  | 1 => .st ⟨0, false, []⟩ (.st ⟨1, false, []⟩ (.st ⟨2, false, []⟩ (.st ⟨3, false, []⟩ (.st ⟨4, false, []⟩ (.st ⟨5, false, []⟩ (.st ⟨6, false, []⟩ (.st ⟨7, true, []⟩ (.fin))))))))
  | _ => .fin
theorem fn120 : FnOK Tryd.prog 120 Tryd.f120 cd120 pl120 := ⟨Tryd.func120, rfl, by kernel_rfl, by kernel_rfl⟩
instance isf120 : IsFn Tryd.prog 120 := ⟨by kernel_rfl⟩
-- anchorhold/anchorholdref08.part
noncomputable def cd125 : Code := match Tryd.f125.body with
  | some c => c
  | none => .skip
noncomputable def pl125 : Nat → Plan
  | 6 => .st ⟨0, false, []⟩ (.st ⟨1, false, []⟩ (.st ⟨2, false, []⟩ (.st ⟨3, false, []⟩ (.st ⟨4, false, []⟩ (.st ⟨5, false, []⟩ (.st ⟨6, false, []⟩ (.st ⟨7, false, []⟩ (.st ⟨8, false, []⟩ (.st ⟨9, false, []⟩ (.st ⟨10, false, []⟩ (.st ⟨11, false, []⟩ (.st ⟨12, false, []⟩ (.st ⟨13, true, []⟩ (.st ⟨14, true, []⟩ (.st ⟨15, true, []⟩ (.st ⟨16, false, []⟩ (.fin)))))))))))))))))
  | 12 => .st ⟨0, false, []⟩ (.st ⟨1, false, []⟩ (.st ⟨2, false, []⟩ (.st ⟨3, false, []⟩ (.st ⟨4, false, []⟩ (.st ⟨5, false, []⟩ (.st ⟨6, false, []⟩ (.st ⟨7, false, []⟩ (.st ⟨8, false, []⟩ (.st ⟨9, false, []⟩ (.st ⟨10, false, []⟩ (.st ⟨11, false, []⟩ (.st ⟨12, false, []⟩ (.st ⟨13, false, []⟩ (.st ⟨14, false, []⟩ (.st ⟨15, false, []⟩ (.st ⟨16, false, []⟩ (.st ⟨17, false, []⟩ (.st ⟨18, false, []⟩ (.st ⟨19, true, []⟩ (.st ⟨20, true, []⟩ (.st ⟨21, true, []⟩ (.st ⟨22, false, []⟩ (.fin)))))))))))))))))))))))
  | 19 => .st ⟨0, false, []⟩ (.st ⟨1, false, []⟩ (.st ⟨2, false, []⟩ (.st ⟨3, false, []⟩ (.st ⟨4, false, []⟩ (.st ⟨5, false, []⟩ (.st ⟨6, false, []⟩ (.st ⟨7, false, []⟩ (.st ⟨8, false, []⟩ (.st ⟨9, false, []⟩ (.st ⟨10, false, []⟩ (.st ⟨11, false, []⟩ (.st ⟨12, false, []⟩ (.st ⟨13, true, []⟩ (.st ⟨14, true, []⟩ (.st ⟨15, true, []⟩ (.st ⟨16, false, []⟩ (.fin)))))))))))))))))
  | 24 => .st ⟨0, false, []⟩ (.st ⟨1, false, []⟩ (.st ⟨2, false, []⟩ (.st ⟨3, false, []⟩ (.st ⟨4, false, []⟩ (.st ⟨5, false, []⟩ (.st ⟨6, false, []⟩ (.st ⟨7, false, []⟩ (.st ⟨8, false, []⟩ (.st ⟨9, false, []⟩ (.st ⟨10, false, []⟩ (.st ⟨11, false, []⟩ (.st ⟨12, false, []⟩ (.st ⟨13, true, []⟩ (.st ⟨14, true, []⟩ (.st ⟨15, true, []⟩ (.st ⟨16, false, []⟩ (.fin)))))))))))))))))
  | 29 => .st ⟨0, false, []⟩ (.st ⟨1, false, []⟩ (.st ⟨2, false, []⟩ (.st ⟨3, false, []⟩ (.st ⟨4, false, []⟩ (.st ⟨5, false, []⟩ (.st ⟨6, false, []⟩ (.st ⟨7, false, []⟩ (.st ⟨8, false, []⟩ (.st ⟨9, false, []⟩ (.st ⟨10, false, []⟩ (.st ⟨11, false, []⟩ (.st ⟨12, false, []⟩ (.st ⟨13, true, []⟩ (.st ⟨14, true, []⟩ (.st ⟨15, true, []⟩ (.st ⟨16, false, []⟩ (.fin)))))))))))))))))
  | _ => .fin
theorem fn125 : FnOK Tryd.prog 125 Tryd.f125 cd125 pl125 := ⟨Tryd.func125, rfl, by kernel_rfl, by kernel_rfl⟩
instance isf125 : IsFn Tryd.prog 125 := ⟨by kernel_rfl⟩
-- anchorhold/setup.some[anchorhold/api.ProcConf]
noncomputable def cd153 : Code := match Tryd.f153.body with
  | some c => c
  | none => .skip
noncomputable def pl153 : Nat → Plan := fun _ => .fin
theorem fn153 : FnOK Tryd.prog 153 Tryd.f153 cd153 pl153 := ⟨Tryd.func153, rfl, by kernel_rfl, by kernel_rfl⟩
instance isf153 : IsFn Tryd.prog 153 := ⟨by kernel_rfl⟩
-- anchorhold/setup.some[anchorhold/api.SemConf]
noncomputable def cd157 : Code := match Tryd.f157.body with
  | some c => c
  | none => .skip
noncomputable def pl157 : Nat → Plan := fun _ => .fin
theorem fn157 : FnOK Tryd.prog 157 Tryd.f157 cd157 pl157 := ⟨Tryd.func157, rfl, by kernel_rfl, by kernel_rfl⟩
instance isf157 : IsFn Tryd.prog 157 := ⟨by kernel_rfl⟩
-- (*anchorhold/setup.reader).part$5
noncomputable def cd160 : Code := match Tryd.f160.body with
  | some c => c
  | none => .skip
noncomputable def pl160 : Nat → Plan
  | 1 => .st ⟨0, false, []⟩ (.st ⟨1, false, []⟩ (.st ⟨2, false, []⟩ (.st ⟨3, false, []⟩ (.st ⟨4, false, []⟩ (.st ⟨5, false, []⟩ (.st ⟨6, false, []⟩ (.st ⟨7, true, []⟩ (.fin))))))))
  | _ => .fin
theorem fn160 : FnOK Tryd.prog 160 Tryd.f160 cd160 pl160 := ⟨Tryd.func160, rfl, by kernel_rfl, by kernel_rfl⟩
instance isf160 : IsFn Tryd.prog 160 := ⟨by kernel_rfl⟩
-- (*anchorhold/setup.reader).mode$1
noncomputable def cd164 : Code := match Tryd.f164.body with
  | some c => c
  | none => .skip
noncomputable def pl164 : Nat → Plan
  | 1 => .st ⟨0, false, []⟩ (.st ⟨1, false, []⟩ (.st ⟨2, false, []⟩ (.st ⟨3, false, []⟩ (.st ⟨4, false, []⟩ (.st ⟨5, false, []⟩ (.st ⟨6, false, []⟩ (.st ⟨7, false, []⟩ (.st ⟨8, false, []⟩ (.st ⟨9, false, []⟩ (.st ⟨10, true, []⟩ (.fin)))))))))))
  | _ => .fin
theorem fn164 : FnOK Tryd.prog 164 Tryd.f164 cd164 pl164 := ⟨Tryd.func164, rfl, by kernel_rfl, by kernel_rfl⟩
instance isf164 : IsFn Tryd.prog 164 := ⟨by kernel_rfl⟩
-- (*strings.asciiSet).contains
instance isf178 : IsFn Tryd.prog 178 := ⟨by kernel_rfl⟩
-- unicode/utf8.DecodeRuneInString
instance isf179 : IsFn Tryd.prog 179 := ⟨by kernel_rfl⟩
-- unicode/utf8.DecodeLastRuneInString
instance isf181 : IsFn Tryd.prog 181 := ⟨by kernel_rfl⟩
-- unicode/utf8.decodeRuneInStringSlow
instance isf188 : IsFn Tryd.prog 188 := ⟨by kernel_rfl⟩
-- unicode/utf8.RuneStart
instance isf190 : IsFn Tryd.prog 190 := ⟨by kernel_rfl⟩
end Go.Proofs.YtgkhjgpgdfbdpaaDoor
