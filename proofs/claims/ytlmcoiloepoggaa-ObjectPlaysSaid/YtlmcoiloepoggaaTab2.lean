/- Tables, printed by a program: each function with its plans; closed facts on types. -/
import Derived.Test.YtlmcoiloepoggaaProg
import Derived.Test.YtlmcoiloepoggaaWkF
import Derived.KernelRfl
namespace Go.Proofs.Ytlmcoiloepoggaa
open Go Go.Wk
-- anchorhold/anchorholdlaw21.ProcPicks
noncomputable def cd5 : Code := match Try.f5.body with
  | some c => c
  | none => .skip
noncomputable def pl5 : Nat → Plan := fun _ => .fin
theorem fn5 : FnOK Try.prog 5 Try.f5 cd5 pl5 := ⟨Try.func5, rfl, by kernel_rfl, by kernel_rfl⟩
instance isf5 : IsFn Try.prog 5 := ⟨by kernel_rfl⟩
-- anchorhold/anchorholdlaw21.ProcPlays
noncomputable def cd7 : Code := match Try.f7.body with
  | some c => c
  | none => .skip
noncomputable def pl7 : Nat → Plan
  | 7 => .st ⟨0, false, []⟩ (.st ⟨1, false, []⟩ (.st ⟨2, false, []⟩ (.st ⟨3, false, []⟩ (.st ⟨4, false, []⟩ (.st ⟨5, false, []⟩ (.st ⟨6, true, []⟩ (.st ⟨7, false, []⟩ (.st ⟨8, false, []⟩ (.st ⟨9, false, []⟩ (.st ⟨10, false, []⟩ (.st ⟨11, false, []⟩ (.st ⟨12, false, []⟩ (.st ⟨13, false, []⟩ (.st ⟨14, false, []⟩ (.st ⟨15, false, []⟩ (.st ⟨16, false, []⟩ (.st ⟨17, false, []⟩ (.st ⟨18, false, []⟩ (.st ⟨19, false, []⟩ (.st ⟨20, false, []⟩ (.st ⟨21, true, []⟩ (.st ⟨22, false, []⟩ (.st ⟨23, false, []⟩ (.fin))))))))))))))))))))))))
  | _ => .fin
theorem fn7 : FnOK Try.prog 7 Try.f7 cd7 pl7 := ⟨Try.func7, rfl, by kernel_rfl, by kernel_rfl⟩
instance isf7 : IsFn Try.prog 7 := ⟨by kernel_rfl⟩
-- anchorhold/anchorholdlaw18.PortNone
noncomputable def cd12 : Code := match Try.f12.body with
  | some c => c
  | none => .skip
noncomputable def pl12 : Nat → Plan
  | 12 => .st ⟨0, false, []⟩ (.st ⟨1, false, []⟩ (.st ⟨2, false, []⟩ (.st ⟨3, false, []⟩ (.st ⟨4, false, []⟩ (.st ⟨5, true, []⟩ (.st ⟨6, false, []⟩ (.st ⟨7, false, []⟩ (.st ⟨8, false, []⟩ (.st ⟨9, false, []⟩ (.st ⟨10, false, []⟩ (.st ⟨11, false, []⟩ (.st ⟨12, false, []⟩ (.st ⟨13, true, []⟩ (.st ⟨14, false, []⟩ (.st ⟨15, false, []⟩ (.st ⟨16, false, []⟩ (.st ⟨17, false, []⟩ (.st ⟨18, false, []⟩ (.st ⟨19, false, []⟩ (.st ⟨20, false, []⟩ (.st ⟨21, false, []⟩ (.st ⟨22, false, []⟩ (.st ⟨23, false, []⟩ (.st ⟨24, false, []⟩ (.st ⟨25, false, []⟩ (.st ⟨26, false, []⟩ (.st ⟨27, false, []⟩ (.st ⟨28, false, []⟩ (.st ⟨29, false, []⟩ (.st ⟨30, false, []⟩ (.st ⟨31, false, []⟩ (.st ⟨32, false, []⟩ (.st ⟨36, false, []⟩ (.st ⟨37, false, []⟩ (.st ⟨38, false, []⟩ (.st ⟨41, false, []⟩ (.st ⟨42, false, []⟩ (.st ⟨43, false, []⟩ (.st ⟨46, false, []⟩ (.st ⟨47, false, []⟩ (.st ⟨48, false, []⟩ (.st ⟨33, true, [26, 28, 29, 37, 38, 42, 43, 47, 48]⟩ (.st ⟨34, false, []⟩ (.st ⟨35, false, []⟩ (.st ⟨39, true, [26, 28, 29, 42, 43, 47, 48, 34, 35]⟩ (.st ⟨40, false, []⟩ (.st ⟨44, true, [26, 28, 29, 47, 48, 34, 35, 40]⟩ (.st ⟨45, false, []⟩ (.st ⟨49, true, [26, 28, 29, 34, 35, 40, 45]⟩ (.st ⟨50, false, []⟩ (.st ⟨51, false, []⟩ (.st ⟨52, false, []⟩ (.st ⟨53, false, []⟩ (.st ⟨54, false, []⟩ (.st ⟨55, false, []⟩ (.st ⟨56, false, []⟩ (.st ⟨57, false, []⟩ (.st ⟨58, false, []⟩ (.st ⟨59, true, []⟩ (.st ⟨60, false, []⟩ (.st ⟨61, false, []⟩ (.st ⟨62, false, []⟩ (.st ⟨63, false, []⟩ (.st ⟨64, false, []⟩ (.st ⟨65, true, []⟩ (.st ⟨66, false, []⟩ (.fin)))))))))))))))))))))))))))))))))))))))))))))))))))))))))))))))))))
  | _ => .fin
theorem fn12 : FnOK Try.prog 12 Try.f12 cd12 pl12 := ⟨Try.func12, rfl, by kernel_rfl, by kernel_rfl⟩
instance isf12 : IsFn Try.prog 12 := ⟨by kernel_rfl⟩
-- (*anchorhold/proc.Table).Len
noncomputable def cd23 : Code := match Try.f23.body with
  | some c => c
  | none => .skip
noncomputable def pl23 : Nat → Plan := fun _ => .fin
theorem fn23 : FnOK Try.prog 23 Try.f23 cd23 pl23 := ⟨Try.func23, rfl, by kernel_rfl, by kernel_rfl⟩
instance isf23 : IsFn Try.prog 23 := ⟨by kernel_rfl⟩
-- (*anchorhold/proc.Table).Free
noncomputable def cd25 : Code := match Try.f25.body with
  | some c => c
  | none => .skip
noncomputable def pl25 : Nat → Plan
  | 5 => .st ⟨0, false, []⟩ (.st ⟨1, false, []⟩ (.st ⟨2, false, []⟩ (.st ⟨3, false, []⟩ (.st ⟨4, false, []⟩ (.st ⟨5, false, []⟩ (.st ⟨6, true, []⟩ (.fin)))))))
  | _ => .fin
theorem fn25 : FnOK Try.prog 25 Try.f25 cd25 pl25 := ⟨Try.func25, rfl, by kernel_rfl, by kernel_rfl⟩
instance isf25 : IsFn Try.prog 25 := ⟨by kernel_rfl⟩
-- (*anchorhold/proc.Table).State
noncomputable def cd29 : Code := match Try.f29.body with
  | some c => c
  | none => .skip
noncomputable def pl29 : Nat → Plan := fun _ => .fin
theorem fn29 : FnOK Try.prog 29 Try.f29 cd29 pl29 := ⟨Try.func29, rfl, by kernel_rfl, by kernel_rfl⟩
instance isf29 : IsFn Try.prog 29 := ⟨by kernel_rfl⟩
-- (*anchorhold/object.Objects).Show
noncomputable def cd32 : Code := match Try.f32.body with
  | some c => c
  | none => .skip
noncomputable def pl32 : Nat → Plan := fun _ => .fin
theorem fn32 : FnOK Try.prog 32 Try.f32 cd32 pl32 := ⟨Try.func32, rfl, by kernel_rfl, by kernel_rfl⟩
instance isf32 : IsFn Try.prog 32 := ⟨by kernel_rfl⟩
-- (*anchorhold/object.Objects).Get
noncomputable def cd34 : Code := match Try.f34.body with
  | some c => c
  | none => .skip
noncomputable def pl34 : Nat → Plan := fun _ => .fin
theorem fn34 : FnOK Try.prog 34 Try.f34 cd34 pl34 := ⟨Try.func34, rfl, by kernel_rfl, by kernel_rfl⟩
instance isf34 : IsFn Try.prog 34 := ⟨by kernel_rfl⟩
-- (*anchorhold/proc.Table).Waits
noncomputable def cd36 : Code := match Try.f36.body with
  | some c => c
  | none => .skip
noncomputable def pl36 : Nat → Plan
  | 2 => .st ⟨0, false, []⟩ (.st ⟨1, false, []⟩ (.st ⟨2, false, []⟩ (.st ⟨3, false, []⟩ (.st ⟨4, false, []⟩ (.st ⟨5, false, []⟩ (.st ⟨6, false, []⟩ (.st ⟨7, false, []⟩ (.st ⟨8, false, []⟩ (.st ⟨9, false, []⟩ (.st ⟨10, false, []⟩ (.st ⟨11, false, []⟩ (.fin))))))))))))
  | _ => .fin
theorem fn36 : FnOK Try.prog 36 Try.f36 cd36 pl36 := ⟨Try.func36, rfl, by kernel_rfl, by kernel_rfl⟩
instance isf36 : IsFn Try.prog 36 := ⟨by kernel_rfl⟩
-- (*anchorhold/proc.Table).Park
noncomputable def cd41 : Code := match Try.f41.body with
  | some c => c
  | none => .skip
noncomputable def pl41 : Nat → Plan
  | 5 => .st ⟨0, false, []⟩ (.st ⟨1, false, []⟩ (.st ⟨2, false, []⟩ (.st ⟨3, false, []⟩ (.st ⟨4, false, []⟩ (.st ⟨5, false, []⟩ (.st ⟨6, true, []⟩ (.fin)))))))
  | _ => .fin
theorem fn41 : FnOK Try.prog 41 Try.f41 cd41 pl41 := ⟨Try.func41, rfl, by kernel_rfl, by kernel_rfl⟩
instance isf41 : IsFn Try.prog 41 := ⟨by kernel_rfl⟩
-- anchorhold/anchorholdlaw18.works
noncomputable def cd44 : Code := match Try.f44.body with
  | some c => c
  | none => .skip
noncomputable def pl44 : Nat → Plan := fun _ => .fin
theorem fn44 : FnOK Try.prog 44 Try.f44 cd44 pl44 := ⟨Try.func44, rfl, by kernel_rfl, by kernel_rfl⟩
instance isf44 : IsFn Try.prog 44 := ⟨by kernel_rfl⟩
-- (*anchorhold/port.Ports).Receive
noncomputable def cd47 : Code := match Try.f47.body with
  | some c => c
  | none => .skip
noncomputable def pl47 : Nat → Plan := fun _ => .fin
theorem fn47 : FnOK Try.prog 47 Try.f47 cd47 pl47 := ⟨Try.func47, rfl, by kernel_rfl, by kernel_rfl⟩
instance isf47 : IsFn Try.prog 47 := ⟨by kernel_rfl⟩
-- (*anchorhold/port.Ports).Read
noncomputable def cd51 : Code := match Try.f51.body with
  | some c => c
  | none => .skip
noncomputable def pl51 : Nat → Plan := fun _ => .fin
theorem fn51 : FnOK Try.prog 51 Try.f51 cd51 pl51 := ⟨Try.func51, rfl, by kernel_rfl, by kernel_rfl⟩
instance isf51 : IsFn Try.prog 51 := ⟨by kernel_rfl⟩
-- anchorhold/anchorholdlaw18.done
noncomputable def cd55 : Code := match Try.f55.body with
  | some c => c
  | none => .skip
noncomputable def pl55 : Nat → Plan
  | 3 => .st ⟨0, false, []⟩ (.st ⟨1, false, []⟩ (.st ⟨2, false, []⟩ (.st ⟨3, false, []⟩ (.st ⟨4, false, []⟩ (.st ⟨6, false, []⟩ (.st ⟨7, false, []⟩ (.st ⟨8, false, []⟩ (.st ⟨9, false, []⟩ (.st ⟨10, false, []⟩ (.st ⟨5, true, [7, 8, 9, 10]⟩ (.st ⟨11, true, []⟩ (.st ⟨12, false, []⟩ (.st ⟨13, false, []⟩ (.fin))))))))))))))
  | 9 => .st ⟨0, false, []⟩ (.st ⟨1, false, []⟩ (.st ⟨2, false, []⟩ (.st ⟨3, false, []⟩ (.st ⟨4, false, []⟩ (.st ⟨6, false, []⟩ (.st ⟨7, false, []⟩ (.st ⟨8, false, []⟩ (.st ⟨9, false, []⟩ (.st ⟨10, false, []⟩ (.st ⟨5, true, [7, 8, 9, 10]⟩ (.st ⟨11, true, []⟩ (.st ⟨12, false, []⟩ (.st ⟨13, false, []⟩ (.fin))))))))))))))
  | 15 => .st ⟨0, false, []⟩ (.st ⟨1, false, []⟩ (.st ⟨2, false, []⟩ (.st ⟨4, false, []⟩ (.st ⟨5, false, []⟩ (.st ⟨6, false, []⟩ (.st ⟨3, true, [5, 6]⟩ (.st ⟨7, true, []⟩ (.st ⟨8, true, []⟩ (.st ⟨9, false, []⟩ (.fin))))))))))
  | 17 => .st ⟨0, false, []⟩ (.st ⟨1, false, []⟩ (.st ⟨2, false, []⟩ (.st ⟨3, false, []⟩ (.st ⟨4, false, []⟩ (.st ⟨6, false, []⟩ (.st ⟨7, false, []⟩ (.st ⟨8, false, []⟩ (.st ⟨9, false, []⟩ (.st ⟨10, false, []⟩ (.st ⟨5, true, [7, 8, 9, 10]⟩ (.st ⟨11, true, []⟩ (.st ⟨12, false, []⟩ (.st ⟨13, false, []⟩ (.fin))))))))))))))
  | _ => .fin
theorem fn55 : FnOK Try.prog 55 Try.f55 cd55 pl55 := ⟨Try.func55, rfl, by kernel_rfl, by kernel_rfl⟩
instance isf55 : IsFn Try.prog 55 := ⟨by kernel_rfl⟩
-- anchorhold/anchorholdref20.New
noncomputable def cd61 : Code := match Try.f61.body with
  | some c => c
  | none => .skip
noncomputable def pl61 : Nat → Plan
  | 5 => .st ⟨0, false, []⟩ (.st ⟨1, false, []⟩ (.st ⟨2, false, []⟩ (.st ⟨3, false, []⟩ (.st ⟨4, false, []⟩ (.st ⟨5, false, []⟩ (.st ⟨6, false, []⟩ (.st ⟨7, false, []⟩ (.st ⟨8, false, []⟩ (.st ⟨9, false, []⟩ (.st ⟨10, false, []⟩ (.st ⟨11, true, [2, 3, 4]⟩ (.st ⟨12, true, []⟩ (.st ⟨13, false, []⟩ (.st ⟨14, false, []⟩ (.st ⟨15, true, []⟩ (.fin))))))))))))))))
  | _ => .fin
theorem fn61 : FnOK Try.prog 61 Try.f61 cd61 pl61 := ⟨Try.func61, rfl, by kernel_rfl, by kernel_rfl⟩
instance isf61 : IsFn Try.prog 61 := ⟨by kernel_rfl⟩
-- (*anchorhold/object.Objects).Clear
noncomputable def cd64 : Code := match Try.f64.body with
  | some c => c
  | none => .skip
noncomputable def pl64 : Nat → Plan := fun _ => .fin
theorem fn64 : FnOK Try.prog 64 Try.f64 cd64 pl64 := ⟨Try.func64, rfl, by kernel_rfl, by kernel_rfl⟩
instance isf64 : IsFn Try.prog 64 := ⟨by kernel_rfl⟩
-- (*anchorhold/object.Objects).Size
noncomputable def cd66 : Code := match Try.f66.body with
  | some c => c
  | none => .skip
noncomputable def pl66 : Nat → Plan := fun _ => .fin
theorem fn66 : FnOK Try.prog 66 Try.f66 cd66 pl66 := ⟨Try.func66, rfl, by kernel_rfl, by kernel_rfl⟩
instance isf66 : IsFn Try.prog 66 := ⟨by kernel_rfl⟩
-- (*anchorhold/object.Objects).Wipe
noncomputable def cd68 : Code := match Try.f68.body with
  | some c => c
  | none => .skip
noncomputable def pl68 : Nat → Plan := fun _ => .fin
theorem fn68 : FnOK Try.prog 68 Try.f68 cd68 pl68 := ⟨Try.func68, rfl, by kernel_rfl, by kernel_rfl⟩
instance isf68 : IsFn Try.prog 68 := ⟨by kernel_rfl⟩
-- (*anchorhold/anchorholdref21.Table).Start
noncomputable def cd70 : Code := match Try.f70.body with
  | some c => c
  | none => .skip
noncomputable def pl70 : Nat → Plan := fun _ => .fin
theorem fn70 : FnOK Try.prog 70 Try.f70 cd70 pl70 := ⟨Try.func70, rfl, by kernel_rfl, by kernel_rfl⟩
instance isf70 : IsFn Try.prog 70 := ⟨by kernel_rfl⟩
-- (*anchorhold/anchorholdref21.Table).Wait
noncomputable def cd72 : Code := match Try.f72.body with
  | some c => c
  | none => .skip
noncomputable def pl72 : Nat → Plan := fun _ => .fin
theorem fn72 : FnOK Try.prog 72 Try.f72 cd72 pl72 := ⟨Try.func72, rfl, by kernel_rfl, by kernel_rfl⟩
instance isf72 : IsFn Try.prog 72 := ⟨by kernel_rfl⟩
-- (*anchorhold/anchorholdref21.Table).Free
noncomputable def cd75 : Code := match Try.f75.body with
  | some c => c
  | none => .skip
noncomputable def pl75 : Nat → Plan := fun _ => .fin
theorem fn75 : FnOK Try.prog 75 Try.f75 cd75 pl75 := ⟨Try.func75, rfl, by kernel_rfl, by kernel_rfl⟩
instance isf75 : IsFn Try.prog 75 := ⟨by kernel_rfl⟩
-- (*anchorhold/anchorholdref21.Table).Release
noncomputable def cd78 : Code := match Try.f78.body with
  | some c => c
  | none => .skip
noncomputable def pl78 : Nat → Plan := fun _ => .fin
theorem fn78 : FnOK Try.prog 78 Try.f78 cd78 pl78 := ⟨Try.func78, rfl, by kernel_rfl, by kernel_rfl⟩
instance isf78 : IsFn Try.prog 78 := ⟨by kernel_rfl⟩
-- (*anchorhold/proc.Table).put
noncomputable def cd80 : Code := match Try.f80.body with
  | some c => c
  | none => .skip
noncomputable def pl80 : Nat → Plan
  | 7 => .st ⟨0, false, []⟩ (.st ⟨1, false, []⟩ (.st ⟨2, false, []⟩ (.st ⟨3, false, []⟩ (.st ⟨4, false, []⟩ (.st ⟨5, false, []⟩ (.st ⟨6, true, []⟩ (.fin)))))))
  | _ => .fin
theorem fn80 : FnOK Try.prog 80 Try.f80 cd80 pl80 := ⟨Try.func80, rfl, by kernel_rfl, by kernel_rfl⟩
instance isf80 : IsFn Try.prog 80 := ⟨by kernel_rfl⟩
-- (*anchorhold/object.Objects).pool
noncomputable def cd83 : Code := match Try.f83.body with
  | some c => c
  | none => .skip
noncomputable def pl83 : Nat → Plan := fun _ => .fin
theorem fn83 : FnOK Try.prog 83 Try.f83 cd83 pl83 := ⟨Try.func83, rfl, by kernel_rfl, by kernel_rfl⟩
instance isf83 : IsFn Try.prog 83 := ⟨by kernel_rfl⟩
-- slices.Clone[[]byte,byte]
noncomputable def cd85 : Code := match Try.f85.body with
  | some c => c
  | none => .skip
noncomputable def pl85 : Nat → Plan := fun _ => .fin
theorem fn85 : FnOK Try.prog 85 Try.f85 cd85 pl85 := ⟨Try.func85, rfl, by kernel_rfl, by kernel_rfl⟩
instance isf85 : IsFn Try.prog 85 := ⟨by kernel_rfl⟩
-- (*anchorhold/anchorholdref21.Table).Pick
noncomputable def cd88 : Code := match Try.f88.body with
  | some c => c
  | none => .skip
noncomputable def pl88 : Nat → Plan
  | 5 => .st ⟨0, false, []⟩ (.st ⟨1, false, []⟩ (.st ⟨2, false, []⟩ (.st ⟨3, false, []⟩ (.st ⟨4, false, []⟩ (.st ⟨5, false, []⟩ (.st ⟨6, false, []⟩ (.st ⟨7, false, []⟩ (.st ⟨8, false, []⟩ (.st ⟨9, false, []⟩ (.st ⟨10, false, []⟩ (.st ⟨11, false, []⟩ (.st ⟨12, false, []⟩ (.st ⟨13, false, []⟩ (.st ⟨14, false, []⟩ (.st ⟨15, false, []⟩ (.st ⟨16, false, []⟩ (.st ⟨17, false, []⟩ (.st ⟨18, false, []⟩ (.st ⟨19, false, []⟩ (.st ⟨20, false, []⟩ (.st ⟨21, false, []⟩ (.st ⟨22, false, []⟩ (.st ⟨23, false, []⟩ (.st ⟨24, false, []⟩ (.st ⟨25, false, []⟩ (.st ⟨26, false, []⟩ (.st ⟨27, false, []⟩ (.st ⟨28, false, []⟩ (.st ⟨29, false, []⟩ (.st ⟨30, false, []⟩ (.st ⟨31, false, []⟩ (.st ⟨32, false, []⟩ (.st ⟨33, false, []⟩ (.st ⟨34, false, []⟩ (.st ⟨35, false, []⟩ (.st ⟨36, false, []⟩ (.st ⟨37, false, []⟩ (.st ⟨38, true, []⟩ (.st ⟨39, false, []⟩ (.st ⟨40, false, []⟩ (.fin)))))))))))))))))))))))))))))))))))))))))
  | _ => .fin
theorem fn88 : FnOK Try.prog 88 Try.f88 cd88 pl88 := ⟨Try.func88, rfl, by kernel_rfl, by kernel_rfl⟩
instance isf88 : IsFn Try.prog 88 := ⟨by kernel_rfl⟩
-- (*anchorhold/port.Ports).into
noncomputable def cd94 : Code := match Try.f94.body with
  | some c => c
  | none => .skip
noncomputable def pl94 : Nat → Plan := fun _ => .fin
theorem fn94 : FnOK Try.prog 94 Try.f94 cd94 pl94 := ⟨Try.func94, rfl, by kernel_rfl, by kernel_rfl⟩
instance isf94 : IsFn Try.prog 94 := ⟨by kernel_rfl⟩
-- (*anchorhold/anchorholdref18.Ports).Read
noncomputable def cd97 : Code := match Try.f97.body with
  | some c => c
  | none => .skip
noncomputable def pl97 : Nat → Plan := fun _ => .fin
theorem fn97 : FnOK Try.prog 97 Try.f97 cd97 pl97 := ⟨Try.func97, rfl, by kernel_rfl, by kernel_rfl⟩
instance isf97 : IsFn Try.prog 97 := ⟨by kernel_rfl⟩
-- (*anchorhold/anchorholdref18.Ports).Drain
noncomputable def cd100 : Code := match Try.f100.body with
  | some c => c
  | none => .skip
noncomputable def pl100 : Nat → Plan
  | 6 => .st ⟨0, false, []⟩ (.st ⟨1, false, []⟩ (.st ⟨2, false, []⟩ (.st ⟨3, false, []⟩ (.st ⟨4, false, []⟩ (.st ⟨5, false, []⟩ (.st ⟨6, false, []⟩ (.st ⟨7, false, []⟩ (.st ⟨8, false, []⟩ (.st ⟨9, false, []⟩ (.st ⟨10, false, []⟩ (.st ⟨11, false, []⟩ (.st ⟨12, false, []⟩ (.st ⟨13, false, []⟩ (.st ⟨14, false, []⟩ (.st ⟨15, false, []⟩ (.st ⟨16, true, []⟩ (.fin)))))))))))))))))
  | _ => .fin
theorem fn100 : FnOK Try.prog 100 Try.f100 cd100 pl100 := ⟨Try.func100, rfl, by kernel_rfl, by kernel_rfl⟩
instance isf100 : IsFn Try.prog 100 := ⟨by kernel_rfl⟩
-- (*anchorhold/anchorholdref18.Ports).Clear
noncomputable def cd102 : Code := match Try.f102.body with
  | some c => c
  | none => .skip
noncomputable def pl102 : Nat → Plan := fun _ => .fin
theorem fn102 : FnOK Try.prog 102 Try.f102 cd102 pl102 := ⟨Try.func102, rfl, by kernel_rfl, by kernel_rfl⟩
instance isf102 : IsFn Try.prog 102 := ⟨by kernel_rfl⟩
-- (*anchorhold/anchorholdref20.Objects).Flag
noncomputable def cd106 : Code := match Try.f106.body with
  | some c => c
  | none => .skip
noncomputable def pl106 : Nat → Plan := fun _ => .fin
theorem fn106 : FnOK Try.prog 106 Try.f106 cd106 pl106 := ⟨Try.func106, rfl, by kernel_rfl, by kernel_rfl⟩
instance isf106 : IsFn Try.prog 106 := ⟨by kernel_rfl⟩
-- (*anchorhold/anchorholdref20.Objects).Put
noncomputable def cd107 : Code := match Try.f107.body with
  | some c => c
  | none => .skip
noncomputable def pl107 : Nat → Plan
  | 5 => .st ⟨0, false, []⟩ (.st ⟨1, false, []⟩ (.st ⟨2, false, []⟩ (.st ⟨3, false, []⟩ (.st ⟨4, false, []⟩ (.st ⟨5, false, []⟩ (.st ⟨6, false, []⟩ (.st ⟨7, false, []⟩ (.st ⟨8, false, []⟩ (.st ⟨9, false, []⟩ (.st ⟨10, false, []⟩ (.st ⟨11, false, []⟩ (.st ⟨12, false, []⟩ (.st ⟨13, false, []⟩ (.st ⟨14, false, []⟩ (.st ⟨15, false, []⟩ (.st ⟨16, false, []⟩ (.st ⟨17, false, []⟩ (.fin))))))))))))))))))
  | 8 => .st ⟨0, false, []⟩ (.st ⟨1, false, []⟩ (.st ⟨2, false, []⟩ (.st ⟨3, false, []⟩ (.st ⟨4, false, []⟩ (.st ⟨6, false, []⟩ (.st ⟨7, false, []⟩ (.st ⟨8, false, []⟩ (.st ⟨9, false, []⟩ (.st ⟨10, false, []⟩ (.st ⟨11, false, []⟩ (.st ⟨12, false, []⟩ (.st ⟨14, false, []⟩ (.br (.st ⟨5, true, [1, 2, 3, 7, 8, 9, 11, 12]⟩ (.br (.st ⟨13, true, [1, 2, 3]⟩ (.st ⟨15, true, [1, 2, 3, 7, 8, 9, 11, 12]⟩ (.st ⟨16, true, [1, 2, 3]⟩ (.st ⟨17, false, []⟩ (.st ⟨18, true, []⟩ (.fin)))))) (.st ⟨15, true, [1, 2, 3, 7, 8, 9, 11, 12]⟩ (.st ⟨13, true, [1, 2, 3]⟩ (.st ⟨16, true, [1, 2, 3]⟩ (.st ⟨17, false, []⟩ (.st ⟨18, true, []⟩ (.fin)))))))) (.st ⟨15, true, [1, 2, 3, 7, 8, 9, 11, 12]⟩ (.st ⟨5, true, [1, 2, 3, 7, 8, 9, 11, 12]⟩ (.st ⟨13, true, [1, 2, 3]⟩ (.st ⟨16, true, [1, 2, 3]⟩ (.st ⟨17, false, []⟩ (.st ⟨18, true, []⟩ (.fin))))))))))))))))))))
  | _ => .fin
theorem fn107 : FnOK Try.prog 107 Try.f107 cd107 pl107 := ⟨Try.func107, rfl, by kernel_rfl, by kernel_rfl⟩
instance isf107 : IsFn Try.prog 107 := ⟨by kernel_rfl⟩
-- (*anchorhold/object.Objects).Clear$1
noncomputable def cd117 : Code := match Try.f117.body with
  | some c => c
  | none => .skip
noncomputable def pl117 : Nat → Plan := fun _ => .fin
theorem fn117 : FnOK Try.prog 117 Try.f117 cd117 pl117 := ⟨Try.func117, rfl, by kernel_rfl, by kernel_rfl⟩
instance isf117 : IsFn Try.prog 117 := ⟨by kernel_rfl⟩
-- anchorhold/object.some[anchorhold/api.PoolConf,anchorhold/object.pool]
noncomputable def cd120 : Code := match Try.f120.body with
  | some c => c
  | none => .skip
noncomputable def pl120 : Nat → Plan
  | 5 => .st ⟨0, false, []⟩ (.st ⟨1, false, []⟩ (.st ⟨2, false, []⟩ (.st ⟨3, false, []⟩ (.st ⟨4, true, [0, 1]⟩ (.st ⟨5, true, [0, 1]⟩ (.st ⟨6, true, []⟩ (.st ⟨7, false, []⟩ (.st ⟨8, true, []⟩ (.fin)))))))))
  | _ => .fin
theorem fn120 : FnOK Try.prog 120 Try.f120 cd120 pl120 := ⟨Try.func120, rfl, by kernel_rfl, by kernel_rfl⟩
instance isf120 : IsFn Try.prog 120 := ⟨by kernel_rfl⟩
-- (*anchorhold/anchorholdref21.Table).put
noncomputable def cd126 : Code := match Try.f126.body with
  | some c => c
  | none => .skip
noncomputable def pl126 : Nat → Plan := fun _ => .fin
theorem fn126 : FnOK Try.prog 126 Try.f126 cd126 pl126 := ⟨Try.func126, rfl, by kernel_rfl, by kernel_rfl⟩
instance isf126 : IsFn Try.prog 126 := ⟨by kernel_rfl⟩
-- (anchorhold/object.row[anchorhold/object.pool]).at
noncomputable def cd129 : Code := match Try.f129.body with
  | some c => c
  | none => .skip
noncomputable def pl129 : Nat → Plan := fun _ => .fin
theorem fn129 : FnOK Try.prog 129 Try.f129 cd129 pl129 := ⟨Try.func129, rfl, by kernel_rfl, by kernel_rfl⟩
instance isf129 : IsFn Try.prog 129 := ⟨by kernel_rfl⟩
-- (*anchorhold/anchorholdref18.Ports).put
noncomputable def cd133 : Code := match Try.f133.body with
  | some c => c
  | none => .skip
noncomputable def pl133 : Nat → Plan
  | 8 => .st ⟨0, false, []⟩ (.st ⟨1, false, []⟩ (.st ⟨2, false, []⟩ (.st ⟨3, false, []⟩ (.st ⟨4, false, []⟩ (.st ⟨5, false, []⟩ (.st ⟨6, false, []⟩ (.st ⟨7, false, []⟩ (.st ⟨8, false, []⟩ (.st ⟨9, false, []⟩ (.st ⟨10, false, []⟩ (.st ⟨11, false, []⟩ (.st ⟨12, false, []⟩ (.st ⟨13, false, []⟩ (.st ⟨14, false, []⟩ (.st ⟨15, false, []⟩ (.st ⟨16, false, []⟩ (.fin)))))))))))))))))
  | 10 => .st ⟨0, false, []⟩ (.st ⟨1, false, []⟩ (.st ⟨3, false, []⟩ (.st ⟨4, false, []⟩ (.st ⟨5, false, []⟩ (.st ⟨6, false, []⟩ (.st ⟨7, false, []⟩ (.st ⟨8, false, []⟩ (.st ⟨9, false, []⟩ (.st ⟨11, false, []⟩ (.st ⟨14, false, []⟩ (.st ⟨15, false, []⟩ (.st ⟨16, false, []⟩ (.st ⟨17, false, []⟩ (.st ⟨18, false, []⟩ (.st ⟨19, false, []⟩ (.st ⟨20, false, []⟩ (.br (.st ⟨2, true, [4, 5, 6, 8, 9, 15, 16, 17, 19, 20]⟩ (.br (.st ⟨10, true, [15, 16, 17, 19, 20]⟩ (.st ⟨12, true, [4, 5, 6, 8, 9, 15, 16, 17, 19, 20]⟩ (.st ⟨13, true, [15, 16, 17, 19, 20]⟩ (.st ⟨21, true, []⟩ (.fin))))) (.st ⟨12, true, [4, 5, 6, 8, 9, 15, 16, 17, 19, 20]⟩ (.st ⟨10, true, [15, 16, 17, 19, 20]⟩ (.st ⟨13, true, [15, 16, 17, 19, 20]⟩ (.st ⟨21, true, []⟩ (.fin))))))) (.st ⟨12, true, [4, 5, 6, 8, 9, 15, 16, 17, 19, 20]⟩ (.st ⟨2, true, [4, 5, 6, 8, 9, 15, 16, 17, 19, 20]⟩ (.st ⟨10, true, [15, 16, 17, 19, 20]⟩ (.st ⟨13, true, [15, 16, 17, 19, 20]⟩ (.st ⟨21, true, []⟩ (.fin)))))))))))))))))))))))
  | _ => .fin
theorem fn133 : FnOK Try.prog 133 Try.f133 cd133 pl133 := ⟨Try.func133, rfl, by kernel_rfl, by kernel_rfl⟩
instance isf133 : IsFn Try.prog 133 := ⟨by kernel_rfl⟩
end Go.Proofs.Ytlmcoiloepoggaa
