/- Tables, printed by a program: each function with its plans; closed facts on types. -/
import Derived.Test.YtlmcoiloepoggaaProg
import Derived.Test.YtlmcoiloepoggaaWkF
import Derived.KernelRfl
namespace Go.Proofs.Ytlmcoiloepoggaa
open Go Go.Wk
-- anchorhold/anchorholdlaw20.ObjectCounts
noncomputable def cd3 : Code := match Try.f3.body with
  | some c => c
  | none => .skip
noncomputable def pl3 : Nat → Plan
  | 9 => .st ⟨0, false, []⟩ (.st ⟨3, false, []⟩ (.st ⟨4, false, []⟩ (.st ⟨5, false, []⟩ (.st ⟨6, false, []⟩ (.st ⟨1, true, [4, 5, 6]⟩ (.st ⟨2, false, []⟩ (.st ⟨7, false, []⟩ (.fin))))))))
  | _ => .fin
theorem fn3 : FnOK Try.prog 3 Try.f3 cd3 pl3 := ⟨Try.func3, rfl, by kernel_rfl, by kernel_rfl⟩
instance isf3 : IsFn Try.prog 3 := ⟨by kernel_rfl⟩
-- anchorhold/anchorholdlaw21.ProcNone
noncomputable def cd8 : Code := match Try.f8.body with
  | some c => c
  | none => .skip
noncomputable def pl8 : Nat → Plan
  | 10 => .st ⟨0, false, []⟩ (.st ⟨2, false, []⟩ (.st ⟨3, false, []⟩ (.st ⟨4, false, []⟩ (.st ⟨7, false, []⟩ (.st ⟨8, false, []⟩ (.st ⟨9, false, []⟩ (.st ⟨12, false, []⟩ (.st ⟨14, false, []⟩ (.st ⟨16, false, []⟩ (.st ⟨18, false, []⟩ (.st ⟨19, false, []⟩ (.st ⟨21, false, []⟩ (.st ⟨22, false, []⟩ (.st ⟨24, false, []⟩ (.st ⟨25, false, []⟩ (.st ⟨26, false, []⟩ (.st ⟨1, true, [3, 4, 8, 9, 19, 22, 25, 26]⟩ (.st ⟨5, true, [8, 9, 19, 22, 25, 26]⟩ (.st ⟨6, false, []⟩ (.st ⟨10, true, [19, 22, 25, 26, 6]⟩ (.st ⟨11, false, []⟩ (.st ⟨13, false, []⟩ (.st ⟨15, false, []⟩ (.st ⟨17, false, []⟩ (.st ⟨20, false, []⟩ (.st ⟨23, false, []⟩ (.st ⟨27, true, [19, 22, 6, 11, 13, 15, 17, 20, 23]⟩ (.st ⟨28, false, []⟩ (.st ⟨29, false, []⟩ (.st ⟨30, false, []⟩ (.st ⟨31, false, []⟩ (.st ⟨32, false, []⟩ (.st ⟨33, false, []⟩ (.st ⟨34, false, []⟩ (.st ⟨35, false, []⟩ (.st ⟨36, false, []⟩ (.st ⟨37, true, []⟩ (.st ⟨38, false, []⟩ (.st ⟨39, false, []⟩ (.st ⟨40, false, []⟩ (.st ⟨41, false, []⟩ (.st ⟨42, false, []⟩ (.st ⟨43, false, []⟩ (.st ⟨44, false, []⟩ (.st ⟨45, true, []⟩ (.st ⟨46, false, []⟩ (.st ⟨47, false, []⟩ (.st ⟨48, false, []⟩ (.st ⟨49, false, []⟩ (.st ⟨50, false, []⟩ (.st ⟨51, false, []⟩ (.st ⟨52, false, []⟩ (.st ⟨53, false, []⟩ (.st ⟨54, false, []⟩ (.st ⟨55, false, []⟩ (.st ⟨56, false, []⟩ (.st ⟨57, true, []⟩ (.st ⟨58, false, []⟩ (.st ⟨59, false, []⟩ (.st ⟨60, false, []⟩ (.st ⟨61, false, []⟩ (.st ⟨62, false, []⟩ (.st ⟨63, false, []⟩ (.st ⟨64, false, []⟩ (.st ⟨65, true, []⟩ (.st ⟨66, false, []⟩ (.st ⟨67, false, []⟩ (.st ⟨68, false, []⟩ (.st ⟨69, false, []⟩ (.st ⟨70, false, []⟩ (.st ⟨71, true, []⟩ (.st ⟨72, false, []⟩ (.st ⟨73, false, []⟩ (.st ⟨74, false, []⟩ (.st ⟨75, true, []⟩ (.st ⟨76, false, []⟩ (.st ⟨77, false, []⟩ (.st ⟨78, false, []⟩ (.st ⟨79, false, []⟩ (.st ⟨80, false, []⟩ (.st ⟨81, false, []⟩ (.st ⟨82, false, []⟩ (.st ⟨83, false, []⟩ (.st ⟨84, true, []⟩ (.st ⟨85, false, []⟩ (.st ⟨86, false, []⟩ (.fin)))))))))))))))))))))))))))))))))))))))))))))))))))))))))))))))))))))))))))))))))))))))
  | _ => .fin
theorem fn8 : FnOK Try.prog 8 Try.f8 cd8 pl8 := ⟨Try.func8, rfl, by kernel_rfl, by kernel_rfl⟩
instance isf8 : IsFn Try.prog 8 := ⟨by kernel_rfl⟩
-- anchorhold/anchorholdlaw21.done
noncomputable def cd22 : Code := match Try.f22.body with
  | some c => c
  | none => .skip
noncomputable def pl22 : Nat → Plan
  | 3 => .st ⟨0, false, []⟩ (.st ⟨1, false, []⟩ (.st ⟨2, false, []⟩ (.st ⟨3, false, []⟩ (.st ⟨4, false, []⟩ (.st ⟨6, false, []⟩ (.st ⟨7, false, []⟩ (.st ⟨8, false, []⟩ (.st ⟨9, false, []⟩ (.st ⟨10, false, []⟩ (.st ⟨5, true, [7, 8, 9, 10]⟩ (.st ⟨11, true, []⟩ (.st ⟨12, false, []⟩ (.st ⟨13, false, []⟩ (.fin))))))))))))))
  | 5 => .st ⟨0, false, []⟩ (.st ⟨1, false, []⟩ (.st ⟨2, false, []⟩ (.st ⟨3, false, []⟩ (.st ⟨4, false, []⟩ (.st ⟨6, false, []⟩ (.st ⟨7, false, []⟩ (.st ⟨8, false, []⟩ (.st ⟨9, false, []⟩ (.st ⟨10, false, []⟩ (.st ⟨5, true, [7, 8, 9, 10]⟩ (.st ⟨11, true, []⟩ (.st ⟨12, false, []⟩ (.st ⟨13, false, []⟩ (.fin))))))))))))))
  | 7 => .st ⟨0, false, []⟩ (.st ⟨1, false, []⟩ (.st ⟨2, false, []⟩ (.st ⟨3, false, []⟩ (.st ⟨4, false, []⟩ (.st ⟨5, false, []⟩ (.st ⟨6, false, []⟩ (.st ⟨7, false, []⟩ (.st ⟨8, false, []⟩ (.st ⟨10, false, []⟩ (.st ⟨11, false, []⟩ (.st ⟨12, false, []⟩ (.st ⟨13, false, []⟩ (.st ⟨14, false, []⟩ (.st ⟨15, false, []⟩ (.st ⟨16, false, []⟩ (.st ⟨17, false, []⟩ (.st ⟨18, false, []⟩ (.st ⟨9, true, [11, 12, 13, 14, 15, 16, 17, 18]⟩ (.st ⟨19, true, []⟩ (.st ⟨20, false, []⟩ (.st ⟨21, false, []⟩ (.fin))))))))))))))))))))))
  | 9 => .st ⟨0, false, []⟩ (.st ⟨1, false, []⟩ (.st ⟨2, false, []⟩ (.st ⟨3, false, []⟩ (.st ⟨4, false, []⟩ (.st ⟨6, false, []⟩ (.st ⟨7, false, []⟩ (.st ⟨8, false, []⟩ (.st ⟨9, false, []⟩ (.st ⟨10, false, []⟩ (.st ⟨5, true, [7, 8, 9, 10]⟩ (.st ⟨11, true, []⟩ (.st ⟨12, false, []⟩ (.st ⟨13, false, []⟩ (.fin))))))))))))))
  | 11 => .st ⟨0, false, []⟩ (.st ⟨1, false, []⟩ (.st ⟨2, false, []⟩ (.st ⟨4, false, []⟩ (.st ⟨5, false, []⟩ (.st ⟨6, false, []⟩ (.st ⟨3, true, [5, 6]⟩ (.st ⟨7, true, []⟩ (.st ⟨8, false, []⟩ (.st ⟨9, false, []⟩ (.fin))))))))))
  | 17 => .st ⟨0, false, []⟩ (.st ⟨1, false, []⟩ (.st ⟨2, false, []⟩ (.st ⟨4, false, []⟩ (.st ⟨5, false, []⟩ (.st ⟨6, false, []⟩ (.st ⟨3, true, [5, 6]⟩ (.st ⟨7, true, []⟩ (.st ⟨8, true, []⟩ (.st ⟨9, false, []⟩ (.fin))))))))))
  | _ => .fin
theorem fn22 : FnOK Try.prog 22 Try.f22 cd22 pl22 := ⟨Try.func22, rfl, by kernel_rfl, by kernel_rfl⟩
instance isf22 : IsFn Try.prog 22 := ⟨by kernel_rfl⟩
-- (*anchorhold/proc.Table).Due
noncomputable def cd38 : Code := match Try.f38.body with
  | some c => c
  | none => .skip
noncomputable def pl38 : Nat → Plan := fun _ => .fin
theorem fn38 : FnOK Try.prog 38 Try.f38 cd38 pl38 := ⟨Try.func38, rfl, by kernel_rfl, by kernel_rfl⟩
instance isf38 : IsFn Try.prog 38 := ⟨by kernel_rfl⟩
-- (*anchorhold/proc.Table).Start
noncomputable def cd39 : Code := match Try.f39.body with
  | some c => c
  | none => .skip
noncomputable def pl39 : Nat → Plan := fun _ => .fin
theorem fn39 : FnOK Try.prog 39 Try.f39 cd39 pl39 := ⟨Try.func39, rfl, by kernel_rfl, by kernel_rfl⟩
instance isf39 : IsFn Try.prog 39 := ⟨by kernel_rfl⟩
-- (*anchorhold/proc.Table).First
noncomputable def cd42 : Code := match Try.f42.body with
  | some c => c
  | none => .skip
noncomputable def pl42 : Nat → Plan := fun _ => .fin
theorem fn42 : FnOK Try.prog 42 Try.f42 cd42 pl42 := ⟨Try.func42, rfl, by kernel_rfl, by kernel_rfl⟩
instance isf42 : IsFn Try.prog 42 := ⟨by kernel_rfl⟩
-- (*anchorhold/port.Ports).Deliver
noncomputable def cd45 : Code := match Try.f45.body with
  | some c => c
  | none => .skip
noncomputable def pl45 : Nat → Plan := fun _ => .fin
theorem fn45 : FnOK Try.prog 45 Try.f45 cd45 pl45 := ⟨Try.func45, rfl, by kernel_rfl, by kernel_rfl⟩
instance isf45 : IsFn Try.prog 45 := ⟨by kernel_rfl⟩
-- (*anchorhold/port.Ports).Drain
noncomputable def cd49 : Code := match Try.f49.body with
  | some c => c
  | none => .skip
noncomputable def pl49 : Nat → Plan := fun _ => .fin
theorem fn49 : FnOK Try.prog 49 Try.f49 cd49 pl49 := ⟨Try.func49, rfl, by kernel_rfl, by kernel_rfl⟩
instance isf49 : IsFn Try.prog 49 := ⟨by kernel_rfl⟩
-- (*anchorhold/port.Ports).Write
noncomputable def cd52 : Code := match Try.f52.body with
  | some c => c
  | none => .skip
noncomputable def pl52 : Nat → Plan := fun _ => .fin
theorem fn52 : FnOK Try.prog 52 Try.f52 cd52 pl52 := ⟨Try.func52, rfl, by kernel_rfl, by kernel_rfl⟩
instance isf52 : IsFn Try.prog 52 := ⟨by kernel_rfl⟩
-- (*anchorhold/port.Ports).Clear
noncomputable def cd56 : Code := match Try.f56.body with
  | some c => c
  | none => .skip
noncomputable def pl56 : Nat → Plan := fun _ => .fin
theorem fn56 : FnOK Try.prog 56 Try.f56 cd56 pl56 := ⟨Try.func56, rfl, by kernel_rfl, by kernel_rfl⟩
instance isf56 : IsFn Try.prog 56 := ⟨by kernel_rfl⟩
-- (*anchorhold/port.Ports).Lost
noncomputable def cd57 : Code := match Try.f57.body with
  | some c => c
  | none => .skip
noncomputable def pl57 : Nat → Plan := fun _ => .fin
theorem fn57 : FnOK Try.prog 57 Try.f57 cd57 pl57 := ⟨Try.func57, rfl, by kernel_rfl, by kernel_rfl⟩
instance isf57 : IsFn Try.prog 57 := ⟨by kernel_rfl⟩
-- (*anchorhold/port.Ports).Size
noncomputable def cd58 : Code := match Try.f58.body with
  | some c => c
  | none => .skip
noncomputable def pl58 : Nat → Plan := fun _ => .fin
theorem fn58 : FnOK Try.prog 58 Try.f58 cd58 pl58 := ⟨Try.func58, rfl, by kernel_rfl, by kernel_rfl⟩
instance isf58 : IsFn Try.prog 58 := ⟨by kernel_rfl⟩
-- (*anchorhold/port.Ports).Can
noncomputable def cd59 : Code := match Try.f59.body with
  | some c => c
  | none => .skip
noncomputable def pl59 : Nat → Plan := fun _ => .fin
theorem fn59 : FnOK Try.prog 59 Try.f59 cd59 pl59 := ⟨Try.func59, rfl, by kernel_rfl, by kernel_rfl⟩
instance isf59 : IsFn Try.prog 59 := ⟨by kernel_rfl⟩
-- anchorhold/anchorholdlaw20.short
noncomputable def cd60 : Code := match Try.f60.body with
  | some c => c
  | none => .skip
noncomputable def pl60 : Nat → Plan := fun _ => .fin
theorem fn60 : FnOK Try.prog 60 Try.f60 cd60 pl60 := ⟨Try.func60, rfl, by kernel_rfl, by kernel_rfl⟩
instance isf60 : IsFn Try.prog 60 := ⟨by kernel_rfl⟩
-- anchorhold/anchorholdlaw20.done
noncomputable def cd62 : Code := match Try.f62.body with
  | some c => c
  | none => .skip
noncomputable def pl62 : Nat → Plan
  | 3 => .st ⟨0, false, []⟩ (.st ⟨1, false, []⟩ (.st ⟨2, false, []⟩ (.st ⟨4, false, []⟩ (.st ⟨5, false, []⟩ (.st ⟨6, false, []⟩ (.st ⟨3, true, [5, 6]⟩ (.st ⟨7, true, []⟩ (.st ⟨8, false, []⟩ (.st ⟨9, false, []⟩ (.fin))))))))))
  | 5 => .st ⟨0, false, []⟩ (.st ⟨1, false, []⟩ (.st ⟨2, false, []⟩ (.st ⟨4, false, []⟩ (.st ⟨5, false, []⟩ (.st ⟨6, false, []⟩ (.st ⟨3, true, [5, 6]⟩ (.st ⟨7, true, []⟩ (.st ⟨8, false, []⟩ (.st ⟨9, false, []⟩ (.fin))))))))))
  | 7 => .st ⟨0, false, []⟩ (.st ⟨1, false, []⟩ (.st ⟨2, false, []⟩ (.st ⟨4, false, []⟩ (.st ⟨5, false, []⟩ (.st ⟨6, false, []⟩ (.st ⟨3, true, [5, 6]⟩ (.st ⟨7, true, []⟩ (.st ⟨8, false, []⟩ (.st ⟨9, false, []⟩ (.fin))))))))))
  | 9 => .st ⟨0, false, []⟩ (.st ⟨1, false, []⟩ (.st ⟨2, false, []⟩ (.st ⟨4, false, []⟩ (.st ⟨5, false, []⟩ (.st ⟨6, false, []⟩ (.st ⟨3, true, [5, 6]⟩ (.st ⟨7, true, []⟩ (.st ⟨8, false, []⟩ (.st ⟨9, false, []⟩ (.fin))))))))))
  | 11 => .st ⟨0, false, []⟩ (.st ⟨1, false, []⟩ (.st ⟨2, false, []⟩ (.st ⟨3, false, []⟩ (.st ⟨4, false, []⟩ (.st ⟨6, false, []⟩ (.st ⟨7, false, []⟩ (.st ⟨8, false, []⟩ (.st ⟨9, false, []⟩ (.st ⟨10, false, []⟩ (.st ⟨5, true, [7, 8, 9, 10]⟩ (.st ⟨11, true, []⟩ (.st ⟨12, false, []⟩ (.st ⟨13, false, []⟩ (.fin))))))))))))))
  | 17 => .st ⟨0, false, []⟩ (.st ⟨1, false, []⟩ (.st ⟨2, false, []⟩ (.st ⟨3, false, []⟩ (.st ⟨4, false, []⟩ (.st ⟨6, false, []⟩ (.st ⟨7, false, []⟩ (.st ⟨8, false, []⟩ (.st ⟨9, false, []⟩ (.st ⟨10, false, []⟩ (.st ⟨5, true, [7, 8, 9, 10]⟩ (.st ⟨11, true, []⟩ (.st ⟨12, false, []⟩ (.st ⟨13, false, []⟩ (.fin))))))))))))))
  | 23 => .st ⟨0, false, []⟩ (.st ⟨1, false, []⟩ (.st ⟨2, false, []⟩ (.st ⟨4, false, []⟩ (.st ⟨5, false, []⟩ (.st ⟨6, false, []⟩ (.st ⟨3, true, [5, 6]⟩ (.st ⟨7, true, []⟩ (.st ⟨8, false, []⟩ (.st ⟨9, false, []⟩ (.fin))))))))))
  | _ => .fin
theorem fn62 : FnOK Try.prog 62 Try.f62 cd62 pl62 := ⟨Try.func62, rfl, by kernel_rfl, by kernel_rfl⟩
instance isf62 : IsFn Try.prog 62 := ⟨by kernel_rfl⟩
-- (*anchorhold/anchorholdref21.Table).Park
noncomputable def cd74 : Code := match Try.f74.body with
  | some c => c
  | none => .skip
noncomputable def pl74 : Nat → Plan := fun _ => .fin
theorem fn74 : FnOK Try.prog 74 Try.f74 cd74 pl74 := ⟨Try.func74, rfl, by kernel_rfl, by kernel_rfl⟩
instance isf74 : IsFn Try.prog 74 := ⟨by kernel_rfl⟩
-- (*anchorhold/anchorholdref21.Table).Due
noncomputable def cd77 : Code := match Try.f77.body with
  | some c => c
  | none => .skip
noncomputable def pl77 : Nat → Plan := fun _ => .fin
theorem fn77 : FnOK Try.prog 77 Try.f77 cd77 pl77 := ⟨Try.func77, rfl, by kernel_rfl, by kernel_rfl⟩
instance isf77 : IsFn Try.prog 77 := ⟨by kernel_rfl⟩
-- (*anchorhold/proc.Table).find
noncomputable def cd79 : Code := match Try.f79.body with
  | some c => c
  | none => .skip
noncomputable def pl79 : Nat → Plan := fun _ => .fin
theorem fn79 : FnOK Try.prog 79 Try.f79 cd79 pl79 := ⟨Try.func79, rfl, by kernel_rfl, by kernel_rfl⟩
instance isf79 : IsFn Try.prog 79 := ⟨by kernel_rfl⟩
-- (anchorhold/proc.one).ready
noncomputable def cd82 : Code := match Try.f82.body with
  | some c => c
  | none => .skip
noncomputable def pl82 : Nat → Plan := fun _ => .fin
theorem fn82 : FnOK Try.prog 82 Try.f82 cd82 pl82 := ⟨Try.func82, rfl, by kernel_rfl, by kernel_rfl⟩
instance isf82 : IsFn Try.prog 82 := ⟨by kernel_rfl⟩
-- anchorhold/object.fits
noncomputable def cd84 : Code := match Try.f84.body with
  | some c => c
  | none => .skip
noncomputable def pl84 : Nat → Plan := fun _ => .fin
theorem fn84 : FnOK Try.prog 84 Try.f84 cd84 pl84 := ⟨Try.func84, rfl, by kernel_rfl, by kernel_rfl⟩
instance isf84 : IsFn Try.prog 84 := ⟨by kernel_rfl⟩
-- (*anchorhold/object.Objects).slate
noncomputable def cd86 : Code := match Try.f86.body with
  | some c => c
  | none => .skip
noncomputable def pl86 : Nat → Plan := fun _ => .fin
theorem fn86 : FnOK Try.prog 86 Try.f86 cd86 pl86 := ⟨Try.func86, rfl, by kernel_rfl, by kernel_rfl⟩
instance isf86 : IsFn Try.prog 86 := ⟨by kernel_rfl⟩
-- (*anchorhold/anchorholdref21.Table).First
noncomputable def cd89 : Code := match Try.f89.body with
  | some c => c
  | none => .skip
noncomputable def pl89 : Nat → Plan
  | 6 => .st ⟨0, false, []⟩ (.st ⟨1, false, []⟩ (.st ⟨2, false, []⟩ (.st ⟨3, false, []⟩ (.st ⟨4, false, []⟩ (.st ⟨5, false, []⟩ (.st ⟨6, false, []⟩ (.st ⟨7, false, []⟩ (.st ⟨8, false, []⟩ (.st ⟨9, false, []⟩ (.st ⟨10, false, []⟩ (.st ⟨11, false, []⟩ (.st ⟨12, false, []⟩ (.st ⟨13, false, []⟩ (.st ⟨14, false, []⟩ (.st ⟨15, false, []⟩ (.st ⟨16, false, []⟩ (.st ⟨17, false, []⟩ (.st ⟨18, false, []⟩ (.st ⟨19, false, []⟩ (.st ⟨20, false, []⟩ (.st ⟨21, false, []⟩ (.st ⟨22, false, []⟩ (.st ⟨23, false, []⟩ (.st ⟨24, false, []⟩ (.st ⟨25, false, []⟩ (.st ⟨26, false, []⟩ (.st ⟨27, true, []⟩ (.st ⟨28, false, []⟩ (.st ⟨29, false, []⟩ (.fin))))))))))))))))))))))))))))))
  | _ => .fin
theorem fn89 : FnOK Try.prog 89 Try.f89 cd89 pl89 := ⟨Try.func89, rfl, by kernel_rfl, by kernel_rfl⟩
instance isf89 : IsFn Try.prog 89 := ⟨by kernel_rfl⟩
-- (*anchorhold/port.Ports).find
noncomputable def cd93 : Code := match Try.f93.body with
  | some c => c
  | none => .skip
noncomputable def pl93 : Nat → Plan := fun _ => .fin
theorem fn93 : FnOK Try.prog 93 Try.f93 cd93 pl93 := ⟨Try.func93, rfl, by kernel_rfl, by kernel_rfl⟩
instance isf93 : IsFn Try.prog 93 := ⟨by kernel_rfl⟩
-- (*anchorhold/anchorholdref18.Ports).Write
noncomputable def cd96 : Code := match Try.f96.body with
  | some c => c
  | none => .skip
noncomputable def pl96 : Nat → Plan := fun _ => .fin
theorem fn96 : FnOK Try.prog 96 Try.f96 cd96 pl96 := ⟨Try.func96, rfl, by kernel_rfl, by kernel_rfl⟩
instance isf96 : IsFn Try.prog 96 := ⟨by kernel_rfl⟩
-- (*anchorhold/anchorholdref18.Ports).Receive
noncomputable def cd99 : Code := match Try.f99.body with
  | some c => c
  | none => .skip
noncomputable def pl99 : Nat → Plan
  | 6 => .st ⟨0, false, []⟩ (.st ⟨1, false, []⟩ (.st ⟨3, false, []⟩ (.st ⟨4, false, []⟩ (.st ⟨5, false, []⟩ (.st ⟨6, false, []⟩ (.st ⟨7, false, []⟩ (.st ⟨8, false, []⟩ (.st ⟨9, false, []⟩ (.st ⟨10, false, []⟩ (.st ⟨12, false, []⟩ (.st ⟨13, false, []⟩ (.st ⟨14, false, []⟩ (.st ⟨15, false, []⟩ (.st ⟨16, false, []⟩ (.st ⟨17, false, []⟩ (.st ⟨18, false, []⟩ (.st ⟨2, true, [4, 5, 6, 8, 9, 10, 13, 14, 15, 17, 18]⟩ (.st ⟨11, true, [13, 14, 15, 17, 18]⟩ (.st ⟨19, true, []⟩ (.fin))))))))))))))))))))
  | _ => .fin
theorem fn99 : FnOK Try.prog 99 Try.f99 cd99 pl99 := ⟨Try.func99, rfl, by kernel_rfl, by kernel_rfl⟩
instance isf99 : IsFn Try.prog 99 := ⟨by kernel_rfl⟩
-- anchorhold/anchorholdref20.least
noncomputable def cd103 : Code := match Try.f103.body with
  | some c => c
  | none => .skip
noncomputable def pl103 : Nat → Plan := fun _ => .fin
theorem fn103 : FnOK Try.prog 103 Try.f103 cd103 pl103 := ⟨Try.func103, rfl, by kernel_rfl, by kernel_rfl⟩
instance isf103 : IsFn Try.prog 103 := ⟨by kernel_rfl⟩
-- (*anchorhold/anchorholdref20.Objects).Give
noncomputable def cd105 : Code := match Try.f105.body with
  | some c => c
  | none => .skip
noncomputable def pl105 : Nat → Plan
  | 3 => .st ⟨0, false, []⟩ (.st ⟨1, false, []⟩ (.st ⟨2, false, []⟩ (.st ⟨3, false, []⟩ (.st ⟨4, false, []⟩ (.st ⟨5, false, []⟩ (.st ⟨6, false, []⟩ (.st ⟨7, false, []⟩ (.st ⟨8, false, []⟩ (.st ⟨9, false, []⟩ (.st ⟨10, false, []⟩ (.st ⟨11, false, []⟩ (.st ⟨12, false, []⟩ (.st ⟨13, false, []⟩ (.st ⟨14, false, []⟩ (.st ⟨15, false, []⟩ (.st ⟨16, false, []⟩ (.fin)))))))))))))))))
  | 6 => .st ⟨0, false, []⟩ (.st ⟨1, false, []⟩ (.st ⟨2, false, []⟩ (.st ⟨3, false, []⟩ (.st ⟨4, false, []⟩ (.st ⟨5, false, []⟩ (.st ⟨6, false, []⟩ (.st ⟨7, false, []⟩ (.st ⟨8, false, []⟩ (.st ⟨9, false, []⟩ (.st ⟨10, false, []⟩ (.st ⟨11, false, []⟩ (.st ⟨12, false, []⟩ (.st ⟨13, false, []⟩ (.st ⟨14, true, []⟩ (.fin)))))))))))))))
  | _ => .fin
theorem fn105 : FnOK Try.prog 105 Try.f105 cd105 pl105 := ⟨Try.func105, rfl, by kernel_rfl, by kernel_rfl⟩
instance isf105 : IsFn Try.prog 105 := ⟨by kernel_rfl⟩
-- anchorhold/anchorholdlaw20.got
noncomputable def cd109 : Code := match Try.f109.body with
  | some c => c
  | none => .skip
noncomputable def pl109 : Nat → Plan := fun _ => .fin
theorem fn109 : FnOK Try.prog 109 Try.f109 cd109 pl109 := ⟨Try.func109, rfl, by kernel_rfl, by kernel_rfl⟩
instance isf109 : IsFn Try.prog 109 := ⟨by kernel_rfl⟩
-- (*anchorhold/anchorholdref20.Objects).Wipe
noncomputable def cd112 : Code := match Try.f112.body with
  | some c => c
  | none => .skip
noncomputable def pl112 : Nat → Plan := fun _ => .fin
theorem fn112 : FnOK Try.prog 112 Try.f112 cd112 pl112 := ⟨Try.func112, rfl, by kernel_rfl, by kernel_rfl⟩
instance isf112 : IsFn Try.prog 112 := ⟨by kernel_rfl⟩
-- (*anchorhold/anchorholdref20.Objects).Size
noncomputable def cd115 : Code := match Try.f115.body with
  | some c => c
  | none => .skip
noncomputable def pl115 : Nat → Plan := fun _ => .fin
theorem fn115 : FnOK Try.prog 115 Try.f115 cd115 pl115 := ⟨Try.func115, rfl, by kernel_rfl, by kernel_rfl⟩
instance isf115 : IsFn Try.prog 115 := ⟨by kernel_rfl⟩
-- (*anchorhold/object.Objects).Clear$2
noncomputable def cd119 : Code := match Try.f119.body with
  | some c => c
  | none => .skip
noncomputable def pl119 : Nat → Plan := fun _ => .fin
theorem fn119 : FnOK Try.prog 119 Try.f119 cd119 pl119 := ⟨Try.func119, rfl, by kernel_rfl, by kernel_rfl⟩
instance isf119 : IsFn Try.prog 119 := ⟨by kernel_rfl⟩
-- (*anchorhold/object.Objects).Clear$3
noncomputable def cd121 : Code := match Try.f121.body with
  | some c => c
  | none => .skip
noncomputable def pl121 : Nat → Plan := fun _ => .fin
theorem fn121 : FnOK Try.prog 121 Try.f121 cd121 pl121 := ⟨Try.func121, rfl, by kernel_rfl, by kernel_rfl⟩
instance isf121 : IsFn Try.prog 121 := ⟨by kernel_rfl⟩
-- (*anchorhold/object.Objects).flag
noncomputable def cd124 : Code := match Try.f124.body with
  | some c => c
  | none => .skip
noncomputable def pl124 : Nat → Plan := fun _ => .fin
theorem fn124 : FnOK Try.prog 124 Try.f124 cd124 pl124 := ⟨Try.func124, rfl, by kernel_rfl, by kernel_rfl⟩
instance isf124 : IsFn Try.prog 124 := ⟨by kernel_rfl⟩
-- (anchorhold/proc.one).ahead
noncomputable def cd128 : Code := match Try.f128.body with
  | some c => c
  | none => .skip
noncomputable def pl128 : Nat → Plan := fun _ => .fin
theorem fn128 : FnOK Try.prog 128 Try.f128 cd128 pl128 := ⟨Try.func128, rfl, by kernel_rfl, by kernel_rfl⟩
instance isf128 : IsFn Try.prog 128 := ⟨by kernel_rfl⟩
-- (*anchorhold/port.one).first
noncomputable def cd132 : Code := match Try.f132.body with
  | some c => c
  | none => .skip
noncomputable def pl132 : Nat → Plan
  | 7 => .st ⟨0, false, []⟩ (.st ⟨1, false, []⟩ (.st ⟨2, false, []⟩ (.st ⟨3, false, []⟩ (.st ⟨5, false, []⟩ (.st ⟨6, false, []⟩ (.st ⟨7, false, []⟩ (.st ⟨8, false, []⟩ (.st ⟨4, true, [6, 7, 8]⟩ (.st ⟨9, false, []⟩ (.st ⟨10, false, []⟩ (.fin)))))))))))
  | _ => .fin
theorem fn132 : FnOK Try.prog 132 Try.f132 cd132 pl132 := ⟨Try.func132, rfl, by kernel_rfl, by kernel_rfl⟩
instance isf132 : IsFn Try.prog 132 := ⟨by kernel_rfl⟩
-- (*anchorhold/anchorholdref20.Objects).become
noncomputable def cd137 : Code := match Try.f137.body with
  | some c => c
  | none => .skip
noncomputable def pl137 : Nat → Plan := fun _ => .fin
theorem fn137 : FnOK Try.prog 137 Try.f137 cd137 pl137 := ⟨Try.func137, rfl, by kernel_rfl, by kernel_rfl⟩
instance isf137 : IsFn Try.prog 137 := ⟨by kernel_rfl⟩
-- (*anchorhold/port.queue).take
noncomputable def cd139 : Code := match Try.f139.body with
  | some c => c
  | none => .skip
noncomputable def pl139 : Nat → Plan := fun _ => .fin
theorem fn139 : FnOK Try.prog 139 Try.f139 cd139 pl139 := ⟨Try.func139, rfl, by kernel_rfl, by kernel_rfl⟩
instance isf139 : IsFn Try.prog 139 := ⟨by kernel_rfl⟩
-- (*anchorhold/port.queue).put
noncomputable def cd156 : Code := match Try.f156.body with
  | some c => c
  | none => .skip
noncomputable def pl156 : Nat → Plan
  | 1 => .st ⟨0, false, []⟩ (.st ⟨1, false, []⟩ (.st ⟨2, false, []⟩ (.st ⟨3, false, []⟩ (.st ⟨4, false, []⟩ (.st ⟨5, false, []⟩ (.st ⟨6, false, []⟩ (.st ⟨7, false, []⟩ (.st ⟨8, false, []⟩ (.st ⟨9, false, []⟩ (.fin))))))))))
  | 3 => .st ⟨0, false, []⟩ (.st ⟨1, false, []⟩ (.st ⟨2, false, []⟩ (.st ⟨3, false, []⟩ (.st ⟨4, false, []⟩ (.st ⟨5, false, []⟩ (.st ⟨6, true, [2, 3, 4]⟩ (.st ⟨7, true, [2, 3, 4]⟩ (.st ⟨8, true, []⟩ (.st ⟨9, false, []⟩ (.st ⟨10, false, []⟩ (.st ⟨11, true, []⟩ (.fin))))))))))))
  | _ => .fin
theorem fn156 : FnOK Try.prog 156 Try.f156 cd156 pl156 := ⟨Try.func156, rfl, by kernel_rfl, by kernel_rfl⟩
instance isf156 : IsFn Try.prog 156 := ⟨by kernel_rfl⟩
end Go.Proofs.Ytlmcoiloepoggaa
