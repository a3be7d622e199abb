/- Tables, printed by a program: each function with its plans; closed facts on types. -/
import Derived.Test.YtlmcoiloepoggaaProg
import Derived.Test.YtlmcoiloepoggaaWkF
import Derived.KernelRfl
namespace Go.Proofs.Ytlmcoiloepoggaa
open Go Go.Wk
theorem mixed : Try.prog.follows .mixedOrders = true := by kernel_rfl
-- anchorhold/anchorholdlaw20.ObjectCounts
noncomputable def cd3 : Code := match Try.f3.body with
  | some c => c
  | none => .skip
noncomputable def pl3 : Nat → Plan
  | 9 => [⟨0, false, []⟩, ⟨3, false, []⟩, ⟨4, false, []⟩, ⟨5, false, []⟩, ⟨6, false, []⟩, ⟨1, true, [4, 5, 6]⟩, ⟨2, false, []⟩, ⟨7, false, []⟩]
  | _ => []
theorem fn3 : FnOK Try.prog 3 Try.f3 cd3 pl3 := ⟨Try.func3, rfl, by kernel_rfl, by kernel_rfl⟩
instance isf3 : IsFn Try.prog 3 := ⟨by kernel_rfl⟩
-- anchorhold/anchorholdlaw21.ProcTurns
noncomputable def cd4 : Code := match Try.f4.body with
  | some c => c
  | none => .skip
noncomputable def pl4 : Nat → Plan
  | 1 => [⟨0, false, []⟩, ⟨1, false, []⟩, ⟨2, false, []⟩, ⟨3, false, []⟩, ⟨4, false, []⟩, ⟨5, false, []⟩, ⟨6, false, []⟩, ⟨7, false, []⟩, ⟨8, false, []⟩, ⟨9, false, []⟩, ⟨10, false, []⟩, ⟨11, false, []⟩]
  | 10 => [⟨0, false, []⟩, ⟨1, false, []⟩, ⟨2, false, []⟩, ⟨3, false, []⟩, ⟨4, false, []⟩, ⟨5, false, []⟩, ⟨6, false, []⟩, ⟨7, false, []⟩, ⟨8, false, []⟩, ⟨9, false, []⟩]
  | _ => []
theorem fn4 : FnOK Try.prog 4 Try.f4 cd4 pl4 := ⟨Try.func4, rfl, by kernel_rfl, by kernel_rfl⟩
instance isf4 : IsFn Try.prog 4 := ⟨by kernel_rfl⟩
-- anchorhold/anchorholdlaw21.ProcPicks
noncomputable def cd5 : Code := match Try.f5.body with
  | some c => c
  | none => .skip
noncomputable def pl5 : Nat → Plan := fun _ => []
theorem fn5 : FnOK Try.prog 5 Try.f5 cd5 pl5 := ⟨Try.func5, rfl, by kernel_rfl, by kernel_rfl⟩
instance isf5 : IsFn Try.prog 5 := ⟨by kernel_rfl⟩
-- anchorhold/anchorholdlaw20.ObjectOrder
noncomputable def cd6 : Code := match Try.f6.body with
  | some c => c
  | none => .skip
noncomputable def pl6 : Nat → Plan
  | 14 => [⟨0, false, []⟩, ⟨1, false, []⟩, ⟨2, false, []⟩, ⟨3, false, []⟩, ⟨4, false, []⟩, ⟨5, false, []⟩, ⟨6, false, []⟩, ⟨7, false, []⟩, ⟨8, false, []⟩, ⟨9, false, []⟩, ⟨10, false, []⟩, ⟨11, false, []⟩]
  | 20 => [⟨0, false, []⟩, ⟨1, false, []⟩, ⟨2, false, []⟩, ⟨3, false, []⟩, ⟨4, false, []⟩, ⟨5, false, []⟩, ⟨6, false, []⟩, ⟨7, false, []⟩, ⟨8, false, []⟩, ⟨9, false, []⟩, ⟨10, false, []⟩, ⟨11, false, []⟩]
  | _ => []
theorem fn6 : FnOK Try.prog 6 Try.f6 cd6 pl6 := ⟨Try.func6, rfl, by kernel_rfl, by kernel_rfl⟩
instance isf6 : IsFn Try.prog 6 := ⟨by kernel_rfl⟩
-- anchorhold/anchorholdlaw21.ProcPlays
noncomputable def cd7 : Code := match Try.f7.body with
  | some c => c
  | none => .skip
noncomputable def pl7 : Nat → Plan
  | 7 => [⟨0, false, []⟩, ⟨1, false, []⟩, ⟨2, false, []⟩, ⟨3, false, []⟩, ⟨4, false, []⟩, ⟨5, false, []⟩, ⟨6, true, []⟩, ⟨7, false, []⟩, ⟨8, false, []⟩, ⟨9, false, []⟩, ⟨10, false, []⟩, ⟨11, false, []⟩, ⟨12, false, []⟩, ⟨13, false, []⟩, ⟨14, false, []⟩, ⟨15, false, []⟩, ⟨16, false, []⟩, ⟨17, false, []⟩, ⟨18, false, []⟩, ⟨19, false, []⟩, ⟨20, false, []⟩, ⟨21, true, []⟩, ⟨22, false, []⟩, ⟨23, false, []⟩]
  | _ => []
theorem fn7 : FnOK Try.prog 7 Try.f7 cd7 pl7 := ⟨Try.func7, rfl, by kernel_rfl, by kernel_rfl⟩
instance isf7 : IsFn Try.prog 7 := ⟨by kernel_rfl⟩
-- anchorhold/anchorholdlaw21.ProcNone
noncomputable def cd8 : Code := match Try.f8.body with
  | some c => c
  | none => .skip
noncomputable def pl8 : Nat → Plan
  | 10 => [⟨0, false, []⟩, ⟨2, false, []⟩, ⟨3, false, []⟩, ⟨4, false, []⟩, ⟨7, false, []⟩, ⟨8, false, []⟩, ⟨9, false, []⟩, ⟨12, false, []⟩, ⟨14, false, []⟩, ⟨16, false, []⟩, ⟨18, false, []⟩, ⟨19, false, []⟩, ⟨21, false, []⟩, ⟨22, false, []⟩, ⟨24, false, []⟩, ⟨25, false, []⟩, ⟨26, false, []⟩, ⟨1, true, [3, 4, 8, 9, 19, 22, 25, 26]⟩, ⟨5, true, [8, 9, 19, 22, 25, 26]⟩, ⟨6, false, []⟩, ⟨10, true, [19, 22, 25, 26, 6]⟩, ⟨11, false, []⟩, ⟨13, false, []⟩, ⟨15, false, []⟩, ⟨17, false, []⟩, ⟨20, false, []⟩, ⟨23, false, []⟩, ⟨27, true, [19, 22, 6, 11, 13, 15, 17, 20, 23]⟩, ⟨28, false, []⟩, ⟨29, false, []⟩, ⟨30, false, []⟩, ⟨31, false, []⟩, ⟨32, false, []⟩, ⟨33, false, []⟩, ⟨34, false, []⟩, ⟨35, false, []⟩, ⟨36, false, []⟩, ⟨37, true, []⟩, ⟨38, false, []⟩, ⟨39, false, []⟩, ⟨40, false, []⟩, ⟨41, false, []⟩, ⟨42, false, []⟩, ⟨43, false, []⟩, ⟨44, false, []⟩, ⟨45, true, []⟩, ⟨46, false, []⟩, ⟨47, false, []⟩, ⟨48, false, []⟩, ⟨49, false, []⟩, ⟨50, false, []⟩, ⟨51, false, []⟩, ⟨52, false, []⟩, ⟨53, false, []⟩, ⟨54, false, []⟩, ⟨55, false, []⟩, ⟨56, false, []⟩, ⟨57, true, []⟩, ⟨58, false, []⟩, ⟨59, false, []⟩, ⟨60, false, []⟩, ⟨61, false, []⟩, ⟨62, false, []⟩, ⟨63, false, []⟩, ⟨64, false, []⟩, ⟨65, true, []⟩, ⟨66, false, []⟩, ⟨67, false, []⟩, ⟨68, false, []⟩, ⟨69, false, []⟩, ⟨70, false, []⟩, ⟨71, true, []⟩, ⟨72, false, []⟩, ⟨73, false, []⟩, ⟨74, false, []⟩, ⟨75, true, []⟩, ⟨76, false, []⟩, ⟨77, false, []⟩, ⟨78, false, []⟩, ⟨79, false, []⟩, ⟨80, false, []⟩, ⟨81, false, []⟩, ⟨82, false, []⟩, ⟨83, false, []⟩, ⟨84, true, []⟩, ⟨85, false, []⟩, ⟨86, false, []⟩]
  | _ => []
theorem fn8 : FnOK Try.prog 8 Try.f8 cd8 pl8 := ⟨Try.func8, rfl, by kernel_rfl, by kernel_rfl⟩
instance isf8 : IsFn Try.prog 8 := ⟨by kernel_rfl⟩
-- anchorhold/anchorholdlaw18.PortOrder
noncomputable def cd9 : Code := match Try.f9.body with
  | some c => c
  | none => .skip
noncomputable def pl9 : Nat → Plan := fun _ => []
theorem fn9 : FnOK Try.prog 9 Try.f9 cd9 pl9 := ⟨Try.func9, rfl, by kernel_rfl, by kernel_rfl⟩
instance isf9 : IsFn Try.prog 9 := ⟨by kernel_rfl⟩
-- anchorhold/anchorholdlaw18.PortSamples
noncomputable def cd10 : Code := match Try.f10.body with
  | some c => c
  | none => .skip
noncomputable def pl10 : Nat → Plan := fun _ => []
theorem fn10 : FnOK Try.prog 10 Try.f10 cd10 pl10 := ⟨Try.func10, rfl, by kernel_rfl, by kernel_rfl⟩
instance isf10 : IsFn Try.prog 10 := ⟨by kernel_rfl⟩
-- anchorhold/anchorholdlaw18.PortPlays
noncomputable def cd11 : Code := match Try.f11.body with
  | some c => c
  | none => .skip
noncomputable def pl11 : Nat → Plan := fun _ => []
theorem fn11 : FnOK Try.prog 11 Try.f11 cd11 pl11 := ⟨Try.func11, rfl, by kernel_rfl, by kernel_rfl⟩
instance isf11 : IsFn Try.prog 11 := ⟨by kernel_rfl⟩
-- anchorhold/anchorholdlaw18.PortNone
noncomputable def cd12 : Code := match Try.f12.body with
  | some c => c
  | none => .skip
noncomputable def pl12 : Nat → Plan
  | 12 => [⟨0, false, []⟩, ⟨1, false, []⟩, ⟨2, false, []⟩, ⟨3, false, []⟩, ⟨4, false, []⟩, ⟨5, true, []⟩, ⟨6, false, []⟩, ⟨7, false, []⟩, ⟨8, false, []⟩, ⟨9, false, []⟩, ⟨10, false, []⟩, ⟨11, false, []⟩, ⟨12, false, []⟩, ⟨13, true, []⟩, ⟨14, false, []⟩, ⟨15, false, []⟩, ⟨16, false, []⟩, ⟨17, false, []⟩, ⟨18, false, []⟩, ⟨19, false, []⟩, ⟨20, false, []⟩, ⟨21, false, []⟩, ⟨22, false, []⟩, ⟨23, false, []⟩, ⟨24, false, []⟩, ⟨25, false, []⟩, ⟨26, false, []⟩, ⟨27, false, []⟩, ⟨28, false, []⟩, ⟨29, false, []⟩, ⟨30, false, []⟩, ⟨31, false, []⟩, ⟨32, false, []⟩, ⟨36, false, []⟩, ⟨37, false, []⟩, ⟨38, false, []⟩, ⟨41, false, []⟩, ⟨42, false, []⟩, ⟨43, false, []⟩, ⟨46, false, []⟩, ⟨47, false, []⟩, ⟨48, false, []⟩, ⟨33, true, [26, 28, 29, 37, 38, 42, 43, 47, 48]⟩, ⟨34, false, []⟩, ⟨35, false, []⟩, ⟨39, true, [26, 28, 29, 42, 43, 47, 48, 34, 35]⟩, ⟨40, false, []⟩, ⟨44, true, [26, 28, 29, 47, 48, 34, 35, 40]⟩, ⟨45, false, []⟩, ⟨49, true, [26, 28, 29, 34, 35, 40, 45]⟩, ⟨50, false, []⟩, ⟨51, false, []⟩, ⟨52, false, []⟩, ⟨53, false, []⟩, ⟨54, false, []⟩, ⟨55, false, []⟩, ⟨56, false, []⟩, ⟨57, false, []⟩, ⟨58, false, []⟩, ⟨59, true, []⟩, ⟨60, false, []⟩, ⟨61, false, []⟩, ⟨62, false, []⟩, ⟨63, false, []⟩, ⟨64, false, []⟩, ⟨65, true, []⟩, ⟨66, false, []⟩]
  | _ => []
theorem fn12 : FnOK Try.prog 12 Try.f12 cd12 pl12 := ⟨Try.func12, rfl, by kernel_rfl, by kernel_rfl⟩
instance isf12 : IsFn Try.prog 12 := ⟨by kernel_rfl⟩
-- anchorhold/anchorholdlaw20.ObjectPlays
noncomputable def cd13 : Code := match Try.f13.body with
  | some c => c
  | none => .skip
noncomputable def pl13 : Nat → Plan
  | 3 => [⟨0, false, []⟩, ⟨2, false, []⟩, ⟨1, true, [2]⟩, ⟨3, true, []⟩, ⟨4, false, []⟩, ⟨5, false, []⟩]
  | _ => []
theorem fn13 : FnOK Try.prog 13 Try.f13 cd13 pl13 := ⟨Try.func13, rfl, by kernel_rfl, by kernel_rfl⟩
instance isf13 : IsFn Try.prog 13 := ⟨by kernel_rfl⟩
-- anchorhold/anchorholdlaw20.ObjectNone
noncomputable def cd14 : Code := match Try.f14.body with
  | some c => c
  | none => .skip
noncomputable def pl14 : Nat → Plan := fun _ => []
theorem fn14 : FnOK Try.prog 14 Try.f14 cd14 pl14 := ⟨Try.func14, rfl, by kernel_rfl, by kernel_rfl⟩
instance isf14 : IsFn Try.prog 14 := ⟨by kernel_rfl⟩
-- anchorhold/anchorholdlaw20.works
noncomputable def cd15 : Code := match Try.f15.body with
  | some c => c
  | none => .skip
noncomputable def pl15 : Nat → Plan := fun _ => []
theorem fn15 : FnOK Try.prog 15 Try.f15 cd15 pl15 := ⟨Try.func15, rfl, by kernel_rfl, by kernel_rfl⟩
instance isf15 : IsFn Try.prog 15 := ⟨by kernel_rfl⟩
-- anchorhold/object.New
noncomputable def cd16 : Code := match Try.f16.body with
  | some c => c
  | none => .skip
noncomputable def pl16 : Nat → Plan := fun _ => []
theorem fn16 : FnOK Try.prog 16 Try.f16 cd16 pl16 := ⟨Try.func16, rfl, by kernel_rfl, by kernel_rfl⟩
instance isf16 : IsFn Try.prog 16 := ⟨by kernel_rfl⟩
-- (*anchorhold/object.Objects).Give
noncomputable def cd17 : Code := match Try.f17.body with
  | some c => c
  | none => .skip
noncomputable def pl17 : Nat → Plan
  | 4 => [⟨0, false, []⟩, ⟨1, false, []⟩, ⟨2, false, []⟩, ⟨3, false, []⟩, ⟨4, false, []⟩, ⟨5, false, []⟩, ⟨6, false, []⟩, ⟨7, false, []⟩, ⟨8, false, []⟩, ⟨9, false, []⟩, ⟨10, false, []⟩]
  | _ => []
theorem fn17 : FnOK Try.prog 17 Try.f17 cd17 pl17 := ⟨Try.func17, rfl, by kernel_rfl, by kernel_rfl⟩
instance isf17 : IsFn Try.prog 17 := ⟨by kernel_rfl⟩
-- (*anchorhold/object.Objects).Take
noncomputable def cd18 : Code := match Try.f18.body with
  | some c => c
  | none => .skip
noncomputable def pl18 : Nat → Plan := fun _ => []
theorem fn18 : FnOK Try.prog 18 Try.f18 cd18 pl18 := ⟨Try.func18, rfl, by kernel_rfl, by kernel_rfl⟩
instance isf18 : IsFn Try.prog 18 := ⟨by kernel_rfl⟩
-- (*anchorhold/object.Objects).Count
noncomputable def cd19 : Code := match Try.f19.body with
  | some c => c
  | none => .skip
noncomputable def pl19 : Nat → Plan := fun _ => []
theorem fn19 : FnOK Try.prog 19 Try.f19 cd19 pl19 := ⟨Try.func19, rfl, by kernel_rfl, by kernel_rfl⟩
instance isf19 : IsFn Try.prog 19 := ⟨by kernel_rfl⟩
-- anchorhold/proc.New
noncomputable def cd20 : Code := match Try.f20.body with
  | some c => c
  | none => .skip
noncomputable def pl20 : Nat → Plan
  | 5 => [⟨0, false, []⟩, ⟨1, false, []⟩, ⟨2, false, []⟩, ⟨3, false, []⟩, ⟨4, false, []⟩, ⟨5, false, []⟩, ⟨6, false, []⟩, ⟨7, false, []⟩, ⟨8, false, []⟩, ⟨9, true, []⟩]
  | _ => []
theorem fn20 : FnOK Try.prog 20 Try.f20 cd20 pl20 := ⟨Try.func20, rfl, by kernel_rfl, by kernel_rfl⟩
instance isf20 : IsFn Try.prog 20 := ⟨by kernel_rfl⟩
-- anchorhold/anchorholdref21.New
noncomputable def cd21 : Code := match Try.f21.body with
  | some c => c
  | none => .skip
noncomputable def pl21 : Nat → Plan
  | 5 => [⟨0, false, []⟩, ⟨1, false, []⟩, ⟨2, false, []⟩, ⟨3, false, []⟩, ⟨4, false, []⟩, ⟨5, false, []⟩, ⟨6, false, []⟩, ⟨7, false, []⟩, ⟨8, false, []⟩, ⟨9, false, []⟩, ⟨10, false, []⟩, ⟨11, false, []⟩, ⟨12, false, []⟩, ⟨13, false, []⟩, ⟨14, false, []⟩, ⟨15, true, [2, 3, 4]⟩, ⟨16, true, []⟩, ⟨17, false, []⟩, ⟨18, false, []⟩, ⟨19, true, []⟩]
  | _ => []
theorem fn21 : FnOK Try.prog 21 Try.f21 cd21 pl21 := ⟨Try.func21, rfl, by kernel_rfl, by kernel_rfl⟩
instance isf21 : IsFn Try.prog 21 := ⟨by kernel_rfl⟩
-- anchorhold/anchorholdlaw21.done
noncomputable def cd22 : Code := match Try.f22.body with
  | some c => c
  | none => .skip
noncomputable def pl22 : Nat → Plan
  | 3 => [⟨0, false, []⟩, ⟨1, false, []⟩, ⟨2, false, []⟩, ⟨3, false, []⟩, ⟨4, false, []⟩, ⟨6, false, []⟩, ⟨7, false, []⟩, ⟨8, false, []⟩, ⟨9, false, []⟩, ⟨10, false, []⟩, ⟨5, true, [7, 8, 9, 10]⟩, ⟨11, true, []⟩, ⟨12, false, []⟩, ⟨13, false, []⟩]
  | 5 => [⟨0, false, []⟩, ⟨1, false, []⟩, ⟨2, false, []⟩, ⟨3, false, []⟩, ⟨4, false, []⟩, ⟨6, false, []⟩, ⟨7, false, []⟩, ⟨8, false, []⟩, ⟨9, false, []⟩, ⟨10, false, []⟩, ⟨5, true, [7, 8, 9, 10]⟩, ⟨11, true, []⟩, ⟨12, false, []⟩, ⟨13, false, []⟩]
  | 7 => [⟨0, false, []⟩, ⟨1, false, []⟩, ⟨2, false, []⟩, ⟨3, false, []⟩, ⟨4, false, []⟩, ⟨5, false, []⟩, ⟨6, false, []⟩, ⟨7, false, []⟩, ⟨8, false, []⟩, ⟨10, false, []⟩, ⟨11, false, []⟩, ⟨12, false, []⟩, ⟨13, false, []⟩, ⟨14, false, []⟩, ⟨15, false, []⟩, ⟨16, false, []⟩, ⟨17, false, []⟩, ⟨18, false, []⟩, ⟨9, true, [11, 12, 13, 14, 15, 16, 17, 18]⟩, ⟨19, true, []⟩, ⟨20, false, []⟩, ⟨21, false, []⟩]
  | 9 => [⟨0, false, []⟩, ⟨1, false, []⟩, ⟨2, false, []⟩, ⟨3, false, []⟩, ⟨4, false, []⟩, ⟨6, false, []⟩, ⟨7, false, []⟩, ⟨8, false, []⟩, ⟨9, false, []⟩, ⟨10, false, []⟩, ⟨5, true, [7, 8, 9, 10]⟩, ⟨11, true, []⟩, ⟨12, false, []⟩, ⟨13, false, []⟩]
  | 11 => [⟨0, false, []⟩, ⟨1, false, []⟩, ⟨2, false, []⟩, ⟨4, false, []⟩, ⟨5, false, []⟩, ⟨6, false, []⟩, ⟨3, true, [5, 6]⟩, ⟨7, true, []⟩, ⟨8, false, []⟩, ⟨9, false, []⟩]
  | 17 => [⟨0, false, []⟩, ⟨1, false, []⟩, ⟨2, false, []⟩, ⟨4, false, []⟩, ⟨5, false, []⟩, ⟨6, false, []⟩, ⟨3, true, [5, 6]⟩, ⟨7, true, []⟩, ⟨8, true, []⟩, ⟨9, false, []⟩]
  | _ => []
theorem fn22 : FnOK Try.prog 22 Try.f22 cd22 pl22 := ⟨Try.func22, rfl, by kernel_rfl, by kernel_rfl⟩
instance isf22 : IsFn Try.prog 22 := ⟨by kernel_rfl⟩
-- (*anchorhold/proc.Table).Len
noncomputable def cd23 : Code := match Try.f23.body with
  | some c => c
  | none => .skip
noncomputable def pl23 : Nat → Plan := fun _ => []
theorem fn23 : FnOK Try.prog 23 Try.f23 cd23 pl23 := ⟨Try.func23, rfl, by kernel_rfl, by kernel_rfl⟩
instance isf23 : IsFn Try.prog 23 := ⟨by kernel_rfl⟩
-- anchorhold/anchorholdlaw21.works
noncomputable def cd24 : Code := match Try.f24.body with
  | some c => c
  | none => .skip
noncomputable def pl24 : Nat → Plan := fun _ => []
theorem fn24 : FnOK Try.prog 24 Try.f24 cd24 pl24 := ⟨Try.func24, rfl, by kernel_rfl, by kernel_rfl⟩
instance isf24 : IsFn Try.prog 24 := ⟨by kernel_rfl⟩
-- (*anchorhold/proc.Table).Free
noncomputable def cd25 : Code := match Try.f25.body with
  | some c => c
  | none => .skip
noncomputable def pl25 : Nat → Plan
  | 5 => [⟨0, false, []⟩, ⟨1, false, []⟩, ⟨2, false, []⟩, ⟨3, false, []⟩, ⟨4, false, []⟩, ⟨5, false, []⟩, ⟨6, true, []⟩]
  | _ => []
theorem fn25 : FnOK Try.prog 25 Try.f25 cd25 pl25 := ⟨Try.func25, rfl, by kernel_rfl, by kernel_rfl⟩
instance isf25 : IsFn Try.prog 25 := ⟨by kernel_rfl⟩
-- (*anchorhold/proc.Table).Set
noncomputable def cd26 : Code := match Try.f26.body with
  | some c => c
  | none => .skip
noncomputable def pl26 : Nat → Plan := fun _ => []
theorem fn26 : FnOK Try.prog 26 Try.f26 cd26 pl26 := ⟨Try.func26, rfl, by kernel_rfl, by kernel_rfl⟩
instance isf26 : IsFn Try.prog 26 := ⟨by kernel_rfl⟩
-- (*anchorhold/proc.Table).Rank
noncomputable def cd27 : Code := match Try.f27.body with
  | some c => c
  | none => .skip
noncomputable def pl27 : Nat → Plan
  | 5 => [⟨0, false, []⟩, ⟨1, false, []⟩, ⟨2, false, []⟩, ⟨3, false, []⟩, ⟨4, false, []⟩, ⟨5, false, []⟩, ⟨6, true, []⟩]
  | _ => []
theorem fn27 : FnOK Try.prog 27 Try.f27 cd27 pl27 := ⟨Try.func27, rfl, by kernel_rfl, by kernel_rfl⟩
instance isf27 : IsFn Try.prog 27 := ⟨by kernel_rfl⟩
-- (*anchorhold/proc.Table).Pick
noncomputable def cd28 : Code := match Try.f28.body with
  | some c => c
  | none => .skip
noncomputable def pl28 : Nat → Plan := fun _ => []
theorem fn28 : FnOK Try.prog 28 Try.f28 cd28 pl28 := ⟨Try.func28, rfl, by kernel_rfl, by kernel_rfl⟩
instance isf28 : IsFn Try.prog 28 := ⟨by kernel_rfl⟩
-- (*anchorhold/proc.Table).State
noncomputable def cd29 : Code := match Try.f29.body with
  | some c => c
  | none => .skip
noncomputable def pl29 : Nat → Plan := fun _ => []
theorem fn29 : FnOK Try.prog 29 Try.f29 cd29 pl29 := ⟨Try.func29, rfl, by kernel_rfl, by kernel_rfl⟩
instance isf29 : IsFn Try.prog 29 := ⟨by kernel_rfl⟩
-- (*anchorhold/proc.Table).Prio
noncomputable def cd30 : Code := match Try.f30.body with
  | some c => c
  | none => .skip
noncomputable def pl30 : Nat → Plan := fun _ => []
theorem fn30 : FnOK Try.prog 30 Try.f30 cd30 pl30 := ⟨Try.func30, rfl, by kernel_rfl, by kernel_rfl⟩
instance isf30 : IsFn Try.prog 30 := ⟨by kernel_rfl⟩
-- (*anchorhold/object.Objects).Put
noncomputable def cd31 : Code := match Try.f31.body with
  | some c => c
  | none => .skip
noncomputable def pl31 : Nat → Plan
  | 6 => [⟨0, false, []⟩, ⟨1, false, []⟩, ⟨2, false, []⟩, ⟨3, false, []⟩, ⟨4, false, []⟩, ⟨5, false, []⟩, ⟨6, false, []⟩, ⟨7, false, []⟩, ⟨8, false, []⟩, ⟨9, false, []⟩, ⟨10, false, []⟩, ⟨11, false, []⟩]
  | 8 => [⟨0, false, []⟩, ⟨1, false, []⟩, ⟨2, false, []⟩, ⟨3, false, []⟩, ⟨4, false, []⟩, ⟨5, false, []⟩, ⟨6, true, [2, 3, 4]⟩, ⟨7, true, [2, 3, 4]⟩, ⟨8, true, []⟩, ⟨9, false, []⟩, ⟨10, false, []⟩, ⟨11, true, []⟩]
  | _ => []
theorem fn31 : FnOK Try.prog 31 Try.f31 cd31 pl31 := ⟨Try.func31, rfl, by kernel_rfl, by kernel_rfl⟩
instance isf31 : IsFn Try.prog 31 := ⟨by kernel_rfl⟩
-- (*anchorhold/object.Objects).Show
noncomputable def cd32 : Code := match Try.f32.body with
  | some c => c
  | none => .skip
noncomputable def pl32 : Nat → Plan := fun _ => []
theorem fn32 : FnOK Try.prog 32 Try.f32 cd32 pl32 := ⟨Try.func32, rfl, by kernel_rfl, by kernel_rfl⟩
instance isf32 : IsFn Try.prog 32 := ⟨by kernel_rfl⟩
-- (*anchorhold/object.Objects).Look
noncomputable def cd33 : Code := match Try.f33.body with
  | some c => c
  | none => .skip
noncomputable def pl33 : Nat → Plan := fun _ => []
theorem fn33 : FnOK Try.prog 33 Try.f33 cd33 pl33 := ⟨Try.func33, rfl, by kernel_rfl, by kernel_rfl⟩
instance isf33 : IsFn Try.prog 33 := ⟨by kernel_rfl⟩
-- (*anchorhold/object.Objects).Get
noncomputable def cd34 : Code := match Try.f34.body with
  | some c => c
  | none => .skip
noncomputable def pl34 : Nat → Plan := fun _ => []
theorem fn34 : FnOK Try.prog 34 Try.f34 cd34 pl34 := ⟨Try.func34, rfl, by kernel_rfl, by kernel_rfl⟩
instance isf34 : IsFn Try.prog 34 := ⟨by kernel_rfl⟩
-- anchorhold/anchorholdlaw21.like
noncomputable def cd35 : Code := match Try.f35.body with
  | some c => c
  | none => .skip
noncomputable def pl35 : Nat → Plan
  | 1 => [⟨0, false, []⟩, ⟨2, false, []⟩, ⟨3, false, []⟩, ⟨4, false, []⟩, ⟨5, false, []⟩, ⟨6, false, []⟩, ⟨1, true, [3, 4, 5, 6]⟩, ⟨7, false, []⟩, ⟨8, false, []⟩, ⟨9, false, []⟩, ⟨11, false, []⟩, ⟨10, true, []⟩, ⟨12, true, []⟩, ⟨13, false, []⟩, ⟨14, false, []⟩, ⟨15, false, []⟩, ⟨16, false, []⟩, ⟨17, false, []⟩, ⟨18, false, []⟩, ⟨20, false, []⟩, ⟨21, false, []⟩, ⟨22, false, []⟩, ⟨19, true, []⟩, ⟨23, true, []⟩, ⟨24, false, []⟩, ⟨25, false, []⟩]
  | 10 => [⟨0, false, []⟩, ⟨1, false, []⟩, ⟨3, false, []⟩, ⟨4, false, []⟩, ⟨2, true, [3, 4]⟩, ⟨5, false, []⟩, ⟨6, false, []⟩, ⟨7, false, []⟩, ⟨8, false, []⟩, ⟨10, false, []⟩, ⟨11, false, []⟩, ⟨9, true, [10, 11]⟩, ⟨12, false, []⟩, ⟨13, false, []⟩, ⟨14, false, []⟩, ⟨15, false, []⟩, ⟨16, false, []⟩, ⟨17, false, []⟩, ⟨18, false, []⟩, ⟨19, false, []⟩, ⟨20, false, []⟩, ⟨21, false, []⟩, ⟨22, false, []⟩, ⟨23, false, []⟩, ⟨24, false, []⟩, ⟨25, false, []⟩, ⟨26, false, []⟩, ⟨27, false, []⟩, ⟨28, false, []⟩, ⟨29, false, []⟩, ⟨30, false, []⟩, ⟨31, false, []⟩]
  | _ => []
theorem fn35 : FnOK Try.prog 35 Try.f35 cd35 pl35 := ⟨Try.func35, rfl, by kernel_rfl, by kernel_rfl⟩
instance isf35 : IsFn Try.prog 35 := ⟨by kernel_rfl⟩
-- (*anchorhold/proc.Table).Waits
noncomputable def cd36 : Code := match Try.f36.body with
  | some c => c
  | none => .skip
noncomputable def pl36 : Nat → Plan
  | 2 => [⟨0, false, []⟩, ⟨1, false, []⟩, ⟨2, false, []⟩, ⟨3, false, []⟩, ⟨4, false, []⟩, ⟨5, false, []⟩, ⟨6, false, []⟩, ⟨7, false, []⟩, ⟨8, false, []⟩, ⟨9, false, []⟩, ⟨10, false, []⟩, ⟨11, false, []⟩]
  | _ => []
theorem fn36 : FnOK Try.prog 36 Try.f36 cd36 pl36 := ⟨Try.func36, rfl, by kernel_rfl, by kernel_rfl⟩
instance isf36 : IsFn Try.prog 36 := ⟨by kernel_rfl⟩
-- (*anchorhold/proc.Table).Release
noncomputable def cd37 : Code := match Try.f37.body with
  | some c => c
  | none => .skip
noncomputable def pl37 : Nat → Plan
  | 8 => [⟨0, false, []⟩, ⟨1, false, []⟩, ⟨2, false, []⟩, ⟨3, false, []⟩, ⟨4, false, []⟩, ⟨5, false, []⟩, ⟨6, true, []⟩]
  | _ => []
theorem fn37 : FnOK Try.prog 37 Try.f37 cd37 pl37 := ⟨Try.func37, rfl, by kernel_rfl, by kernel_rfl⟩
instance isf37 : IsFn Try.prog 37 := ⟨by kernel_rfl⟩
-- (*anchorhold/proc.Table).Due
noncomputable def cd38 : Code := match Try.f38.body with
  | some c => c
  | none => .skip
noncomputable def pl38 : Nat → Plan := fun _ => []
theorem fn38 : FnOK Try.prog 38 Try.f38 cd38 pl38 := ⟨Try.func38, rfl, by kernel_rfl, by kernel_rfl⟩
instance isf38 : IsFn Try.prog 38 := ⟨by kernel_rfl⟩
-- (*anchorhold/proc.Table).Start
noncomputable def cd39 : Code := match Try.f39.body with
  | some c => c
  | none => .skip
noncomputable def pl39 : Nat → Plan := fun _ => []
theorem fn39 : FnOK Try.prog 39 Try.f39 cd39 pl39 := ⟨Try.func39, rfl, by kernel_rfl, by kernel_rfl⟩
instance isf39 : IsFn Try.prog 39 := ⟨by kernel_rfl⟩
-- (*anchorhold/proc.Table).Wait
noncomputable def cd40 : Code := match Try.f40.body with
  | some c => c
  | none => .skip
noncomputable def pl40 : Nat → Plan := fun _ => []
theorem fn40 : FnOK Try.prog 40 Try.f40 cd40 pl40 := ⟨Try.func40, rfl, by kernel_rfl, by kernel_rfl⟩
instance isf40 : IsFn Try.prog 40 := ⟨by kernel_rfl⟩
-- (*anchorhold/proc.Table).Park
noncomputable def cd41 : Code := match Try.f41.body with
  | some c => c
  | none => .skip
noncomputable def pl41 : Nat → Plan
  | 5 => [⟨0, false, []⟩, ⟨1, false, []⟩, ⟨2, false, []⟩, ⟨3, false, []⟩, ⟨4, false, []⟩, ⟨5, false, []⟩, ⟨6, true, []⟩]
  | _ => []
theorem fn41 : FnOK Try.prog 41 Try.f41 cd41 pl41 := ⟨Try.func41, rfl, by kernel_rfl, by kernel_rfl⟩
instance isf41 : IsFn Try.prog 41 := ⟨by kernel_rfl⟩
-- (*anchorhold/proc.Table).First
noncomputable def cd42 : Code := match Try.f42.body with
  | some c => c
  | none => .skip
noncomputable def pl42 : Nat → Plan := fun _ => []
theorem fn42 : FnOK Try.prog 42 Try.f42 cd42 pl42 := ⟨Try.func42, rfl, by kernel_rfl, by kernel_rfl⟩
instance isf42 : IsFn Try.prog 42 := ⟨by kernel_rfl⟩
-- anchorhold/port.New
noncomputable def cd43 : Code := match Try.f43.body with
  | some c => c
  | none => .skip
noncomputable def pl43 : Nat → Plan := fun _ => []
theorem fn43 : FnOK Try.prog 43 Try.f43 cd43 pl43 := ⟨Try.func43, rfl, by kernel_rfl, by kernel_rfl⟩
instance isf43 : IsFn Try.prog 43 := ⟨by kernel_rfl⟩
-- anchorhold/anchorholdlaw18.works
noncomputable def cd44 : Code := match Try.f44.body with
  | some c => c
  | none => .skip
noncomputable def pl44 : Nat → Plan := fun _ => []
theorem fn44 : FnOK Try.prog 44 Try.f44 cd44 pl44 := ⟨Try.func44, rfl, by kernel_rfl, by kernel_rfl⟩
instance isf44 : IsFn Try.prog 44 := ⟨by kernel_rfl⟩
-- (*anchorhold/port.Ports).Deliver
noncomputable def cd45 : Code := match Try.f45.body with
  | some c => c
  | none => .skip
noncomputable def pl45 : Nat → Plan := fun _ => []
theorem fn45 : FnOK Try.prog 45 Try.f45 cd45 pl45 := ⟨Try.func45, rfl, by kernel_rfl, by kernel_rfl⟩
instance isf45 : IsFn Try.prog 45 := ⟨by kernel_rfl⟩
-- (*anchorhold/port.Ports).Send
noncomputable def cd46 : Code := match Try.f46.body with
  | some c => c
  | none => .skip
noncomputable def pl46 : Nat → Plan := fun _ => []
theorem fn46 : FnOK Try.prog 46 Try.f46 cd46 pl46 := ⟨Try.func46, rfl, by kernel_rfl, by kernel_rfl⟩
instance isf46 : IsFn Try.prog 46 := ⟨by kernel_rfl⟩
-- (*anchorhold/port.Ports).Receive
noncomputable def cd47 : Code := match Try.f47.body with
  | some c => c
  | none => .skip
noncomputable def pl47 : Nat → Plan := fun _ => []
theorem fn47 : FnOK Try.prog 47 Try.f47 cd47 pl47 := ⟨Try.func47, rfl, by kernel_rfl, by kernel_rfl⟩
instance isf47 : IsFn Try.prog 47 := ⟨by kernel_rfl⟩
-- anchorhold/anchorholdref18.Same
noncomputable def cd48 : Code := match Try.f48.body with
  | some c => c
  | none => .skip
noncomputable def pl48 : Nat → Plan
  | 6 => [⟨0, false, []⟩, ⟨1, false, []⟩, ⟨2, false, []⟩, ⟨3, false, []⟩, ⟨4, false, []⟩, ⟨5, false, []⟩, ⟨6, false, []⟩, ⟨7, false, []⟩, ⟨8, false, []⟩, ⟨9, false, []⟩, ⟨10, false, []⟩]
  | _ => []
theorem fn48 : FnOK Try.prog 48 Try.f48 cd48 pl48 := ⟨Try.func48, rfl, by kernel_rfl, by kernel_rfl⟩
instance isf48 : IsFn Try.prog 48 := ⟨by kernel_rfl⟩
-- (*anchorhold/port.Ports).Drain
noncomputable def cd49 : Code := match Try.f49.body with
  | some c => c
  | none => .skip
noncomputable def pl49 : Nat → Plan := fun _ => []
theorem fn49 : FnOK Try.prog 49 Try.f49 cd49 pl49 := ⟨Try.func49, rfl, by kernel_rfl, by kernel_rfl⟩
instance isf49 : IsFn Try.prog 49 := ⟨by kernel_rfl⟩
-- (*anchorhold/port.Ports).Len
noncomputable def cd50 : Code := match Try.f50.body with
  | some c => c
  | none => .skip
noncomputable def pl50 : Nat → Plan := fun _ => []
theorem fn50 : FnOK Try.prog 50 Try.f50 cd50 pl50 := ⟨Try.func50, rfl, by kernel_rfl, by kernel_rfl⟩
instance isf50 : IsFn Try.prog 50 := ⟨by kernel_rfl⟩
-- (*anchorhold/port.Ports).Read
noncomputable def cd51 : Code := match Try.f51.body with
  | some c => c
  | none => .skip
noncomputable def pl51 : Nat → Plan := fun _ => []
theorem fn51 : FnOK Try.prog 51 Try.f51 cd51 pl51 := ⟨Try.func51, rfl, by kernel_rfl, by kernel_rfl⟩
instance isf51 : IsFn Try.prog 51 := ⟨by kernel_rfl⟩
-- (*anchorhold/port.Ports).Write
noncomputable def cd52 : Code := match Try.f52.body with
  | some c => c
  | none => .skip
noncomputable def pl52 : Nat → Plan := fun _ => []
theorem fn52 : FnOK Try.prog 52 Try.f52 cd52 pl52 := ⟨Try.func52, rfl, by kernel_rfl, by kernel_rfl⟩
instance isf52 : IsFn Try.prog 52 := ⟨by kernel_rfl⟩
-- anchorhold/anchorholdref18.New
noncomputable def cd53 : Code := match Try.f53.body with
  | some c => c
  | none => .skip
noncomputable def pl53 : Nat → Plan
  | 4 => [⟨1, false, []⟩, ⟨2, false, []⟩, ⟨3, false, []⟩, ⟨5, false, []⟩, ⟨7, false, []⟩, ⟨9, false, []⟩, ⟨0, true, [3]⟩, ⟨4, true, []⟩, ⟨6, true, [3]⟩, ⟨8, true, [3]⟩, ⟨10, true, [3]⟩, ⟨11, false, []⟩, ⟨12, true, []⟩, ⟨13, false, []⟩]
  | _ => []
instance isf53 : IsFn Try.prog 53 := ⟨by kernel_rfl⟩
-- anchorhold/anchorholdlaw18.like
noncomputable def cd54 : Code := match Try.f54.body with
  | some c => c
  | none => .skip
noncomputable def pl54 : Nat → Plan
  | 7 => [⟨0, false, []⟩, ⟨1, false, []⟩, ⟨3, false, []⟩, ⟨4, false, []⟩, ⟨5, false, []⟩, ⟨6, false, []⟩, ⟨7, false, []⟩, ⟨8, false, []⟩, ⟨9, false, []⟩, ⟨10, false, []⟩, ⟨2, true, [4, 5, 6, 8, 9, 10]⟩, ⟨11, false, []⟩, ⟨12, false, []⟩, ⟨13, false, []⟩, ⟨14, false, []⟩, ⟨16, false, []⟩, ⟨17, false, []⟩, ⟨18, false, []⟩, ⟨19, false, []⟩, ⟨20, false, []⟩, ⟨21, false, []⟩, ⟨22, false, []⟩, ⟨15, true, [17, 18, 19, 21, 22]⟩, ⟨23, false, []⟩, ⟨24, false, []⟩, ⟨25, false, []⟩, ⟨26, false, []⟩, ⟨27, false, []⟩, ⟨29, false, []⟩, ⟨30, false, []⟩, ⟨31, false, []⟩, ⟨32, false, []⟩, ⟨33, false, []⟩, ⟨34, false, []⟩, ⟨35, false, []⟩, ⟨36, false, []⟩, ⟨28, true, [30, 31, 32, 34, 35, 36]⟩, ⟨37, false, []⟩, ⟨38, false, []⟩, ⟨39, false, []⟩, ⟨40, false, []⟩, ⟨41, false, []⟩, ⟨42, false, []⟩, ⟨43, false, []⟩, ⟨44, false, []⟩, ⟨45, false, []⟩, ⟨46, false, []⟩, ⟨47, false, []⟩, ⟨48, false, []⟩, ⟨49, false, []⟩, ⟨50, false, []⟩, ⟨51, false, []⟩, ⟨52, false, []⟩, ⟨53, false, []⟩, ⟨54, false, []⟩, ⟨55, false, []⟩, ⟨56, false, []⟩, ⟨57, false, []⟩, ⟨58, true, []⟩, ⟨59, false, []⟩, ⟨60, false, []⟩, ⟨61, false, []⟩, ⟨62, false, []⟩, ⟨63, false, []⟩, ⟨64, false, []⟩, ⟨65, false, []⟩, ⟨66, false, []⟩, ⟨67, false, []⟩, ⟨68, false, []⟩, ⟨69, false, []⟩, ⟨70, false, []⟩, ⟨71, false, []⟩, ⟨72, false, []⟩, ⟨73, false, []⟩, ⟨74, false, []⟩, ⟨75, false, []⟩, ⟨76, false, []⟩, ⟨77, false, []⟩, ⟨78, false, []⟩, ⟨79, false, []⟩, ⟨80, false, []⟩, ⟨81, true, []⟩, ⟨82, false, []⟩]
  | _ => []
theorem fn54 : FnOK Try.prog 54 Try.f54 cd54 pl54 := ⟨Try.func54, rfl, by kernel_rfl, by kernel_rfl⟩
instance isf54 : IsFn Try.prog 54 := ⟨by kernel_rfl⟩
-- anchorhold/anchorholdlaw18.done
noncomputable def cd55 : Code := match Try.f55.body with
  | some c => c
  | none => .skip
noncomputable def pl55 : Nat → Plan
  | 3 => [⟨0, false, []⟩, ⟨1, false, []⟩, ⟨2, false, []⟩, ⟨3, false, []⟩, ⟨4, false, []⟩, ⟨6, false, []⟩, ⟨7, false, []⟩, ⟨8, false, []⟩, ⟨9, false, []⟩, ⟨10, false, []⟩, ⟨5, true, [7, 8, 9, 10]⟩, ⟨11, true, []⟩, ⟨12, false, []⟩, ⟨13, false, []⟩]
  | 9 => [⟨0, false, []⟩, ⟨1, false, []⟩, ⟨2, false, []⟩, ⟨3, false, []⟩, ⟨4, false, []⟩, ⟨6, false, []⟩, ⟨7, false, []⟩, ⟨8, false, []⟩, ⟨9, false, []⟩, ⟨10, false, []⟩, ⟨5, true, [7, 8, 9, 10]⟩, ⟨11, true, []⟩, ⟨12, false, []⟩, ⟨13, false, []⟩]
  | 15 => [⟨0, false, []⟩, ⟨1, false, []⟩, ⟨2, false, []⟩, ⟨4, false, []⟩, ⟨5, false, []⟩, ⟨6, false, []⟩, ⟨3, true, [5, 6]⟩, ⟨7, true, []⟩, ⟨8, true, []⟩, ⟨9, false, []⟩]
  | 17 => [⟨0, false, []⟩, ⟨1, false, []⟩, ⟨2, false, []⟩, ⟨3, false, []⟩, ⟨4, false, []⟩, ⟨6, false, []⟩, ⟨7, false, []⟩, ⟨8, false, []⟩, ⟨9, false, []⟩, ⟨10, false, []⟩, ⟨5, true, [7, 8, 9, 10]⟩, ⟨11, true, []⟩, ⟨12, false, []⟩, ⟨13, false, []⟩]
  | _ => []
theorem fn55 : FnOK Try.prog 55 Try.f55 cd55 pl55 := ⟨Try.func55, rfl, by kernel_rfl, by kernel_rfl⟩
instance isf55 : IsFn Try.prog 55 := ⟨by kernel_rfl⟩
-- (*anchorhold/port.Ports).Clear
noncomputable def cd56 : Code := match Try.f56.body with
  | some c => c
  | none => .skip
noncomputable def pl56 : Nat → Plan := fun _ => []
theorem fn56 : FnOK Try.prog 56 Try.f56 cd56 pl56 := ⟨Try.func56, rfl, by kernel_rfl, by kernel_rfl⟩
instance isf56 : IsFn Try.prog 56 := ⟨by kernel_rfl⟩
-- (*anchorhold/port.Ports).Lost
noncomputable def cd57 : Code := match Try.f57.body with
  | some c => c
  | none => .skip
noncomputable def pl57 : Nat → Plan := fun _ => []
theorem fn57 : FnOK Try.prog 57 Try.f57 cd57 pl57 := ⟨Try.func57, rfl, by kernel_rfl, by kernel_rfl⟩
instance isf57 : IsFn Try.prog 57 := ⟨by kernel_rfl⟩
-- (*anchorhold/port.Ports).Size
noncomputable def cd58 : Code := match Try.f58.body with
  | some c => c
  | none => .skip
noncomputable def pl58 : Nat → Plan := fun _ => []
theorem fn58 : FnOK Try.prog 58 Try.f58 cd58 pl58 := ⟨Try.func58, rfl, by kernel_rfl, by kernel_rfl⟩
instance isf58 : IsFn Try.prog 58 := ⟨by kernel_rfl⟩
-- (*anchorhold/port.Ports).Can
noncomputable def cd59 : Code := match Try.f59.body with
  | some c => c
  | none => .skip
noncomputable def pl59 : Nat → Plan := fun _ => []
theorem fn59 : FnOK Try.prog 59 Try.f59 cd59 pl59 := ⟨Try.func59, rfl, by kernel_rfl, by kernel_rfl⟩
instance isf59 : IsFn Try.prog 59 := ⟨by kernel_rfl⟩
-- anchorhold/anchorholdlaw20.short
noncomputable def cd60 : Code := match Try.f60.body with
  | some c => c
  | none => .skip
noncomputable def pl60 : Nat → Plan := fun _ => []
theorem fn60 : FnOK Try.prog 60 Try.f60 cd60 pl60 := ⟨Try.func60, rfl, by kernel_rfl, by kernel_rfl⟩
instance isf60 : IsFn Try.prog 60 := ⟨by kernel_rfl⟩
-- anchorhold/anchorholdref20.New
noncomputable def cd61 : Code := match Try.f61.body with
  | some c => c
  | none => .skip
noncomputable def pl61 : Nat → Plan
  | 5 => [⟨0, false, []⟩, ⟨1, false, []⟩, ⟨2, false, []⟩, ⟨3, false, []⟩, ⟨4, false, []⟩, ⟨5, false, []⟩, ⟨6, false, []⟩, ⟨7, false, []⟩, ⟨8, false, []⟩, ⟨9, false, []⟩, ⟨10, false, []⟩, ⟨11, true, [2, 3, 4]⟩, ⟨12, true, []⟩, ⟨13, false, []⟩, ⟨14, false, []⟩, ⟨15, true, []⟩]
  | _ => []
theorem fn61 : FnOK Try.prog 61 Try.f61 cd61 pl61 := ⟨Try.func61, rfl, by kernel_rfl, by kernel_rfl⟩
instance isf61 : IsFn Try.prog 61 := ⟨by kernel_rfl⟩
-- anchorhold/anchorholdlaw20.done
noncomputable def cd62 : Code := match Try.f62.body with
  | some c => c
  | none => .skip
noncomputable def pl62 : Nat → Plan
  | 3 => [⟨0, false, []⟩, ⟨1, false, []⟩, ⟨2, false, []⟩, ⟨4, false, []⟩, ⟨5, false, []⟩, ⟨6, false, []⟩, ⟨3, true, [5, 6]⟩, ⟨7, true, []⟩, ⟨8, false, []⟩, ⟨9, false, []⟩]
  | 5 => [⟨0, false, []⟩, ⟨1, false, []⟩, ⟨2, false, []⟩, ⟨4, false, []⟩, ⟨5, false, []⟩, ⟨6, false, []⟩, ⟨3, true, [5, 6]⟩, ⟨7, true, []⟩, ⟨8, false, []⟩, ⟨9, false, []⟩]
  | 7 => [⟨0, false, []⟩, ⟨1, false, []⟩, ⟨2, false, []⟩, ⟨4, false, []⟩, ⟨5, false, []⟩, ⟨6, false, []⟩, ⟨3, true, [5, 6]⟩, ⟨7, true, []⟩, ⟨8, false, []⟩, ⟨9, false, []⟩]
  | 9 => [⟨0, false, []⟩, ⟨1, false, []⟩, ⟨2, false, []⟩, ⟨4, false, []⟩, ⟨5, false, []⟩, ⟨6, false, []⟩, ⟨3, true, [5, 6]⟩, ⟨7, true, []⟩, ⟨8, false, []⟩, ⟨9, false, []⟩]
  | 11 => [⟨0, false, []⟩, ⟨1, false, []⟩, ⟨2, false, []⟩, ⟨3, false, []⟩, ⟨4, false, []⟩, ⟨6, false, []⟩, ⟨7, false, []⟩, ⟨8, false, []⟩, ⟨9, false, []⟩, ⟨10, false, []⟩, ⟨5, true, [7, 8, 9, 10]⟩, ⟨11, true, []⟩, ⟨12, false, []⟩, ⟨13, false, []⟩]
  | 17 => [⟨0, false, []⟩, ⟨1, false, []⟩, ⟨2, false, []⟩, ⟨3, false, []⟩, ⟨4, false, []⟩, ⟨6, false, []⟩, ⟨7, false, []⟩, ⟨8, false, []⟩, ⟨9, false, []⟩, ⟨10, false, []⟩, ⟨5, true, [7, 8, 9, 10]⟩, ⟨11, true, []⟩, ⟨12, false, []⟩, ⟨13, false, []⟩]
  | 23 => [⟨0, false, []⟩, ⟨1, false, []⟩, ⟨2, false, []⟩, ⟨4, false, []⟩, ⟨5, false, []⟩, ⟨6, false, []⟩, ⟨3, true, [5, 6]⟩, ⟨7, true, []⟩, ⟨8, false, []⟩, ⟨9, false, []⟩]
  | _ => []
theorem fn62 : FnOK Try.prog 62 Try.f62 cd62 pl62 := ⟨Try.func62, rfl, by kernel_rfl, by kernel_rfl⟩
instance isf62 : IsFn Try.prog 62 := ⟨by kernel_rfl⟩
-- anchorhold/anchorholdlaw20.like
noncomputable def cd63 : Code := match Try.f63.body with
  | some c => c
  | none => .skip
noncomputable def pl63 : Nat → Plan := fun _ => []
theorem fn63 : FnOK Try.prog 63 Try.f63 cd63 pl63 := ⟨Try.func63, rfl, by kernel_rfl, by kernel_rfl⟩
instance isf63 : IsFn Try.prog 63 := ⟨by kernel_rfl⟩
-- (*anchorhold/object.Objects).Clear
noncomputable def cd64 : Code := match Try.f64.body with
  | some c => c
  | none => .skip
noncomputable def pl64 : Nat → Plan := fun _ => []
theorem fn64 : FnOK Try.prog 64 Try.f64 cd64 pl64 := ⟨Try.func64, rfl, by kernel_rfl, by kernel_rfl⟩
instance isf64 : IsFn Try.prog 64 := ⟨by kernel_rfl⟩
-- (*anchorhold/object.Objects).Up
noncomputable def cd65 : Code := match Try.f65.body with
  | some c => c
  | none => .skip
noncomputable def pl65 : Nat → Plan := fun _ => []
theorem fn65 : FnOK Try.prog 65 Try.f65 cd65 pl65 := ⟨Try.func65, rfl, by kernel_rfl, by kernel_rfl⟩
instance isf65 : IsFn Try.prog 65 := ⟨by kernel_rfl⟩
-- (*anchorhold/object.Objects).Size
noncomputable def cd66 : Code := match Try.f66.body with
  | some c => c
  | none => .skip
noncomputable def pl66 : Nat → Plan := fun _ => []
theorem fn66 : FnOK Try.prog 66 Try.f66 cd66 pl66 := ⟨Try.func66, rfl, by kernel_rfl, by kernel_rfl⟩
instance isf66 : IsFn Try.prog 66 := ⟨by kernel_rfl⟩
-- (*anchorhold/object.Objects).Flag
noncomputable def cd67 : Code := match Try.f67.body with
  | some c => c
  | none => .skip
noncomputable def pl67 : Nat → Plan := fun _ => []
theorem fn67 : FnOK Try.prog 67 Try.f67 cd67 pl67 := ⟨Try.func67, rfl, by kernel_rfl, by kernel_rfl⟩
instance isf67 : IsFn Try.prog 67 := ⟨by kernel_rfl⟩
-- (*anchorhold/object.Objects).Wipe
noncomputable def cd68 : Code := match Try.f68.body with
  | some c => c
  | none => .skip
noncomputable def pl68 : Nat → Plan := fun _ => []
theorem fn68 : FnOK Try.prog 68 Try.f68 cd68 pl68 := ⟨Try.func68, rfl, by kernel_rfl, by kernel_rfl⟩
instance isf68 : IsFn Try.prog 68 := ⟨by kernel_rfl⟩
-- (*anchorhold/object.Objects).sem
noncomputable def cd69 : Code := match Try.f69.body with
  | some c => c
  | none => .skip
noncomputable def pl69 : Nat → Plan := fun _ => []
theorem fn69 : FnOK Try.prog 69 Try.f69 cd69 pl69 := ⟨Try.func69, rfl, by kernel_rfl, by kernel_rfl⟩
instance isf69 : IsFn Try.prog 69 := ⟨by kernel_rfl⟩
-- (*anchorhold/anchorholdref21.Table).Start
noncomputable def cd70 : Code := match Try.f70.body with
  | some c => c
  | none => .skip
noncomputable def pl70 : Nat → Plan := fun _ => []
theorem fn70 : FnOK Try.prog 70 Try.f70 cd70 pl70 := ⟨Try.func70, rfl, by kernel_rfl, by kernel_rfl⟩
instance isf70 : IsFn Try.prog 70 := ⟨by kernel_rfl⟩
-- (*anchorhold/anchorholdref21.Table).Set
noncomputable def cd71 : Code := match Try.f71.body with
  | some c => c
  | none => .skip
noncomputable def pl71 : Nat → Plan := fun _ => []
theorem fn71 : FnOK Try.prog 71 Try.f71 cd71 pl71 := ⟨Try.func71, rfl, by kernel_rfl, by kernel_rfl⟩
instance isf71 : IsFn Try.prog 71 := ⟨by kernel_rfl⟩
-- (*anchorhold/anchorholdref21.Table).Wait
noncomputable def cd72 : Code := match Try.f72.body with
  | some c => c
  | none => .skip
noncomputable def pl72 : Nat → Plan := fun _ => []
theorem fn72 : FnOK Try.prog 72 Try.f72 cd72 pl72 := ⟨Try.func72, rfl, by kernel_rfl, by kernel_rfl⟩
instance isf72 : IsFn Try.prog 72 := ⟨by kernel_rfl⟩
-- (*anchorhold/anchorholdref21.Table).Rank
noncomputable def cd73 : Code := match Try.f73.body with
  | some c => c
  | none => .skip
noncomputable def pl73 : Nat → Plan := fun _ => []
theorem fn73 : FnOK Try.prog 73 Try.f73 cd73 pl73 := ⟨Try.func73, rfl, by kernel_rfl, by kernel_rfl⟩
instance isf73 : IsFn Try.prog 73 := ⟨by kernel_rfl⟩
-- (*anchorhold/anchorholdref21.Table).Park
noncomputable def cd74 : Code := match Try.f74.body with
  | some c => c
  | none => .skip
noncomputable def pl74 : Nat → Plan := fun _ => []
theorem fn74 : FnOK Try.prog 74 Try.f74 cd74 pl74 := ⟨Try.func74, rfl, by kernel_rfl, by kernel_rfl⟩
instance isf74 : IsFn Try.prog 74 := ⟨by kernel_rfl⟩
-- (*anchorhold/anchorholdref21.Table).Free
noncomputable def cd75 : Code := match Try.f75.body with
  | some c => c
  | none => .skip
noncomputable def pl75 : Nat → Plan := fun _ => []
theorem fn75 : FnOK Try.prog 75 Try.f75 cd75 pl75 := ⟨Try.func75, rfl, by kernel_rfl, by kernel_rfl⟩
instance isf75 : IsFn Try.prog 75 := ⟨by kernel_rfl⟩
-- anchorhold/anchorholdref07.Same
noncomputable def cd76 : Code := match Try.f76.body with
  | some c => c
  | none => .skip
noncomputable def pl76 : Nat → Plan
  | 6 => [⟨0, false, []⟩, ⟨1, false, []⟩, ⟨2, false, []⟩, ⟨3, false, []⟩, ⟨4, false, []⟩, ⟨5, false, []⟩, ⟨6, false, []⟩, ⟨7, false, []⟩, ⟨8, false, []⟩]
  | _ => []
theorem fn76 : FnOK Try.prog 76 Try.f76 cd76 pl76 := ⟨Try.func76, rfl, by kernel_rfl, by kernel_rfl⟩
instance isf76 : IsFn Try.prog 76 := ⟨by kernel_rfl⟩
-- (*anchorhold/anchorholdref21.Table).Due
noncomputable def cd77 : Code := match Try.f77.body with
  | some c => c
  | none => .skip
noncomputable def pl77 : Nat → Plan := fun _ => []
theorem fn77 : FnOK Try.prog 77 Try.f77 cd77 pl77 := ⟨Try.func77, rfl, by kernel_rfl, by kernel_rfl⟩
instance isf77 : IsFn Try.prog 77 := ⟨by kernel_rfl⟩
-- (*anchorhold/anchorholdref21.Table).Release
noncomputable def cd78 : Code := match Try.f78.body with
  | some c => c
  | none => .skip
noncomputable def pl78 : Nat → Plan := fun _ => []
theorem fn78 : FnOK Try.prog 78 Try.f78 cd78 pl78 := ⟨Try.func78, rfl, by kernel_rfl, by kernel_rfl⟩
instance isf78 : IsFn Try.prog 78 := ⟨by kernel_rfl⟩
-- (*anchorhold/proc.Table).find
noncomputable def cd79 : Code := match Try.f79.body with
  | some c => c
  | none => .skip
noncomputable def pl79 : Nat → Plan := fun _ => []
theorem fn79 : FnOK Try.prog 79 Try.f79 cd79 pl79 := ⟨Try.func79, rfl, by kernel_rfl, by kernel_rfl⟩
instance isf79 : IsFn Try.prog 79 := ⟨by kernel_rfl⟩
-- (*anchorhold/proc.Table).put
noncomputable def cd80 : Code := match Try.f80.body with
  | some c => c
  | none => .skip
noncomputable def pl80 : Nat → Plan
  | 7 => [⟨0, false, []⟩, ⟨1, false, []⟩, ⟨2, false, []⟩, ⟨3, false, []⟩, ⟨4, false, []⟩, ⟨5, false, []⟩, ⟨6, true, []⟩]
  | _ => []
theorem fn80 : FnOK Try.prog 80 Try.f80 cd80 pl80 := ⟨Try.func80, rfl, by kernel_rfl, by kernel_rfl⟩
instance isf80 : IsFn Try.prog 80 := ⟨by kernel_rfl⟩
-- (*anchorhold/proc.Table).best
noncomputable def cd81 : Code := match Try.f81.body with
  | some c => c
  | none => .skip
noncomputable def pl81 : Nat → Plan
  | 6 => [⟨0, false, []⟩, ⟨1, false, []⟩, ⟨2, false, []⟩, ⟨3, false, []⟩, ⟨4, false, []⟩, ⟨5, false, []⟩, ⟨6, false, []⟩, ⟨7, true, []⟩, ⟨8, false, []⟩, ⟨9, false, []⟩, ⟨10, false, []⟩, ⟨11, false, []⟩, ⟨12, false, []⟩, ⟨13, false, []⟩, ⟨14, false, []⟩, ⟨15, false, []⟩, ⟨16, false, []⟩, ⟨17, false, []⟩, ⟨18, false, []⟩, ⟨19, false, []⟩, ⟨20, false, []⟩, ⟨21, false, []⟩, ⟨22, false, []⟩, ⟨23, false, []⟩, ⟨24, false, []⟩, ⟨25, true, []⟩, ⟨26, false, []⟩, ⟨27, false, []⟩]
  | _ => []
theorem fn81 : FnOK Try.prog 81 Try.f81 cd81 pl81 := ⟨Try.func81, rfl, by kernel_rfl, by kernel_rfl⟩
instance isf81 : IsFn Try.prog 81 := ⟨by kernel_rfl⟩
-- (anchorhold/proc.one).ready
noncomputable def cd82 : Code := match Try.f82.body with
  | some c => c
  | none => .skip
noncomputable def pl82 : Nat → Plan := fun _ => []
theorem fn82 : FnOK Try.prog 82 Try.f82 cd82 pl82 := ⟨Try.func82, rfl, by kernel_rfl, by kernel_rfl⟩
instance isf82 : IsFn Try.prog 82 := ⟨by kernel_rfl⟩
-- (*anchorhold/object.Objects).pool
noncomputable def cd83 : Code := match Try.f83.body with
  | some c => c
  | none => .skip
noncomputable def pl83 : Nat → Plan := fun _ => []
theorem fn83 : FnOK Try.prog 83 Try.f83 cd83 pl83 := ⟨Try.func83, rfl, by kernel_rfl, by kernel_rfl⟩
instance isf83 : IsFn Try.prog 83 := ⟨by kernel_rfl⟩
-- anchorhold/object.fits
noncomputable def cd84 : Code := match Try.f84.body with
  | some c => c
  | none => .skip
noncomputable def pl84 : Nat → Plan := fun _ => []
theorem fn84 : FnOK Try.prog 84 Try.f84 cd84 pl84 := ⟨Try.func84, rfl, by kernel_rfl, by kernel_rfl⟩
instance isf84 : IsFn Try.prog 84 := ⟨by kernel_rfl⟩
-- slices.Clone[[]byte,byte]
noncomputable def cd85 : Code := match Try.f85.body with
  | some c => c
  | none => .skip
noncomputable def pl85 : Nat → Plan := fun _ => []
theorem fn85 : FnOK Try.prog 85 Try.f85 cd85 pl85 := ⟨Try.func85, rfl, by kernel_rfl, by kernel_rfl⟩
instance isf85 : IsFn Try.prog 85 := ⟨by kernel_rfl⟩
-- (*anchorhold/object.Objects).slate
noncomputable def cd86 : Code := match Try.f86.body with
  | some c => c
  | none => .skip
noncomputable def pl86 : Nat → Plan := fun _ => []
theorem fn86 : FnOK Try.prog 86 Try.f86 cd86 pl86 := ⟨Try.func86, rfl, by kernel_rfl, by kernel_rfl⟩
instance isf86 : IsFn Try.prog 86 := ⟨by kernel_rfl⟩
-- slices.Delete[[][]byte,[]byte]
noncomputable def cd87 : Code := match Try.f87.body with
  | some c => c
  | none => .skip
noncomputable def pl87 : Nat → Plan
  | 5 => [⟨0, false, []⟩, ⟨1, false, []⟩, ⟨2, false, []⟩, ⟨3, false, []⟩, ⟨4, false, []⟩, ⟨5, false, []⟩, ⟨6, true, []⟩, ⟨7, false, []⟩]
  | _ => []
theorem fn87 : FnOK Try.prog 87 Try.f87 cd87 pl87 := ⟨Try.func87, rfl, by kernel_rfl, by kernel_rfl⟩
instance isf87 : IsFn Try.prog 87 := ⟨by kernel_rfl⟩
-- (*anchorhold/anchorholdref21.Table).Pick
noncomputable def cd88 : Code := match Try.f88.body with
  | some c => c
  | none => .skip
noncomputable def pl88 : Nat → Plan
  | 5 => [⟨0, false, []⟩, ⟨1, false, []⟩, ⟨2, false, []⟩, ⟨3, false, []⟩, ⟨4, false, []⟩, ⟨5, false, []⟩, ⟨6, false, []⟩, ⟨7, false, []⟩, ⟨8, false, []⟩, ⟨9, false, []⟩, ⟨10, false, []⟩, ⟨11, false, []⟩, ⟨12, false, []⟩, ⟨13, false, []⟩, ⟨14, false, []⟩, ⟨15, false, []⟩, ⟨16, false, []⟩, ⟨17, false, []⟩, ⟨18, false, []⟩, ⟨19, false, []⟩, ⟨20, false, []⟩, ⟨21, false, []⟩, ⟨22, false, []⟩, ⟨23, false, []⟩, ⟨24, false, []⟩, ⟨25, false, []⟩, ⟨26, false, []⟩, ⟨27, false, []⟩, ⟨28, false, []⟩, ⟨29, false, []⟩, ⟨30, false, []⟩, ⟨31, false, []⟩, ⟨32, false, []⟩, ⟨33, false, []⟩, ⟨34, false, []⟩, ⟨35, false, []⟩, ⟨36, false, []⟩, ⟨37, false, []⟩, ⟨38, true, []⟩, ⟨39, false, []⟩, ⟨40, false, []⟩]
  | _ => []
theorem fn88 : FnOK Try.prog 88 Try.f88 cd88 pl88 := ⟨Try.func88, rfl, by kernel_rfl, by kernel_rfl⟩
instance isf88 : IsFn Try.prog 88 := ⟨by kernel_rfl⟩
-- (*anchorhold/anchorholdref21.Table).First
noncomputable def cd89 : Code := match Try.f89.body with
  | some c => c
  | none => .skip
noncomputable def pl89 : Nat → Plan
  | 6 => [⟨0, false, []⟩, ⟨1, false, []⟩, ⟨2, false, []⟩, ⟨3, false, []⟩, ⟨4, false, []⟩, ⟨5, false, []⟩, ⟨6, false, []⟩, ⟨7, false, []⟩, ⟨8, false, []⟩, ⟨9, false, []⟩, ⟨10, false, []⟩, ⟨11, false, []⟩, ⟨12, false, []⟩, ⟨13, false, []⟩, ⟨14, false, []⟩, ⟨15, false, []⟩, ⟨16, false, []⟩, ⟨17, false, []⟩, ⟨18, false, []⟩, ⟨19, false, []⟩, ⟨20, false, []⟩, ⟨21, false, []⟩, ⟨22, false, []⟩, ⟨23, false, []⟩, ⟨24, false, []⟩, ⟨25, false, []⟩, ⟨26, false, []⟩, ⟨27, true, []⟩, ⟨28, false, []⟩, ⟨29, false, []⟩]
  | _ => []
theorem fn89 : FnOK Try.prog 89 Try.f89 cd89 pl89 := ⟨Try.func89, rfl, by kernel_rfl, by kernel_rfl⟩
instance isf89 : IsFn Try.prog 89 := ⟨by kernel_rfl⟩
-- (*anchorhold/anchorholdref21.Table).Is
noncomputable def cd90 : Code := match Try.f90.body with
  | some c => c
  | none => .skip
noncomputable def pl90 : Nat → Plan := fun _ => []
theorem fn90 : FnOK Try.prog 90 Try.f90 cd90 pl90 := ⟨Try.func90, rfl, by kernel_rfl, by kernel_rfl⟩
instance isf90 : IsFn Try.prog 90 := ⟨by kernel_rfl⟩
-- (*anchorhold/proc.Table).First$1
noncomputable def cd91 : Code := match Try.f91.body with
  | some c => c
  | none => .skip
noncomputable def pl91 : Nat → Plan := fun _ => []
theorem fn91 : FnOK Try.prog 91 Try.f91 cd91 pl91 := ⟨Try.func91, rfl, by kernel_rfl, by kernel_rfl⟩
instance isf91 : IsFn Try.prog 91 := ⟨by kernel_rfl⟩
-- (*anchorhold/port.one).fill
noncomputable def cd92 : Code := match Try.f92.body with
  | some c => c
  | none => .skip
noncomputable def pl92 : Nat → Plan := fun _ => []
theorem fn92 : FnOK Try.prog 92 Try.f92 cd92 pl92 := ⟨Try.func92, rfl, by kernel_rfl, by kernel_rfl⟩
instance isf92 : IsFn Try.prog 92 := ⟨by kernel_rfl⟩
-- (*anchorhold/port.Ports).find
noncomputable def cd93 : Code := match Try.f93.body with
  | some c => c
  | none => .skip
noncomputable def pl93 : Nat → Plan := fun _ => []
theorem fn93 : FnOK Try.prog 93 Try.f93 cd93 pl93 := ⟨Try.func93, rfl, by kernel_rfl, by kernel_rfl⟩
instance isf93 : IsFn Try.prog 93 := ⟨by kernel_rfl⟩
-- (*anchorhold/port.Ports).into
noncomputable def cd94 : Code := match Try.f94.body with
  | some c => c
  | none => .skip
noncomputable def pl94 : Nat → Plan := fun _ => []
theorem fn94 : FnOK Try.prog 94 Try.f94 cd94 pl94 := ⟨Try.func94, rfl, by kernel_rfl, by kernel_rfl⟩
instance isf94 : IsFn Try.prog 94 := ⟨by kernel_rfl⟩
-- (*anchorhold/port.Ports).out
noncomputable def cd95 : Code := match Try.f95.body with
  | some c => c
  | none => .skip
noncomputable def pl95 : Nat → Plan := fun _ => []
theorem fn95 : FnOK Try.prog 95 Try.f95 cd95 pl95 := ⟨Try.func95, rfl, by kernel_rfl, by kernel_rfl⟩
instance isf95 : IsFn Try.prog 95 := ⟨by kernel_rfl⟩
-- (*anchorhold/anchorholdref18.Ports).Write
noncomputable def cd96 : Code := match Try.f96.body with
  | some c => c
  | none => .skip
noncomputable def pl96 : Nat → Plan := fun _ => []
theorem fn96 : FnOK Try.prog 96 Try.f96 cd96 pl96 := ⟨Try.func96, rfl, by kernel_rfl, by kernel_rfl⟩
instance isf96 : IsFn Try.prog 96 := ⟨by kernel_rfl⟩
-- (*anchorhold/anchorholdref18.Ports).Read
noncomputable def cd97 : Code := match Try.f97.body with
  | some c => c
  | none => .skip
noncomputable def pl97 : Nat → Plan := fun _ => []
theorem fn97 : FnOK Try.prog 97 Try.f97 cd97 pl97 := ⟨Try.func97, rfl, by kernel_rfl, by kernel_rfl⟩
instance isf97 : IsFn Try.prog 97 := ⟨by kernel_rfl⟩
-- (*anchorhold/anchorholdref18.Ports).Send
noncomputable def cd98 : Code := match Try.f98.body with
  | some c => c
  | none => .skip
noncomputable def pl98 : Nat → Plan := fun _ => []
theorem fn98 : FnOK Try.prog 98 Try.f98 cd98 pl98 := ⟨Try.func98, rfl, by kernel_rfl, by kernel_rfl⟩
instance isf98 : IsFn Try.prog 98 := ⟨by kernel_rfl⟩
-- (*anchorhold/anchorholdref18.Ports).Receive
noncomputable def cd99 : Code := match Try.f99.body with
  | some c => c
  | none => .skip
noncomputable def pl99 : Nat → Plan
  | 6 => [⟨0, false, []⟩, ⟨1, false, []⟩, ⟨3, false, []⟩, ⟨4, false, []⟩, ⟨5, false, []⟩, ⟨6, false, []⟩, ⟨7, false, []⟩, ⟨8, false, []⟩, ⟨9, false, []⟩, ⟨10, false, []⟩, ⟨12, false, []⟩, ⟨13, false, []⟩, ⟨14, false, []⟩, ⟨15, false, []⟩, ⟨16, false, []⟩, ⟨17, false, []⟩, ⟨18, false, []⟩, ⟨2, true, [4, 5, 6, 8, 9, 10, 13, 14, 15, 17, 18]⟩, ⟨11, true, [13, 14, 15, 17, 18]⟩, ⟨19, true, []⟩]
  | _ => []
theorem fn99 : FnOK Try.prog 99 Try.f99 cd99 pl99 := ⟨Try.func99, rfl, by kernel_rfl, by kernel_rfl⟩
instance isf99 : IsFn Try.prog 99 := ⟨by kernel_rfl⟩
-- (*anchorhold/anchorholdref18.Ports).Drain
noncomputable def cd100 : Code := match Try.f100.body with
  | some c => c
  | none => .skip
noncomputable def pl100 : Nat → Plan
  | 6 => [⟨0, false, []⟩, ⟨1, false, []⟩, ⟨2, false, []⟩, ⟨3, false, []⟩, ⟨4, false, []⟩, ⟨5, false, []⟩, ⟨6, false, []⟩, ⟨7, false, []⟩, ⟨8, false, []⟩, ⟨9, false, []⟩, ⟨10, false, []⟩, ⟨11, false, []⟩, ⟨12, false, []⟩, ⟨13, false, []⟩, ⟨14, false, []⟩, ⟨15, false, []⟩, ⟨16, true, []⟩]
  | _ => []
theorem fn100 : FnOK Try.prog 100 Try.f100 cd100 pl100 := ⟨Try.func100, rfl, by kernel_rfl, by kernel_rfl⟩
instance isf100 : IsFn Try.prog 100 := ⟨by kernel_rfl⟩
-- (*anchorhold/anchorholdref18.Ports).Deliver
noncomputable def cd101 : Code := match Try.f101.body with
  | some c => c
  | none => .skip
noncomputable def pl101 : Nat → Plan
  | 6 => [⟨0, false, []⟩, ⟨1, false, []⟩, ⟨2, false, []⟩, ⟨3, false, []⟩, ⟨4, false, []⟩, ⟨5, false, []⟩, ⟨6, false, []⟩, ⟨7, false, []⟩, ⟨8, false, []⟩, ⟨9, false, []⟩, ⟨10, false, []⟩, ⟨11, false, []⟩, ⟨12, false, []⟩, ⟨13, false, []⟩, ⟨14, false, []⟩, ⟨15, false, []⟩, ⟨16, false, []⟩]
  | 7 => [⟨0, false, []⟩, ⟨1, false, []⟩, ⟨2, false, []⟩, ⟨3, false, []⟩, ⟨4, false, []⟩, ⟨5, false, []⟩, ⟨6, false, []⟩, ⟨7, false, []⟩, ⟨8, false, []⟩, ⟨9, false, []⟩, ⟨10, false, []⟩, ⟨11, false, []⟩, ⟨12, false, []⟩, ⟨13, false, []⟩, ⟨14, false, []⟩, ⟨15, false, []⟩, ⟨16, false, []⟩, ⟨17, true, []⟩]
  | 9 => [⟨0, false, []⟩, ⟨1, false, []⟩, ⟨3, false, []⟩, ⟨4, false, []⟩, ⟨5, false, []⟩, ⟨6, false, []⟩, ⟨7, false, []⟩, ⟨8, false, []⟩, ⟨9, false, []⟩, ⟨11, false, []⟩, ⟨14, false, []⟩, ⟨15, false, []⟩, ⟨16, false, []⟩, ⟨17, false, []⟩, ⟨18, false, []⟩, ⟨19, false, []⟩, ⟨20, false, []⟩, ⟨2, true, [4, 5, 6, 8, 9, 15, 16, 17, 19, 20]⟩, ⟨10, true, [15, 16, 17, 19, 20]⟩, ⟨12, true, [4, 5, 6, 8, 9, 15, 16, 17, 19, 20]⟩, ⟨13, true, [15, 16, 17, 19, 20]⟩, ⟨21, true, []⟩]
  | _ => []
instance isf101 : IsFn Try.prog 101 := ⟨by kernel_rfl⟩
-- (*anchorhold/anchorholdref18.Ports).Clear
noncomputable def cd102 : Code := match Try.f102.body with
  | some c => c
  | none => .skip
noncomputable def pl102 : Nat → Plan := fun _ => []
theorem fn102 : FnOK Try.prog 102 Try.f102 cd102 pl102 := ⟨Try.func102, rfl, by kernel_rfl, by kernel_rfl⟩
instance isf102 : IsFn Try.prog 102 := ⟨by kernel_rfl⟩
-- anchorhold/anchorholdref20.least
noncomputable def cd103 : Code := match Try.f103.body with
  | some c => c
  | none => .skip
noncomputable def pl103 : Nat → Plan := fun _ => []
theorem fn103 : FnOK Try.prog 103 Try.f103 cd103 pl103 := ⟨Try.func103, rfl, by kernel_rfl, by kernel_rfl⟩
instance isf103 : IsFn Try.prog 103 := ⟨by kernel_rfl⟩
-- (*anchorhold/anchorholdref20.Objects).Take
noncomputable def cd104 : Code := match Try.f104.body with
  | some c => c
  | none => .skip
noncomputable def pl104 : Nat → Plan
  | 6 => [⟨0, false, []⟩, ⟨1, false, []⟩, ⟨2, false, []⟩, ⟨3, false, []⟩, ⟨4, false, []⟩, ⟨5, false, []⟩, ⟨6, false, []⟩, ⟨7, false, []⟩, ⟨8, false, []⟩, ⟨9, false, []⟩, ⟨10, false, []⟩, ⟨11, false, []⟩, ⟨12, false, []⟩, ⟨13, false, []⟩, ⟨14, true, []⟩]
  | _ => []
theorem fn104 : FnOK Try.prog 104 Try.f104 cd104 pl104 := ⟨Try.func104, rfl, by kernel_rfl, by kernel_rfl⟩
instance isf104 : IsFn Try.prog 104 := ⟨by kernel_rfl⟩
-- (*anchorhold/anchorholdref20.Objects).Give
noncomputable def cd105 : Code := match Try.f105.body with
  | some c => c
  | none => .skip
noncomputable def pl105 : Nat → Plan
  | 3 => [⟨0, false, []⟩, ⟨1, false, []⟩, ⟨2, false, []⟩, ⟨3, false, []⟩, ⟨4, false, []⟩, ⟨5, false, []⟩, ⟨6, false, []⟩, ⟨7, false, []⟩, ⟨8, false, []⟩, ⟨9, false, []⟩, ⟨10, false, []⟩, ⟨11, false, []⟩, ⟨12, false, []⟩, ⟨13, false, []⟩, ⟨14, false, []⟩, ⟨15, false, []⟩, ⟨16, false, []⟩]
  | 6 => [⟨0, false, []⟩, ⟨1, false, []⟩, ⟨2, false, []⟩, ⟨3, false, []⟩, ⟨4, false, []⟩, ⟨5, false, []⟩, ⟨6, false, []⟩, ⟨7, false, []⟩, ⟨8, false, []⟩, ⟨9, false, []⟩, ⟨10, false, []⟩, ⟨11, false, []⟩, ⟨12, false, []⟩, ⟨13, false, []⟩, ⟨14, true, []⟩]
  | _ => []
theorem fn105 : FnOK Try.prog 105 Try.f105 cd105 pl105 := ⟨Try.func105, rfl, by kernel_rfl, by kernel_rfl⟩
instance isf105 : IsFn Try.prog 105 := ⟨by kernel_rfl⟩
-- (*anchorhold/anchorholdref20.Objects).Flag
noncomputable def cd106 : Code := match Try.f106.body with
  | some c => c
  | none => .skip
noncomputable def pl106 : Nat → Plan := fun _ => []
theorem fn106 : FnOK Try.prog 106 Try.f106 cd106 pl106 := ⟨Try.func106, rfl, by kernel_rfl, by kernel_rfl⟩
instance isf106 : IsFn Try.prog 106 := ⟨by kernel_rfl⟩
-- (*anchorhold/anchorholdref20.Objects).Put
noncomputable def cd107 : Code := match Try.f107.body with
  | some c => c
  | none => .skip
noncomputable def pl107 : Nat → Plan
  | 5 => [⟨0, false, []⟩, ⟨1, false, []⟩, ⟨2, false, []⟩, ⟨3, false, []⟩, ⟨4, false, []⟩, ⟨5, false, []⟩, ⟨6, false, []⟩, ⟨7, false, []⟩, ⟨8, false, []⟩, ⟨9, false, []⟩, ⟨10, false, []⟩, ⟨11, false, []⟩, ⟨12, false, []⟩, ⟨13, false, []⟩, ⟨14, false, []⟩, ⟨15, false, []⟩, ⟨16, false, []⟩, ⟨17, false, []⟩]
  | 8 => [⟨0, false, []⟩, ⟨1, false, []⟩, ⟨2, false, []⟩, ⟨3, false, []⟩, ⟨4, false, []⟩, ⟨6, false, []⟩, ⟨7, false, []⟩, ⟨8, false, []⟩, ⟨9, false, []⟩, ⟨10, false, []⟩, ⟨11, false, []⟩, ⟨12, false, []⟩, ⟨14, false, []⟩, ⟨5, true, [1, 2, 3, 7, 8, 9, 11, 12]⟩, ⟨13, true, [1, 2, 3]⟩, ⟨15, true, [1, 2, 3, 7, 8, 9, 11, 12]⟩, ⟨16, true, [1, 2, 3]⟩, ⟨17, false, []⟩, ⟨18, true, []⟩]
  | _ => []
instance isf107 : IsFn Try.prog 107 := ⟨by kernel_rfl⟩
-- (*anchorhold/anchorholdref20.Objects).Get
noncomputable def cd108 : Code := match Try.f108.body with
  | some c => c
  | none => .skip
noncomputable def pl108 : Nat → Plan
  | 7 => [⟨0, false, []⟩, ⟨1, false, []⟩, ⟨2, false, []⟩, ⟨3, false, []⟩, ⟨4, false, []⟩, ⟨6, false, []⟩, ⟨7, false, []⟩, ⟨8, false, []⟩, ⟨9, false, []⟩, ⟨10, false, []⟩, ⟨11, false, []⟩, ⟨12, false, []⟩, ⟨13, false, []⟩, ⟨5, true, [1, 2, 3, 7, 8, 9, 11, 12, 13]⟩, ⟨14, true, [1, 2, 3]⟩, ⟨15, false, []⟩, ⟨16, true, []⟩]
  | _ => []
theorem fn108 : FnOK Try.prog 108 Try.f108 cd108 pl108 := ⟨Try.func108, rfl, by kernel_rfl, by kernel_rfl⟩
instance isf108 : IsFn Try.prog 108 := ⟨by kernel_rfl⟩
-- anchorhold/anchorholdlaw20.got
noncomputable def cd109 : Code := match Try.f109.body with
  | some c => c
  | none => .skip
noncomputable def pl109 : Nat → Plan := fun _ => []
theorem fn109 : FnOK Try.prog 109 Try.f109 cd109 pl109 := ⟨Try.func109, rfl, by kernel_rfl, by kernel_rfl⟩
instance isf109 : IsFn Try.prog 109 := ⟨by kernel_rfl⟩
-- (*anchorhold/anchorholdref20.Objects).Show
noncomputable def cd110 : Code := match Try.f110.body with
  | some c => c
  | none => .skip
noncomputable def pl110 : Nat → Plan := fun _ => []
theorem fn110 : FnOK Try.prog 110 Try.f110 cd110 pl110 := ⟨Try.func110, rfl, by kernel_rfl, by kernel_rfl⟩
instance isf110 : IsFn Try.prog 110 := ⟨by kernel_rfl⟩
-- (*anchorhold/anchorholdref20.Objects).Look
noncomputable def cd111 : Code := match Try.f111.body with
  | some c => c
  | none => .skip
noncomputable def pl111 : Nat → Plan := fun _ => []
theorem fn111 : FnOK Try.prog 111 Try.f111 cd111 pl111 := ⟨Try.func111, rfl, by kernel_rfl, by kernel_rfl⟩
instance isf111 : IsFn Try.prog 111 := ⟨by kernel_rfl⟩
-- (*anchorhold/anchorholdref20.Objects).Wipe
noncomputable def cd112 : Code := match Try.f112.body with
  | some c => c
  | none => .skip
noncomputable def pl112 : Nat → Plan := fun _ => []
theorem fn112 : FnOK Try.prog 112 Try.f112 cd112 pl112 := ⟨Try.func112, rfl, by kernel_rfl, by kernel_rfl⟩
instance isf112 : IsFn Try.prog 112 := ⟨by kernel_rfl⟩
-- (*anchorhold/anchorholdref20.Objects).Clear
noncomputable def cd113 : Code := match Try.f113.body with
  | some c => c
  | none => .skip
noncomputable def pl113 : Nat → Plan := fun _ => []
theorem fn113 : FnOK Try.prog 113 Try.f113 cd113 pl113 := ⟨Try.func113, rfl, by kernel_rfl, by kernel_rfl⟩
instance isf113 : IsFn Try.prog 113 := ⟨by kernel_rfl⟩
-- (*anchorhold/anchorholdref20.Objects).Up
noncomputable def cd114 : Code := match Try.f114.body with
  | some c => c
  | none => .skip
noncomputable def pl114 : Nat → Plan := fun _ => []
theorem fn114 : FnOK Try.prog 114 Try.f114 cd114 pl114 := ⟨Try.func114, rfl, by kernel_rfl, by kernel_rfl⟩
instance isf114 : IsFn Try.prog 114 := ⟨by kernel_rfl⟩
-- (*anchorhold/anchorholdref20.Objects).Size
noncomputable def cd115 : Code := match Try.f115.body with
  | some c => c
  | none => .skip
noncomputable def pl115 : Nat → Plan := fun _ => []
theorem fn115 : FnOK Try.prog 115 Try.f115 cd115 pl115 := ⟨Try.func115, rfl, by kernel_rfl, by kernel_rfl⟩
instance isf115 : IsFn Try.prog 115 := ⟨by kernel_rfl⟩
-- anchorhold/object.some[anchorhold/api.SemConf,anchorhold/object.sem]
noncomputable def cd116 : Code := match Try.f116.body with
  | some c => c
  | none => .skip
noncomputable def pl116 : Nat → Plan
  | 5 => [⟨0, false, []⟩, ⟨1, false, []⟩, ⟨2, false, []⟩, ⟨3, false, []⟩, ⟨4, true, [0, 1]⟩, ⟨5, true, [0, 1]⟩, ⟨6, true, []⟩, ⟨7, false, []⟩, ⟨8, true, []⟩]
  | _ => []
theorem fn116 : FnOK Try.prog 116 Try.f116 cd116 pl116 := ⟨Try.func116, rfl, by kernel_rfl, by kernel_rfl⟩
instance isf116 : IsFn Try.prog 116 := ⟨by kernel_rfl⟩
-- (*anchorhold/object.Objects).Clear$1
noncomputable def cd117 : Code := match Try.f117.body with
  | some c => c
  | none => .skip
noncomputable def pl117 : Nat → Plan := fun _ => []
theorem fn117 : FnOK Try.prog 117 Try.f117 cd117 pl117 := ⟨Try.func117, rfl, by kernel_rfl, by kernel_rfl⟩
instance isf117 : IsFn Try.prog 117 := ⟨by kernel_rfl⟩
-- anchorhold/object.some[bool,bool]
noncomputable def cd118 : Code := match Try.f118.body with
  | some c => c
  | none => .skip
noncomputable def pl118 : Nat → Plan
  | 5 => [⟨0, false, []⟩, ⟨1, false, []⟩, ⟨2, false, []⟩, ⟨3, false, []⟩, ⟨4, true, [0, 1]⟩, ⟨5, true, [0, 1]⟩, ⟨6, true, []⟩, ⟨7, false, []⟩, ⟨8, true, []⟩]
  | _ => []
theorem fn118 : FnOK Try.prog 118 Try.f118 cd118 pl118 := ⟨Try.func118, rfl, by kernel_rfl, by kernel_rfl⟩
instance isf118 : IsFn Try.prog 118 := ⟨by kernel_rfl⟩
-- (*anchorhold/object.Objects).Clear$2
noncomputable def cd119 : Code := match Try.f119.body with
  | some c => c
  | none => .skip
noncomputable def pl119 : Nat → Plan := fun _ => []
theorem fn119 : FnOK Try.prog 119 Try.f119 cd119 pl119 := ⟨Try.func119, rfl, by kernel_rfl, by kernel_rfl⟩
instance isf119 : IsFn Try.prog 119 := ⟨by kernel_rfl⟩
-- anchorhold/object.some[anchorhold/api.PoolConf,anchorhold/object.pool]
noncomputable def cd120 : Code := match Try.f120.body with
  | some c => c
  | none => .skip
noncomputable def pl120 : Nat → Plan
  | 5 => [⟨0, false, []⟩, ⟨1, false, []⟩, ⟨2, false, []⟩, ⟨3, false, []⟩, ⟨4, true, [0, 1]⟩, ⟨5, true, [0, 1]⟩, ⟨6, true, []⟩, ⟨7, false, []⟩, ⟨8, true, []⟩]
  | _ => []
theorem fn120 : FnOK Try.prog 120 Try.f120 cd120 pl120 := ⟨Try.func120, rfl, by kernel_rfl, by kernel_rfl⟩
instance isf120 : IsFn Try.prog 120 := ⟨by kernel_rfl⟩
-- (*anchorhold/object.Objects).Clear$3
noncomputable def cd121 : Code := match Try.f121.body with
  | some c => c
  | none => .skip
noncomputable def pl121 : Nat → Plan := fun _ => []
theorem fn121 : FnOK Try.prog 121 Try.f121 cd121 pl121 := ⟨Try.func121, rfl, by kernel_rfl, by kernel_rfl⟩
instance isf121 : IsFn Try.prog 121 := ⟨by kernel_rfl⟩
-- anchorhold/object.some[int,anchorhold/object.slate]
noncomputable def cd122 : Code := match Try.f122.body with
  | some c => c
  | none => .skip
noncomputable def pl122 : Nat → Plan
  | 5 => [⟨0, false, []⟩, ⟨1, false, []⟩, ⟨2, false, []⟩, ⟨3, false, []⟩, ⟨4, true, [0, 1]⟩, ⟨5, true, [0, 1]⟩, ⟨6, true, []⟩, ⟨7, false, []⟩, ⟨8, true, []⟩]
  | _ => []
theorem fn122 : FnOK Try.prog 122 Try.f122 cd122 pl122 := ⟨Try.func122, rfl, by kernel_rfl, by kernel_rfl⟩
instance isf122 : IsFn Try.prog 122 := ⟨by kernel_rfl⟩
-- (*anchorhold/object.Objects).Clear$4
noncomputable def cd123 : Code := match Try.f123.body with
  | some c => c
  | none => .skip
noncomputable def pl123 : Nat → Plan := fun _ => []
theorem fn123 : FnOK Try.prog 123 Try.f123 cd123 pl123 := ⟨Try.func123, rfl, by kernel_rfl, by kernel_rfl⟩
instance isf123 : IsFn Try.prog 123 := ⟨by kernel_rfl⟩
-- (*anchorhold/object.Objects).flag
noncomputable def cd124 : Code := match Try.f124.body with
  | some c => c
  | none => .skip
noncomputable def pl124 : Nat → Plan := fun _ => []
theorem fn124 : FnOK Try.prog 124 Try.f124 cd124 pl124 := ⟨Try.func124, rfl, by kernel_rfl, by kernel_rfl⟩
instance isf124 : IsFn Try.prog 124 := ⟨by kernel_rfl⟩
-- (anchorhold/object.row[anchorhold/object.sem]).at
noncomputable def cd125 : Code := match Try.f125.body with
  | some c => c
  | none => .skip
noncomputable def pl125 : Nat → Plan := fun _ => []
theorem fn125 : FnOK Try.prog 125 Try.f125 cd125 pl125 := ⟨Try.func125, rfl, by kernel_rfl, by kernel_rfl⟩
instance isf125 : IsFn Try.prog 125 := ⟨by kernel_rfl⟩
-- (*anchorhold/anchorholdref21.Table).put
noncomputable def cd126 : Code := match Try.f126.body with
  | some c => c
  | none => .skip
noncomputable def pl126 : Nat → Plan := fun _ => []
theorem fn126 : FnOK Try.prog 126 Try.f126 cd126 pl126 := ⟨Try.func126, rfl, by kernel_rfl, by kernel_rfl⟩
instance isf126 : IsFn Try.prog 126 := ⟨by kernel_rfl⟩
-- (*anchorhold/anchorholdref21.Table).set
noncomputable def cd127 : Code := match Try.f127.body with
  | some c => c
  | none => .skip
noncomputable def pl127 : Nat → Plan := fun _ => []
theorem fn127 : FnOK Try.prog 127 Try.f127 cd127 pl127 := ⟨Try.func127, rfl, by kernel_rfl, by kernel_rfl⟩
instance isf127 : IsFn Try.prog 127 := ⟨by kernel_rfl⟩
-- (anchorhold/proc.one).ahead
noncomputable def cd128 : Code := match Try.f128.body with
  | some c => c
  | none => .skip
noncomputable def pl128 : Nat → Plan := fun _ => []
theorem fn128 : FnOK Try.prog 128 Try.f128 cd128 pl128 := ⟨Try.func128, rfl, by kernel_rfl, by kernel_rfl⟩
instance isf128 : IsFn Try.prog 128 := ⟨by kernel_rfl⟩
-- (anchorhold/object.row[anchorhold/object.pool]).at
noncomputable def cd129 : Code := match Try.f129.body with
  | some c => c
  | none => .skip
noncomputable def pl129 : Nat → Plan := fun _ => []
theorem fn129 : FnOK Try.prog 129 Try.f129 cd129 pl129 := ⟨Try.func129, rfl, by kernel_rfl, by kernel_rfl⟩
instance isf129 : IsFn Try.prog 129 := ⟨by kernel_rfl⟩
-- (anchorhold/object.row[anchorhold/object.slate]).at
noncomputable def cd130 : Code := match Try.f130.body with
  | some c => c
  | none => .skip
noncomputable def pl130 : Nat → Plan := fun _ => []
theorem fn130 : FnOK Try.prog 130 Try.f130 cd130 pl130 := ⟨Try.func130, rfl, by kernel_rfl, by kernel_rfl⟩
instance isf130 : IsFn Try.prog 130 := ⟨by kernel_rfl⟩
-- anchorhold/anchorholdref21.Ahead
noncomputable def cd131 : Code := match Try.f131.body with
  | some c => c
  | none => .skip
noncomputable def pl131 : Nat → Plan := fun _ => []
theorem fn131 : FnOK Try.prog 131 Try.f131 cd131 pl131 := ⟨Try.func131, rfl, by kernel_rfl, by kernel_rfl⟩
instance isf131 : IsFn Try.prog 131 := ⟨by kernel_rfl⟩
-- (*anchorhold/port.one).first
noncomputable def cd132 : Code := match Try.f132.body with
  | some c => c
  | none => .skip
noncomputable def pl132 : Nat → Plan
  | 7 => [⟨0, false, []⟩, ⟨1, false, []⟩, ⟨2, false, []⟩, ⟨3, false, []⟩, ⟨5, false, []⟩, ⟨6, false, []⟩, ⟨7, false, []⟩, ⟨8, false, []⟩, ⟨4, true, [6, 7, 8]⟩, ⟨9, false, []⟩, ⟨10, false, []⟩]
  | _ => []
theorem fn132 : FnOK Try.prog 132 Try.f132 cd132 pl132 := ⟨Try.func132, rfl, by kernel_rfl, by kernel_rfl⟩
instance isf132 : IsFn Try.prog 132 := ⟨by kernel_rfl⟩
-- (*anchorhold/anchorholdref18.Ports).put
noncomputable def cd133 : Code := match Try.f133.body with
  | some c => c
  | none => .skip
noncomputable def pl133 : Nat → Plan
  | 8 => [⟨0, false, []⟩, ⟨1, false, []⟩, ⟨2, false, []⟩, ⟨3, false, []⟩, ⟨4, false, []⟩, ⟨5, false, []⟩, ⟨6, false, []⟩, ⟨7, false, []⟩, ⟨8, false, []⟩, ⟨9, false, []⟩, ⟨10, false, []⟩, ⟨11, false, []⟩, ⟨12, false, []⟩, ⟨13, false, []⟩, ⟨14, false, []⟩, ⟨15, false, []⟩, ⟨16, false, []⟩]
  | 10 => [⟨0, false, []⟩, ⟨1, false, []⟩, ⟨3, false, []⟩, ⟨4, false, []⟩, ⟨5, false, []⟩, ⟨6, false, []⟩, ⟨7, false, []⟩, ⟨8, false, []⟩, ⟨9, false, []⟩, ⟨11, false, []⟩, ⟨14, false, []⟩, ⟨15, false, []⟩, ⟨16, false, []⟩, ⟨17, false, []⟩, ⟨18, false, []⟩, ⟨19, false, []⟩, ⟨20, false, []⟩, ⟨2, true, [4, 5, 6, 8, 9, 15, 16, 17, 19, 20]⟩, ⟨10, true, [15, 16, 17, 19, 20]⟩, ⟨12, true, [4, 5, 6, 8, 9, 15, 16, 17, 19, 20]⟩, ⟨13, true, [15, 16, 17, 19, 20]⟩, ⟨21, true, []⟩]
  | _ => []
instance isf133 : IsFn Try.prog 133 := ⟨by kernel_rfl⟩
-- (*anchorhold/anchorholdref18.Ports).Can
noncomputable def cd134 : Code := match Try.f134.body with
  | some c => c
  | none => .skip
noncomputable def pl134 : Nat → Plan := fun _ => []
theorem fn134 : FnOK Try.prog 134 Try.f134 cd134 pl134 := ⟨Try.func134, rfl, by kernel_rfl, by kernel_rfl⟩
instance isf134 : IsFn Try.prog 134 := ⟨by kernel_rfl⟩
-- (*anchorhold/anchorholdref18.Ports).set
noncomputable def cd135 : Code := match Try.f135.body with
  | some c => c
  | none => .skip
noncomputable def pl135 : Nat → Plan := fun _ => []
theorem fn135 : FnOK Try.prog 135 Try.f135 cd135 pl135 := ⟨Try.func135, rfl, by kernel_rfl, by kernel_rfl⟩
instance isf135 : IsFn Try.prog 135 := ⟨by kernel_rfl⟩
-- (*anchorhold/anchorholdref20.Objects).Clone
noncomputable def cd136 : Code := match Try.f136.body with
  | some c => c
  | none => .skip
noncomputable def pl136 : Nat → Plan
  | 1 => [⟨0, false, []⟩, ⟨1, false, []⟩, ⟨2, false, []⟩, ⟨3, false, []⟩, ⟨5, false, []⟩, ⟨6, false, []⟩, ⟨7, false, []⟩, ⟨8, false, []⟩, ⟨11, false, []⟩, ⟨12, false, []⟩, ⟨13, false, []⟩, ⟨14, false, []⟩, ⟨17, false, []⟩, ⟨18, false, []⟩, ⟨19, false, []⟩, ⟨20, false, []⟩, ⟨23, false, []⟩, ⟨24, false, []⟩, ⟨25, false, []⟩, ⟨26, false, []⟩, ⟨4, true, [1, 2, 3, 6, 7, 8, 12, 13, 14, 18, 19, 20, 24, 25, 26]⟩, ⟨9, true, [1, 2, 3, 12, 13, 14, 18, 19, 20, 24, 25, 26]⟩, ⟨10, true, [1, 2, 3, 6, 7, 8, 12, 13, 14, 18, 19, 20, 24, 25, 26]⟩, ⟨15, true, [1, 2, 3, 18, 19, 20, 24, 25, 26]⟩, ⟨16, true, [1, 2, 3, 6, 7, 8, 12, 13, 14, 18, 19, 20, 24, 25, 26]⟩, ⟨21, true, [1, 2, 3, 24, 25, 26]⟩, ⟨22, true, [1, 2, 3, 6, 7, 8, 12, 13, 14, 18, 19, 20, 24, 25, 26]⟩, ⟨27, true, [1, 2, 3]⟩, ⟨28, false, []⟩, ⟨29, true, []⟩, ⟨30, false, []⟩]
  | _ => []
instance isf136 : IsFn Try.prog 136 := ⟨by kernel_rfl⟩
-- (*anchorhold/anchorholdref20.Objects).become
noncomputable def cd137 : Code := match Try.f137.body with
  | some c => c
  | none => .skip
noncomputable def pl137 : Nat → Plan := fun _ => []
theorem fn137 : FnOK Try.prog 137 Try.f137 cd137 pl137 := ⟨Try.func137, rfl, by kernel_rfl, by kernel_rfl⟩
instance isf137 : IsFn Try.prog 137 := ⟨by kernel_rfl⟩
-- (anchorhold/object.row[bool]).at
noncomputable def cd138 : Code := match Try.f138.body with
  | some c => c
  | none => .skip
noncomputable def pl138 : Nat → Plan := fun _ => []
theorem fn138 : FnOK Try.prog 138 Try.f138 cd138 pl138 := ⟨Try.func138, rfl, by kernel_rfl, by kernel_rfl⟩
instance isf138 : IsFn Try.prog 138 := ⟨by kernel_rfl⟩
-- (*anchorhold/port.queue).take
noncomputable def cd139 : Code := match Try.f139.body with
  | some c => c
  | none => .skip
noncomputable def pl139 : Nat → Plan := fun _ => []
theorem fn139 : FnOK Try.prog 139 Try.f139 cd139 pl139 := ⟨Try.func139, rfl, by kernel_rfl, by kernel_rfl⟩
instance isf139 : IsFn Try.prog 139 := ⟨by kernel_rfl⟩
-- (*anchorhold/port.queue).len
noncomputable def cd155 : Code := match Try.f155.body with
  | some c => c
  | none => .skip
noncomputable def pl155 : Nat → Plan := fun _ => []
theorem fn155 : FnOK Try.prog 155 Try.f155 cd155 pl155 := ⟨Try.func155, rfl, by kernel_rfl, by kernel_rfl⟩
instance isf155 : IsFn Try.prog 155 := ⟨by kernel_rfl⟩
-- (*anchorhold/port.queue).put
noncomputable def cd156 : Code := match Try.f156.body with
  | some c => c
  | none => .skip
noncomputable def pl156 : Nat → Plan
  | 1 => [⟨0, false, []⟩, ⟨1, false, []⟩, ⟨2, false, []⟩, ⟨3, false, []⟩, ⟨4, false, []⟩, ⟨5, false, []⟩, ⟨6, false, []⟩, ⟨7, false, []⟩, ⟨8, false, []⟩, ⟨9, false, []⟩]
  | 3 => [⟨0, false, []⟩, ⟨1, false, []⟩, ⟨2, false, []⟩, ⟨3, false, []⟩, ⟨4, false, []⟩, ⟨5, false, []⟩, ⟨6, true, [2, 3, 4]⟩, ⟨7, true, [2, 3, 4]⟩, ⟨8, true, []⟩, ⟨9, false, []⟩, ⟨10, false, []⟩, ⟨11, true, []⟩]
  | _ => []
theorem fn156 : FnOK Try.prog 156 Try.f156 cd156 pl156 := ⟨Try.func156, rfl, by kernel_rfl, by kernel_rfl⟩
instance isf156 : IsFn Try.prog 156 := ⟨by kernel_rfl⟩
-- (*anchorhold/port.sample).len
noncomputable def cd157 : Code := match Try.f157.body with
  | some c => c
  | none => .skip
noncomputable def pl157 : Nat → Plan := fun _ => []
theorem fn157 : FnOK Try.prog 157 Try.f157 cd157 pl157 := ⟨Try.func157, rfl, by kernel_rfl, by kernel_rfl⟩
instance isf157 : IsFn Try.prog 157 := ⟨by kernel_rfl⟩
-- (*anchorhold/port.sample).put
noncomputable def cd158 : Code := match Try.f158.body with
  | some c => c
  | none => .skip
noncomputable def pl158 : Nat → Plan := fun _ => []
theorem fn158 : FnOK Try.prog 158 Try.f158 cd158 pl158 := ⟨Try.func158, rfl, by kernel_rfl, by kernel_rfl⟩
instance isf158 : IsFn Try.prog 158 := ⟨by kernel_rfl⟩
instance agg_23 : Agg Try.prog 23 2 := ⟨by kernel_rfl⟩
instance fld_23_0 : Fld Try.prog 23 0 0 := ⟨by kernel_rfl⟩
instance scal_3 : Scal Try.prog 3 := ⟨by kernel_rfl⟩
instance fld_23_1 : Fld Try.prog 23 1 1 := ⟨by kernel_rfl⟩
instance slc_28 : Slc Try.prog 28 2 := ⟨by kernel_rfl⟩
instance slct_28 : SlcT Try.prog 28 23 16 2 [.int .i64 0, .int .i64 0] := slcTB_spec (by kernel_rfl)
instance build_35 : BuildT Try.prog 35 [(0, 1), (1, 1), (2, 1), (3, 1), (4, 1), (5, 1), (6, 1), (7, 1), (8, 1), (9, 1), (10, 1)] [.slice none 0 0, .slice none 0 0, .slice none 0 0, .slice none 0 0, .int .i64 0, .slice none 0 0, .slice none 0 0, .int .i64 0, .int .i64 0, .int .i64 0, .slice none 0 0] := ⟨by kernel_rfl, by kernel_rfl⟩
instance slc_24 : Slc Try.prog 24 1 := ⟨by kernel_rfl⟩
instance slct_24 : SlcT Try.prog 24 4 1 1 [.bool false] := slcTB_spec (by kernel_rfl)
instance scal_4 : Scal Try.prog 4 := ⟨by kernel_rfl⟩
instance bool_4 : BoolT Try.prog 4 := ⟨Try.underlying4⟩
instance agg_40 : Agg Try.prog 40 2 := ⟨by kernel_rfl⟩
instance agg_41 : Agg Try.prog 41 2 := ⟨by kernel_rfl⟩
instance fld_40_0 : Fld Try.prog 40 0 0 := ⟨by kernel_rfl⟩
instance scal_30 : Scal Try.prog 30 := ⟨by kernel_rfl⟩
instance fld_40_1 : Fld Try.prog 40 1 1 := ⟨by kernel_rfl⟩
instance scal_38 : Scal Try.prog 38 := ⟨by kernel_rfl⟩
instance scal_5 : Scal Try.prog 5 := ⟨by kernel_rfl⟩
instance slc_38 : Slc Try.prog 38 5 := ⟨by kernel_rfl⟩
instance slct_38 : SlcT Try.prog 38 48 40 5 [.int .i64 0, .int .i64 0, .int .i64 0, .int .i64 0, .int .i64 0] := slcTB_spec (by kernel_rfl)
instance agg_48 : Agg Try.prog 48 5 := ⟨by kernel_rfl⟩
instance fld_52_0 : Fld Try.prog 52 0 0 := ⟨by kernel_rfl⟩
instance scal_50 : Scal Try.prog 50 := ⟨by kernel_rfl⟩
instance slc_50 : Slc Try.prog 50 11 := ⟨by kernel_rfl⟩
instance slct_50 : SlcT Try.prog 50 58 88 11 [.int .i64 0, .int .i64 0, .int .i64 0, .int .i64 0, .int .i64 0, .int .i64 0, .int .i64 0, .int .i64 0, .int .i64 0, .int .i64 0, .bool false] := slcTB_spec (by kernel_rfl)
instance fld_58_1 : Fld Try.prog 58 1 3 := ⟨by kernel_rfl⟩
instance fld_58_8 : Fld Try.prog 58 8 10 := ⟨by kernel_rfl⟩
instance build_62 : BuildT Try.prog 62 [(0, 1), (1, 1)] [.int .i64 0, .int .i64 0] := ⟨by kernel_rfl, by kernel_rfl⟩
instance slc_32 : Slc Try.prog 32 2 := ⟨by kernel_rfl⟩
instance slct_32 : SlcT Try.prog 32 62 16 2 [.int .i64 0, .int .i64 0] := slcTB_spec (by kernel_rfl)
instance slc_33 : Slc Try.prog 33 1 := ⟨by kernel_rfl⟩
instance slct_33 : SlcT Try.prog 33 3 8 1 [.int .i64 0] := slcTB_spec (by kernel_rfl)
instance slc_60 : Slc Try.prog 60 1 := ⟨by kernel_rfl⟩
instance slct_60 : SlcT Try.prog 60 63 24 1 [.slice none 0 0] := slcTB_spec (by kernel_rfl)
instance scal_63 : Scal Try.prog 63 := ⟨by kernel_rfl⟩
instance slc_63 : Slc Try.prog 63 1 := ⟨by kernel_rfl⟩
instance slct_63 : SlcT Try.prog 63 5 1 1 [.int .u8 0] := slcTB_spec (by kernel_rfl)
instance fld_48_2 : Fld Try.prog 48 2 2 := ⟨by kernel_rfl⟩
instance fld_48_3 : Fld Try.prog 48 3 3 := ⟨by kernel_rfl⟩
instance build_71 : BuildT Try.prog 71 [(0, 1), (1, 1)] [.map none, .int .i64 0] := ⟨by kernel_rfl, by kernel_rfl⟩
instance agg_71 : Agg Try.prog 71 2 := ⟨by kernel_rfl⟩
instance slc_72 : Slc Try.prog 72 1 := ⟨by kernel_rfl⟩
instance slct_72 : SlcT Try.prog 72 42 8 1 [.pointer none] := slcTB_spec (by kernel_rfl)
instance scal_42 : Scal Try.prog 42 := ⟨by kernel_rfl⟩
instance fld_48_1 : Fld Try.prog 48 1 1 := ⟨by kernel_rfl⟩
instance fld_48_4 : Fld Try.prog 48 4 4 := ⟨by kernel_rfl⟩
instance build_85 : BuildT Try.prog 85 [(0, 1), (1, 1), (2, 1), (3, 1)] [.bool false, .bool false, .int .i64 0, .int .i64 0] := ⟨by kernel_rfl, by kernel_rfl⟩
instance slc_31 : Slc Try.prog 31 4 := ⟨by kernel_rfl⟩
instance slct_31 : SlcT Try.prog 31 85 24 4 [.bool false, .bool false, .int .i64 0, .int .i64 0] := slcTB_spec (by kernel_rfl)
instance slc_90 : Slc Try.prog 90 3 := ⟨by kernel_rfl⟩
instance slct_90 : SlcT Try.prog 90 95 40 3 [.int .i64 0, .int .i64 0, .slice none 0 0] := slcTB_spec (by kernel_rfl)
instance fld_95_2 : Fld Try.prog 95 2 2 := ⟨by kernel_rfl⟩
instance agg_95 : Agg Try.prog 95 3 := ⟨by kernel_rfl⟩
instance build_100 : BuildT Try.prog 100 [(0, 1)] [.slice none 0 0] := ⟨by kernel_rfl, by kernel_rfl⟩
instance agg_100 : Agg Try.prog 100 1 := ⟨by kernel_rfl⟩
instance slc_101 : Slc Try.prog 101 1 := ⟨by kernel_rfl⟩
instance slct_101 : SlcT Try.prog 101 82 8 1 [.pointer none] := slcTB_spec (by kernel_rfl)
instance scal_82 : Scal Try.prog 82 := ⟨by kernel_rfl⟩
instance fld_95_1 : Fld Try.prog 95 1 1 := ⟨by kernel_rfl⟩
instance agg_35 : Agg Try.prog 35 11 := ⟨by kernel_rfl⟩
instance slc_104 : Slc Try.prog 104 3 := ⟨by kernel_rfl⟩
instance slct_104 : SlcT Try.prog 104 109 40 3 [.int .i64 0, .int .i64 0, .slice none 0 0] := slcTB_spec (by kernel_rfl)
instance agg_109 : Agg Try.prog 109 3 := ⟨by kernel_rfl⟩
instance build_125 : BuildT Try.prog 125 [(0, 11), (11, 1), (12, 1), (13, 1), (14, 1)] [.slice none 0 0, .slice none 0 0, .slice none 0 0, .slice none 0 0, .int .i64 0, .slice none 0 0, .slice none 0 0, .int .i64 0, .int .i64 0, .int .i64 0, .slice none 0 0, .slice none 0 0, .slice none 0 0, .slice none 0 0, .slice none 0 0] := ⟨by kernel_rfl, by kernel_rfl⟩
instance agg_125 : Agg Try.prog 125 15 := ⟨by kernel_rfl⟩
instance slc_126 : Slc Try.prog 126 1 := ⟨by kernel_rfl⟩
instance slct_126 : SlcT Try.prog 126 26 8 1 [.pointer none] := slcTB_spec (by kernel_rfl)
instance scal_26 : Scal Try.prog 26 := ⟨by kernel_rfl⟩
instance build_23 : BuildT Try.prog 23 [(0, 1), (1, 1)] [.int .i64 0, .int .i64 0] := ⟨by kernel_rfl, by kernel_rfl⟩
instance ptr_130 : PtrT Try.prog 130 := ⟨_, Try.underlying130⟩
instance fld_133_1 : Fld Try.prog 133 1 2 := ⟨by kernel_rfl⟩
instance fld_133_0 : Fld Try.prog 133 0 0 := ⟨by kernel_rfl⟩
instance siz_3 : Siz Try.prog 3 1 := ⟨by kernel_rfl⟩
instance slc_30 : Slc Try.prog 30 3 := ⟨by kernel_rfl⟩
instance slct_30 : SlcT Try.prog 30 56 24 3 [.int .i64 0, .int .i64 0, .int .i64 0] := slcTB_spec (by kernel_rfl)
instance agg_56 : Agg Try.prog 56 3 := ⟨by kernel_rfl⟩
instance zer_56 : Zer Try.prog 56 (.agg #[.int .i64 0, .int .i64 0, .int .i64 0]) := ⟨by kernel_rfl⟩
instance siz_56 : Siz Try.prog 56 3 := ⟨by kernel_rfl⟩
instance fld_71_0 : Fld Try.prog 71 0 0 := ⟨by kernel_rfl⟩
instance scal_69 : Scal Try.prog 69 := ⟨by kernel_rfl⟩
instance fld_56_0 : Fld Try.prog 56 0 0 := ⟨by kernel_rfl⟩
instance build_137 : BuildT Try.prog 137 [(0, 3), (3, 3), (6, 1), (7, 1), (8, 1), (9, 1), (10, 1)] [.int .i64 0, .int .i64 0, .int .i64 0, .int .i64 0, .int .i64 0, .int .i64 0, .int .i64 0, .int .i64 0, .int .i64 0, .int .i64 0, .bool false] := ⟨by kernel_rfl, by kernel_rfl⟩
instance map_69 : MapT Try.prog 69 (.agg #[.int .i64 0, .int .i64 0, .int .i64 0, .int .i64 0, .int .i64 0, .int .i64 0, .int .i64 0, .int .i64 0, .int .i64 0, .int .i64 0, .bool false]) := mapB_spec (by kernel_rfl)
instance build_52 : BuildT Try.prog 52 [(0, 1), (1, 1)] [.slice none 0 0, .int .i64 0] := ⟨by kernel_rfl, by kernel_rfl⟩
instance agg_52 : Agg Try.prog 52 2 := ⟨by kernel_rfl⟩
instance build_58 : BuildT Try.prog 58 [(0, 3), (3, 1), (4, 1), (5, 1), (6, 1), (7, 1), (8, 1), (9, 1), (10, 1)] [.int .i64 0, .int .i64 0, .int .i64 0, .int .i64 0, .int .i64 0, .int .i64 0, .int .i64 0, .int .i64 0, .int .i64 0, .int .i64 0, .bool false] := ⟨by kernel_rfl, by kernel_rfl⟩
instance siz_50 : Siz Try.prog 50 1 := ⟨by kernel_rfl⟩
instance fld_48_0 : Fld Try.prog 48 0 0 := ⟨by kernel_rfl⟩
instance ptr_42 : PtrT Try.prog 42 := ⟨_, Try.underlying42⟩
instance build_56 : BuildT Try.prog 56 [(0, 1), (1, 1), (2, 1)] [.int .i64 0, .int .i64 0, .int .i64 0] := ⟨by kernel_rfl, by kernel_rfl⟩
instance zer_137 : Zer Try.prog 137 (.agg #[.int .i64 0, .int .i64 0, .int .i64 0, .int .i64 0, .int .i64 0, .int .i64 0, .int .i64 0, .int .i64 0, .int .i64 0, .int .i64 0, .bool false]) := ⟨by kernel_rfl⟩
instance agg_137 : Agg Try.prog 137 11 := ⟨by kernel_rfl⟩
instance siz_137 : Siz Try.prog 137 11 := ⟨by kernel_rfl⟩
instance fld_137_6 : Fld Try.prog 137 6 10 := ⟨by kernel_rfl⟩
instance siz_4 : Siz Try.prog 4 1 := ⟨by kernel_rfl⟩
instance fld_137_3 : Fld Try.prog 137 3 7 := ⟨by kernel_rfl⟩
instance fld_137_2 : Fld Try.prog 137 2 6 := ⟨by kernel_rfl⟩
instance ptr_144 : PtrT Try.prog 144 := ⟨_, Try.underlying144⟩
instance fld_148_0 : Fld Try.prog 148 0 0 := ⟨by kernel_rfl⟩
instance fld_62_0 : Fld Try.prog 62 0 0 := ⟨by kernel_rfl⟩
instance fld_148_1 : Fld Try.prog 148 1 2 := ⟨by kernel_rfl⟩
instance scal_60 : Scal Try.prog 60 := ⟨by kernel_rfl⟩
instance fld_62_1 : Fld Try.prog 62 1 1 := ⟨by kernel_rfl⟩
instance siz_60 : Siz Try.prog 60 1 := ⟨by kernel_rfl⟩
instance ptr_150 : PtrT Try.prog 150 := ⟨_, Try.underlying150⟩
instance fld_153_0 : Fld Try.prog 153 0 0 := ⟨by kernel_rfl⟩
instance fld_153_1 : Fld Try.prog 153 1 1 := ⟨by kernel_rfl⟩
instance siz_63 : Siz Try.prog 63 1 := ⟨by kernel_rfl⟩
instance fld_153_2 : Fld Try.prog 153 2 2 := ⟨by kernel_rfl⟩
instance zer_58 : Zer Try.prog 58 (.agg #[.int .i64 0, .int .i64 0, .int .i64 0, .int .i64 0, .int .i64 0, .int .i64 0, .int .i64 0, .int .i64 0, .int .i64 0, .int .i64 0, .bool false]) := ⟨by kernel_rfl⟩
instance agg_58 : Agg Try.prog 58 11 := ⟨by kernel_rfl⟩
instance siz_58 : Siz Try.prog 58 11 := ⟨by kernel_rfl⟩
instance fld_58_2 : Fld Try.prog 58 2 4 := ⟨by kernel_rfl⟩
instance fld_58_5 : Fld Try.prog 58 5 7 := ⟨by kernel_rfl⟩
instance fld_58_6 : Fld Try.prog 58 6 8 := ⟨by kernel_rfl⟩
instance fld_58_7 : Fld Try.prog 58 7 9 := ⟨by kernel_rfl⟩
instance fld_137_1 : Fld Try.prog 137 1 3 := ⟨by kernel_rfl⟩
instance fld_135_0 : Fld Try.prog 135 0 0 := ⟨by kernel_rfl⟩
instance fld_135_1 : Fld Try.prog 135 1 1 := ⟨by kernel_rfl⟩
instance fld_135_2 : Fld Try.prog 135 2 2 := ⟨by kernel_rfl⟩
instance fld_137_0 : Fld Try.prog 137 0 0 := ⟨by kernel_rfl⟩
instance fld_56_1 : Fld Try.prog 56 1 1 := ⟨by kernel_rfl⟩
instance fld_137_5 : Fld Try.prog 137 5 9 := ⟨by kernel_rfl⟩
instance build_135 : BuildT Try.prog 135 [(0, 1), (1, 1), (2, 1)] [.int .i64 0, .int .i64 0, .int .i64 0] := ⟨by kernel_rfl, by kernel_rfl⟩
instance agg_135 : Agg Try.prog 135 3 := ⟨by kernel_rfl⟩
instance siz_135 : Siz Try.prog 135 3 := ⟨by kernel_rfl⟩
instance agg_85 : Agg Try.prog 85 4 := ⟨by kernel_rfl⟩
instance zer_85 : Zer Try.prog 85 (.agg #[.bool false, .bool false, .int .i64 0, .int .i64 0]) := ⟨by kernel_rfl⟩
instance siz_85 : Siz Try.prog 85 4 := ⟨by kernel_rfl⟩
instance build_159 : BuildT Try.prog 159 [(0, 4), (4, 1), (5, 1)] [.bool false, .bool false, .int .i64 0, .int .i64 0, .nilIface, .int .i64 0] := ⟨by kernel_rfl, by kernel_rfl⟩
instance agg_159 : Agg Try.prog 159 6 := ⟨by kernel_rfl⟩
instance fld_100_0 : Fld Try.prog 100 0 0 := ⟨by kernel_rfl⟩
instance scal_98 : Scal Try.prog 98 := ⟨by kernel_rfl⟩
instance slc_98 : Slc Try.prog 98 1 := ⟨by kernel_rfl⟩
instance slct_98 : SlcT Try.prog 98 155 8 1 [.pointer none] := slcTB_spec (by kernel_rfl)
instance siz_98 : Siz Try.prog 98 1 := ⟨by kernel_rfl⟩
instance ptr_155 : PtrT Try.prog 155 := ⟨_, Try.underlying155⟩
instance fld_159_0 : Fld Try.prog 159 0 0 := ⟨by kernel_rfl⟩
instance fld_85_1 : Fld Try.prog 85 1 1 := ⟨by kernel_rfl⟩
instance fld_159_1 : Fld Try.prog 159 1 4 := ⟨by kernel_rfl⟩
instance scal_157 : Scal Try.prog 157 := ⟨by kernel_rfl⟩
instance fld_159_2 : Fld Try.prog 159 2 5 := ⟨by kernel_rfl⟩
instance fld_166_0 : Fld Try.prog 166 0 0 := ⟨by kernel_rfl⟩
instance fld_169_2 : Fld Try.prog 169 2 2 := ⟨by kernel_rfl⟩
instance fld_169_0 : Fld Try.prog 169 0 0 := ⟨by kernel_rfl⟩
instance slc_170 : Slc Try.prog 170 1 := ⟨by kernel_rfl⟩
instance slct_170 : SlcT Try.prog 170 60 24 1 [.slice none 0 0] := slcTB_spec (by kernel_rfl)
instance build_172 : BuildT Try.prog 172 [(0, 1), (1, 1), (2, 1), (3, 1)] [.slice none 0 0, .slice none 0 0, .slice none 0 0, .slice none 0 0] := ⟨by kernel_rfl, by kernel_rfl⟩
instance agg_172 : Agg Try.prog 172 4 := ⟨by kernel_rfl⟩
instance fld_172_0 : Fld Try.prog 172 0 0 := ⟨by kernel_rfl⟩
instance scal_31 : Scal Try.prog 31 := ⟨by kernel_rfl⟩
instance fld_172_1 : Fld Try.prog 172 1 1 := ⟨by kernel_rfl⟩
instance scal_170 : Scal Try.prog 170 := ⟨by kernel_rfl⟩
instance fld_172_3 : Fld Try.prog 172 3 3 := ⟨by kernel_rfl⟩
instance scal_33 : Scal Try.prog 33 := ⟨by kernel_rfl⟩
instance fld_85_2 : Fld Try.prog 85 2 2 := ⟨by kernel_rfl⟩
instance fld_85_0 : Fld Try.prog 85 0 0 := ⟨by kernel_rfl⟩
instance fld_95_0 : Fld Try.prog 95 0 0 := ⟨by kernel_rfl⟩
instance ptr_82 : PtrT Try.prog 82 := ⟨_, Try.underlying82⟩
instance scal_155 : Scal Try.prog 155 := ⟨by kernel_rfl⟩
instance fld_109_2 : Fld Try.prog 109 2 2 := ⟨by kernel_rfl⟩
instance build_174 : BuildT Try.prog 174 [(0, 11), (11, 1), (12, 1), (13, 1), (14, 1)] [.slice none 0 0, .slice none 0 0, .slice none 0 0, .slice none 0 0, .int .i64 0, .slice none 0 0, .slice none 0 0, .int .i64 0, .int .i64 0, .int .i64 0, .slice none 0 0, .slice none 0 0, .slice none 0 0, .slice none 0 0, .slice none 0 0] := ⟨by kernel_rfl, by kernel_rfl⟩
instance agg_174 : Agg Try.prog 174 15 := ⟨by kernel_rfl⟩
instance fld_35_3 : Fld Try.prog 35 3 3 := ⟨by kernel_rfl⟩
instance scal_28 : Scal Try.prog 28 := ⟨by kernel_rfl⟩
instance fld_174_1 : Fld Try.prog 174 1 11 := ⟨by kernel_rfl⟩
instance siz_33 : Siz Try.prog 33 1 := ⟨by kernel_rfl⟩
instance fld_35_4 : Fld Try.prog 35 4 4 := ⟨by kernel_rfl⟩
instance fld_174_2 : Fld Try.prog 174 2 12 := ⟨by kernel_rfl⟩
instance scal_24 : Scal Try.prog 24 := ⟨by kernel_rfl⟩
instance siz_24 : Siz Try.prog 24 1 := ⟨by kernel_rfl⟩
instance fld_35_5 : Fld Try.prog 35 5 5 := ⟨by kernel_rfl⟩
instance scal_32 : Scal Try.prog 32 := ⟨by kernel_rfl⟩
instance fld_174_3 : Fld Try.prog 174 3 13 := ⟨by kernel_rfl⟩
instance siz_170 : Siz Try.prog 170 1 := ⟨by kernel_rfl⟩
instance fld_35_6 : Fld Try.prog 35 6 6 := ⟨by kernel_rfl⟩
instance fld_174_4 : Fld Try.prog 174 4 14 := ⟨by kernel_rfl⟩
instance fld_109_0 : Fld Try.prog 109 0 0 := ⟨by kernel_rfl⟩
instance fld_109_1 : Fld Try.prog 109 1 1 := ⟨by kernel_rfl⟩
instance ptr_26 : PtrT Try.prog 26 := ⟨_, Try.underlying26⟩
instance fld_125_0 : Fld Try.prog 125 0 0 := ⟨by kernel_rfl⟩
instance zer_35 : Zer Try.prog 35 (.agg #[.slice none 0 0, .slice none 0 0, .slice none 0 0, .slice none 0 0, .int .i64 0, .slice none 0 0, .slice none 0 0, .int .i64 0, .int .i64 0, .int .i64 0, .slice none 0 0]) := ⟨by kernel_rfl⟩
instance siz_35 : Siz Try.prog 35 11 := ⟨by kernel_rfl⟩
instance fld_125_1 : Fld Try.prog 125 1 11 := ⟨by kernel_rfl⟩
instance agg_114 : Agg Try.prog 114 1 := ⟨by kernel_rfl⟩
instance siz_114 : Siz Try.prog 114 1 := ⟨by kernel_rfl⟩
instance fld_125_2 : Fld Try.prog 125 2 12 := ⟨by kernel_rfl⟩
instance agg_117 : Agg Try.prog 117 1 := ⟨by kernel_rfl⟩
instance siz_117 : Siz Try.prog 117 1 := ⟨by kernel_rfl⟩
instance fld_125_3 : Fld Try.prog 125 3 13 := ⟨by kernel_rfl⟩
instance agg_120 : Agg Try.prog 120 1 := ⟨by kernel_rfl⟩
instance siz_120 : Siz Try.prog 120 1 := ⟨by kernel_rfl⟩
instance fld_125_4 : Fld Try.prog 125 4 14 := ⟨by kernel_rfl⟩
instance agg_123 : Agg Try.prog 123 1 := ⟨by kernel_rfl⟩
instance siz_123 : Siz Try.prog 123 1 := ⟨by kernel_rfl⟩
instance ptr_179 : PtrT Try.prog 179 := ⟨_, Try.underlying179⟩
instance fld_58_0 : Fld Try.prog 58 0 0 := ⟨by kernel_rfl⟩
instance fld_58_4 : Fld Try.prog 58 4 6 := ⟨by kernel_rfl⟩
instance fld_71_1 : Fld Try.prog 71 1 1 := ⟨by kernel_rfl⟩
instance fld_137_4 : Fld Try.prog 137 4 8 := ⟨by kernel_rfl⟩
instance fld_85_3 : Fld Try.prog 85 3 3 := ⟨by kernel_rfl⟩
instance build_166 : BuildT Try.prog 166 [(0, 1), (1, 1)] [.slice none 0 0, .int .i64 0] := ⟨by kernel_rfl, by kernel_rfl⟩
instance agg_166 : Agg Try.prog 166 2 := ⟨by kernel_rfl⟩
instance siz_157 : Siz Try.prog 157 1 := ⟨by kernel_rfl⟩
instance build_169 : BuildT Try.prog 169 [(0, 1), (1, 1), (2, 1)] [.slice none 0 0, .bool false, .bool false] := ⟨by kernel_rfl, by kernel_rfl⟩
instance agg_169 : Agg Try.prog 169 3 := ⟨by kernel_rfl⟩
instance fld_172_2 : Fld Try.prog 172 2 2 := ⟨by kernel_rfl⟩
instance fld_174_0 : Fld Try.prog 174 0 0 := ⟨by kernel_rfl⟩
instance zer_114 : Zer Try.prog 114 (.agg #[.slice none 0 0]) := ⟨by kernel_rfl⟩
instance zer_23 : Zer Try.prog 23 (.agg #[.int .i64 0, .int .i64 0]) := ⟨by kernel_rfl⟩
instance siz_23 : Siz Try.prog 23 2 := ⟨by kernel_rfl⟩
instance fld_114_0 : Fld Try.prog 114 0 0 := ⟨by kernel_rfl⟩
instance scal_112 : Scal Try.prog 112 := ⟨by kernel_rfl⟩
instance slc_112 : Slc Try.prog 112 1 := ⟨by kernel_rfl⟩
instance slct_112 : SlcT Try.prog 112 130 8 1 [.pointer none] := slcTB_spec (by kernel_rfl)
instance siz_112 : Siz Try.prog 112 1 := ⟨by kernel_rfl⟩
instance build_133 : BuildT Try.prog 133 [(0, 2), (2, 1)] [.int .i64 0, .int .i64 0, .int .i64 0] := ⟨by kernel_rfl, by kernel_rfl⟩
instance agg_133 : Agg Try.prog 133 3 := ⟨by kernel_rfl⟩
instance zer_117 : Zer Try.prog 117 (.agg #[.slice none 0 0]) := ⟨by kernel_rfl⟩
instance fld_117_0 : Fld Try.prog 117 0 0 := ⟨by kernel_rfl⟩
instance scal_115 : Scal Try.prog 115 := ⟨by kernel_rfl⟩
instance slc_115 : Slc Try.prog 115 1 := ⟨by kernel_rfl⟩
instance slct_115 : SlcT Try.prog 115 179 8 1 [.pointer none] := slcTB_spec (by kernel_rfl)
instance siz_115 : Siz Try.prog 115 1 := ⟨by kernel_rfl⟩
instance zer_120 : Zer Try.prog 120 (.agg #[.slice none 0 0]) := ⟨by kernel_rfl⟩
instance agg_62 : Agg Try.prog 62 2 := ⟨by kernel_rfl⟩
instance zer_62 : Zer Try.prog 62 (.agg #[.int .i64 0, .int .i64 0]) := ⟨by kernel_rfl⟩
instance siz_62 : Siz Try.prog 62 2 := ⟨by kernel_rfl⟩
instance fld_120_0 : Fld Try.prog 120 0 0 := ⟨by kernel_rfl⟩
instance scal_118 : Scal Try.prog 118 := ⟨by kernel_rfl⟩
instance slc_118 : Slc Try.prog 118 1 := ⟨by kernel_rfl⟩
instance slct_118 : SlcT Try.prog 118 144 8 1 [.pointer none] := slcTB_spec (by kernel_rfl)
instance siz_118 : Siz Try.prog 118 1 := ⟨by kernel_rfl⟩
instance build_148 : BuildT Try.prog 148 [(0, 2), (2, 1)] [.int .i64 0, .int .i64 0, .slice none 0 0] := ⟨by kernel_rfl, by kernel_rfl⟩
instance agg_148 : Agg Try.prog 148 3 := ⟨by kernel_rfl⟩
instance zer_123 : Zer Try.prog 123 (.agg #[.slice none 0 0]) := ⟨by kernel_rfl⟩
instance fld_123_0 : Fld Try.prog 123 0 0 := ⟨by kernel_rfl⟩
instance scal_121 : Scal Try.prog 121 := ⟨by kernel_rfl⟩
instance slc_121 : Slc Try.prog 121 1 := ⟨by kernel_rfl⟩
instance slct_121 : SlcT Try.prog 121 150 8 1 [.pointer none] := slcTB_spec (by kernel_rfl)
instance siz_121 : Siz Try.prog 121 1 := ⟨by kernel_rfl⟩
instance build_153 : BuildT Try.prog 153 [(0, 1), (1, 1), (2, 1)] [.int .i64 0, .slice none 0 0, .bool false] := ⟨by kernel_rfl, by kernel_rfl⟩
instance agg_153 : Agg Try.prog 153 3 := ⟨by kernel_rfl⟩
instance scal_130 : Scal Try.prog 130 := ⟨by kernel_rfl⟩
instance fld_52_1 : Fld Try.prog 52 1 1 := ⟨by kernel_rfl⟩
instance fld_58_3 : Fld Try.prog 58 3 5 := ⟨by kernel_rfl⟩
instance scal_144 : Scal Try.prog 144 := ⟨by kernel_rfl⟩
instance scal_150 : Scal Try.prog 150 := ⟨by kernel_rfl⟩
instance fld_169_1 : Fld Try.prog 169 1 1 := ⟨by kernel_rfl⟩
instance scal_179 : Scal Try.prog 179 := ⟨by kernel_rfl⟩
instance fld_166_1 : Fld Try.prog 166 1 1 := ⟨by kernel_rfl⟩
end Go.Proofs.Ytlmcoiloepoggaa
