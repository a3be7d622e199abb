/- Tables, printed by a program: each function with its plans; closed facts on types. -/
import Derived.Test.YtgkhjgpgdfbdpaaDoorProg
import Derived.Test.YtgkhjgpgdfbdpaaDoorWkF
import Derived.KernelRfl
namespace Go.Proofs.YtgkhjgpgdfbdpaaDoor
open Go Go.Wk
-- anchorhold/anchorholdlaw28.TracePrints
noncomputable def cd3 : Code := match Tryd.f3.body with
  | some c => c
  | none => .skip
noncomputable def pl3 : Nat → Plan := fun _ => .fin
theorem fn3 : FnOK Tryd.prog 3 Tryd.f3 cd3 pl3 := ⟨Tryd.func3, rfl, by kernel_rfl, by kernel_rfl⟩
instance isf3 : IsFn Tryd.prog 3 := ⟨by kernel_rfl⟩
-- anchorhold/anchorholdlaw29.ScriptBack
noncomputable def cd9 : Code := match Tryd.f9.body with
  | some c => c
  | none => .skip
noncomputable def pl9 : Nat → Plan
  | 7 => .st ⟨0, false, []⟩ (.st ⟨1, false, []⟩ (.st ⟨2, false, []⟩ (.st ⟨3, false, []⟩ (.st ⟨4, false, []⟩ (.st ⟨5, false, []⟩ (.st ⟨6, false, []⟩ (.st ⟨7, false, []⟩ (.st ⟨8, false, []⟩ (.st ⟨9, true, [7]⟩ (.st ⟨10, true, []⟩ (.st ⟨11, false, []⟩ (.st ⟨12, false, []⟩ (.st ⟨13, false, []⟩ (.st ⟨14, false, []⟩ (.st ⟨15, true, [13]⟩ (.st ⟨16, true, []⟩ (.st ⟨17, false, []⟩ (.st ⟨18, false, []⟩ (.st ⟨19, true, []⟩ (.st ⟨20, false, []⟩ (.st ⟨21, false, []⟩ (.fin))))))))))))))))))))))
  | _ => .fin
theorem fn9 : FnOK Tryd.prog 9 Tryd.f9 cd9 pl9 := ⟨Tryd.func9, rfl, by kernel_rfl, by kernel_rfl⟩
instance isf9 : IsFn Tryd.prog 9 := ⟨by kernel_rfl⟩
-- anchorhold/anchorholdlaw28.works
noncomputable def cd13 : Code := match Tryd.f13.body with
  | some c => c
  | none => .skip
noncomputable def pl13 : Nat → Plan := fun _ => .fin
theorem fn13 : FnOK Tryd.prog 13 Tryd.f13 cd13 pl13 := ⟨Tryd.func13, rfl, by kernel_rfl, by kernel_rfl⟩
instance isf13 : IsFn Tryd.prog 13 := ⟨by kernel_rfl⟩
-- anchorhold/anchorholdref28.Call
noncomputable def cd17 : Code := match Tryd.f17.body with
  | some c => c
  | none => .skip
noncomputable def pl17 : Nat → Plan := fun _ => .fin
theorem fn17 : FnOK Tryd.prog 17 Tryd.f17 cd17 pl17 := ⟨Tryd.func17, rfl, by kernel_rfl, by kernel_rfl⟩
instance isf17 : IsFn Tryd.prog 17 := ⟨by kernel_rfl⟩
-- anchorhold/anchorholdref28.Read
noncomputable def cd21 : Code := match Tryd.f21.body with
  | some c => c
  | none => .skip
noncomputable def pl21 : Nat → Plan := fun _ => .fin
theorem fn21 : FnOK Tryd.prog 21 Tryd.f21 cd21 pl21 := ⟨Tryd.func21, rfl, by kernel_rfl, by kernel_rfl⟩
instance isf21 : IsFn Tryd.prog 21 := ⟨by kernel_rfl⟩
-- anchorhold/anchorholdref07.Same
noncomputable def cd25 : Code := match Tryd.f25.body with
  | some c => c
  | none => .skip
noncomputable def pl25 : Nat → Plan
  | 6 => .st ⟨0, false, []⟩ (.st ⟨1, false, []⟩ (.st ⟨2, false, []⟩ (.st ⟨3, false, []⟩ (.st ⟨4, false, []⟩ (.st ⟨5, false, []⟩ (.st ⟨6, false, []⟩ (.st ⟨7, false, []⟩ (.st ⟨8, false, []⟩ (.fin)))))))))
  | _ => .fin
theorem fn25 : FnOK Tryd.prog 25 Tryd.f25 cd25 pl25 := ⟨Tryd.func25, rfl, by kernel_rfl, by kernel_rfl⟩
instance isf25 : IsFn Tryd.prog 25 := ⟨by kernel_rfl⟩
-- anchorhold/anchorholdref29.Few
noncomputable def cd28 : Code := match Tryd.f28.body with
  | some c => c
  | none => .skip
noncomputable def pl28 : Nat → Plan := fun _ => .fin
theorem fn28 : FnOK Tryd.prog 28 Tryd.f28 cd28 pl28 := ⟨Tryd.func28, rfl, by kernel_rfl, by kernel_rfl⟩
instance isf28 : IsFn Tryd.prog 28 := ⟨by kernel_rfl⟩
-- anchorhold/anchorholdref29.Same
noncomputable def cd32 : Code := match Tryd.f32.body with
  | some c => c
  | none => .skip
noncomputable def pl32 : Nat → Plan
  | 6 => .st ⟨0, false, []⟩ (.st ⟨1, false, []⟩ (.st ⟨2, false, []⟩ (.st ⟨3, false, []⟩ (.st ⟨4, false, []⟩ (.st ⟨6, false, []⟩ (.st ⟨7, false, []⟩ (.st ⟨8, false, []⟩ (.st ⟨9, false, []⟩ (.st ⟨10, false, []⟩ (.st ⟨5, true, [6, 7, 9, 10]⟩ (.st ⟨11, true, []⟩ (.st ⟨12, false, []⟩ (.fin)))))))))))))
  | 11 => .st ⟨0, false, []⟩ (.st ⟨1, false, []⟩ (.st ⟨2, false, []⟩ (.st ⟨3, false, []⟩ (.st ⟨4, false, []⟩ (.st ⟨5, false, []⟩ (.st ⟨6, false, []⟩ (.st ⟨7, false, []⟩ (.st ⟨8, false, []⟩ (.st ⟨9, false, []⟩ (.st ⟨10, false, []⟩ (.st ⟨11, false, []⟩ (.st ⟨12, false, []⟩ (.fin)))))))))))))
  | 16 => .st ⟨0, false, []⟩ (.st ⟨1, false, []⟩ (.st ⟨2, false, []⟩ (.st ⟨3, false, []⟩ (.st ⟨4, false, []⟩ (.st ⟨5, false, []⟩ (.st ⟨6, false, []⟩ (.st ⟨7, false, []⟩ (.st ⟨8, false, []⟩ (.st ⟨9, false, []⟩ (.st ⟨10, false, []⟩ (.st ⟨11, false, []⟩ (.st ⟨12, false, []⟩ (.st ⟨13, false, []⟩ (.st ⟨14, false, []⟩ (.st ⟨15, false, []⟩ (.st ⟨16, false, []⟩ (.st ⟨17, false, []⟩ (.fin))))))))))))))))))
  | 22 => .st ⟨0, false, []⟩ (.st ⟨1, false, []⟩ (.st ⟨2, false, []⟩ (.st ⟨3, false, []⟩ (.st ⟨4, false, []⟩ (.st ⟨5, false, []⟩ (.st ⟨6, false, []⟩ (.st ⟨7, false, []⟩ (.st ⟨8, false, []⟩ (.st ⟨9, false, []⟩ (.st ⟨10, false, []⟩ (.st ⟨11, false, []⟩ (.st ⟨12, false, []⟩ (.st ⟨13, false, []⟩ (.st ⟨14, false, []⟩ (.st ⟨15, false, []⟩ (.st ⟨16, false, []⟩ (.st ⟨17, false, []⟩ (.st ⟨18, false, []⟩ (.st ⟨19, false, []⟩ (.st ⟨20, false, []⟩ (.st ⟨21, false, []⟩ (.st ⟨22, false, []⟩ (.st ⟨23, false, []⟩ (.st ⟨24, false, []⟩ (.st ⟨25, false, []⟩ (.st ⟨26, false, []⟩ (.st ⟨27, false, []⟩ (.st ⟨28, false, []⟩ (.st ⟨29, false, []⟩ (.st ⟨30, false, []⟩ (.st ⟨31, false, []⟩ (.st ⟨32, false, []⟩ (.st ⟨33, false, []⟩ (.st ⟨34, false, []⟩ (.st ⟨35, false, []⟩ (.st ⟨36, false, []⟩ (.st ⟨37, false, []⟩ (.st ⟨38, false, []⟩ (.st ⟨39, false, []⟩ (.st ⟨40, false, []⟩ (.st ⟨41, false, []⟩ (.st ⟨42, false, []⟩ (.st ⟨43, false, []⟩ (.st ⟨44, false, []⟩ (.st ⟨45, false, []⟩ (.st ⟨46, false, []⟩ (.st ⟨47, false, []⟩ (.st ⟨48, false, []⟩ (.st ⟨49, false, []⟩ (.st ⟨50, false, []⟩ (.st ⟨51, false, []⟩ (.st ⟨52, false, []⟩ (.st ⟨53, false, []⟩ (.st ⟨54, false, []⟩ (.st ⟨55, false, []⟩ (.st ⟨56, false, []⟩ (.st ⟨57, false, []⟩ (.st ⟨58, false, []⟩ (.st ⟨59, false, []⟩ (.st ⟨60, false, []⟩ (.st ⟨61, false, []⟩ (.st ⟨62, false, []⟩ (.st ⟨63, false, []⟩ (.st ⟨64, false, []⟩ (.st ⟨65, false, []⟩ (.st ⟨66, false, []⟩ (.st ⟨67, false, []⟩ (.st ⟨68, false, []⟩ (.st ⟨69, false, []⟩ (.st ⟨70, false, []⟩ (.st ⟨71, false, []⟩ (.st ⟨72, false, []⟩ (.st ⟨73, false, []⟩ (.st ⟨74, false, []⟩ (.st ⟨75, false, []⟩ (.fin))))))))))))))))))))))))))))))))))))))))))))))))))))))))))))))))))))))))))))
  | _ => .fin
theorem fn32 : FnOK Tryd.prog 32 Tryd.f32 cd32 pl32 := ⟨Tryd.func32, rfl, by kernel_rfl, by kernel_rfl⟩
instance isf32 : IsFn Tryd.prog 32 := ⟨by kernel_rfl⟩
-- strings.CutPrefix
instance isf51 : IsFn Tryd.prog 51 := ⟨by kernel_rfl⟩
-- anchorhold/trace.number
noncomputable def cd52 : Code := match Tryd.f52.body with
  | some c => c
  | none => .skip
noncomputable def pl52 : Nat → Plan := fun _ => .fin
theorem fn52 : FnOK Tryd.prog 52 Tryd.f52 cd52 pl52 := ⟨Tryd.func52, rfl, by kernel_rfl, by kernel_rfl⟩
instance isf52 : IsFn Tryd.prog 52 := ⟨by kernel_rfl⟩
-- anchorhold/trace.fault
noncomputable def cd56 : Code := match Tryd.f56.body with
  | some c => c
  | none => .skip
noncomputable def pl56 : Nat → Plan := fun _ => .fin
theorem fn56 : FnOK Tryd.prog 56 Tryd.f56 cd56 pl56 := ⟨Tryd.func56, rfl, by kernel_rfl, by kernel_rfl⟩
instance isf56 : IsFn Tryd.prog 56 := ⟨by kernel_rfl⟩
-- anchorhold/anchorholdref22.Name
noncomputable def cd60 : Code := match Tryd.f60.body with
  | some c => c
  | none => .skip
noncomputable def pl60 : Nat → Plan := fun _ => .fin
theorem fn60 : FnOK Tryd.prog 60 Tryd.f60 cd60 pl60 := ⟨Tryd.func60, rfl, by kernel_rfl, by kernel_rfl⟩
instance isf60 : IsFn Tryd.prog 60 := ⟨by kernel_rfl⟩
-- anchorhold/anchorholdref28.one
noncomputable def cd65 : Code := match Tryd.f65.body with
  | some c => c
  | none => .skip
noncomputable def pl65 : Nat → Plan
  | 16 => .st ⟨0, false, []⟩ (.st ⟨1, false, []⟩ (.st ⟨2, false, []⟩ (.st ⟨3, false, []⟩ (.st ⟨4, false, []⟩ (.st ⟨5, false, []⟩ (.st ⟨6, false, []⟩ (.st ⟨7, false, []⟩ (.st ⟨8, false, []⟩ (.st ⟨9, false, []⟩ (.st ⟨10, false, []⟩ (.st ⟨11, false, []⟩ (.st ⟨12, false, []⟩ (.st ⟨13, false, []⟩ (.st ⟨14, false, []⟩ (.st ⟨15, false, []⟩ (.st ⟨16, false, []⟩ (.st ⟨17, false, []⟩ (.st ⟨18, false, []⟩ (.st ⟨19, true, []⟩ (.st ⟨20, false, []⟩ (.fin)))))))))))))))))))))
  | _ => .fin
theorem fn65 : FnOK Tryd.prog 65 Tryd.f65 cd65 pl65 := ⟨Tryd.func65, rfl, by kernel_rfl, by kernel_rfl⟩
instance isf65 : IsFn Tryd.prog 65 := ⟨by kernel_rfl⟩
-- anchorhold/anchorholdref29.frame
noncomputable def cd73 : Code := match Tryd.f73.body with
  | some c => c
  | none => .skip
noncomputable def pl73 : Nat → Plan
  | 12 => .st ⟨0, false, []⟩ (.st ⟨1, false, []⟩ (.st ⟨2, false, []⟩ (.st ⟨3, false, []⟩ (.st ⟨4, false, []⟩ (.st ⟨5, false, []⟩ (.st ⟨6, false, []⟩ (.st ⟨7, false, []⟩ (.st ⟨8, false, []⟩ (.st ⟨9, false, []⟩ (.st ⟨10, false, []⟩ (.st ⟨11, false, []⟩ (.st ⟨12, false, []⟩ (.st ⟨13, true, []⟩ (.st ⟨14, false, []⟩ (.fin)))))))))))))))
  | _ => .fin
theorem fn73 : FnOK Tryd.prog 73 Tryd.f73 cd73 pl73 := ⟨Tryd.func73, rfl, by kernel_rfl, by kernel_rfl⟩
instance isf73 : IsFn Tryd.prog 73 := ⟨by kernel_rfl⟩
-- slices.EqualFunc[[][]anchorhold/api.Step,[][]anchorhold/api.Step,[]anchorhold/api.Step,[]anchorhold/api.Step]
noncomputable def cd76 : Code := match Tryd.f76.body with
  | some c => c
  | none => .skip
noncomputable def pl76 : Nat → Plan := fun _ => .fin
theorem fn76 : FnOK Tryd.prog 76 Tryd.f76 cd76 pl76 := ⟨Tryd.func76, rfl, by kernel_rfl, by kernel_rfl⟩
instance isf76 : IsFn Tryd.prog 76 := ⟨by kernel_rfl⟩
-- anchorhold/setup.Words
noncomputable def cd80 : Code := match Tryd.f80.body with
  | some c => c
  | none => .skip
noncomputable def pl80 : Nat → Plan := fun _ => .fin
theorem fn80 : FnOK Tryd.prog 80 Tryd.f80 cd80 pl80 := ⟨Tryd.func80, rfl, by kernel_rfl, by kernel_rfl⟩
instance isf80 : IsFn Tryd.prog 80 := ⟨by kernel_rfl⟩
-- anchorhold/setup.short
noncomputable def cd81 : Code := match Tryd.f81.body with
  | some c => c
  | none => .skip
noncomputable def pl81 : Nat → Plan := fun _ => .fin
theorem fn81 : FnOK Tryd.prog 81 Tryd.f81 cd81 pl81 := ⟨Tryd.func81, rfl, by kernel_rfl, by kernel_rfl⟩
instance isf81 : IsFn Tryd.prog 81 := ⟨by kernel_rfl⟩
-- anchorhold/anchorholdref08.Encode
noncomputable def cd85 : Code := match Tryd.f85.body with
  | some c => c
  | none => .skip
noncomputable def pl85 : Nat → Plan
  | 25 => .st ⟨0, false, []⟩ (.st ⟨1, false, []⟩ (.st ⟨2, false, []⟩ (.st ⟨3, false, []⟩ (.st ⟨4, false, []⟩ (.st ⟨5, false, []⟩ (.st ⟨6, false, []⟩ (.st ⟨7, false, []⟩ (.st ⟨8, false, []⟩ (.st ⟨9, false, []⟩ (.st ⟨10, false, []⟩ (.st ⟨11, false, []⟩ (.st ⟨12, false, []⟩ (.st ⟨13, false, []⟩ (.st ⟨14, false, []⟩ (.st ⟨15, false, []⟩ (.st ⟨16, false, []⟩ (.st ⟨17, false, []⟩ (.st ⟨18, false, []⟩ (.st ⟨19, true, []⟩ (.st ⟨20, true, []⟩ (.st ⟨21, true, []⟩ (.st ⟨22, false, []⟩ (.fin)))))))))))))))))))))))
  | 31 => .st ⟨0, false, []⟩ (.st ⟨1, false, []⟩ (.st ⟨2, false, []⟩ (.st ⟨3, false, []⟩ (.st ⟨4, false, []⟩ (.st ⟨5, false, []⟩ (.st ⟨6, false, []⟩ (.st ⟨7, false, []⟩ (.st ⟨8, false, []⟩ (.st ⟨9, false, []⟩ (.st ⟨10, false, []⟩ (.st ⟨11, false, []⟩ (.st ⟨12, false, []⟩ (.st ⟨13, true, []⟩ (.st ⟨14, true, []⟩ (.st ⟨15, true, []⟩ (.st ⟨16, false, []⟩ (.fin)))))))))))))))))
  | 36 => .st ⟨0, false, []⟩ (.st ⟨1, false, []⟩ (.st ⟨2, false, []⟩ (.st ⟨3, false, []⟩ (.st ⟨4, false, []⟩ (.st ⟨5, false, []⟩ (.st ⟨6, false, []⟩ (.st ⟨7, false, []⟩ (.st ⟨8, false, []⟩ (.st ⟨9, false, []⟩ (.st ⟨10, false, []⟩ (.st ⟨11, false, []⟩ (.st ⟨12, false, []⟩ (.st ⟨13, false, []⟩ (.st ⟨14, false, []⟩ (.st ⟨15, false, []⟩ (.st ⟨16, false, []⟩ (.st ⟨17, false, []⟩ (.st ⟨18, false, []⟩ (.st ⟨19, true, []⟩ (.st ⟨20, true, []⟩ (.st ⟨21, true, []⟩ (.st ⟨22, false, []⟩ (.fin)))))))))))))))))))))))
  | _ => .fin
theorem fn85 : FnOK Tryd.prog 85 Tryd.f85 cd85 pl85 := ⟨Tryd.func85, rfl, by kernel_rfl, by kernel_rfl⟩
instance isf85 : IsFn Tryd.prog 85 := ⟨by kernel_rfl⟩
-- anchorhold/anchorholdref22.Print
noncomputable def cd102 : Code := match Tryd.f102.body with
  | some c => c
  | none => .skip
noncomputable def pl102 : Nat → Plan
  | 1 => .st ⟨0, false, []⟩ (.st ⟨1, false, []⟩ (.st ⟨4, false, []⟩ (.st ⟨5, false, []⟩ (.st ⟨2, true, [4, 5]⟩ (.st ⟨3, false, []⟩ (.st ⟨6, true, [3]⟩ (.st ⟨7, false, []⟩ (.st ⟨8, false, []⟩ (.fin)))))))))
  | 3 => .st ⟨0, false, []⟩ (.st ⟨1, false, []⟩ (.st ⟨4, false, []⟩ (.st ⟨5, false, []⟩ (.st ⟨2, true, [4, 5]⟩ (.st ⟨3, false, []⟩ (.st ⟨6, true, [3]⟩ (.st ⟨7, false, []⟩ (.st ⟨8, false, []⟩ (.fin)))))))))
  | _ => .fin
theorem fn102 : FnOK Tryd.prog 102 Tryd.f102 cd102 pl102 := ⟨Tryd.func102, rfl, by kernel_rfl, by kernel_rfl⟩
instance isf102 : IsFn Tryd.prog 102 := ⟨by kernel_rfl⟩
-- anchorhold/anchorholdref22.Number
noncomputable def cd108 : Code := match Tryd.f108.body with
  | some c => c
  | none => .skip
noncomputable def pl108 : Nat → Plan := fun _ => .fin
theorem fn108 : FnOK Tryd.prog 108 Tryd.f108 cd108 pl108 := ⟨Tryd.func108, rfl, by kernel_rfl, by kernel_rfl⟩
instance isf108 : IsFn Tryd.prog 108 := ⟨by kernel_rfl⟩
-- anchorhold/setup.some[anchorhold/api.PartConf]
noncomputable def cd113 : Code := match Tryd.f113.body with
  | some c => c
  | none => .skip
noncomputable def pl113 : Nat → Plan := fun _ => .fin
theorem fn113 : FnOK Tryd.prog 113 Tryd.f113 cd113 pl113 := ⟨Tryd.func113, rfl, by kernel_rfl, by kernel_rfl⟩
instance isf113 : IsFn Tryd.prog 113 := ⟨by kernel_rfl⟩
-- (*anchorhold/setup.reader).config$1
noncomputable def cd116 : Code := match Tryd.f116.body with
  | some c => c
  | none => .skip
noncomputable def pl116 : Nat → Plan
  | 1 => .st ⟨0, false, []⟩ (.st ⟨1, false, []⟩ (.st ⟨2, false, []⟩ (.st ⟨3, false, []⟩ (.st ⟨4, false, []⟩ (.st ⟨5, false, []⟩ (.st ⟨6, false, []⟩ (.st ⟨7, false, []⟩ (.st ⟨8, false, []⟩ (.st ⟨9, false, []⟩ (.st ⟨10, false, []⟩ (.st ⟨11, false, []⟩ (.st ⟨12, false, []⟩ (.st ⟨13, false, []⟩ (.st ⟨14, false, []⟩ (.st ⟨15, true, []⟩ (.fin))))))))))))))))
  | _ => .fin
theorem fn116 : FnOK Tryd.prog 116 Tryd.f116 cd116 pl116 := ⟨Tryd.func116, rfl, by kernel_rfl, by kernel_rfl⟩
instance isf116 : IsFn Tryd.prog 116 := ⟨by kernel_rfl⟩
-- anchorhold/setup.some[anchorhold/api.Nap]
noncomputable def cd121 : Code := match Tryd.f121.body with
  | some c => c
  | none => .skip
noncomputable def pl121 : Nat → Plan := fun _ => .fin
theorem fn121 : FnOK Tryd.prog 121 Tryd.f121 cd121 pl121 := ⟨Tryd.func121, rfl, by kernel_rfl, by kernel_rfl⟩
instance isf121 : IsFn Tryd.prog 121 := ⟨by kernel_rfl⟩
-- anchorhold/anchorholdref07.Int
noncomputable def cd124 : Code := match Tryd.f124.body with
  | some c => c
  | none => .skip
noncomputable def pl124 : Nat → Plan := fun _ => .fin
theorem fn124 : FnOK Tryd.prog 124 Tryd.f124 cd124 pl124 := ⟨Tryd.func124, rfl, by kernel_rfl, by kernel_rfl⟩
instance isf124 : IsFn Tryd.prog 124 := ⟨by kernel_rfl⟩
-- (*strings.Builder).Grow
instance isf128 : IsFn Tryd.prog 128 := ⟨by kernel_rfl⟩
-- strings.genSplit
instance isf134 : IsFn Tryd.prog 134 := ⟨by kernel_rfl⟩
-- anchorhold/call.decimal
noncomputable def cd135 : Code := match Tryd.f135.body with
  | some c => c
  | none => .skip
noncomputable def pl135 : Nat → Plan := fun _ => .fin
theorem fn135 : FnOK Tryd.prog 135 Tryd.f135 cd135 pl135 := ⟨Tryd.func135, rfl, by kernel_rfl, by kernel_rfl⟩
instance isf135 : IsFn Tryd.prog 135 := ⟨by kernel_rfl⟩
-- anchorhold/script.number
noncomputable def cd138 : Code := match Tryd.f138.body with
  | some c => c
  | none => .skip
noncomputable def pl138 : Nat → Plan := fun _ => .fin
theorem fn138 : FnOK Tryd.prog 138 Tryd.f138 cd138 pl138 := ⟨Tryd.func138, rfl, by kernel_rfl, by kernel_rfl⟩
instance isf138 : IsFn Tryd.prog 138 := ⟨by kernel_rfl⟩
-- (*anchorhold/call.words).number
noncomputable def cd139 : Code := match Tryd.f139.body with
  | some c => c
  | none => .skip
noncomputable def pl139 : Nat → Plan := fun _ => .fin
theorem fn139 : FnOK Tryd.prog 139 Tryd.f139 cd139 pl139 := ⟨Tryd.func139, rfl, by kernel_rfl, by kernel_rfl⟩
instance isf139 : IsFn Tryd.prog 139 := ⟨by kernel_rfl⟩
-- strings.trimLeftASCII
instance isf144 : IsFn Tryd.prog 144 := ⟨by kernel_rfl⟩
-- strings.trimLeftUnicode
instance isf146 : IsFn Tryd.prog 146 := ⟨by kernel_rfl⟩
-- (*anchorhold/setup.reader).peek
noncomputable def cd149 : Code := match Tryd.f149.body with
  | some c => c
  | none => .skip
noncomputable def pl149 : Nat → Plan
  | 3 => .st ⟨0, false, []⟩ (.st ⟨1, false, []⟩ (.st ⟨2, false, []⟩ (.st ⟨3, false, []⟩ (.st ⟨4, false, []⟩ (.st ⟨5, false, []⟩ (.st ⟨6, false, []⟩ (.st ⟨7, false, []⟩ (.st ⟨8, false, []⟩ (.st ⟨9, false, []⟩ (.st ⟨10, false, []⟩ (.st ⟨11, false, []⟩ (.st ⟨12, false, []⟩ (.st ⟨13, false, []⟩ (.st ⟨14, false, []⟩ (.st ⟨15, false, []⟩ (.st ⟨16, false, []⟩ (.st ⟨17, false, []⟩ (.st ⟨18, false, []⟩ (.fin)))))))))))))))))))
  | _ => .fin
theorem fn149 : FnOK Tryd.prog 149 Tryd.f149 cd149 pl149 := ⟨Tryd.func149, rfl, by kernel_rfl, by kernel_rfl⟩
instance isf149 : IsFn Tryd.prog 149 := ⟨by kernel_rfl⟩
-- anchorhold/setup.some[anchorhold/api.PortConf]
noncomputable def cd155 : Code := match Tryd.f155.body with
  | some c => c
  | none => .skip
noncomputable def pl155 : Nat → Plan := fun _ => .fin
theorem fn155 : FnOK Tryd.prog 155 Tryd.f155 cd155 pl155 := ⟨Tryd.func155, rfl, by kernel_rfl, by kernel_rfl⟩
instance isf155 : IsFn Tryd.prog 155 := ⟨by kernel_rfl⟩
-- (*anchorhold/setup.reader).part$4
noncomputable def cd158 : Code := match Tryd.f158.body with
  | some c => c
  | none => .skip
noncomputable def pl158 : Nat → Plan
  | 1 => .st ⟨0, false, []⟩ (.st ⟨1, false, []⟩ (.st ⟨2, false, []⟩ (.st ⟨3, false, []⟩ (.st ⟨4, false, []⟩ (.st ⟨5, false, []⟩ (.st ⟨6, false, []⟩ (.st ⟨7, true, []⟩ (.fin))))))))
  | _ => .fin
theorem fn158 : FnOK Tryd.prog 158 Tryd.f158 cd158 pl158 := ⟨Tryd.func158, rfl, by kernel_rfl, by kernel_rfl⟩
instance isf158 : IsFn Tryd.prog 158 := ⟨by kernel_rfl⟩
-- anchorhold/setup.some[int]
noncomputable def cd161 : Code := match Tryd.f161.body with
  | some c => c
  | none => .skip
noncomputable def pl161 : Nat → Plan := fun _ => .fin
theorem fn161 : FnOK Tryd.prog 161 Tryd.f161 cd161 pl161 := ⟨Tryd.func161, rfl, by kernel_rfl, by kernel_rfl⟩
instance isf161 : IsFn Tryd.prog 161 := ⟨by kernel_rfl⟩
-- (*anchorhold/setup.reader).next
noncomputable def cd165 : Code := match Tryd.f165.body with
  | some c => c
  | none => .skip
noncomputable def pl165 : Nat → Plan := fun _ => .fin
theorem fn165 : FnOK Tryd.prog 165 Tryd.f165 cd165 pl165 := ⟨Tryd.func165, rfl, by kernel_rfl, by kernel_rfl⟩
instance isf165 : IsFn Tryd.prog 165 := ⟨by kernel_rfl⟩
-- strings.Index
instance isf174 : IsFn Tryd.prog 174 := ⟨by kernel_rfl⟩
-- (*anchorhold/call.words).next
noncomputable def cd177 : Code := match Tryd.f177.body with
  | some c => c
  | none => .skip
noncomputable def pl177 : Nat → Plan := fun _ => .fin
theorem fn177 : FnOK Tryd.prog 177 Tryd.f177 cd177 pl177 := ⟨Tryd.func177, rfl, by kernel_rfl, by kernel_rfl⟩
instance isf177 : IsFn Tryd.prog 177 := ⟨by kernel_rfl⟩
-- anchorhold/setup.digits
noncomputable def cd182 : Code := match Tryd.f182.body with
  | some c => c
  | none => .skip
noncomputable def pl182 : Nat → Plan
  | 3 => .st ⟨0, false, []⟩ (.st ⟨1, false, []⟩ (.st ⟨3, false, []⟩ (.st ⟨4, false, []⟩ (.st ⟨5, false, []⟩ (.st ⟨6, false, []⟩ (.st ⟨7, false, []⟩ (.st ⟨8, false, []⟩ (.st ⟨2, true, [4, 6, 7, 8]⟩ (.st ⟨9, false, []⟩ (.st ⟨10, false, []⟩ (.fin)))))))))))
  | _ => .fin
theorem fn182 : FnOK Tryd.prog 182 Tryd.f182 cd182 pl182 := ⟨Tryd.func182, rfl, by kernel_rfl, by kernel_rfl⟩
instance isf182 : IsFn Tryd.prog 182 := ⟨by kernel_rfl⟩
end Go.Proofs.YtgkhjgpgdfbdpaaDoor
