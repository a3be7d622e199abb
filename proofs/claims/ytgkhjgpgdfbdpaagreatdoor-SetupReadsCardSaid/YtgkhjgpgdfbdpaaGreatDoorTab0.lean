/- Tables, printed by a program: each function with its plans; closed facts on types. -/
import Derived.Test.YtgkhjgpgdfbdpaaGreatDoorProg
import Derived.Test.YtgkhjgpgdfbdpaaGreatDoorWkF
import Derived.KernelRfl
namespace Go.Proofs.YtgkhjgpgdfbdpaaGreatDoor
open Go Go.Wk
-- anchorhold/anchorholdlaw34.SetupPrints
noncomputable def cd3 : Code := match Tryz.f3.body with
  | some c => c
  | none => .skip
noncomputable def pl3 : Nat → Plan := fun _ => .fin
theorem fn3 : FnOK Tryz.prog 3 Tryz.f3 cd3 pl3 := ⟨Tryz.func3, rfl, by kernel_rfl, by kernel_rfl⟩
instance isf3 : IsFn Tryz.prog 3 := ⟨by kernel_rfl⟩
-- anchorhold/anchorholdref34.Words
noncomputable def cd10 : Code := match Tryz.f10.body with
  | some c => c
  | none => .skip
noncomputable def pl10 : Nat → Plan := fun _ => .fin
theorem fn10 : FnOK Tryz.prog 10 Tryz.f10 cd10 pl10 := ⟨Tryz.func10, rfl, by kernel_rfl, by kernel_rfl⟩
instance isf10 : IsFn Tryz.prog 10 := ⟨by kernel_rfl⟩
-- anchorhold/anchorholdref08.Same
noncomputable def cd14 : Code := match Tryz.f14.body with
  | some c => c
  | none => .skip
noncomputable def pl14 : Nat → Plan := fun _ => .fin
theorem fn14 : FnOK Tryz.prog 14 Tryz.f14 cd14 pl14 := ⟨Tryz.func14, rfl, by kernel_rfl, by kernel_rfl⟩
instance isf14 : IsFn Tryz.prog 14 := ⟨by kernel_rfl⟩
-- (*anchorhold/setup.writer).part
noncomputable def cd16 : Code := match Tryz.f16.body with
  | some c => c
  | none => .skip
noncomputable def pl16 : Nat → Plan
  | 5 => .st ⟨0, false, []⟩ (.st ⟨1, false, []⟩ (.st ⟨2, false, []⟩ (.st ⟨3, false, []⟩ (.st ⟨4, false, []⟩ (.st ⟨5, false, []⟩ (.st ⟨6, false, []⟩ (.st ⟨7, true, [1, 2, 3, 4]⟩ (.st ⟨8, true, []⟩ (.st ⟨9, true, []⟩ (.fin))))))))))
  | 15 => .st ⟨0, false, []⟩ (.st ⟨1, false, []⟩ (.st ⟨2, false, []⟩ (.st ⟨4, false, []⟩ (.st ⟨5, false, []⟩ (.st ⟨7, false, []⟩ (.st ⟨8, false, []⟩ (.st ⟨9, false, []⟩ (.st ⟨10, false, []⟩ (.st ⟨3, true, [4, 5, 7, 8, 9, 10]⟩ (.st ⟨6, true, [7, 8, 9, 10]⟩ (.st ⟨11, true, []⟩ (.st ⟨12, true, []⟩ (.fin)))))))))))))
  | _ => .fin
theorem fn16 : FnOK Tryz.prog 16 Tryz.f16 cd16 pl16 := ⟨Tryz.func16, rfl, by kernel_rfl, by kernel_rfl⟩
instance isf16 : IsFn Tryz.prog 16 := ⟨by kernel_rfl⟩
-- strings.Trim
instance isf23 : IsFn Tryz.prog 23 := ⟨by kernel_rfl⟩
-- anchorhold/anchorholdref22.Number10
noncomputable def cd26 : Code := match Tryz.f26.body with
  | some c => c
  | none => .skip
noncomputable def pl26 : Nat → Plan := fun _ => .fin
theorem fn26 : FnOK Tryz.prog 26 Tryz.f26 cd26 pl26 := ⟨Tryz.func26, rfl, by kernel_rfl, by kernel_rfl⟩
instance isf26 : IsFn Tryz.prog 26 := ⟨by kernel_rfl⟩
-- anchorhold/anchorholdref34.can
noncomputable def cd29 : Code := match Tryz.f29.body with
  | some c => c
  | none => .skip
noncomputable def pl29 : Nat → Plan := fun _ => .fin
theorem fn29 : FnOK Tryz.prog 29 Tryz.f29 cd29 pl29 := ⟨Tryz.func29, rfl, by kernel_rfl, by kernel_rfl⟩
instance isf29 : IsFn Tryz.prog 29 := ⟨by kernel_rfl⟩
-- anchorhold/anchorholdref34.room
noncomputable def cd31 : Code := match Tryz.f31.body with
  | some c => c
  | none => .skip
noncomputable def pl31 : Nat → Plan := fun _ => .fin
theorem fn31 : FnOK Tryz.prog 31 Tryz.f31 cd31 pl31 := ⟨Tryz.func31, rfl, by kernel_rfl, by kernel_rfl⟩
instance isf31 : IsFn Tryz.prog 31 := ⟨by kernel_rfl⟩
-- anchorhold/anchorholdref08.Encode
noncomputable def cd33 : Code := match Tryz.f33.body with
  | some c => c
  | none => .skip
noncomputable def pl33 : Nat → Plan
  | 25 => .st ⟨0, false, []⟩ (.st ⟨1, false, []⟩ (.st ⟨2, false, []⟩ (.st ⟨3, false, []⟩ (.st ⟨4, false, []⟩ (.st ⟨5, false, []⟩ (.st ⟨6, false, []⟩ (.st ⟨7, false, []⟩ (.st ⟨8, false, []⟩ (.st ⟨9, false, []⟩ (.st ⟨10, false, []⟩ (.st ⟨11, false, []⟩ (.st ⟨12, false, []⟩ (.st ⟨13, false, []⟩ (.st ⟨14, false, []⟩ (.st ⟨15, false, []⟩ (.st ⟨16, false, []⟩ (.st ⟨17, false, []⟩ (.st ⟨18, false, []⟩ (.st ⟨19, true, []⟩ (.st ⟨20, true, []⟩ (.st ⟨21, true, []⟩ (.st ⟨22, false, []⟩ (.fin)))))))))))))))))))))))
  | 31 => .st ⟨0, false, []⟩ (.st ⟨1, false, []⟩ (.st ⟨2, false, []⟩ (.st ⟨3, false, []⟩ (.st ⟨4, false, []⟩ (.st ⟨5, false, []⟩ (.st ⟨6, false, []⟩ (.st ⟨7, false, []⟩ (.st ⟨8, false, []⟩ (.st ⟨9, false, []⟩ (.st ⟨10, false, []⟩ (.st ⟨11, false, []⟩ (.st ⟨12, false, []⟩ (.st ⟨13, true, []⟩ (.st ⟨14, true, []⟩ (.st ⟨15, true, []⟩ (.st ⟨16, false, []⟩ (.fin)))))))))))))))))
  | 36 => .st ⟨0, false, []⟩ (.st ⟨1, false, []⟩ (.st ⟨2, false, []⟩ (.st ⟨3, false, []⟩ (.st ⟨4, false, []⟩ (.st ⟨5, false, []⟩ (.st ⟨6, false, []⟩ (.st ⟨7, false, []⟩ (.st ⟨8, false, []⟩ (.st ⟨9, false, []⟩ (.st ⟨10, false, []⟩ (.st ⟨11, false, []⟩ (.st ⟨12, false, []⟩ (.st ⟨13, false, []⟩ (.st ⟨14, false, []⟩ (.st ⟨15, false, []⟩ (.st ⟨16, false, []⟩ (.st ⟨17, false, []⟩ (.st ⟨18, false, []⟩ (.st ⟨19, true, []⟩ (.st ⟨20, true, []⟩ (.st ⟨21, true, []⟩ (.st ⟨22, false, []⟩ (.fin)))))))))))))))))))))))
  | _ => .fin
theorem fn33 : FnOK Tryz.prog 33 Tryz.f33 cd33 pl33 := ⟨Tryz.func33, rfl, by kernel_rfl, by kernel_rfl⟩
instance isf33 : IsFn Tryz.prog 33 := ⟨by kernel_rfl⟩
-- strings.TrimPrefix
instance isf46 : IsFn Tryz.prog 46 := ⟨by kernel_rfl⟩
-- anchorhold/anchorholdref22.Decimal
noncomputable def cd48 : Code := match Tryz.f48.body with
  | some c => c
  | none => .skip
noncomputable def pl48 : Nat → Plan := fun _ => .fin
theorem fn48 : FnOK Tryz.prog 48 Tryz.f48 cd48 pl48 := ⟨Tryz.func48, rfl, by kernel_rfl, by kernel_rfl⟩
instance isf48 : IsFn Tryz.prog 48 := ⟨by kernel_rfl⟩
-- (*anchorhold/setup.reader).part
noncomputable def cd50 : Code := match Tryz.f50.body with
  | some c => c
  | none => .skip
noncomputable def pl50 : Nat → Plan
  | 1 => .st ⟨0, false, []⟩ (.st ⟨1, false, []⟩ (.st ⟨2, false, []⟩ (.st ⟨3, false, []⟩ (.st ⟨4, false, []⟩ (.st ⟨5, false, []⟩ (.st ⟨6, false, []⟩ (.st ⟨7, false, []⟩ (.st ⟨8, false, []⟩ (.st ⟨9, false, []⟩ (.st ⟨10, false, []⟩ (.st ⟨11, false, []⟩ (.st ⟨12, false, []⟩ (.st ⟨13, true, [1, 2, 4, 5, 7, 8, 10, 11, 12]⟩ (.st ⟨14, true, []⟩ (.fin)))))))))))))))
  | _ => .fin
theorem fn50 : FnOK Tryz.prog 50 Tryz.f50 cd50 pl50 := ⟨Tryz.func50, rfl, by kernel_rfl, by kernel_rfl⟩
instance isf50 : IsFn Tryz.prog 50 := ⟨by kernel_rfl⟩
-- (*anchorhold/setup.reader).mode
noncomputable def cd54 : Code := match Tryz.f54.body with
  | some c => c
  | none => .skip
noncomputable def pl54 : Nat → Plan
  | 1 => .st ⟨0, false, []⟩ (.st ⟨1, false, []⟩ (.st ⟨2, false, []⟩ (.st ⟨3, false, []⟩ (.st ⟨4, true, [1, 2]⟩ (.st ⟨5, false, []⟩ (.st ⟨6, true, []⟩ (.fin)))))))
  | _ => .fin
theorem fn54 : FnOK Tryz.prog 54 Tryz.f54 cd54 pl54 := ⟨Tryz.func54, rfl, by kernel_rfl, by kernel_rfl⟩
instance isf54 : IsFn Tryz.prog 54 := ⟨by kernel_rfl⟩
-- (*anchorhold/setup.reader).config$2
noncomputable def cd56 : Code := match Tryz.f56.body with
  | some c => c
  | none => .skip
noncomputable def pl56 : Nat → Plan
  | 1 => .st ⟨0, false, []⟩ (.st ⟨1, false, []⟩ (.st ⟨2, false, []⟩ (.st ⟨3, false, []⟩ (.st ⟨4, false, []⟩ (.st ⟨5, false, []⟩ (.st ⟨6, false, []⟩ (.st ⟨7, true, []⟩ (.fin))))))))
  | _ => .fin
theorem fn56 : FnOK Tryz.prog 56 Tryz.f56 cd56 pl56 := ⟨Tryz.func56, rfl, by kernel_rfl, by kernel_rfl⟩
instance isf56 : IsFn Tryz.prog 56 := ⟨by kernel_rfl⟩
-- anchorhold/anchorholdref07.Int
noncomputable def cd61 : Code := match Tryz.f61.body with
  | some c => c
  | none => .skip
noncomputable def pl61 : Nat → Plan := fun _ => .fin
theorem fn61 : FnOK Tryz.prog 61 Tryz.f61 cd61 pl61 := ⟨Tryz.func61, rfl, by kernel_rfl, by kernel_rfl⟩
instance isf61 : IsFn Tryz.prog 61 := ⟨by kernel_rfl⟩
-- anchorhold/anchorholdref07.Ints
noncomputable def cd64 : Code := match Tryz.f64.body with
  | some c => c
  | none => .skip
noncomputable def pl64 : Nat → Plan := fun _ => .fin
theorem fn64 : FnOK Tryz.prog 64 Tryz.f64 cd64 pl64 := ⟨Tryz.func64, rfl, by kernel_rfl, by kernel_rfl⟩
instance isf64 : IsFn Tryz.prog 64 := ⟨by kernel_rfl⟩
-- (*strings.Builder).WriteByte
noncomputable def cd66 : Code := match Tryz.f66.body with
  | some c => c
  | none => .skip
noncomputable def pl66 : Nat → Plan := fun _ => .fin
theorem fn66 : FnOK Tryz.prog 66 Tryz.f66 cd66 pl66 := ⟨Tryz.func66, rfl, by kernel_rfl, by kernel_rfl⟩
instance isf66 : IsFn Tryz.prog 66 := ⟨by kernel_rfl⟩
-- strings.explode
instance isf68 : IsFn Tryz.prog 68 := ⟨by kernel_rfl⟩
-- strings.Count
instance isf69 : IsFn Tryz.prog 69 := ⟨by kernel_rfl⟩
-- strings.Index
instance isf70 : IsFn Tryz.prog 70 := ⟨by kernel_rfl⟩
-- (*strings.asciiSet).contains
instance isf71 : IsFn Tryz.prog 71 := ⟨by kernel_rfl⟩
-- strings.ContainsRune
instance isf73 : IsFn Tryz.prog 73 := ⟨by kernel_rfl⟩
-- anchorhold/setup.digits
noncomputable def cd76 : Code := match Tryz.f76.body with
  | some c => c
  | none => .skip
noncomputable def pl76 : Nat → Plan
  | 3 => .st ⟨0, false, []⟩ (.st ⟨1, false, []⟩ (.st ⟨3, false, []⟩ (.st ⟨4, false, []⟩ (.st ⟨5, false, []⟩ (.st ⟨6, false, []⟩ (.st ⟨7, false, []⟩ (.st ⟨8, false, []⟩ (.st ⟨2, true, [4, 6, 7, 8]⟩ (.st ⟨9, false, []⟩ (.st ⟨10, false, []⟩ (.fin)))))))))))
  | _ => .fin
theorem fn76 : FnOK Tryz.prog 76 Tryz.f76 cd76 pl76 := ⟨Tryz.func76, rfl, by kernel_rfl, by kernel_rfl⟩
instance isf76 : IsFn Tryz.prog 76 := ⟨by kernel_rfl⟩
-- anchorhold/setup.some[anchorhold/api.Region]
noncomputable def cd78 : Code := match Tryz.f78.body with
  | some c => c
  | none => .skip
noncomputable def pl78 : Nat → Plan := fun _ => .fin
theorem fn78 : FnOK Tryz.prog 78 Tryz.f78 cd78 pl78 := ⟨Tryz.func78, rfl, by kernel_rfl, by kernel_rfl⟩
instance isf78 : IsFn Tryz.prog 78 := ⟨by kernel_rfl⟩
-- (*anchorhold/setup.reader).truth
noncomputable def cd80 : Code := match Tryz.f80.body with
  | some c => c
  | none => .skip
noncomputable def pl80 : Nat → Plan := fun _ => .fin
theorem fn80 : FnOK Tryz.prog 80 Tryz.f80 cd80 pl80 := ⟨Tryz.func80, rfl, by kernel_rfl, by kernel_rfl⟩
instance isf80 : IsFn Tryz.prog 80 := ⟨by kernel_rfl⟩
-- (*anchorhold/setup.reader).part$2
noncomputable def cd82 : Code := match Tryz.f82.body with
  | some c => c
  | none => .skip
noncomputable def pl82 : Nat → Plan
  | 1 => .st ⟨0, false, []⟩ (.st ⟨1, false, []⟩ (.st ⟨2, false, []⟩ (.st ⟨3, false, []⟩ (.st ⟨4, false, []⟩ (.st ⟨5, false, []⟩ (.st ⟨6, false, []⟩ (.st ⟨7, false, []⟩ (.st ⟨8, false, []⟩ (.st ⟨9, false, []⟩ (.st ⟨10, true, []⟩ (.fin)))))))))))
  | _ => .fin
theorem fn82 : FnOK Tryz.prog 82 Tryz.f82 cd82 pl82 := ⟨Tryz.func82, rfl, by kernel_rfl, by kernel_rfl⟩
instance isf82 : IsFn Tryz.prog 82 := ⟨by kernel_rfl⟩
-- (*anchorhold/setup.reader).part$4
noncomputable def cd86 : Code := match Tryz.f86.body with
  | some c => c
  | none => .skip
noncomputable def pl86 : Nat → Plan
  | 1 => .st ⟨0, false, []⟩ (.st ⟨1, false, []⟩ (.st ⟨2, false, []⟩ (.st ⟨3, false, []⟩ (.st ⟨4, false, []⟩ (.st ⟨5, false, []⟩ (.st ⟨6, false, []⟩ (.st ⟨7, true, []⟩ (.fin))))))))
  | _ => .fin
theorem fn86 : FnOK Tryz.prog 86 Tryz.f86 cd86 pl86 := ⟨Tryz.func86, rfl, by kernel_rfl, by kernel_rfl⟩
instance isf86 : IsFn Tryz.prog 86 := ⟨by kernel_rfl⟩
-- anchorhold/setup.some[int]
noncomputable def cd89 : Code := match Tryz.f89.body with
  | some c => c
  | none => .skip
noncomputable def pl89 : Nat → Plan := fun _ => .fin
theorem fn89 : FnOK Tryz.prog 89 Tryz.f89 cd89 pl89 := ⟨Tryz.func89, rfl, by kernel_rfl, by kernel_rfl⟩
instance isf89 : IsFn Tryz.prog 89 := ⟨by kernel_rfl⟩
-- anchorhold/setup.some[anchorhold/api.Window]
noncomputable def cd91 : Code := match Tryz.f91.body with
  | some c => c
  | none => .skip
noncomputable def pl91 : Nat → Plan := fun _ => .fin
theorem fn91 : FnOK Tryz.prog 91 Tryz.f91 cd91 pl91 := ⟨Tryz.func91, rfl, by kernel_rfl, by kernel_rfl⟩
instance isf91 : IsFn Tryz.prog 91 := ⟨by kernel_rfl⟩
-- anchorhold/anchorholdref07.Bool
noncomputable def cd94 : Code := match Tryz.f94.body with
  | some c => c
  | none => .skip
noncomputable def pl94 : Nat → Plan := fun _ => .fin
theorem fn94 : FnOK Tryz.prog 94 Tryz.f94 cd94 pl94 := ⟨Tryz.func94, rfl, by kernel_rfl, by kernel_rfl⟩
instance isf94 : IsFn Tryz.prog 94 := ⟨by kernel_rfl⟩
-- unicode/utf8.RuneStart
instance isf101 : IsFn Tryz.prog 101 := ⟨by kernel_rfl⟩
-- unicode/utf8.ValidRune
instance isf110 : IsFn Tryz.prog 110 := ⟨by kernel_rfl⟩
end Go.Proofs.YtgkhjgpgdfbdpaaGreatDoor
