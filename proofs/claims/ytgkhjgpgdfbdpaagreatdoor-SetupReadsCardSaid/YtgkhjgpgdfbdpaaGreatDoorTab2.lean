/- Tables, printed by a program: each function with its plans; closed facts on types. -/
import Derived.Test.YtgkhjgpgdfbdpaaGreatDoorProg
import Derived.Test.YtgkhjgpgdfbdpaaGreatDoorWkF
import Derived.KernelRfl
namespace Go.Proofs.YtgkhjgpgdfbdpaaGreatDoor
open Go Go.Wk
-- anchorhold/anchorholdref08.Short
noncomputable def cd5 : Code := match Tryz.f5.body with
  | some c => c
  | none => .skip
noncomputable def pl5 : Nat → Plan := fun _ => .fin
theorem fn5 : FnOK Tryz.prog 5 Tryz.f5 cd5 pl5 := ⟨Tryz.func5, rfl, by kernel_rfl, by kernel_rfl⟩
instance isf5 : IsFn Tryz.prog 5 := ⟨by kernel_rfl⟩
-- anchorhold/setup.Print
noncomputable def cd7 : Code := match Tryz.f7.body with
  | some c => c
  | none => .skip
noncomputable def pl7 : Nat → Plan := fun _ => .fin
theorem fn7 : FnOK Tryz.prog 7 Tryz.f7 cd7 pl7 := ⟨Tryz.func7, rfl, by kernel_rfl, by kernel_rfl⟩
instance isf7 : IsFn Tryz.prog 7 := ⟨by kernel_rfl⟩
-- anchorhold/anchorholdref07.Same
noncomputable def cd11 : Code := match Tryz.f11.body with
  | some c => c
  | none => .skip
noncomputable def pl11 : Nat → Plan
  | 6 => .st ⟨0, false, []⟩ (.st ⟨1, false, []⟩ (.st ⟨2, false, []⟩ (.st ⟨3, false, []⟩ (.st ⟨4, false, []⟩ (.st ⟨5, false, []⟩ (.st ⟨6, false, []⟩ (.st ⟨7, false, []⟩ (.st ⟨8, false, []⟩ (.fin)))))))))
  | _ => .fin
theorem fn11 : FnOK Tryz.prog 11 Tryz.f11 cd11 pl11 := ⟨Tryz.func11, rfl, by kernel_rfl, by kernel_rfl⟩
instance isf11 : IsFn Tryz.prog 11 := ⟨by kernel_rfl⟩
-- (*strings.Builder).Len
noncomputable def cd18 : Code := match Tryz.f18.body with
  | some c => c
  | none => .skip
noncomputable def pl18 : Nat → Plan := fun _ => .fin
theorem fn18 : FnOK Tryz.prog 18 Tryz.f18 cd18 pl18 := ⟨Tryz.func18, rfl, by kernel_rfl, by kernel_rfl⟩
instance isf18 : IsFn Tryz.prog 18 := ⟨by kernel_rfl⟩
-- anchorhold/anchorholdref34.Text
noncomputable def cd21 : Code := match Tryz.f21.body with
  | some c => c
  | none => .skip
noncomputable def pl21 : Nat → Plan
  | 23 => .st ⟨0, false, []⟩ (.st ⟨1, false, []⟩ (.st ⟨2, false, []⟩ (.st ⟨3, false, []⟩ (.st ⟨4, false, []⟩ (.st ⟨5, false, []⟩ (.st ⟨6, false, []⟩ (.st ⟨7, false, []⟩ (.st ⟨8, false, []⟩ (.st ⟨9, false, []⟩ (.st ⟨10, false, []⟩ (.st ⟨11, false, []⟩ (.st ⟨12, false, []⟩ (.st ⟨13, false, []⟩ (.st ⟨14, false, []⟩ (.st ⟨15, true, []⟩ (.st ⟨16, true, []⟩ (.st ⟨17, false, []⟩ (.st ⟨18, false, []⟩ (.fin)))))))))))))))))))
  | 27 => .st ⟨0, false, []⟩ (.st ⟨1, false, []⟩ (.st ⟨2, false, []⟩ (.st ⟨3, false, []⟩ (.st ⟨4, false, []⟩ (.st ⟨5, false, []⟩ (.st ⟨6, false, []⟩ (.st ⟨7, false, []⟩ (.st ⟨8, false, []⟩ (.st ⟨9, false, []⟩ (.st ⟨10, false, []⟩ (.st ⟨11, false, []⟩ (.st ⟨12, false, []⟩ (.st ⟨13, false, []⟩ (.st ⟨14, false, []⟩ (.st ⟨15, false, []⟩ (.st ⟨16, false, []⟩ (.st ⟨17, false, []⟩ (.st ⟨18, false, []⟩ (.st ⟨19, false, []⟩ (.st ⟨20, false, []⟩ (.st ⟨21, false, []⟩ (.st ⟨22, true, []⟩ (.st ⟨23, true, []⟩ (.st ⟨24, false, []⟩ (.st ⟨25, false, []⟩ (.fin))))))))))))))))))))))))))
  | 29 => .st ⟨0, false, []⟩ (.st ⟨1, false, []⟩ (.st ⟨2, false, []⟩ (.st ⟨3, false, []⟩ (.st ⟨6, false, []⟩ (.st ⟨7, false, []⟩ (.st ⟨8, false, []⟩ (.st ⟨4, true, [6, 7, 8]⟩ (.st ⟨5, false, []⟩ (.st ⟨9, true, [5]⟩ (.st ⟨10, false, []⟩ (.st ⟨11, false, []⟩ (.fin))))))))))))
  | _ => .fin
theorem fn21 : FnOK Tryz.prog 21 Tryz.f21 cd21 pl21 := ⟨Tryz.func21, rfl, by kernel_rfl, by kernel_rfl⟩
instance isf21 : IsFn Tryz.prog 21 := ⟨by kernel_rfl⟩
-- (*anchorhold/setup.writer).line
noncomputable def cd34 : Code := match Tryz.f34.body with
  | some c => c
  | none => .skip
noncomputable def pl34 : Nat → Plan
  | 4 => .st ⟨0, false, []⟩ (.st ⟨1, false, []⟩ (.st ⟨2, false, []⟩ (.st ⟨3, false, []⟩ (.st ⟨4, true, [1, 2]⟩ (.st ⟨5, false, []⟩ (.st ⟨6, true, []⟩ (.fin)))))))
  | _ => .fin
theorem fn34 : FnOK Tryz.prog 34 Tryz.f34 cd34 pl34 := ⟨Tryz.func34, rfl, by kernel_rfl, by kernel_rfl⟩
instance isf34 : IsFn Tryz.prog 34 := ⟨by kernel_rfl⟩
-- anchorhold/anchorholdref34.part
noncomputable def cd36 : Code := match Tryz.f36.body with
  | some c => c
  | none => .skip
noncomputable def pl36 : Nat → Plan
  | 5 => .st ⟨0, false, []⟩ (.st ⟨1, false, []⟩ (.st ⟨2, false, []⟩ (.st ⟨3, false, []⟩ (.st ⟨4, false, []⟩ (.st ⟨5, false, []⟩ (.st ⟨6, false, []⟩ (.st ⟨7, false, []⟩ (.st ⟨8, false, []⟩ (.st ⟨9, false, []⟩ (.st ⟨10, false, []⟩ (.st ⟨11, false, []⟩ (.st ⟨12, false, []⟩ (.st ⟨13, false, []⟩ (.st ⟨14, false, []⟩ (.st ⟨15, false, []⟩ (.st ⟨16, false, []⟩ (.st ⟨17, false, []⟩ (.st ⟨18, false, []⟩ (.st ⟨19, true, [1, 2, 4, 5, 6, 7, 8, 10, 11, 12]⟩ (.st ⟨20, true, []⟩ (.st ⟨21, true, []⟩ (.st ⟨22, false, []⟩ (.st ⟨23, false, []⟩ (.fin))))))))))))))))))))))))
  | 9 => .st ⟨0, false, []⟩ (.st ⟨1, false, []⟩ (.st ⟨2, false, []⟩ (.st ⟨3, false, []⟩ (.st ⟨4, false, []⟩ (.st ⟨5, false, []⟩ (.st ⟨6, false, []⟩ (.st ⟨7, false, []⟩ (.st ⟨8, false, []⟩ (.st ⟨9, false, []⟩ (.st ⟨10, false, []⟩ (.st ⟨11, false, []⟩ (.st ⟨12, false, []⟩ (.st ⟨13, false, []⟩ (.st ⟨14, false, []⟩ (.st ⟨15, false, []⟩ (.st ⟨16, false, []⟩ (.st ⟨17, false, []⟩ (.st ⟨18, false, []⟩ (.st ⟨19, true, []⟩ (.st ⟨20, true, []⟩ (.st ⟨21, false, []⟩ (.st ⟨22, false, []⟩ (.fin)))))))))))))))))))))))
  | 13 => .st ⟨0, false, []⟩ (.st ⟨1, false, []⟩ (.st ⟨2, false, []⟩ (.st ⟨3, false, []⟩ (.st ⟨4, false, []⟩ (.st ⟨5, false, []⟩ (.st ⟨6, false, []⟩ (.st ⟨8, false, []⟩ (.st ⟨9, false, []⟩ (.st ⟨10, false, []⟩ (.st ⟨11, false, []⟩ (.st ⟨12, false, []⟩ (.st ⟨13, false, []⟩ (.st ⟨15, false, []⟩ (.st ⟨16, false, []⟩ (.st ⟨17, false, []⟩ (.st ⟨18, false, []⟩ (.st ⟨19, false, []⟩ (.st ⟨20, false, []⟩ (.st ⟨21, false, []⟩ (.st ⟨22, false, []⟩ (.st ⟨23, false, []⟩ (.st ⟨24, false, []⟩ (.st ⟨25, false, []⟩ (.st ⟨26, false, []⟩ (.st ⟨7, true, [8, 9, 11, 12, 13, 15, 16, 18, 19, 20, 21, 22, 24, 25, 26]⟩ (.st ⟨14, true, [15, 16, 18, 19, 20, 21, 22, 24, 25, 26]⟩ (.st ⟨27, true, []⟩ (.st ⟨28, true, []⟩ (.st ⟨29, false, []⟩ (.st ⟨30, false, []⟩ (.fin)))))))))))))))))))))))))))))))
  | 17 => .st ⟨0, false, []⟩ (.st ⟨1, false, []⟩ (.st ⟨2, false, []⟩ (.st ⟨3, false, []⟩ (.st ⟨4, false, []⟩ (.st ⟨5, false, []⟩ (.st ⟨6, false, []⟩ (.st ⟨7, false, []⟩ (.st ⟨8, false, []⟩ (.st ⟨9, false, []⟩ (.st ⟨10, false, []⟩ (.st ⟨11, false, []⟩ (.st ⟨12, false, []⟩ (.st ⟨13, true, []⟩ (.st ⟨14, true, []⟩ (.st ⟨15, false, []⟩ (.st ⟨16, false, []⟩ (.fin)))))))))))))))))
  | 21 => .st ⟨0, false, []⟩ (.st ⟨1, false, []⟩ (.st ⟨2, false, []⟩ (.st ⟨3, false, []⟩ (.st ⟨4, false, []⟩ (.st ⟨5, false, []⟩ (.st ⟨6, false, []⟩ (.st ⟨7, false, []⟩ (.st ⟨8, false, []⟩ (.st ⟨9, false, []⟩ (.st ⟨10, false, []⟩ (.st ⟨11, false, []⟩ (.st ⟨12, false, []⟩ (.st ⟨13, true, []⟩ (.st ⟨14, true, []⟩ (.st ⟨15, false, []⟩ (.st ⟨16, false, []⟩ (.fin)))))))))))))))))
  | _ => .fin
theorem fn36 : FnOK Tryz.prog 36 Tryz.f36 cd36 pl36 := ⟨Tryz.func36, rfl, by kernel_rfl, by kernel_rfl⟩
instance isf36 : IsFn Tryz.prog 36 := ⟨by kernel_rfl⟩
-- (*anchorhold/setup.reader).take
noncomputable def cd59 : Code := match Tryz.f59.body with
  | some c => c
  | none => .skip
noncomputable def pl59 : Nat → Plan := fun _ => .fin
theorem fn59 : FnOK Tryz.prog 59 Tryz.f59 cd59 pl59 := ⟨Tryz.func59, rfl, by kernel_rfl, by kernel_rfl⟩
instance isf59 : IsFn Tryz.prog 59 := ⟨by kernel_rfl⟩
-- anchorhold/anchorholdref08.part
noncomputable def cd62 : Code := match Tryz.f62.body with
  | some c => c
  | none => .skip
noncomputable def pl62 : Nat → Plan
  | 6 => .st ⟨0, false, []⟩ (.st ⟨1, false, []⟩ (.st ⟨2, false, []⟩ (.st ⟨3, false, []⟩ (.st ⟨4, false, []⟩ (.st ⟨5, false, []⟩ (.st ⟨6, false, []⟩ (.st ⟨7, false, []⟩ (.st ⟨8, false, []⟩ (.st ⟨9, false, []⟩ (.st ⟨10, false, []⟩ (.st ⟨11, false, []⟩ (.st ⟨12, false, []⟩ (.st ⟨13, true, []⟩ (.st ⟨14, true, []⟩ (.st ⟨15, true, []⟩ (.st ⟨16, false, []⟩ (.fin)))))))))))))))))
  | 12 => .st ⟨0, false, []⟩ (.st ⟨1, false, []⟩ (.st ⟨2, false, []⟩ (.st ⟨3, false, []⟩ (.st ⟨4, false, []⟩ (.st ⟨5, false, []⟩ (.st ⟨6, false, []⟩ (.st ⟨7, false, []⟩ (.st ⟨8, false, []⟩ (.st ⟨9, false, []⟩ (.st ⟨10, false, []⟩ (.st ⟨11, false, []⟩ (.st ⟨12, false, []⟩ (.st ⟨13, false, []⟩ (.st ⟨14, false, []⟩ (.st ⟨15, false, []⟩ (.st ⟨16, false, []⟩ (.st ⟨17, false, []⟩ (.st ⟨18, false, []⟩ (.st ⟨19, true, []⟩ (.st ⟨20, true, []⟩ (.st ⟨21, true, []⟩ (.st ⟨22, false, []⟩ (.fin)))))))))))))))))))))))
  | 19 => .st ⟨0, false, []⟩ (.st ⟨1, false, []⟩ (.st ⟨2, false, []⟩ (.st ⟨3, false, []⟩ (.st ⟨4, false, []⟩ (.st ⟨5, false, []⟩ (.st ⟨6, false, []⟩ (.st ⟨7, false, []⟩ (.st ⟨8, false, []⟩ (.st ⟨9, false, []⟩ (.st ⟨10, false, []⟩ (.st ⟨11, false, []⟩ (.st ⟨12, false, []⟩ (.st ⟨13, true, []⟩ (.st ⟨14, true, []⟩ (.st ⟨15, true, []⟩ (.st ⟨16, false, []⟩ (.fin)))))))))))))))))
  | 24 => .st ⟨0, false, []⟩ (.st ⟨1, false, []⟩ (.st ⟨2, false, []⟩ (.st ⟨3, false, []⟩ (.st ⟨4, false, []⟩ (.st ⟨5, false, []⟩ (.st ⟨6, false, []⟩ (.st ⟨7, false, []⟩ (.st ⟨8, false, []⟩ (.st ⟨9, false, []⟩ (.st ⟨10, false, []⟩ (.st ⟨11, false, []⟩ (.st ⟨12, false, []⟩ (.st ⟨13, true, []⟩ (.st ⟨14, true, []⟩ (.st ⟨15, true, []⟩ (.st ⟨16, false, []⟩ (.fin)))))))))))))))))
  | 29 => .st ⟨0, false, []⟩ (.st ⟨1, false, []⟩ (.st ⟨2, false, []⟩ (.st ⟨3, false, []⟩ (.st ⟨4, false, []⟩ (.st ⟨5, false, []⟩ (.st ⟨6, false, []⟩ (.st ⟨7, false, []⟩ (.st ⟨8, false, []⟩ (.st ⟨9, false, []⟩ (.st ⟨10, false, []⟩ (.st ⟨11, false, []⟩ (.st ⟨12, false, []⟩ (.st ⟨13, true, []⟩ (.st ⟨14, true, []⟩ (.st ⟨15, true, []⟩ (.st ⟨16, false, []⟩ (.fin)))))))))))))))))
  | _ => .fin
theorem fn62 : FnOK Tryz.prog 62 Tryz.f62 cd62 pl62 := ⟨Tryz.func62, rfl, by kernel_rfl, by kernel_rfl⟩
instance isf62 : IsFn Tryz.prog 62 := ⟨by kernel_rfl⟩
-- anchorhold/setup.some[anchorhold/api.ProcConf]
noncomputable def cd81 : Code := match Tryz.f81.body with
  | some c => c
  | none => .skip
noncomputable def pl81 : Nat → Plan := fun _ => .fin
theorem fn81 : FnOK Tryz.prog 81 Tryz.f81 cd81 pl81 := ⟨Tryz.func81, rfl, by kernel_rfl, by kernel_rfl⟩
instance isf81 : IsFn Tryz.prog 81 := ⟨by kernel_rfl⟩
-- (*anchorhold/setup.reader).part$3
noncomputable def cd84 : Code := match Tryz.f84.body with
  | some c => c
  | none => .skip
noncomputable def pl84 : Nat → Plan
  | 1 => .st ⟨0, false, []⟩ (.st ⟨1, false, []⟩ (.st ⟨2, false, []⟩ (.st ⟨3, false, []⟩ (.st ⟨4, true, []⟩ (.st ⟨5, false, []⟩ (.fin))))))
  | 2 => .st ⟨0, false, []⟩ (.st ⟨1, false, []⟩ (.st ⟨2, false, []⟩ (.st ⟨3, false, []⟩ (.st ⟨4, false, []⟩ (.st ⟨6, false, []⟩ (.st ⟨7, false, []⟩ (.st ⟨8, false, []⟩ (.st ⟨9, false, []⟩ (.st ⟨10, false, []⟩ (.st ⟨11, false, []⟩ (.st ⟨5, true, [7, 8, 10, 11]⟩ (.st ⟨12, false, []⟩ (.st ⟨13, true, []⟩ (.fin))))))))))))))
  | _ => .fin
theorem fn84 : FnOK Tryz.prog 84 Tryz.f84 cd84 pl84 := ⟨Tryz.func84, rfl, by kernel_rfl, by kernel_rfl⟩
instance isf84 : IsFn Tryz.prog 84 := ⟨by kernel_rfl⟩
-- (*anchorhold/setup.reader).part$5
noncomputable def cd88 : Code := match Tryz.f88.body with
  | some c => c
  | none => .skip
noncomputable def pl88 : Nat → Plan
  | 1 => .st ⟨0, false, []⟩ (.st ⟨1, false, []⟩ (.st ⟨2, false, []⟩ (.st ⟨3, false, []⟩ (.st ⟨4, false, []⟩ (.st ⟨5, false, []⟩ (.st ⟨6, false, []⟩ (.st ⟨7, true, []⟩ (.fin))))))))
  | _ => .fin
theorem fn88 : FnOK Tryz.prog 88 Tryz.f88 cd88 pl88 := ⟨Tryz.func88, rfl, by kernel_rfl, by kernel_rfl⟩
instance isf88 : IsFn Tryz.prog 88 := ⟨by kernel_rfl⟩
-- (*anchorhold/setup.reader).mode$1
noncomputable def cd92 : Code := match Tryz.f92.body with
  | some c => c
  | none => .skip
noncomputable def pl92 : Nat → Plan
  | 1 => .st ⟨0, false, []⟩ (.st ⟨1, false, []⟩ (.st ⟨2, false, []⟩ (.st ⟨3, false, []⟩ (.st ⟨4, false, []⟩ (.st ⟨5, false, []⟩ (.st ⟨6, false, []⟩ (.st ⟨7, false, []⟩ (.st ⟨8, false, []⟩ (.st ⟨9, false, []⟩ (.st ⟨10, true, []⟩ (.fin)))))))))))
  | _ => .fin
theorem fn92 : FnOK Tryz.prog 92 Tryz.f92 cd92 pl92 := ⟨Tryz.func92, rfl, by kernel_rfl, by kernel_rfl⟩
instance isf92 : IsFn Tryz.prog 92 := ⟨by kernel_rfl⟩
-- strings.IndexRune
instance isf100 : IsFn Tryz.prog 100 := ⟨by kernel_rfl⟩
-- strings.Cut
instance isf103 : IsFn Tryz.prog 103 := ⟨by kernel_rfl⟩
end Go.Proofs.YtgkhjgpgdfbdpaaGreatDoor
