/- Tables, printed by a program: each function with its plans; closed facts on types. -/
import Derived.Test.YtgkhjgpgdfbdpaaGreatDoorProg
import Derived.Test.YtgkhjgpgdfbdpaaGreatDoorWkF
import Derived.KernelRfl
namespace Go.Proofs.YtgkhjgpgdfbdpaaGreatDoor
open Go Go.Wk
-- anchorhold/anchorholdlaw34.works
noncomputable def cd6 : Code := match Tryz.f6.body with
  | some c => c
  | none => .skip
noncomputable def pl6 : Nat → Plan := fun _ => .fin
theorem fn6 : FnOK Tryz.prog 6 Tryz.f6 cd6 pl6 := ⟨Tryz.func6, rfl, by kernel_rfl, by kernel_rfl⟩
instance isf6 : IsFn Tryz.prog 6 := ⟨by kernel_rfl⟩
-- anchorhold/anchorholdref34.Print
noncomputable def cd8 : Code := match Tryz.f8.body with
  | some c => c
  | none => .skip
noncomputable def pl8 : Nat → Plan := fun _ => .fin
theorem fn8 : FnOK Tryz.prog 8 Tryz.f8 cd8 pl8 := ⟨Tryz.func8, rfl, by kernel_rfl, by kernel_rfl⟩
instance isf8 : IsFn Tryz.prog 8 := ⟨by kernel_rfl⟩
-- anchorhold/anchorholdref34.Read
noncomputable def cd13 : Code := match Tryz.f13.body with
  | some c => c
  | none => .skip
noncomputable def pl13 : Nat → Plan := fun _ => .fin
theorem fn13 : FnOK Tryz.prog 13 Tryz.f13 cd13 pl13 := ⟨Tryz.func13, rfl, by kernel_rfl, by kernel_rfl⟩
instance isf13 : IsFn Tryz.prog 13 := ⟨by kernel_rfl⟩
-- anchorhold/setup.short
noncomputable def cd15 : Code := match Tryz.f15.body with
  | some c => c
  | none => .skip
noncomputable def pl15 : Nat → Plan := fun _ => .fin
theorem fn15 : FnOK Tryz.prog 15 Tryz.f15 cd15 pl15 := ⟨Tryz.func15, rfl, by kernel_rfl, by kernel_rfl⟩
instance isf15 : IsFn Tryz.prog 15 := ⟨by kernel_rfl⟩
-- (*strings.Builder).String
noncomputable def cd19 : Code := match Tryz.f19.body with
  | some c => c
  | none => .skip
noncomputable def pl19 : Nat → Plan
  | 1 => .st ⟨0, false, []⟩ (.st ⟨1, false, []⟩ (.st ⟨2, false, []⟩ (.st ⟨3, false, []⟩ (.st ⟨5, false, []⟩ (.st ⟨6, false, []⟩ (.st ⟨7, false, []⟩ (.st ⟨8, false, []⟩ (.st ⟨9, false, []⟩ (.st ⟨4, true, [6, 7, 8, 9]⟩ (.st ⟨10, true, []⟩ (.st ⟨11, false, []⟩ (.fin))))))))))))
  | _ => .fin
theorem fn19 : FnOK Tryz.prog 19 Tryz.f19 cd19 pl19 := ⟨Tryz.func19, rfl, by kernel_rfl, by kernel_rfl⟩
instance isf19 : IsFn Tryz.prog 19 := ⟨by kernel_rfl⟩
-- anchorhold/anchorholdref22.Words
noncomputable def cd25 : Code := match Tryz.f25.body with
  | some c => c
  | none => .skip
noncomputable def pl25 : Nat → Plan := fun _ => .fin
theorem fn25 : FnOK Tryz.prog 25 Tryz.f25 cd25 pl25 := ⟨Tryz.func25, rfl, by kernel_rfl, by kernel_rfl⟩
instance isf25 : IsFn Tryz.prog 25 := ⟨by kernel_rfl⟩
-- anchorhold/anchorholdref34.order
noncomputable def cd28 : Code := match Tryz.f28.body with
  | some c => c
  | none => .skip
noncomputable def pl28 : Nat → Plan := fun _ => .fin
theorem fn28 : FnOK Tryz.prog 28 Tryz.f28 cd28 pl28 := ⟨Tryz.func28, rfl, by kernel_rfl, by kernel_rfl⟩
instance isf28 : IsFn Tryz.prog 28 := ⟨by kernel_rfl⟩
-- anchorhold/anchorholdref34.many
noncomputable def cd30 : Code := match Tryz.f30.body with
  | some c => c
  | none => .skip
noncomputable def pl30 : Nat → Plan := fun _ => .fin
theorem fn30 : FnOK Tryz.prog 30 Tryz.f30 cd30 pl30 := ⟨Tryz.func30, rfl, by kernel_rfl, by kernel_rfl⟩
instance isf30 : IsFn Tryz.prog 30 := ⟨by kernel_rfl⟩
-- anchorhold/anchorholdref34.put
noncomputable def cd32 : Code := match Tryz.f32.body with
  | some c => c
  | none => .skip
noncomputable def pl32 : Nat → Plan
  | 3 => .st ⟨0, false, []⟩ (.st ⟨1, false, []⟩ (.st ⟨2, false, []⟩ (.st ⟨3, false, []⟩ (.st ⟨4, false, []⟩ (.st ⟨5, false, []⟩ (.st ⟨6, false, []⟩ (.st ⟨7, false, []⟩ (.st ⟨8, false, []⟩ (.st ⟨9, false, []⟩ (.st ⟨10, false, []⟩ (.st ⟨11, false, []⟩ (.st ⟨12, false, []⟩ (.st ⟨13, false, []⟩ (.st ⟨14, false, []⟩ (.st ⟨15, true, [0, 1]⟩ (.st ⟨16, true, []⟩ (.st ⟨17, false, []⟩ (.st ⟨18, true, []⟩ (.fin)))))))))))))))))))
  | 10 => .st ⟨0, false, []⟩ (.st ⟨1, false, []⟩ (.st ⟨2, false, []⟩ (.st ⟨3, false, []⟩ (.st ⟨4, false, []⟩ (.st ⟨5, false, []⟩ (.st ⟨6, false, []⟩ (.st ⟨7, false, []⟩ (.st ⟨8, false, []⟩ (.st ⟨9, false, []⟩ (.st ⟨10, false, []⟩ (.st ⟨11, false, []⟩ (.st ⟨12, false, []⟩ (.st ⟨13, false, []⟩ (.st ⟨14, false, []⟩ (.st ⟨15, false, []⟩ (.st ⟨16, false, []⟩ (.st ⟨17, true, [0, 1]⟩ (.st ⟨18, true, []⟩ (.st ⟨19, false, []⟩ (.st ⟨20, true, []⟩ (.fin)))))))))))))))))))))
  | 12 => .st ⟨0, false, []⟩ (.st ⟨1, false, []⟩ (.st ⟨2, false, []⟩ (.st ⟨3, false, []⟩ (.st ⟨4, false, []⟩ (.st ⟨5, false, []⟩ (.st ⟨6, true, [0, 1]⟩ (.st ⟨7, true, []⟩ (.st ⟨8, false, []⟩ (.st ⟨9, true, []⟩ (.fin))))))))))
  | 15 => .st ⟨0, false, []⟩ (.st ⟨1, false, []⟩ (.st ⟨2, false, []⟩ (.st ⟨3, false, []⟩ (.st ⟨4, false, []⟩ (.st ⟨5, false, []⟩ (.st ⟨6, false, []⟩ (.st ⟨7, false, []⟩ (.st ⟨8, false, []⟩ (.st ⟨9, false, []⟩ (.st ⟨10, false, []⟩ (.st ⟨11, false, []⟩ (.st ⟨12, false, []⟩ (.st ⟨13, false, []⟩ (.st ⟨14, false, []⟩ (.st ⟨15, false, []⟩ (.st ⟨16, false, []⟩ (.st ⟨17, false, []⟩ (.st ⟨18, false, []⟩ (.st ⟨19, true, [0, 1, 3, 4, 6, 7, 8]⟩ (.st ⟨20, true, [0, 1]⟩ (.st ⟨21, false, []⟩ (.st ⟨22, false, []⟩ (.st ⟨23, true, []⟩ (.fin))))))))))))))))))))))))
  | 17 => .st ⟨0, false, []⟩ (.st ⟨1, false, []⟩ (.st ⟨2, false, []⟩ (.st ⟨3, false, []⟩ (.st ⟨4, false, []⟩ (.st ⟨5, false, []⟩ (.st ⟨6, false, []⟩ (.st ⟨7, false, []⟩ (.st ⟨8, false, []⟩ (.st ⟨9, false, []⟩ (.st ⟨10, true, [0, 1, 2]⟩ (.st ⟨11, true, []⟩ (.st ⟨12, false, []⟩ (.st ⟨13, false, []⟩ (.st ⟨14, true, []⟩ (.fin)))))))))))))))
  | 19 => .st ⟨0, false, []⟩ (.st ⟨1, false, []⟩ (.st ⟨2, false, []⟩ (.st ⟨3, false, []⟩ (.st ⟨4, false, []⟩ (.st ⟨5, false, []⟩ (.st ⟨6, false, []⟩ (.st ⟨7, false, []⟩ (.st ⟨8, false, []⟩ (.st ⟨9, false, []⟩ (.st ⟨10, false, []⟩ (.st ⟨11, false, []⟩ (.st ⟨12, false, []⟩ (.st ⟨13, true, [0, 1, 2]⟩ (.st ⟨14, true, []⟩ (.st ⟨15, false, []⟩ (.st ⟨16, false, []⟩ (.st ⟨17, true, []⟩ (.fin))))))))))))))))))
  | _ => .fin
theorem fn32 : FnOK Tryz.prog 32 Tryz.f32 cd32 pl32 := ⟨Tryz.func32, rfl, by kernel_rfl, by kernel_rfl⟩
instance isf32 : IsFn Tryz.prog 32 := ⟨by kernel_rfl⟩
-- (*anchorhold/setup.reader).config$1
noncomputable def cd52 : Code := match Tryz.f52.body with
  | some c => c
  | none => .skip
noncomputable def pl52 : Nat → Plan
  | 1 => .st ⟨0, false, []⟩ (.st ⟨1, false, []⟩ (.st ⟨2, false, []⟩ (.st ⟨3, false, []⟩ (.st ⟨4, false, []⟩ (.st ⟨5, false, []⟩ (.st ⟨6, false, []⟩ (.st ⟨7, false, []⟩ (.st ⟨8, false, []⟩ (.st ⟨9, false, []⟩ (.st ⟨10, false, []⟩ (.st ⟨11, false, []⟩ (.st ⟨12, false, []⟩ (.st ⟨13, false, []⟩ (.st ⟨14, false, []⟩ (.st ⟨15, true, []⟩ (.fin))))))))))))))))
  | _ => .fin
theorem fn52 : FnOK Tryz.prog 52 Tryz.f52 cd52 pl52 := ⟨Tryz.func52, rfl, by kernel_rfl, by kernel_rfl⟩
instance isf52 : IsFn Tryz.prog 52 := ⟨by kernel_rfl⟩
-- anchorhold/setup.some[anchorhold/api.Nap]
noncomputable def cd57 : Code := match Tryz.f57.body with
  | some c => c
  | none => .skip
noncomputable def pl57 : Nat → Plan := fun _ => .fin
theorem fn57 : FnOK Tryz.prog 57 Tryz.f57 cd57 pl57 := ⟨Tryz.func57, rfl, by kernel_rfl, by kernel_rfl⟩
instance isf57 : IsFn Tryz.prog 57 := ⟨by kernel_rfl⟩
-- anchorhold/anchorholdref34.inner
noncomputable def cd60 : Code := match Tryz.f60.body with
  | some c => c
  | none => .skip
noncomputable def pl60 : Nat → Plan
  | 4 => .st ⟨1, false, []⟩ (.st ⟨2, false, []⟩ (.st ⟨4, false, []⟩ (.st ⟨5, false, []⟩ (.st ⟨6, false, []⟩ (.st ⟨7, false, []⟩ (.st ⟨8, false, []⟩ (.st ⟨9, false, []⟩ (.st ⟨10, false, []⟩ (.st ⟨11, false, []⟩ (.st ⟨12, false, []⟩ (.st ⟨13, false, []⟩ (.st ⟨14, false, []⟩ (.br (.st ⟨0, true, [1, 2, 5, 6, 8, 9, 11, 12, 13, 14]⟩ (.br (.st ⟨3, true, [5, 6, 8, 9, 11, 12, 13, 14]⟩ (.st ⟨15, true, [1, 2]⟩ (.st ⟨16, true, []⟩ (.st ⟨17, false, []⟩ (.st ⟨18, true, []⟩ (.fin)))))) (.st ⟨15, true, [1, 2]⟩ (.st ⟨3, true, [5, 6, 8, 9, 11, 12, 13, 14]⟩ (.st ⟨16, true, []⟩ (.st ⟨17, false, []⟩ (.st ⟨18, true, []⟩ (.fin)))))))) (.st ⟨15, true, [1, 2]⟩ (.st ⟨0, true, [1, 2, 5, 6, 8, 9, 11, 12, 13, 14]⟩ (.st ⟨3, true, [5, 6, 8, 9, 11, 12, 13, 14]⟩ (.st ⟨16, true, []⟩ (.st ⟨17, false, []⟩ (.st ⟨18, true, []⟩ (.fin))))))))))))))))))))
  | 5 => .st ⟨0, false, []⟩ (.st ⟨1, false, []⟩ (.st ⟨2, false, []⟩ (.st ⟨3, false, []⟩ (.st ⟨4, false, []⟩ (.st ⟨5, false, []⟩ (.st ⟨6, false, []⟩ (.st ⟨7, false, []⟩ (.st ⟨8, false, []⟩ (.st ⟨9, false, []⟩ (.st ⟨10, false, []⟩ (.st ⟨11, true, [7, 8, 9]⟩ (.st ⟨12, false, []⟩ (.fin)))))))))))))
  | 7 => .st ⟨1, false, []⟩ (.st ⟨2, false, []⟩ (.st ⟨4, false, []⟩ (.st ⟨5, false, []⟩ (.st ⟨6, false, []⟩ (.st ⟨7, false, []⟩ (.st ⟨8, false, []⟩ (.st ⟨9, false, []⟩ (.st ⟨10, false, []⟩ (.st ⟨11, false, []⟩ (.st ⟨12, false, []⟩ (.st ⟨13, false, []⟩ (.br (.st ⟨0, true, [1, 2, 5, 6, 8, 9, 11, 12, 13]⟩ (.br (.st ⟨3, true, [5, 6, 8, 9, 11, 12, 13]⟩ (.st ⟨14, true, [1, 2]⟩ (.st ⟨15, true, []⟩ (.st ⟨16, false, []⟩ (.st ⟨17, true, []⟩ (.fin)))))) (.st ⟨14, true, [1, 2]⟩ (.st ⟨3, true, [5, 6, 8, 9, 11, 12, 13]⟩ (.st ⟨15, true, []⟩ (.st ⟨16, false, []⟩ (.st ⟨17, true, []⟩ (.fin)))))))) (.st ⟨14, true, [1, 2]⟩ (.st ⟨0, true, [1, 2, 5, 6, 8, 9, 11, 12, 13]⟩ (.st ⟨3, true, [5, 6, 8, 9, 11, 12, 13]⟩ (.st ⟨15, true, []⟩ (.st ⟨16, false, []⟩ (.st ⟨17, true, []⟩ (.fin)))))))))))))))))))
  | 9 => .st ⟨1, false, []⟩ (.st ⟨2, false, []⟩ (.st ⟨4, false, []⟩ (.st ⟨5, false, []⟩ (.st ⟨6, false, []⟩ (.st ⟨7, false, []⟩ (.st ⟨8, false, []⟩ (.st ⟨9, false, []⟩ (.st ⟨10, false, []⟩ (.st ⟨11, false, []⟩ (.st ⟨12, false, []⟩ (.st ⟨13, false, []⟩ (.st ⟨14, false, []⟩ (.st ⟨15, false, []⟩ (.st ⟨16, false, []⟩ (.st ⟨17, false, []⟩ (.st ⟨18, false, []⟩ (.br (.st ⟨0, true, [1, 2, 5, 6, 7, 9, 10, 11, 13, 14, 16, 17, 18]⟩ (.br (.st ⟨3, true, [5, 6, 7, 9, 10, 11, 13, 14, 16, 17, 18]⟩ (.st ⟨19, true, [1, 2]⟩ (.st ⟨20, true, []⟩ (.st ⟨21, false, []⟩ (.st ⟨22, true, []⟩ (.fin)))))) (.st ⟨19, true, [1, 2]⟩ (.st ⟨3, true, [5, 6, 7, 9, 10, 11, 13, 14, 16, 17, 18]⟩ (.st ⟨20, true, []⟩ (.st ⟨21, false, []⟩ (.st ⟨22, true, []⟩ (.fin)))))))) (.st ⟨19, true, [1, 2]⟩ (.st ⟨0, true, [1, 2, 5, 6, 7, 9, 10, 11, 13, 14, 16, 17, 18]⟩ (.st ⟨3, true, [5, 6, 7, 9, 10, 11, 13, 14, 16, 17, 18]⟩ (.st ⟨20, true, []⟩ (.st ⟨21, false, []⟩ (.st ⟨22, true, []⟩ (.fin))))))))))))))))))))))))
  | 10 => .st ⟨0, false, []⟩ (.st ⟨1, false, []⟩ (.st ⟨2, false, []⟩ (.st ⟨3, false, []⟩ (.st ⟨4, false, []⟩ (.st ⟨5, false, []⟩ (.st ⟨6, false, []⟩ (.st ⟨7, false, []⟩ (.st ⟨8, false, []⟩ (.st ⟨9, false, []⟩ (.st ⟨10, false, []⟩ (.st ⟨11, false, []⟩ (.st ⟨12, false, []⟩ (.st ⟨13, false, []⟩ (.st ⟨14, false, []⟩ (.st ⟨15, false, []⟩ (.st ⟨16, false, []⟩ (.st ⟨17, false, []⟩ (.st ⟨18, false, []⟩ (.st ⟨19, false, []⟩ (.st ⟨20, false, []⟩ (.st ⟨21, false, []⟩ (.st ⟨22, false, []⟩ (.st ⟨23, true, [18, 19, 20]⟩ (.st ⟨24, false, []⟩ (.fin)))))))))))))))))))))))))
  | 12 => .st ⟨1, false, []⟩ (.st ⟨2, false, []⟩ (.st ⟨4, false, []⟩ (.st ⟨5, false, []⟩ (.st ⟨6, false, []⟩ (.st ⟨7, false, []⟩ (.st ⟨8, false, []⟩ (.st ⟨9, false, []⟩ (.st ⟨10, false, []⟩ (.br (.st ⟨0, true, [1, 2, 5, 6, 8, 9, 10]⟩ (.br (.st ⟨3, true, [5, 6, 8, 9, 10]⟩ (.st ⟨11, true, [1, 2]⟩ (.st ⟨12, true, []⟩ (.st ⟨13, false, []⟩ (.st ⟨14, true, []⟩ (.fin)))))) (.st ⟨11, true, [1, 2]⟩ (.st ⟨3, true, [5, 6, 8, 9, 10]⟩ (.st ⟨12, true, []⟩ (.st ⟨13, false, []⟩ (.st ⟨14, true, []⟩ (.fin)))))))) (.st ⟨11, true, [1, 2]⟩ (.st ⟨0, true, [1, 2, 5, 6, 8, 9, 10]⟩ (.st ⟨3, true, [5, 6, 8, 9, 10]⟩ (.st ⟨12, true, []⟩ (.st ⟨13, false, []⟩ (.st ⟨14, true, []⟩ (.fin))))))))))))))))
  | 14 => .st ⟨1, false, []⟩ (.st ⟨2, false, []⟩ (.st ⟨4, false, []⟩ (.st ⟨5, false, []⟩ (.st ⟨6, false, []⟩ (.st ⟨7, false, []⟩ (.st ⟨8, false, []⟩ (.st ⟨9, false, []⟩ (.st ⟨10, false, []⟩ (.br (.st ⟨0, true, [1, 2, 5, 6, 8, 9, 10]⟩ (.br (.st ⟨3, true, [5, 6, 8, 9, 10]⟩ (.st ⟨11, true, [1, 2]⟩ (.st ⟨12, true, []⟩ (.st ⟨13, false, []⟩ (.st ⟨14, true, []⟩ (.fin)))))) (.st ⟨11, true, [1, 2]⟩ (.st ⟨3, true, [5, 6, 8, 9, 10]⟩ (.st ⟨12, true, []⟩ (.st ⟨13, false, []⟩ (.st ⟨14, true, []⟩ (.fin)))))))) (.st ⟨11, true, [1, 2]⟩ (.st ⟨0, true, [1, 2, 5, 6, 8, 9, 10]⟩ (.st ⟨3, true, [5, 6, 8, 9, 10]⟩ (.st ⟨12, true, []⟩ (.st ⟨13, false, []⟩ (.st ⟨14, true, []⟩ (.fin))))))))))))))))
  | 16 => .st ⟨1, false, []⟩ (.st ⟨2, false, []⟩ (.st ⟨4, false, []⟩ (.st ⟨5, false, []⟩ (.st ⟨6, false, []⟩ (.br (.st ⟨0, true, [1, 2, 5, 6]⟩ (.br (.st ⟨3, true, [5, 6]⟩ (.st ⟨7, true, [1, 2]⟩ (.st ⟨8, true, []⟩ (.st ⟨9, false, []⟩ (.st ⟨10, true, []⟩ (.fin)))))) (.st ⟨7, true, [1, 2]⟩ (.st ⟨3, true, [5, 6]⟩ (.st ⟨8, true, []⟩ (.st ⟨9, false, []⟩ (.st ⟨10, true, []⟩ (.fin)))))))) (.st ⟨7, true, [1, 2]⟩ (.st ⟨0, true, [1, 2, 5, 6]⟩ (.st ⟨3, true, [5, 6]⟩ (.st ⟨8, true, []⟩ (.st ⟨9, false, []⟩ (.st ⟨10, true, []⟩ (.fin))))))))))))
  | _ => .fin
theorem fn60 : FnOK Tryz.prog 60 Tryz.f60 cd60 pl60 := ⟨Tryz.func60, rfl, by kernel_rfl, by kernel_rfl⟩
instance isf60 : IsFn Tryz.prog 60 := ⟨by kernel_rfl⟩
end Go.Proofs.YtgkhjgpgdfbdpaaGreatDoor
