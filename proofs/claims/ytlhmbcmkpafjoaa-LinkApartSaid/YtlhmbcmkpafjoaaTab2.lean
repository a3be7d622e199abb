/- Tables, printed by a program: each function with its plans; closed facts on types. -/
import Derived.Test.YtlhmbcmkpafjoaaProg
import Derived.Test.YtlhmbcmkpafjoaaWkF
import Derived.KernelRfl
namespace Go.Proofs.Ytlhmbcmkpafjoaa
open Go Go.Wk
-- anchorhold/anchorholdlaw04.RingPlays
noncomputable def cd5 : Code := match Try.f5.body with
  | some c => c
  | none => .skip
noncomputable def pl5 : Nat → Plan
  | 11 => .st ⟨0, false, []⟩ (.st ⟨1, false, []⟩ (.st ⟨2, false, []⟩ (.st ⟨3, false, []⟩ (.st ⟨4, false, []⟩ (.st ⟨5, false, []⟩ (.st ⟨6, false, []⟩ (.st ⟨7, false, []⟩ (.st ⟨8, false, []⟩ (.st ⟨9, false, []⟩ (.st ⟨10, false, []⟩ (.st ⟨11, false, []⟩ (.st ⟨12, false, []⟩ (.st ⟨13, false, []⟩ (.st ⟨14, false, []⟩ (.st ⟨15, false, []⟩ (.st ⟨16, false, []⟩ (.st ⟨17, false, []⟩ (.st ⟨18, false, []⟩ (.st ⟨19, false, []⟩ (.st ⟨20, false, []⟩ (.st ⟨21, false, []⟩ (.st ⟨22, true, []⟩ (.st ⟨23, false, []⟩ (.st ⟨24, false, []⟩ (.st ⟨25, false, []⟩ (.st ⟨26, false, []⟩ (.st ⟨27, false, []⟩ (.st ⟨28, false, []⟩ (.st ⟨29, false, []⟩ (.st ⟨30, false, []⟩ (.st ⟨31, true, []⟩ (.st ⟨32, false, []⟩ (.st ⟨33, false, []⟩ (.st ⟨34, false, []⟩ (.st ⟨35, false, []⟩ (.st ⟨36, false, []⟩ (.st ⟨37, false, []⟩ (.st ⟨38, false, []⟩ (.st ⟨39, false, []⟩ (.st ⟨40, false, []⟩ (.st ⟨41, true, []⟩ (.st ⟨42, false, []⟩ (.st ⟨43, false, []⟩ (.fin))))))))))))))))))))))))))))))))))))))))))))
  | _ => .fin
theorem fn5 : FnOK Try.prog 5 Try.f5 cd5 pl5 := ⟨Try.func5, rfl, by kernel_rfl, by kernel_rfl⟩
instance isf5 : IsFn Try.prog 5 := ⟨by kernel_rfl⟩
-- (*anchorhold/ring.Ring[int]).Put
noncomputable def cd12 : Code := match Try.f12.body with
  | some c => c
  | none => .skip
noncomputable def pl12 : Nat → Plan := fun _ => .fin
theorem fn12 : FnOK Try.prog 12 Try.f12 cd12 pl12 := ⟨Try.func12, rfl, by kernel_rfl, by kernel_rfl⟩
instance isf12 : IsFn Try.prog 12 := ⟨by kernel_rfl⟩
-- anchorhold/anchorholdlaw04.works
noncomputable def cd15 : Code := match Try.f15.body with
  | some c => c
  | none => .skip
noncomputable def pl15 : Nat → Plan := fun _ => .fin
theorem fn15 : FnOK Try.prog 15 Try.f15 cd15 pl15 := ⟨Try.func15, rfl, by kernel_rfl, by kernel_rfl⟩
instance isf15 : IsFn Try.prog 15 := ⟨by kernel_rfl⟩
-- anchorhold/anchorholdlaw04.done
noncomputable def cd18 : Code := match Try.f18.body with
  | some c => c
  | none => .skip
noncomputable def pl18 : Nat → Plan
  | 3 => .st ⟨0, false, []⟩ (.st ⟨1, false, []⟩ (.st ⟨2, false, []⟩ (.st ⟨4, false, []⟩ (.st ⟨5, false, []⟩ (.st ⟨6, false, []⟩ (.st ⟨3, true, [5, 6]⟩ (.st ⟨7, true, []⟩ (.st ⟨8, false, []⟩ (.st ⟨9, false, []⟩ (.fin))))))))))
  | _ => .fin
theorem fn18 : FnOK Try.prog 18 Try.f18 cd18 pl18 := ⟨Try.func18, rfl, by kernel_rfl, by kernel_rfl⟩
instance isf18 : IsFn Try.prog 18 := ⟨by kernel_rfl⟩
-- anchorhold/ring.Move[int]
noncomputable def cd21 : Code := match Try.f21.body with
  | some c => c
  | none => .skip
noncomputable def pl21 : Nat → Plan := fun _ => .fin
theorem fn21 : FnOK Try.prog 21 Try.f21 cd21 pl21 := ⟨Try.func21, rfl, by kernel_rfl, by kernel_rfl⟩
instance isf21 : IsFn Try.prog 21 := ⟨by kernel_rfl⟩
-- anchorhold/anchorholdlaw19.works
noncomputable def cd24 : Code := match Try.f24.body with
  | some c => c
  | none => .skip
noncomputable def pl24 : Nat → Plan
  | 2 => .st ⟨0, false, []⟩ (.st ⟨1, false, []⟩ (.st ⟨2, false, []⟩ (.st ⟨3, false, []⟩ (.st ⟨4, false, []⟩ (.st ⟨6, false, []⟩ (.st ⟨7, false, []⟩ (.st ⟨8, false, []⟩ (.st ⟨9, false, []⟩ (.st ⟨10, false, []⟩ (.st ⟨5, true, [6, 7, 8, 9, 10]⟩ (.st ⟨11, true, []⟩ (.st ⟨12, true, []⟩ (.st ⟨13, false, []⟩ (.fin))))))))))))))
  | _ => .fin
theorem fn24 : FnOK Try.prog 24 Try.f24 cd24 pl24 := ⟨Try.func24, rfl, by kernel_rfl, by kernel_rfl⟩
instance isf24 : IsFn Try.prog 24 := ⟨by kernel_rfl⟩
-- anchorhold/anchorholdref19.Outs
noncomputable def cd30 : Code := match Try.f30.body with
  | some c => c
  | none => .skip
noncomputable def pl30 : Nat → Plan := fun _ => .fin
theorem fn30 : FnOK Try.prog 30 Try.f30 cd30 pl30 := ⟨Try.func30, rfl, by kernel_rfl, by kernel_rfl⟩
instance isf30 : IsFn Try.prog 30 := ⟨by kernel_rfl⟩
-- anchorhold/port.New
noncomputable def cd32 : Code := match Try.f32.body with
  | some c => c
  | none => .skip
noncomputable def pl32 : Nat → Plan := fun _ => .fin
theorem fn32 : FnOK Try.prog 32 Try.f32 cd32 pl32 := ⟨Try.func32, rfl, by kernel_rfl, by kernel_rfl⟩
instance isf32 : IsFn Try.prog 32 := ⟨by kernel_rfl⟩
-- anchorhold/link.Ins
noncomputable def cd35 : Code := match Try.f35.body with
  | some c => c
  | none => .skip
noncomputable def pl35 : Nat → Plan := fun _ => .fin
theorem fn35 : FnOK Try.prog 35 Try.f35 cd35 pl35 := ⟨Try.func35, rfl, by kernel_rfl, by kernel_rfl⟩
instance isf35 : IsFn Try.prog 35 := ⟨by kernel_rfl⟩
-- anchorhold/anchorholdref19.Ins
noncomputable def cd36 : Code := match Try.f36.body with
  | some c => c
  | none => .skip
noncomputable def pl36 : Nat → Plan := fun _ => .fin
theorem fn36 : FnOK Try.prog 36 Try.f36 cd36 pl36 := ⟨Try.func36, rfl, by kernel_rfl, by kernel_rfl⟩
instance isf36 : IsFn Try.prog 36 := ⟨by kernel_rfl⟩
-- anchorhold/anchorholdlaw19.like
noncomputable def cd37 : Code := match Try.f37.body with
  | some c => c
  | none => .skip
noncomputable def pl37 : Nat → Plan
  | 7 => .st ⟨0, false, []⟩ (.st ⟨1, false, []⟩ (.st ⟨2, false, []⟩ (.st ⟨3, false, []⟩ (.st ⟨4, false, []⟩ (.st ⟨6, false, []⟩ (.st ⟨7, false, []⟩ (.st ⟨8, false, []⟩ (.st ⟨9, false, []⟩ (.st ⟨10, false, []⟩ (.st ⟨11, false, []⟩ (.st ⟨12, false, []⟩ (.st ⟨13, false, []⟩ (.st ⟨14, false, []⟩ (.st ⟨15, false, []⟩ (.st ⟨16, false, []⟩ (.st ⟨5, true, [8, 9, 10, 11, 12, 14, 15, 16]⟩ (.st ⟨17, false, []⟩ (.st ⟨18, false, []⟩ (.st ⟨19, false, []⟩ (.st ⟨20, false, []⟩ (.st ⟨21, false, []⟩ (.st ⟨22, false, []⟩ (.st ⟨23, false, []⟩ (.st ⟨25, false, []⟩ (.st ⟨26, false, []⟩ (.st ⟨27, false, []⟩ (.st ⟨28, false, []⟩ (.st ⟨29, false, []⟩ (.st ⟨30, false, []⟩ (.st ⟨31, false, []⟩ (.st ⟨32, false, []⟩ (.st ⟨33, false, []⟩ (.st ⟨34, false, []⟩ (.st ⟨24, true, [27, 28, 29, 30, 31, 33, 34]⟩ (.st ⟨35, false, []⟩ (.st ⟨36, false, []⟩ (.fin)))))))))))))))))))))))))))))))))))))
  | _ => .fin
theorem fn37 : FnOK Try.prog 37 Try.f37 cd37 pl37 := ⟨Try.func37, rfl, by kernel_rfl, by kernel_rfl⟩
instance isf37 : IsFn Try.prog 37 := ⟨by kernel_rfl⟩
-- anchorhold/anchorholdref18.New
noncomputable def cd44 : Code := match Try.f44.body with
  | some c => c
  | none => .skip
noncomputable def pl44 : Nat → Plan
  | 4 => .st ⟨1, false, []⟩ (.st ⟨2, false, []⟩ (.st ⟨3, false, []⟩ (.st ⟨5, false, []⟩ (.st ⟨7, false, []⟩ (.st ⟨9, false, []⟩ (.br (.st ⟨0, true, [3]⟩ (.br (.st ⟨4, true, []⟩ (.br (.st ⟨6, true, [3]⟩ (.br (.st ⟨8, true, [3]⟩ (.st ⟨10, true, [3]⟩ (.st ⟨11, false, []⟩ (.st ⟨12, true, []⟩ (.st ⟨13, false, []⟩ (.fin)))))) (.st ⟨10, true, [3]⟩ (.st ⟨8, true, [3]⟩ (.st ⟨11, false, []⟩ (.st ⟨12, true, []⟩ (.st ⟨13, false, []⟩ (.fin)))))))) (.br (.st ⟨8, true, [3]⟩ (.br (.st ⟨6, true, [3]⟩ (.st ⟨10, true, [3]⟩ (.st ⟨11, false, []⟩ (.st ⟨12, true, []⟩ (.st ⟨13, false, []⟩ (.fin)))))) (.st ⟨10, true, [3]⟩ (.st ⟨6, true, [3]⟩ (.st ⟨11, false, []⟩ (.st ⟨12, true, []⟩ (.st ⟨13, false, []⟩ (.fin)))))))) (.st ⟨10, true, [3]⟩ (.br (.st ⟨6, true, [3]⟩ (.st ⟨8, true, [3]⟩ (.st ⟨11, false, []⟩ (.st ⟨12, true, []⟩ (.st ⟨13, false, []⟩ (.fin)))))) (.st ⟨8, true, [3]⟩ (.st ⟨6, true, [3]⟩ (.st ⟨11, false, []⟩ (.st ⟨12, true, []⟩ (.st ⟨13, false, []⟩ (.fin))))))))))) (.br (.st ⟨6, true, [3]⟩ (.br (.st ⟨4, true, []⟩ (.br (.st ⟨8, true, [3]⟩ (.st ⟨10, true, [3]⟩ (.st ⟨11, false, []⟩ (.st ⟨12, true, []⟩ (.st ⟨13, false, []⟩ (.fin)))))) (.st ⟨10, true, [3]⟩ (.st ⟨8, true, [3]⟩ (.st ⟨11, false, []⟩ (.st ⟨12, true, []⟩ (.st ⟨13, false, []⟩ (.fin)))))))) (.br (.st ⟨8, true, [3]⟩ (.br (.st ⟨4, true, []⟩ (.st ⟨10, true, [3]⟩ (.st ⟨11, false, []⟩ (.st ⟨12, true, []⟩ (.st ⟨13, false, []⟩ (.fin)))))) (.st ⟨10, true, [3]⟩ (.st ⟨4, true, []⟩ (.st ⟨11, false, []⟩ (.st ⟨12, true, []⟩ (.st ⟨13, false, []⟩ (.fin)))))))) (.st ⟨10, true, [3]⟩ (.br (.st ⟨4, true, []⟩ (.st ⟨8, true, [3]⟩ (.st ⟨11, false, []⟩ (.st ⟨12, true, []⟩ (.st ⟨13, false, []⟩ (.fin)))))) (.st ⟨8, true, [3]⟩ (.st ⟨4, true, []⟩ (.st ⟨11, false, []⟩ (.st ⟨12, true, []⟩ (.st ⟨13, false, []⟩ (.fin))))))))))) (.br (.st ⟨8, true, [3]⟩ (.br (.st ⟨4, true, []⟩ (.br (.st ⟨6, true, [3]⟩ (.st ⟨10, true, [3]⟩ (.st ⟨11, false, []⟩ (.st ⟨12, true, []⟩ (.st ⟨13, false, []⟩ (.fin)))))) (.st ⟨10, true, [3]⟩ (.st ⟨6, true, [3]⟩ (.st ⟨11, false, []⟩ (.st ⟨12, true, []⟩ (.st ⟨13, false, []⟩ (.fin)))))))) (.br (.st ⟨6, true, [3]⟩ (.br (.st ⟨4, true, []⟩ (.st ⟨10, true, [3]⟩ (.st ⟨11, false, []⟩ (.st ⟨12, true, []⟩ (.st ⟨13, false, []⟩ (.fin)))))) (.st ⟨10, true, [3]⟩ (.st ⟨4, true, []⟩ (.st ⟨11, false, []⟩ (.st ⟨12, true, []⟩ (.st ⟨13, false, []⟩ (.fin)))))))) (.st ⟨10, true, [3]⟩ (.br (.st ⟨4, true, []⟩ (.st ⟨6, true, [3]⟩ (.st ⟨11, false, []⟩ (.st ⟨12, true, []⟩ (.st ⟨13, false, []⟩ (.fin)))))) (.st ⟨6, true, [3]⟩ (.st ⟨4, true, []⟩ (.st ⟨11, false, []⟩ (.st ⟨12, true, []⟩ (.st ⟨13, false, []⟩ (.fin))))))))))) (.st ⟨10, true, [3]⟩ (.br (.st ⟨4, true, []⟩ (.br (.st ⟨6, true, [3]⟩ (.st ⟨8, true, [3]⟩ (.st ⟨11, false, []⟩ (.st ⟨12, true, []⟩ (.st ⟨13, false, []⟩ (.fin)))))) (.st ⟨8, true, [3]⟩ (.st ⟨6, true, [3]⟩ (.st ⟨11, false, []⟩ (.st ⟨12, true, []⟩ (.st ⟨13, false, []⟩ (.fin)))))))) (.br (.st ⟨6, true, [3]⟩ (.br (.st ⟨4, true, []⟩ (.st ⟨8, true, [3]⟩ (.st ⟨11, false, []⟩ (.st ⟨12, true, []⟩ (.st ⟨13, false, []⟩ (.fin)))))) (.st ⟨8, true, [3]⟩ (.st ⟨4, true, []⟩ (.st ⟨11, false, []⟩ (.st ⟨12, true, []⟩ (.st ⟨13, false, []⟩ (.fin)))))))) (.st ⟨8, true, [3]⟩ (.br (.st ⟨4, true, []⟩ (.st ⟨6, true, [3]⟩ (.st ⟨11, false, []⟩ (.st ⟨12, true, []⟩ (.st ⟨13, false, []⟩ (.fin)))))) (.st ⟨6, true, [3]⟩ (.st ⟨4, true, []⟩ (.st ⟨11, false, []⟩ (.st ⟨12, true, []⟩ (.st ⟨13, false, []⟩ (.fin))))))))))))))) (.br (.st ⟨6, true, [3]⟩ (.br (.st ⟨0, true, [3]⟩ (.br (.st ⟨4, true, []⟩ (.br (.st ⟨8, true, [3]⟩ (.st ⟨10, true, [3]⟩ (.st ⟨11, false, []⟩ (.st ⟨12, true, []⟩ (.st ⟨13, false, []⟩ (.fin)))))) (.st ⟨10, true, [3]⟩ (.st ⟨8, true, [3]⟩ (.st ⟨11, false, []⟩ (.st ⟨12, true, []⟩ (.st ⟨13, false, []⟩ (.fin)))))))) (.br (.st ⟨8, true, [3]⟩ (.br (.st ⟨4, true, []⟩ (.st ⟨10, true, [3]⟩ (.st ⟨11, false, []⟩ (.st ⟨12, true, []⟩ (.st ⟨13, false, []⟩ (.fin)))))) (.st ⟨10, true, [3]⟩ (.st ⟨4, true, []⟩ (.st ⟨11, false, []⟩ (.st ⟨12, true, []⟩ (.st ⟨13, false, []⟩ (.fin)))))))) (.st ⟨10, true, [3]⟩ (.br (.st ⟨4, true, []⟩ (.st ⟨8, true, [3]⟩ (.st ⟨11, false, []⟩ (.st ⟨12, true, []⟩ (.st ⟨13, false, []⟩ (.fin)))))) (.st ⟨8, true, [3]⟩ (.st ⟨4, true, []⟩ (.st ⟨11, false, []⟩ (.st ⟨12, true, []⟩ (.st ⟨13, false, []⟩ (.fin))))))))))) (.br (.st ⟨8, true, [3]⟩ (.br (.st ⟨0, true, [3]⟩ (.br (.st ⟨4, true, []⟩ (.st ⟨10, true, [3]⟩ (.st ⟨11, false, []⟩ (.st ⟨12, true, []⟩ (.st ⟨13, false, []⟩ (.fin)))))) (.st ⟨10, true, [3]⟩ (.st ⟨4, true, []⟩ (.st ⟨11, false, []⟩ (.st ⟨12, true, []⟩ (.st ⟨13, false, []⟩ (.fin)))))))) (.st ⟨10, true, [3]⟩ (.st ⟨0, true, [3]⟩ (.st ⟨4, true, []⟩ (.st ⟨11, false, []⟩ (.st ⟨12, true, []⟩ (.st ⟨13, false, []⟩ (.fin))))))))) (.st ⟨10, true, [3]⟩ (.br (.st ⟨0, true, [3]⟩ (.br (.st ⟨4, true, []⟩ (.st ⟨8, true, [3]⟩ (.st ⟨11, false, []⟩ (.st ⟨12, true, []⟩ (.st ⟨13, false, []⟩ (.fin)))))) (.st ⟨8, true, [3]⟩ (.st ⟨4, true, []⟩ (.st ⟨11, false, []⟩ (.st ⟨12, true, []⟩ (.st ⟨13, false, []⟩ (.fin)))))))) (.st ⟨8, true, [3]⟩ (.st ⟨0, true, [3]⟩ (.st ⟨4, true, []⟩ (.st ⟨11, false, []⟩ (.st ⟨12, true, []⟩ (.st ⟨13, false, []⟩ (.fin)))))))))))) (.br (.st ⟨8, true, [3]⟩ (.br (.st ⟨0, true, [3]⟩ (.br (.st ⟨4, true, []⟩ (.br (.st ⟨6, true, [3]⟩ (.st ⟨10, true, [3]⟩ (.st ⟨11, false, []⟩ (.st ⟨12, true, []⟩ (.st ⟨13, false, []⟩ (.fin)))))) (.st ⟨10, true, [3]⟩ (.st ⟨6, true, [3]⟩ (.st ⟨11, false, []⟩ (.st ⟨12, true, []⟩ (.st ⟨13, false, []⟩ (.fin)))))))) (.br (.st ⟨6, true, [3]⟩ (.br (.st ⟨4, true, []⟩ (.st ⟨10, true, [3]⟩ (.st ⟨11, false, []⟩ (.st ⟨12, true, []⟩ (.st ⟨13, false, []⟩ (.fin)))))) (.st ⟨10, true, [3]⟩ (.st ⟨4, true, []⟩ (.st ⟨11, false, []⟩ (.st ⟨12, true, []⟩ (.st ⟨13, false, []⟩ (.fin)))))))) (.st ⟨10, true, [3]⟩ (.br (.st ⟨4, true, []⟩ (.st ⟨6, true, [3]⟩ (.st ⟨11, false, []⟩ (.st ⟨12, true, []⟩ (.st ⟨13, false, []⟩ (.fin)))))) (.st ⟨6, true, [3]⟩ (.st ⟨4, true, []⟩ (.st ⟨11, false, []⟩ (.st ⟨12, true, []⟩ (.st ⟨13, false, []⟩ (.fin))))))))))) (.br (.st ⟨6, true, [3]⟩ (.br (.st ⟨0, true, [3]⟩ (.br (.st ⟨4, true, []⟩ (.st ⟨10, true, [3]⟩ (.st ⟨11, false, []⟩ (.st ⟨12, true, []⟩ (.st ⟨13, false, []⟩ (.fin)))))) (.st ⟨10, true, [3]⟩ (.st ⟨4, true, []⟩ (.st ⟨11, false, []⟩ (.st ⟨12, true, []⟩ (.st ⟨13, false, []⟩ (.fin)))))))) (.st ⟨10, true, [3]⟩ (.st ⟨0, true, [3]⟩ (.st ⟨4, true, []⟩ (.st ⟨11, false, []⟩ (.st ⟨12, true, []⟩ (.st ⟨13, false, []⟩ (.fin))))))))) (.st ⟨10, true, [3]⟩ (.br (.st ⟨0, true, [3]⟩ (.br (.st ⟨4, true, []⟩ (.st ⟨6, true, [3]⟩ (.st ⟨11, false, []⟩ (.st ⟨12, true, []⟩ (.st ⟨13, false, []⟩ (.fin)))))) (.st ⟨6, true, [3]⟩ (.st ⟨4, true, []⟩ (.st ⟨11, false, []⟩ (.st ⟨12, true, []⟩ (.st ⟨13, false, []⟩ (.fin)))))))) (.st ⟨6, true, [3]⟩ (.st ⟨0, true, [3]⟩ (.st ⟨4, true, []⟩ (.st ⟨11, false, []⟩ (.st ⟨12, true, []⟩ (.st ⟨13, false, []⟩ (.fin)))))))))))) (.st ⟨10, true, [3]⟩ (.br (.st ⟨0, true, [3]⟩ (.br (.st ⟨4, true, []⟩ (.br (.st ⟨6, true, [3]⟩ (.st ⟨8, true, [3]⟩ (.st ⟨11, false, []⟩ (.st ⟨12, true, []⟩ (.st ⟨13, false, []⟩ (.fin)))))) (.st ⟨8, true, [3]⟩ (.st ⟨6, true, [3]⟩ (.st ⟨11, false, []⟩ (.st ⟨12, true, []⟩ (.st ⟨13, false, []⟩ (.fin)))))))) (.br (.st ⟨6, true, [3]⟩ (.br (.st ⟨4, true, []⟩ (.st ⟨8, true, [3]⟩ (.st ⟨11, false, []⟩ (.st ⟨12, true, []⟩ (.st ⟨13, false, []⟩ (.fin)))))) (.st ⟨8, true, [3]⟩ (.st ⟨4, true, []⟩ (.st ⟨11, false, []⟩ (.st ⟨12, true, []⟩ (.st ⟨13, false, []⟩ (.fin)))))))) (.st ⟨8, true, [3]⟩ (.br (.st ⟨4, true, []⟩ (.st ⟨6, true, [3]⟩ (.st ⟨11, false, []⟩ (.st ⟨12, true, []⟩ (.st ⟨13, false, []⟩ (.fin)))))) (.st ⟨6, true, [3]⟩ (.st ⟨4, true, []⟩ (.st ⟨11, false, []⟩ (.st ⟨12, true, []⟩ (.st ⟨13, false, []⟩ (.fin))))))))))) (.br (.st ⟨6, true, [3]⟩ (.br (.st ⟨0, true, [3]⟩ (.br (.st ⟨4, true, []⟩ (.st ⟨8, true, [3]⟩ (.st ⟨11, false, []⟩ (.st ⟨12, true, []⟩ (.st ⟨13, false, []⟩ (.fin)))))) (.st ⟨8, true, [3]⟩ (.st ⟨4, true, []⟩ (.st ⟨11, false, []⟩ (.st ⟨12, true, []⟩ (.st ⟨13, false, []⟩ (.fin)))))))) (.st ⟨8, true, [3]⟩ (.st ⟨0, true, [3]⟩ (.st ⟨4, true, []⟩ (.st ⟨11, false, []⟩ (.st ⟨12, true, []⟩ (.st ⟨13, false, []⟩ (.fin))))))))) (.st ⟨8, true, [3]⟩ (.br (.st ⟨0, true, [3]⟩ (.br (.st ⟨4, true, []⟩ (.st ⟨6, true, [3]⟩ (.st ⟨11, false, []⟩ (.st ⟨12, true, []⟩ (.st ⟨13, false, []⟩ (.fin)))))) (.st ⟨6, true, [3]⟩ (.st ⟨4, true, []⟩ (.st ⟨11, false, []⟩ (.st ⟨12, true, []⟩ (.st ⟨13, false, []⟩ (.fin)))))))) (.st ⟨6, true, [3]⟩ (.st ⟨0, true, [3]⟩ (.st ⟨4, true, []⟩ (.st ⟨11, false, []⟩ (.st ⟨12, true, []⟩ (.st ⟨13, false, []⟩ (.fin))))))))))))))))))))
  | _ => .fin
theorem fn44 : FnOK Try.prog 44 Try.f44 cd44 pl44 := ⟨Try.func44, rfl, by kernel_rfl, by kernel_rfl⟩
instance isf44 : IsFn Try.prog 44 := ⟨by kernel_rfl⟩
end Go.Proofs.Ytlhmbcmkpafjoaa
