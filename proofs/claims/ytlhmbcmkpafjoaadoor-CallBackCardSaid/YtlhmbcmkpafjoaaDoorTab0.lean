/- Tables, printed by a program: each function with its plans; closed facts on types. -/
import Derived.Test.YtlhmbcmkpafjoaaDoorProg
import Derived.Test.YtlhmbcmkpafjoaaDoorWkF
import Derived.KernelRfl
namespace Go.Proofs.YtlhmbcmkpafjoaaDoor
open Go Go.Wk
-- anchorhold/anchorholdlaw22.CallTexts
noncomputable def cd3 : Code := match Tryd.f3.body with
  | some c => c
  | none => .skip
noncomputable def pl3 : Nat → Plan
  | 5 => .st ⟨0, false, []⟩ (.st ⟨2, false, []⟩ (.st ⟨1, true, [2]⟩ (.st ⟨3, true, []⟩ (.st ⟨4, false, []⟩ (.st ⟨5, false, []⟩ (.st ⟨6, false, []⟩ (.st ⟨7, false, []⟩ (.st ⟨8, false, []⟩ (.st ⟨9, false, []⟩ (.st ⟨10, false, []⟩ (.st ⟨11, false, []⟩ (.st ⟨12, false, []⟩ (.st ⟨13, false, []⟩ (.st ⟨14, false, []⟩ (.st ⟨15, false, []⟩ (.st ⟨16, true, []⟩ (.st ⟨17, false, []⟩ (.st ⟨18, false, []⟩ (.fin)))))))))))))))))))
  | _ => .fin
theorem fn3 : FnOK Tryd.prog 3 Tryd.f3 cd3 pl3 := ⟨Tryd.func3, rfl, by kernel_rfl, by kernel_rfl⟩
instance isf3 : IsFn Tryd.prog 3 := ⟨by kernel_rfl⟩
-- anchorhold/anchorholdref22.Args
noncomputable def cd12 : Code := match Tryd.f12.body with
  | some c => c
  | none => .skip
noncomputable def pl12 : Nat → Plan := fun _ => .fin
theorem fn12 : FnOK Tryd.prog 12 Tryd.f12 cd12 pl12 := ⟨Tryd.func12, rfl, by kernel_rfl, by kernel_rfl⟩
instance isf12 : IsFn Tryd.prog 12 := ⟨by kernel_rfl⟩
-- anchorhold/anchorholdref22.Is
noncomputable def cd14 : Code := match Tryd.f14.body with
  | some c => c
  | none => .skip
noncomputable def pl14 : Nat → Plan := fun _ => .fin
theorem fn14 : FnOK Tryd.prog 14 Tryd.f14 cd14 pl14 := ⟨Tryd.func14, rfl, by kernel_rfl, by kernel_rfl⟩
instance isf14 : IsFn Tryd.prog 14 := ⟨by kernel_rfl⟩
-- anchorhold/call.Timed
noncomputable def cd18 : Code := match Tryd.f18.body with
  | some c => c
  | none => .skip
noncomputable def pl18 : Nat → Plan := fun _ => .fin
theorem fn18 : FnOK Tryd.prog 18 Tryd.f18 cd18 pl18 := ⟨Tryd.func18, rfl, by kernel_rfl, by kernel_rfl⟩
instance isf18 : IsFn Tryd.prog 18 := ⟨by kernel_rfl⟩
-- strings.Split
instance isf22 : IsFn Tryd.prog 22 := ⟨by kernel_rfl⟩
-- (*anchorhold/call.words).number
noncomputable def cd23 : Code := match Tryd.f23.body with
  | some c => c
  | none => .skip
noncomputable def pl23 : Nat → Plan := fun _ => .fin
theorem fn23 : FnOK Tryd.prog 23 Tryd.f23 cd23 pl23 := ⟨Tryd.func23, rfl, by kernel_rfl, by kernel_rfl⟩
instance isf23 : IsFn Tryd.prog 23 := ⟨by kernel_rfl⟩
-- anchorhold/anchorholdref22.Number10
noncomputable def cd27 : Code := match Tryd.f27.body with
  | some c => c
  | none => .skip
noncomputable def pl27 : Nat → Plan := fun _ => .fin
theorem fn27 : FnOK Tryd.prog 27 Tryd.f27 cd27 pl27 := ⟨Tryd.func27, rfl, by kernel_rfl, by kernel_rfl⟩
instance isf27 : IsFn Tryd.prog 27 := ⟨by kernel_rfl⟩
-- anchorhold/call.of
noncomputable def cd31 : Code := match Tryd.f31.body with
  | some c => c
  | none => .skip
noncomputable def pl31 : Nat → Plan := fun _ => .fin
theorem fn31 : FnOK Tryd.prog 31 Tryd.f31 cd31 pl31 := ⟨Tryd.func31, rfl, by kernel_rfl, by kernel_rfl⟩
instance isf31 : IsFn Tryd.prog 31 := ⟨by kernel_rfl⟩
-- anchorhold/call.Number$1
noncomputable def cd35 : Code := match Tryd.f35.body with
  | some c => c
  | none => .skip
noncomputable def pl35 : Nat → Plan := fun _ => .fin
theorem fn35 : FnOK Tryd.prog 35 Tryd.f35 cd35 pl35 := ⟨Tryd.func35, rfl, by kernel_rfl, by kernel_rfl⟩
instance isf35 : IsFn Tryd.prog 35 := ⟨by kernel_rfl⟩
-- anchorhold/call.digits
noncomputable def cd39 : Code := match Tryd.f39.body with
  | some c => c
  | none => .skip
noncomputable def pl39 : Nat → Plan
  | 3 => .st ⟨0, false, []⟩ (.st ⟨1, false, []⟩ (.st ⟨3, false, []⟩ (.st ⟨4, false, []⟩ (.st ⟨5, false, []⟩ (.st ⟨6, false, []⟩ (.st ⟨7, false, []⟩ (.st ⟨8, false, []⟩ (.st ⟨2, true, [4, 6, 7, 8]⟩ (.st ⟨9, false, []⟩ (.st ⟨10, false, []⟩ (.fin)))))))))))
  | _ => .fin
theorem fn39 : FnOK Tryd.prog 39 Tryd.f39 cd39 pl39 := ⟨Tryd.func39, rfl, by kernel_rfl, by kernel_rfl⟩
instance isf39 : IsFn Tryd.prog 39 := ⟨by kernel_rfl⟩
end Go.Proofs.YtlhmbcmkpafjoaaDoor
