/- Tables, printed by a program: each function with its plans; closed facts on types. -/
import Derived.Test.YtlhmbcmkpafjoaaDoorProg
import Derived.Test.YtlhmbcmkpafjoaaDoorWkF
import Derived.KernelRfl
namespace Go.Proofs.YtlhmbcmkpafjoaaDoor
open Go Go.Wk
-- anchorhold/anchorholdlaw22.CallOnce
noncomputable def cd5 : Code := match Tryd.f5.body with
  | some c => c
  | none => .skip
noncomputable def pl5 : Nat → Plan := fun _ => .fin
theorem fn5 : FnOK Tryd.prog 5 Tryd.f5 cd5 pl5 := ⟨Tryd.func5, rfl, by kernel_rfl, by kernel_rfl⟩
instance isf5 : IsFn Tryd.prog 5 := ⟨by kernel_rfl⟩
-- anchorhold/call.Read
noncomputable def cd8 : Code := match Tryd.f8.body with
  | some c => c
  | none => .skip
noncomputable def pl8 : Nat → Plan := fun _ => .fin
theorem fn8 : FnOK Tryd.prog 8 Tryd.f8 cd8 pl8 := ⟨Tryd.func8, rfl, by kernel_rfl, by kernel_rfl⟩
instance isf8 : IsFn Tryd.prog 8 := ⟨by kernel_rfl⟩
-- anchorhold/call.Print
noncomputable def cd10 : Code := match Tryd.f10.body with
  | some c => c
  | none => .skip
noncomputable def pl10 : Nat → Plan
  | 1 => .st ⟨0, false, []⟩ (.st ⟨1, false, []⟩ (.st ⟨3, false, []⟩ (.st ⟨4, false, []⟩ (.st ⟨2, true, [3, 4]⟩ (.st ⟨5, true, []⟩ (.st ⟨6, true, []⟩ (.st ⟨7, false, []⟩ (.fin))))))))
  | 3 => .st ⟨0, false, []⟩ (.st ⟨1, false, []⟩ (.st ⟨3, false, []⟩ (.st ⟨4, false, []⟩ (.st ⟨2, true, [3, 4]⟩ (.st ⟨5, true, []⟩ (.st ⟨6, true, []⟩ (.st ⟨7, false, []⟩ (.fin))))))))
  | _ => .fin
theorem fn10 : FnOK Tryd.prog 10 Tryd.f10 cd10 pl10 := ⟨Tryd.func10, rfl, by kernel_rfl, by kernel_rfl⟩
instance isf10 : IsFn Tryd.prog 10 := ⟨by kernel_rfl⟩
-- anchorhold/call.Name
noncomputable def cd15 : Code := match Tryd.f15.body with
  | some c => c
  | none => .skip
noncomputable def pl15 : Nat → Plan := fun _ => .fin
theorem fn15 : FnOK Tryd.prog 15 Tryd.f15 cd15 pl15 := ⟨Tryd.func15, rfl, by kernel_rfl, by kernel_rfl⟩
instance isf15 : IsFn Tryd.prog 15 := ⟨by kernel_rfl⟩
-- anchorhold/anchorholdref22.Timed
noncomputable def cd19 : Code := match Tryd.f19.body with
  | some c => c
  | none => .skip
noncomputable def pl19 : Nat → Plan := fun _ => .fin
theorem fn19 : FnOK Tryd.prog 19 Tryd.f19 cd19 pl19 := ⟨Tryd.func19, rfl, by kernel_rfl, by kernel_rfl⟩
instance isf19 : IsFn Tryd.prog 19 := ⟨by kernel_rfl⟩
-- (*anchorhold/call.words).call
noncomputable def cd24 : Code := match Tryd.f24.body with
  | some c => c
  | none => .skip
noncomputable def pl24 : Nat → Plan := fun _ => .fin
theorem fn24 : FnOK Tryd.prog 24 Tryd.f24 cd24 pl24 := ⟨Tryd.func24, rfl, by kernel_rfl, by kernel_rfl⟩
instance isf24 : IsFn Tryd.prog 24 := ⟨by kernel_rfl⟩
-- anchorhold/call.decimal
noncomputable def cd28 : Code := match Tryd.f28.body with
  | some c => c
  | none => .skip
noncomputable def pl28 : Nat → Plan := fun _ => .fin
theorem fn28 : FnOK Tryd.prog 28 Tryd.f28 cd28 pl28 := ⟨Tryd.func28, rfl, by kernel_rfl, by kernel_rfl⟩
instance isf28 : IsFn Tryd.prog 28 := ⟨by kernel_rfl⟩
-- slices.Contains[[]int,int]
noncomputable def cd32 : Code := match Tryd.f32.body with
  | some c => c
  | none => .skip
noncomputable def pl32 : Nat → Plan := fun _ => .fin
theorem fn32 : FnOK Tryd.prog 32 Tryd.f32 cd32 pl32 := ⟨Tryd.func32, rfl, by kernel_rfl, by kernel_rfl⟩
instance isf32 : IsFn Tryd.prog 32 := ⟨by kernel_rfl⟩
-- anchorhold/call.number
noncomputable def cd37 : Code := match Tryd.f37.body with
  | some c => c
  | none => .skip
noncomputable def pl37 : Nat → Plan := fun _ => .fin
theorem fn37 : FnOK Tryd.prog 37 Tryd.f37 cd37 pl37 := ⟨Tryd.func37, rfl, by kernel_rfl, by kernel_rfl⟩
instance isf37 : IsFn Tryd.prog 37 := ⟨by kernel_rfl⟩
-- (*strings.Builder).String
instance isf42 : IsFn Tryd.prog 42 := ⟨by kernel_rfl⟩
-- strings.Count
instance isf45 : IsFn Tryd.prog 45 := ⟨by kernel_rfl⟩
-- strings.TrimPrefix
instance isf47 : IsFn Tryd.prog 47 := ⟨by kernel_rfl⟩
-- (*strings.Builder).grow
instance isf49 : IsFn Tryd.prog 49 := ⟨by kernel_rfl⟩
-- unicode/utf8.DecodeRuneInString
instance isf51 : IsFn Tryd.prog 51 := ⟨by kernel_rfl⟩
end Go.Proofs.YtlhmbcmkpafjoaaDoor
