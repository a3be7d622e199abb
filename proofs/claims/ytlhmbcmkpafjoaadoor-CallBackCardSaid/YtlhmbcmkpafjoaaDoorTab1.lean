/- Tables, printed by a program: each function with its plans; closed facts on types. -/
import Derived.Test.YtlhmbcmkpafjoaaDoorProg
import Derived.Test.YtlhmbcmkpafjoaaDoorWkF
import Derived.KernelRfl
namespace Go.Proofs.YtlhmbcmkpafjoaaDoor
open Go Go.Wk
-- anchorhold/anchorholdlaw22.CallBack
noncomputable def cd4 : Code := match Tryd.f4.body with
  | some c => c
  | none => .skip
noncomputable def pl4 : Nat → Plan := fun _ => .fin
theorem fn4 : FnOK Tryd.prog 4 Tryd.f4 cd4 pl4 := ⟨Tryd.func4, rfl, by kernel_rfl, by kernel_rfl⟩
instance isf4 : IsFn Tryd.prog 4 := ⟨by kernel_rfl⟩
-- anchorhold/anchorholdlaw22.works
noncomputable def cd7 : Code := match Tryd.f7.body with
  | some c => c
  | none => .skip
noncomputable def pl7 : Nat → Plan := fun _ => .fin
theorem fn7 : FnOK Tryd.prog 7 Tryd.f7 cd7 pl7 := ⟨Tryd.func7, rfl, by kernel_rfl, by kernel_rfl⟩
instance isf7 : IsFn Tryd.prog 7 := ⟨by kernel_rfl⟩
-- anchorhold/anchorholdref22.Print
noncomputable def cd11 : Code := match Tryd.f11.body with
  | some c => c
  | none => .skip
noncomputable def pl11 : Nat → Plan
  | 1 => .st ⟨0, false, []⟩ (.st ⟨1, false, []⟩ (.st ⟨4, false, []⟩ (.st ⟨5, false, []⟩ (.st ⟨2, true, [4, 5]⟩ (.st ⟨3, false, []⟩ (.st ⟨6, true, [3]⟩ (.st ⟨7, false, []⟩ (.st ⟨8, false, []⟩ (.fin)))))))))
  | 3 => .st ⟨0, false, []⟩ (.st ⟨1, false, []⟩ (.st ⟨4, false, []⟩ (.st ⟨5, false, []⟩ (.st ⟨2, true, [4, 5]⟩ (.st ⟨3, false, []⟩ (.st ⟨6, true, [3]⟩ (.st ⟨7, false, []⟩ (.st ⟨8, false, []⟩ (.fin)))))))))
  | _ => .fin
theorem fn11 : FnOK Tryd.prog 11 Tryd.f11 cd11 pl11 := ⟨Tryd.func11, rfl, by kernel_rfl, by kernel_rfl⟩
instance isf11 : IsFn Tryd.prog 11 := ⟨by kernel_rfl⟩
-- anchorhold/call.Args
noncomputable def cd17 : Code := match Tryd.f17.body with
  | some c => c
  | none => .skip
noncomputable def pl17 : Nat → Plan := fun _ => .fin
theorem fn17 : FnOK Tryd.prog 17 Tryd.f17 cd17 pl17 := ⟨Tryd.func17, rfl, by kernel_rfl, by kernel_rfl⟩
instance isf17 : IsFn Tryd.prog 17 := ⟨by kernel_rfl⟩
-- anchorhold/anchorholdref22.Number
noncomputable def cd21 : Code := match Tryd.f21.body with
  | some c => c
  | none => .skip
noncomputable def pl21 : Nat → Plan := fun _ => .fin
theorem fn21 : FnOK Tryd.prog 21 Tryd.f21 cd21 pl21 := ⟨Tryd.func21, rfl, by kernel_rfl, by kernel_rfl⟩
instance isf21 : IsFn Tryd.prog 21 := ⟨by kernel_rfl⟩
-- anchorhold/anchorholdref22.Words
noncomputable def cd26 : Code := match Tryd.f26.body with
  | some c => c
  | none => .skip
noncomputable def pl26 : Nat → Plan := fun _ => .fin
theorem fn26 : FnOK Tryd.prog 26 Tryd.f26 cd26 pl26 := ⟨Tryd.func26, rfl, by kernel_rfl, by kernel_rfl⟩
instance isf26 : IsFn Tryd.prog 26 := ⟨by kernel_rfl⟩
-- strings.Join
instance isf29 : IsFn Tryd.prog 29 := ⟨by kernel_rfl⟩
-- anchorhold/anchorholdref22.Decimal
noncomputable def cd30 : Code := match Tryd.f30.body with
  | some c => c
  | none => .skip
noncomputable def pl30 : Nat → Plan := fun _ => .fin
theorem fn30 : FnOK Tryd.prog 30 Tryd.f30 cd30 pl30 := ⟨Tryd.func30, rfl, by kernel_rfl, by kernel_rfl⟩
instance isf30 : IsFn Tryd.prog 30 := ⟨by kernel_rfl⟩
-- slices.IndexFunc[[]anchorhold/call.kind,anchorhold/call.kind]
noncomputable def cd34 : Code := match Tryd.f34.body with
  | some c => c
  | none => .skip
noncomputable def pl34 : Nat → Plan := fun _ => .fin
theorem fn34 : FnOK Tryd.prog 34 Tryd.f34 cd34 pl34 := ⟨Tryd.func34, rfl, by kernel_rfl, by kernel_rfl⟩
instance isf34 : IsFn Tryd.prog 34 := ⟨by kernel_rfl⟩
-- (*strings.Builder).Grow
instance isf40 : IsFn Tryd.prog 40 := ⟨by kernel_rfl⟩
-- (*strings.Builder).WriteString
instance isf41 : IsFn Tryd.prog 41 := ⟨by kernel_rfl⟩
-- slices.Index[[]int,int]
noncomputable def cd43 : Code := match Tryd.f43.body with
  | some c => c
  | none => .skip
noncomputable def pl43 : Nat → Plan := fun _ => .fin
theorem fn43 : FnOK Tryd.prog 43 Tryd.f43 cd43 pl43 := ⟨Tryd.func43, rfl, by kernel_rfl, by kernel_rfl⟩
instance isf43 : IsFn Tryd.prog 43 := ⟨by kernel_rfl⟩
-- unicode/utf8.decodeRuneInStringSlow
instance isf57 : IsFn Tryd.prog 57 := ⟨by kernel_rfl⟩
end Go.Proofs.YtlhmbcmkpafjoaaDoor
