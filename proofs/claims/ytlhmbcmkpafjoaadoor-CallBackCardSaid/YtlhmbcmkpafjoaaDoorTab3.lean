/- Tables, printed by a program: each function with its plans; closed facts on types. -/
import Derived.Test.YtlhmbcmkpafjoaaDoorProg
import Derived.Test.YtlhmbcmkpafjoaaDoorWkF
import Derived.KernelRfl
namespace Go.Proofs.YtlhmbcmkpafjoaaDoor
open Go Go.Wk
-- anchorhold/anchorholdlaw22.CallKinds
noncomputable def cd6 : Code := match Tryd.f6.body with
  | some c => c
  | none => .skip
noncomputable def pl6 : Nat → Plan := fun _ => .fin
theorem fn6 : FnOK Tryd.prog 6 Tryd.f6 cd6 pl6 := ⟨Tryd.func6, rfl, by kernel_rfl, by kernel_rfl⟩
instance isf6 : IsFn Tryd.prog 6 := ⟨by kernel_rfl⟩
-- anchorhold/anchorholdref22.Read
noncomputable def cd9 : Code := match Tryd.f9.body with
  | some c => c
  | none => .skip
noncomputable def pl9 : Nat → Plan
  | 25 => .st ⟨0, false, []⟩ (.st ⟨1, false, []⟩ (.st ⟨2, false, []⟩ (.st ⟨3, false, []⟩ (.st ⟨4, false, []⟩ (.st ⟨5, false, []⟩ (.st ⟨6, false, []⟩ (.st ⟨7, false, []⟩ (.st ⟨8, false, []⟩ (.st ⟨9, false, []⟩ (.st ⟨10, false, []⟩ (.st ⟨11, false, []⟩ (.st ⟨12, false, []⟩ (.st ⟨13, false, []⟩ (.st ⟨14, false, []⟩ (.st ⟨15, true, []⟩ (.st ⟨16, false, []⟩ (.fin)))))))))))))))))
  | _ => .fin
theorem fn9 : FnOK Tryd.prog 9 Tryd.f9 cd9 pl9 := ⟨Tryd.func9, rfl, by kernel_rfl, by kernel_rfl⟩
instance isf9 : IsFn Tryd.prog 9 := ⟨by kernel_rfl⟩
-- anchorhold/call.Is
noncomputable def cd13 : Code := match Tryd.f13.body with
  | some c => c
  | none => .skip
noncomputable def pl13 : Nat → Plan := fun _ => .fin
theorem fn13 : FnOK Tryd.prog 13 Tryd.f13 cd13 pl13 := ⟨Tryd.func13, rfl, by kernel_rfl, by kernel_rfl⟩
instance isf13 : IsFn Tryd.prog 13 := ⟨by kernel_rfl⟩
-- anchorhold/anchorholdref22.Name
noncomputable def cd16 : Code := match Tryd.f16.body with
  | some c => c
  | none => .skip
noncomputable def pl16 : Nat → Plan := fun _ => .fin
theorem fn16 : FnOK Tryd.prog 16 Tryd.f16 cd16 pl16 := ⟨Tryd.func16, rfl, by kernel_rfl, by kernel_rfl⟩
instance isf16 : IsFn Tryd.prog 16 := ⟨by kernel_rfl⟩
-- anchorhold/call.Number
noncomputable def cd20 : Code := match Tryd.f20.body with
  | some c => c
  | none => .skip
noncomputable def pl20 : Nat → Plan := fun _ => .fin
theorem fn20 : FnOK Tryd.prog 20 Tryd.f20 cd20 pl20 := ⟨Tryd.func20, rfl, by kernel_rfl, by kernel_rfl⟩
instance isf20 : IsFn Tryd.prog 20 := ⟨by kernel_rfl⟩
-- anchorhold/call.args
noncomputable def cd25 : Code := match Tryd.f25.body with
  | some c => c
  | none => .skip
noncomputable def pl25 : Nat → Plan
  | 1 => .st ⟨0, false, []⟩ (.st ⟨1, false, []⟩ (.st ⟨2, false, []⟩ (.st ⟨3, false, []⟩ (.st ⟨4, false, []⟩ (.st ⟨5, false, []⟩ (.st ⟨6, false, []⟩ (.st ⟨7, false, []⟩ (.st ⟨8, false, []⟩ (.st ⟨9, false, []⟩ (.st ⟨10, false, []⟩ (.st ⟨11, false, []⟩ (.st ⟨12, false, []⟩ (.st ⟨13, true, []⟩ (.fin))))))))))))))
  | _ => .fin
theorem fn25 : FnOK Tryd.prog 25 Tryd.f25 cd25 pl25 := ⟨Tryd.func25, rfl, by kernel_rfl, by kernel_rfl⟩
instance isf25 : IsFn Tryd.prog 25 := ⟨by kernel_rfl⟩
-- anchorhold/call.kinds
noncomputable def cd33 : Code := match Tryd.f33.body with
  | some c => c
  | none => .skip
noncomputable def pl33 : Nat → Plan := fun _ => .fin
theorem fn33 : FnOK Tryd.prog 33 Tryd.f33 cd33 pl33 := ⟨Tryd.func33, rfl, by kernel_rfl, by kernel_rfl⟩
instance isf33 : IsFn Tryd.prog 33 := ⟨by kernel_rfl⟩
-- strings.genSplit
instance isf36 : IsFn Tryd.prog 36 := ⟨by kernel_rfl⟩
-- (*anchorhold/call.words).next
noncomputable def cd38 : Code := match Tryd.f38.body with
  | some c => c
  | none => .skip
noncomputable def pl38 : Nat → Plan := fun _ => .fin
theorem fn38 : FnOK Tryd.prog 38 Tryd.f38 cd38 pl38 := ⟨Tryd.func38, rfl, by kernel_rfl, by kernel_rfl⟩
instance isf38 : IsFn Tryd.prog 38 := ⟨by kernel_rfl⟩
-- strings.explode
instance isf44 : IsFn Tryd.prog 44 := ⟨by kernel_rfl⟩
-- strings.Index
instance isf46 : IsFn Tryd.prog 46 := ⟨by kernel_rfl⟩
-- (*strings.Builder).copyCheck
instance isf48 : IsFn Tryd.prog 48 := ⟨by kernel_rfl⟩
-- unicode/utf8.RuneCountInString
instance isf50 : IsFn Tryd.prog 50 := ⟨by kernel_rfl⟩
end Go.Proofs.YtlhmbcmkpafjoaaDoor
