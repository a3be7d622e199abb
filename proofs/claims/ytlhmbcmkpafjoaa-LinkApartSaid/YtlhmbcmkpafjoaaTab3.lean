/- Tables, printed by a program: each function with its plans; closed facts on types. -/
import Derived.Test.YtlhmbcmkpafjoaaProg
import Derived.Test.YtlhmbcmkpafjoaaWkF
import Derived.KernelRfl
namespace Go.Proofs.Ytlhmbcmkpafjoaa
open Go Go.Wk
-- anchorhold/anchorholdlaw04.RingNone
noncomputable def cd6 : Code := match Try.f6.body with
  | some c => c
  | none => .skip
noncomputable def pl6 : Nat → Plan := fun _ => .fin
theorem fn6 : FnOK Try.prog 6 Try.f6 cd6 pl6 := ⟨Try.func6, rfl, by kernel_rfl, by kernel_rfl⟩
instance isf6 : IsFn Try.prog 6 := ⟨by kernel_rfl⟩
-- anchorhold/anchorholdlaw19.LinkOnce
noncomputable def cd7 : Code := match Try.f7.body with
  | some c => c
  | none => .skip
noncomputable def pl7 : Nat → Plan
  | 9 => .st ⟨0, false, []⟩ (.st ⟨1, false, []⟩ (.st ⟨2, false, []⟩ (.st ⟨3, false, []⟩ (.st ⟨4, false, []⟩ (.st ⟨5, false, []⟩ (.st ⟨6, false, []⟩ (.st ⟨7, true, []⟩ (.fin))))))))
  | 17 => .st ⟨0, false, []⟩ (.st ⟨1, false, []⟩ (.st ⟨2, false, []⟩ (.st ⟨3, false, []⟩ (.st ⟨4, false, []⟩ (.st ⟨5, false, []⟩ (.st ⟨6, false, []⟩ (.st ⟨7, false, []⟩ (.st ⟨8, false, []⟩ (.st ⟨9, false, []⟩ (.st ⟨10, false, []⟩ (.st ⟨11, false, []⟩ (.st ⟨12, false, []⟩ (.st ⟨13, false, []⟩ (.st ⟨14, false, []⟩ (.st ⟨15, false, []⟩ (.st ⟨16, false, []⟩ (.st ⟨17, false, []⟩ (.st ⟨18, false, []⟩ (.st ⟨19, false, []⟩ (.st ⟨20, false, []⟩ (.st ⟨21, false, []⟩ (.st ⟨22, false, []⟩ (.st ⟨23, false, []⟩ (.st ⟨24, false, []⟩ (.st ⟨25, false, []⟩ (.st ⟨26, false, []⟩ (.st ⟨27, false, []⟩ (.st ⟨28, false, []⟩ (.st ⟨29, false, []⟩ (.st ⟨30, false, []⟩ (.st ⟨31, false, []⟩ (.st ⟨32, false, []⟩ (.st ⟨33, false, []⟩ (.st ⟨34, false, []⟩ (.st ⟨35, false, []⟩ (.st ⟨36, false, []⟩ (.st ⟨37, false, []⟩ (.st ⟨38, false, []⟩ (.st ⟨39, false, []⟩ (.st ⟨40, false, []⟩ (.st ⟨41, false, []⟩ (.st ⟨42, false, []⟩ (.st ⟨43, false, []⟩ (.st ⟨44, false, []⟩ (.st ⟨45, false, []⟩ (.st ⟨46, false, []⟩ (.st ⟨47, false, []⟩ (.st ⟨48, false, []⟩ (.st ⟨49, false, []⟩ (.st ⟨50, false, []⟩ (.st ⟨51, false, []⟩ (.st ⟨52, false, []⟩ (.st ⟨53, false, []⟩ (.st ⟨54, false, []⟩ (.st ⟨55, false, []⟩ (.st ⟨56, false, []⟩ (.st ⟨57, false, []⟩ (.fin))))))))))))))))))))))))))))))))))))))))))))))))))))))))))
  | 25 => .st ⟨0, false, []⟩ (.st ⟨1, false, []⟩ (.st ⟨2, false, []⟩ (.st ⟨3, false, []⟩ (.st ⟨4, false, []⟩ (.st ⟨5, false, []⟩ (.st ⟨6, false, []⟩ (.st ⟨7, false, []⟩ (.st ⟨8, false, []⟩ (.st ⟨9, false, []⟩ (.st ⟨10, false, []⟩ (.st ⟨11, false, []⟩ (.st ⟨12, false, []⟩ (.st ⟨13, false, []⟩ (.st ⟨14, false, []⟩ (.st ⟨15, false, []⟩ (.st ⟨16, false, []⟩ (.st ⟨17, false, []⟩ (.st ⟨18, false, []⟩ (.st ⟨19, false, []⟩ (.st ⟨20, false, []⟩ (.st ⟨21, false, []⟩ (.st ⟨22, false, []⟩ (.st ⟨23, false, []⟩ (.st ⟨24, false, []⟩ (.st ⟨25, false, []⟩ (.st ⟨26, false, []⟩ (.st ⟨27, false, []⟩ (.st ⟨28, false, []⟩ (.st ⟨29, false, []⟩ (.st ⟨30, false, []⟩ (.st ⟨31, true, []⟩ (.st ⟨32, false, []⟩ (.st ⟨33, false, []⟩ (.fin))))))))))))))))))))))))))))))))))
  | _ => .fin
theorem fn7 : FnOK Try.prog 7 Try.f7 cd7 pl7 := ⟨Try.func7, rfl, by kernel_rfl, by kernel_rfl⟩
instance isf7 : IsFn Try.prog 7 := ⟨by kernel_rfl⟩
-- anchorhold/anchorholdlaw19.made
noncomputable def cd25 : Code := match Try.f25.body with
  | some c => c
  | none => .skip
noncomputable def pl25 : Nat → Plan := fun _ => .fin
theorem fn25 : FnOK Try.prog 25 Try.f25 cd25 pl25 := ⟨Try.func25, rfl, by kernel_rfl, by kernel_rfl⟩
instance isf25 : IsFn Try.prog 25 := ⟨by kernel_rfl⟩
-- anchorhold/link.Outs
noncomputable def cd28 : Code := match Try.f28.body with
  | some c => c
  | none => .skip
noncomputable def pl28 : Nat → Plan := fun _ => .fin
theorem fn28 : FnOK Try.prog 28 Try.f28 cd28 pl28 := ⟨Try.func28, rfl, by kernel_rfl, by kernel_rfl⟩
instance isf28 : IsFn Try.prog 28 := ⟨by kernel_rfl⟩
-- anchorhold/anchorholdlaw19.same
noncomputable def cd31 : Code := match Try.f31.body with
  | some c => c
  | none => .skip
noncomputable def pl31 : Nat → Plan := fun _ => .fin
theorem fn31 : FnOK Try.prog 31 Try.f31 cd31 pl31 := ⟨Try.func31, rfl, by kernel_rfl, by kernel_rfl⟩
instance isf31 : IsFn Try.prog 31 := ⟨by kernel_rfl⟩
-- anchorhold/anchorholdlaw19.redo
noncomputable def cd33 : Code := match Try.f33.body with
  | some c => c
  | none => .skip
noncomputable def pl33 : Nat → Plan
  | 3 => .st ⟨0, false, []⟩ (.st ⟨1, false, []⟩ (.st ⟨2, false, []⟩ (.st ⟨3, false, []⟩ (.st ⟨4, false, []⟩ (.st ⟨5, false, []⟩ (.st ⟨6, false, []⟩ (.st ⟨7, false, []⟩ (.st ⟨8, false, []⟩ (.st ⟨9, true, []⟩ (.fin))))))))))
  | 5 => .st ⟨0, false, []⟩ (.st ⟨1, false, []⟩ (.st ⟨2, false, []⟩ (.st ⟨3, false, []⟩ (.st ⟨4, false, []⟩ (.st ⟨5, false, []⟩ (.st ⟨6, false, []⟩ (.st ⟨7, false, []⟩ (.st ⟨8, false, []⟩ (.st ⟨9, true, []⟩ (.fin))))))))))
  | 7 => .st ⟨0, false, []⟩ (.st ⟨1, false, []⟩ (.st ⟨2, false, []⟩ (.st ⟨3, false, []⟩ (.st ⟨4, false, []⟩ (.st ⟨5, false, []⟩ (.st ⟨6, false, []⟩ (.st ⟨7, true, []⟩ (.fin))))))))
  | _ => .fin
theorem fn33 : FnOK Try.prog 33 Try.f33 cd33 pl33 := ⟨Try.func33, rfl, by kernel_rfl, by kernel_rfl⟩
instance isf33 : IsFn Try.prog 33 := ⟨by kernel_rfl⟩
-- (*anchorhold/ring.Ring[int]).dead
noncomputable def cd38 : Code := match Try.f38.body with
  | some c => c
  | none => .skip
noncomputable def pl38 : Nat → Plan := fun _ => .fin
theorem fn38 : FnOK Try.prog 38 Try.f38 cd38 pl38 := ⟨Try.func38, rfl, by kernel_rfl, by kernel_rfl⟩
instance isf38 : IsFn Try.prog 38 := ⟨by kernel_rfl⟩
-- (*anchorhold/anchorholdref04.Ring).Put
noncomputable def cd39 : Code := match Try.f39.body with
  | some c => c
  | none => .skip
noncomputable def pl39 : Nat → Plan
  | 1 => .st ⟨0, false, []⟩ (.st ⟨1, false, []⟩ (.st ⟨2, false, []⟩ (.st ⟨3, false, []⟩ (.st ⟨4, false, []⟩ (.st ⟨5, false, []⟩ (.st ⟨6, false, []⟩ (.st ⟨7, false, []⟩ (.st ⟨8, false, []⟩ (.st ⟨9, false, []⟩ (.fin))))))))))
  | _ => .fin
theorem fn39 : FnOK Try.prog 39 Try.f39 cd39 pl39 := ⟨Try.func39, rfl, by kernel_rfl, by kernel_rfl⟩
instance isf39 : IsFn Try.prog 39 := ⟨by kernel_rfl⟩
-- (*anchorhold/port.Ports).Write
noncomputable def cd42 : Code := match Try.f42.body with
  | some c => c
  | none => .skip
noncomputable def pl42 : Nat → Plan := fun _ => .fin
theorem fn42 : FnOK Try.prog 42 Try.f42 cd42 pl42 := ⟨Try.func42, rfl, by kernel_rfl, by kernel_rfl⟩
instance isf42 : IsFn Try.prog 42 := ⟨by kernel_rfl⟩
-- anchorhold/anchorholdref19.Flush
noncomputable def cd45 : Code := match Try.f45.body with
  | some c => c
  | none => .skip
noncomputable def pl45 : Nat → Plan
  | 13 => .st ⟨0, false, []⟩ (.st ⟨1, false, []⟩ (.st ⟨2, false, []⟩ (.st ⟨3, false, []⟩ (.st ⟨4, false, []⟩ (.st ⟨5, false, []⟩ (.st ⟨6, false, []⟩ (.st ⟨7, false, []⟩ (.st ⟨8, false, []⟩ (.st ⟨9, false, []⟩ (.st ⟨10, false, []⟩ (.st ⟨11, false, []⟩ (.st ⟨12, false, []⟩ (.st ⟨13, false, []⟩ (.st ⟨14, false, []⟩ (.st ⟨15, false, []⟩ (.st ⟨16, false, []⟩ (.st ⟨17, false, []⟩ (.st ⟨18, false, []⟩ (.st ⟨19, false, []⟩ (.st ⟨20, false, []⟩ (.fin)))))))))))))))))))))
  | 16 => .st ⟨0, false, []⟩ (.st ⟨1, false, []⟩ (.st ⟨2, false, []⟩ (.st ⟨3, false, []⟩ (.st ⟨4, false, []⟩ (.st ⟨5, false, []⟩ (.st ⟨6, false, []⟩ (.st ⟨7, false, []⟩ (.st ⟨8, false, []⟩ (.st ⟨9, false, []⟩ (.st ⟨10, false, []⟩ (.st ⟨11, false, []⟩ (.st ⟨12, false, []⟩ (.st ⟨13, false, []⟩ (.st ⟨14, false, []⟩ (.st ⟨15, false, []⟩ (.st ⟨16, true, []⟩ (.st ⟨17, false, []⟩ (.st ⟨18, true, []⟩ (.fin)))))))))))))))))))
  | 20 => .st ⟨0, false, []⟩ (.st ⟨1, false, []⟩ (.st ⟨2, false, []⟩ (.st ⟨3, false, []⟩ (.st ⟨4, false, []⟩ (.st ⟨5, false, []⟩ (.st ⟨6, false, []⟩ (.st ⟨7, false, []⟩ (.st ⟨8, false, []⟩ (.st ⟨9, false, []⟩ (.st ⟨10, false, []⟩ (.st ⟨11, false, []⟩ (.st ⟨12, false, []⟩ (.st ⟨13, false, []⟩ (.st ⟨14, true, []⟩ (.st ⟨15, true, []⟩ (.st ⟨16, false, []⟩ (.fin)))))))))))))))))
  | 24 => .st ⟨0, false, []⟩ (.st ⟨1, false, []⟩ (.st ⟨2, false, []⟩ (.st ⟨3, false, []⟩ (.st ⟨4, false, []⟩ (.st ⟨5, false, []⟩ (.st ⟨6, true, []⟩ (.fin)))))))
  | _ => .fin
theorem fn45 : FnOK Try.prog 45 Try.f45 cd45 pl45 := ⟨Try.func45, rfl, by kernel_rfl, by kernel_rfl⟩
instance isf45 : IsFn Try.prog 45 := ⟨by kernel_rfl⟩
-- anchorhold/ring.New[anchorhold/api.Message]
noncomputable def cd54 : Code := match Try.f54.body with
  | some c => c
  | none => .skip
noncomputable def pl54 : Nat → Plan := fun _ => .fin
theorem fn54 : FnOK Try.prog 54 Try.f54 cd54 pl54 := ⟨Try.func54, rfl, by kernel_rfl, by kernel_rfl⟩
instance isf54 : IsFn Try.prog 54 := ⟨by kernel_rfl⟩
-- (*anchorhold/ring.Ring[anchorhold/api.Message]).Put
noncomputable def cd56 : Code := match Try.f56.body with
  | some c => c
  | none => .skip
noncomputable def pl56 : Nat → Plan := fun _ => .fin
theorem fn56 : FnOK Try.prog 56 Try.f56 cd56 pl56 := ⟨Try.func56, rfl, by kernel_rfl, by kernel_rfl⟩
instance isf56 : IsFn Try.prog 56 := ⟨by kernel_rfl⟩
-- anchorhold/link.channels
noncomputable def cd59 : Code := match Try.f59.body with
  | some c => c
  | none => .skip
noncomputable def pl59 : Nat → Plan := fun _ => .fin
theorem fn59 : FnOK Try.prog 59 Try.f59 cd59 pl59 := ⟨Try.func59, rfl, by kernel_rfl, by kernel_rfl⟩
instance isf59 : IsFn Try.prog 59 := ⟨by kernel_rfl⟩
-- anchorhold/link.find
noncomputable def cd62 : Code := match Try.f62.body with
  | some c => c
  | none => .skip
noncomputable def pl62 : Nat → Plan := fun _ => .fin
theorem fn62 : FnOK Try.prog 62 Try.f62 cd62 pl62 := ⟨Try.func62, rfl, by kernel_rfl, by kernel_rfl⟩
instance isf62 : IsFn Try.prog 62 := ⟨by kernel_rfl⟩
-- (*anchorhold/port.Ports).into
noncomputable def cd65 : Code := match Try.f65.body with
  | some c => c
  | none => .skip
noncomputable def pl65 : Nat → Plan := fun _ => .fin
theorem fn65 : FnOK Try.prog 65 Try.f65 cd65 pl65 := ⟨Try.func65, rfl, by kernel_rfl, by kernel_rfl⟩
instance isf65 : IsFn Try.prog 65 := ⟨by kernel_rfl⟩
-- (*anchorhold/port.Ports).Deliver
noncomputable def cd68 : Code := match Try.f68.body with
  | some c => c
  | none => .skip
noncomputable def pl68 : Nat → Plan := fun _ => .fin
theorem fn68 : FnOK Try.prog 68 Try.f68 cd68 pl68 := ⟨Try.func68, rfl, by kernel_rfl, by kernel_rfl⟩
instance isf68 : IsFn Try.prog 68 := ⟨by kernel_rfl⟩
-- (*anchorhold/anchorholdref18.Ports).put
noncomputable def cd70 : Code := match Try.f70.body with
  | some c => c
  | none => .skip
noncomputable def pl70 : Nat → Plan
  | 8 => .st ⟨0, false, []⟩ (.st ⟨1, false, []⟩ (.st ⟨2, false, []⟩ (.st ⟨3, false, []⟩ (.st ⟨4, false, []⟩ (.st ⟨5, false, []⟩ (.st ⟨6, false, []⟩ (.st ⟨7, false, []⟩ (.st ⟨8, false, []⟩ (.st ⟨9, false, []⟩ (.st ⟨10, false, []⟩ (.st ⟨11, false, []⟩ (.st ⟨12, false, []⟩ (.st ⟨13, false, []⟩ (.st ⟨14, false, []⟩ (.st ⟨15, false, []⟩ (.st ⟨16, false, []⟩ (.fin)))))))))))))))))
  | 10 => .st ⟨0, false, []⟩ (.st ⟨1, false, []⟩ (.st ⟨3, false, []⟩ (.st ⟨4, false, []⟩ (.st ⟨5, false, []⟩ (.st ⟨6, false, []⟩ (.st ⟨7, false, []⟩ (.st ⟨8, false, []⟩ (.st ⟨9, false, []⟩ (.st ⟨11, false, []⟩ (.st ⟨14, false, []⟩ (.st ⟨15, false, []⟩ (.st ⟨16, false, []⟩ (.st ⟨17, false, []⟩ (.st ⟨18, false, []⟩ (.st ⟨19, false, []⟩ (.st ⟨20, false, []⟩ (.br (.st ⟨2, true, [4, 5, 6, 8, 9, 15, 16, 17, 19, 20]⟩ (.br (.st ⟨10, true, [15, 16, 17, 19, 20]⟩ (.st ⟨12, true, [4, 5, 6, 8, 9, 15, 16, 17, 19, 20]⟩ (.st ⟨13, true, [15, 16, 17, 19, 20]⟩ (.st ⟨21, true, []⟩ (.fin))))) (.st ⟨12, true, [4, 5, 6, 8, 9, 15, 16, 17, 19, 20]⟩ (.st ⟨10, true, [15, 16, 17, 19, 20]⟩ (.st ⟨13, true, [15, 16, 17, 19, 20]⟩ (.st ⟨21, true, []⟩ (.fin))))))) (.st ⟨12, true, [4, 5, 6, 8, 9, 15, 16, 17, 19, 20]⟩ (.st ⟨2, true, [4, 5, 6, 8, 9, 15, 16, 17, 19, 20]⟩ (.st ⟨10, true, [15, 16, 17, 19, 20]⟩ (.st ⟨13, true, [15, 16, 17, 19, 20]⟩ (.st ⟨21, true, []⟩ (.fin)))))))))))))))))))))))
  | _ => .fin
theorem fn70 : FnOK Try.prog 70 Try.f70 cd70 pl70 := ⟨Try.func70, rfl, by kernel_rfl, by kernel_rfl⟩
instance isf70 : IsFn Try.prog 70 := ⟨by kernel_rfl⟩
-- (*anchorhold/port.Ports).Can
noncomputable def cd76 : Code := match Try.f76.body with
  | some c => c
  | none => .skip
noncomputable def pl76 : Nat → Plan := fun _ => .fin
theorem fn76 : FnOK Try.prog 76 Try.f76 cd76 pl76 := ⟨Try.func76, rfl, by kernel_rfl, by kernel_rfl⟩
instance isf76 : IsFn Try.prog 76 := ⟨by kernel_rfl⟩
-- slices.Delete[[][]byte,[]byte]
noncomputable def cd79 : Code := match Try.f79.body with
  | some c => c
  | none => .skip
noncomputable def pl79 : Nat → Plan
  | 5 => .st ⟨0, false, []⟩ (.st ⟨1, false, []⟩ (.st ⟨2, false, []⟩ (.st ⟨3, false, []⟩ (.st ⟨4, false, []⟩ (.st ⟨5, false, []⟩ (.st ⟨6, true, []⟩ (.st ⟨7, false, []⟩ (.fin))))))))
  | _ => .fin
theorem fn79 : FnOK Try.prog 79 Try.f79 cd79 pl79 := ⟨Try.func79, rfl, by kernel_rfl, by kernel_rfl⟩
instance isf79 : IsFn Try.prog 79 := ⟨by kernel_rfl⟩
-- (*anchorhold/port.queue).put
noncomputable def cd102 : Code := match Try.f102.body with
  | some c => c
  | none => .skip
noncomputable def pl102 : Nat → Plan
  | 1 => .st ⟨0, false, []⟩ (.st ⟨1, false, []⟩ (.st ⟨2, false, []⟩ (.st ⟨3, false, []⟩ (.st ⟨4, false, []⟩ (.st ⟨5, false, []⟩ (.st ⟨6, false, []⟩ (.st ⟨7, false, []⟩ (.st ⟨8, false, []⟩ (.st ⟨9, false, []⟩ (.fin))))))))))
  | 3 => .st ⟨0, false, []⟩ (.st ⟨1, false, []⟩ (.st ⟨2, false, []⟩ (.st ⟨3, false, []⟩ (.st ⟨4, false, []⟩ (.st ⟨5, false, []⟩ (.st ⟨6, true, [2, 3, 4]⟩ (.st ⟨7, true, [2, 3, 4]⟩ (.st ⟨8, true, []⟩ (.st ⟨9, false, []⟩ (.st ⟨10, false, []⟩ (.st ⟨11, true, []⟩ (.fin))))))))))))
  | _ => .fin
theorem fn102 : FnOK Try.prog 102 Try.f102 cd102 pl102 := ⟨Try.func102, rfl, by kernel_rfl, by kernel_rfl⟩
instance isf102 : IsFn Try.prog 102 := ⟨by kernel_rfl⟩
end Go.Proofs.Ytlhmbcmkpafjoaa
