/- Tables, printed by a program: each function with its plans; closed facts on types. -/
import Derived.Test.YtlhmbcmkpafjoaaProg
import Derived.Test.YtlhmbcmkpafjoaaWkF
import Derived.KernelRfl
namespace Go.Proofs.Ytlhmbcmkpafjoaa
open Go Go.Wk
-- anchorhold/anchorholdlaw04.RingOrder
noncomputable def cd3 : Code := match Try.f3.body with
  | some c => c
  | none => .skip
noncomputable def pl3 : Nat → Plan := fun _ => .fin
theorem fn3 : FnOK Try.prog 3 Try.f3 cd3 pl3 := ⟨Try.func3, rfl, by kernel_rfl, by kernel_rfl⟩
instance isf3 : IsFn Try.prog 3 := ⟨by kernel_rfl⟩
-- anchorhold/anchorholdlaw19.LinkApart
noncomputable def cd8 : Code := match Try.f8.body with
  | some c => c
  | none => .skip
noncomputable def pl8 : Nat → Plan
  | 9 => .st ⟨0, false, []⟩ (.st ⟨1, false, []⟩ (.st ⟨2, false, []⟩ (.st ⟨3, false, []⟩ (.st ⟨4, false, []⟩ (.st ⟨5, false, []⟩ (.st ⟨6, false, []⟩ (.st ⟨7, true, []⟩ (.fin))))))))
  | 23 => .st ⟨0, false, []⟩ (.st ⟨1, false, []⟩ (.st ⟨2, false, []⟩ (.st ⟨4, false, []⟩ (.st ⟨5, false, []⟩ (.st ⟨6, false, []⟩ (.st ⟨3, true, [4]⟩ (.st ⟨7, true, []⟩ (.st ⟨8, false, []⟩ (.st ⟨9, false, []⟩ (.fin))))))))))
  | _ => .fin
theorem fn8 : FnOK Try.prog 8 Try.f8 cd8 pl8 := ⟨Try.func8, rfl, by kernel_rfl, by kernel_rfl⟩
instance isf8 : IsFn Try.prog 8 := ⟨by kernel_rfl⟩
-- anchorhold/ring.New[int]
noncomputable def cd11 : Code := match Try.f11.body with
  | some c => c
  | none => .skip
noncomputable def pl11 : Nat → Plan := fun _ => .fin
theorem fn11 : FnOK Try.prog 11 Try.f11 cd11 pl11 := ⟨Try.func11, rfl, by kernel_rfl, by kernel_rfl⟩
instance isf11 : IsFn Try.prog 11 := ⟨by kernel_rfl⟩
-- (*anchorhold/ring.Ring[int]).Take
noncomputable def cd13 : Code := match Try.f13.body with
  | some c => c
  | none => .skip
noncomputable def pl13 : Nat → Plan := fun _ => .fin
theorem fn13 : FnOK Try.prog 13 Try.f13 cd13 pl13 := ⟨Try.func13, rfl, by kernel_rfl, by kernel_rfl⟩
instance isf13 : IsFn Try.prog 13 := ⟨by kernel_rfl⟩
-- (*anchorhold/ring.Ring[int]).Size
noncomputable def cd16 : Code := match Try.f16.body with
  | some c => c
  | none => .skip
noncomputable def pl16 : Nat → Plan := fun _ => .fin
theorem fn16 : FnOK Try.prog 16 Try.f16 cd16 pl16 := ⟨Try.func16, rfl, by kernel_rfl, by kernel_rfl⟩
instance isf16 : IsFn Try.prog 16 := ⟨by kernel_rfl⟩
-- anchorhold/anchorholdlaw04.like
noncomputable def cd19 : Code := match Try.f19.body with
  | some c => c
  | none => .skip
noncomputable def pl19 : Nat → Plan
  | 1 => .st ⟨0, false, []⟩ (.st ⟨2, false, []⟩ (.st ⟨3, false, []⟩ (.st ⟨4, false, []⟩ (.st ⟨5, false, []⟩ (.st ⟨6, false, []⟩ (.st ⟨1, true, [3, 4, 5, 6]⟩ (.st ⟨7, false, []⟩ (.st ⟨8, false, []⟩ (.st ⟨9, false, []⟩ (.st ⟨11, false, []⟩ (.st ⟨12, false, []⟩ (.st ⟨13, false, []⟩ (.st ⟨14, false, []⟩ (.st ⟨10, true, [12, 13, 14]⟩ (.st ⟨15, false, []⟩ (.st ⟨16, false, []⟩ (.fin)))))))))))))))))
  | _ => .fin
theorem fn19 : FnOK Try.prog 19 Try.f19 cd19 pl19 := ⟨Try.func19, rfl, by kernel_rfl, by kernel_rfl⟩
instance isf19 : IsFn Try.prog 19 := ⟨by kernel_rfl⟩
-- anchorhold/anchorholdref08.Short
noncomputable def cd23 : Code := match Try.f23.body with
  | some c => c
  | none => .skip
noncomputable def pl23 : Nat → Plan := fun _ => .fin
theorem fn23 : FnOK Try.prog 23 Try.f23 cd23 pl23 := ⟨Try.func23, rfl, by kernel_rfl, by kernel_rfl⟩
instance isf23 : IsFn Try.prog 23 := ⟨by kernel_rfl⟩
-- anchorhold/link.Flush
noncomputable def cd27 : Code := match Try.f27.body with
  | some c => c
  | none => .skip
noncomputable def pl27 : Nat → Plan := fun _ => .fin
theorem fn27 : FnOK Try.prog 27 Try.f27 cd27 pl27 := ⟨Try.func27, rfl, by kernel_rfl, by kernel_rfl⟩
instance isf27 : IsFn Try.prog 27 := ⟨by kernel_rfl⟩
-- anchorhold/anchorholdref07.Same
noncomputable def cd29 : Code := match Try.f29.body with
  | some c => c
  | none => .skip
noncomputable def pl29 : Nat → Plan
  | 6 => .st ⟨0, false, []⟩ (.st ⟨1, false, []⟩ (.st ⟨2, false, []⟩ (.st ⟨3, false, []⟩ (.st ⟨4, false, []⟩ (.st ⟨5, false, []⟩ (.st ⟨6, false, []⟩ (.st ⟨7, false, []⟩ (.st ⟨8, false, []⟩ (.fin)))))))))
  | _ => .fin
theorem fn29 : FnOK Try.prog 29 Try.f29 cd29 pl29 := ⟨Try.func29, rfl, by kernel_rfl, by kernel_rfl⟩
instance isf29 : IsFn Try.prog 29 := ⟨by kernel_rfl⟩
-- anchorhold/anchorholdref19.Same
noncomputable def cd34 : Code := match Try.f34.body with
  | some c => c
  | none => .skip
noncomputable def pl34 : Nat → Plan
  | 6 => .st ⟨0, false, []⟩ (.st ⟨1, false, []⟩ (.st ⟨2, false, []⟩ (.st ⟨3, false, []⟩ (.st ⟨4, false, []⟩ (.st ⟨5, false, []⟩ (.st ⟨6, false, []⟩ (.st ⟨7, false, []⟩ (.st ⟨8, false, []⟩ (.st ⟨9, false, []⟩ (.st ⟨10, false, []⟩ (.st ⟨11, false, []⟩ (.st ⟨12, false, []⟩ (.st ⟨13, false, []⟩ (.st ⟨14, false, []⟩ (.st ⟨15, false, []⟩ (.st ⟨16, false, []⟩ (.st ⟨17, false, []⟩ (.st ⟨18, false, []⟩ (.st ⟨19, false, []⟩ (.st ⟨20, false, []⟩ (.st ⟨21, false, []⟩ (.st ⟨22, false, []⟩ (.st ⟨23, false, []⟩ (.st ⟨24, false, []⟩ (.st ⟨25, false, []⟩ (.st ⟨26, false, []⟩ (.st ⟨27, false, []⟩ (.st ⟨28, false, []⟩ (.st ⟨29, false, []⟩ (.st ⟨30, false, []⟩ (.st ⟨31, false, []⟩ (.st ⟨32, false, []⟩ (.st ⟨33, false, []⟩ (.st ⟨34, false, []⟩ (.st ⟨35, false, []⟩ (.st ⟨36, false, []⟩ (.st ⟨37, false, []⟩ (.st ⟨38, false, []⟩ (.fin)))))))))))))))))))))))))))))))))))))))
  | _ => .fin
theorem fn34 : FnOK Try.prog 34 Try.f34 cd34 pl34 := ⟨Try.func34, rfl, by kernel_rfl, by kernel_rfl⟩
instance isf34 : IsFn Try.prog 34 := ⟨by kernel_rfl⟩
-- (*anchorhold/anchorholdref04.Ring).Take
noncomputable def cd40 : Code := match Try.f40.body with
  | some c => c
  | none => .skip
noncomputable def pl40 : Nat → Plan := fun _ => .fin
theorem fn40 : FnOK Try.prog 40 Try.f40 cd40 pl40 := ⟨Try.func40, rfl, by kernel_rfl, by kernel_rfl⟩
instance isf40 : IsFn Try.prog 40 := ⟨by kernel_rfl⟩
-- anchorhold/anchorholdref04.Move
noncomputable def cd41 : Code := match Try.f41.body with
  | some c => c
  | none => .skip
noncomputable def pl41 : Nat → Plan := fun _ => .fin
theorem fn41 : FnOK Try.prog 41 Try.f41 cd41 pl41 := ⟨Try.func41, rfl, by kernel_rfl, by kernel_rfl⟩
instance isf41 : IsFn Try.prog 41 := ⟨by kernel_rfl⟩
-- (*anchorhold/port.Ports).Read
noncomputable def cd43 : Code := match Try.f43.body with
  | some c => c
  | none => .skip
noncomputable def pl43 : Nat → Plan := fun _ => .fin
theorem fn43 : FnOK Try.prog 43 Try.f43 cd43 pl43 := ⟨Try.func43, rfl, by kernel_rfl, by kernel_rfl⟩
instance isf43 : IsFn Try.prog 43 := ⟨by kernel_rfl⟩
-- anchorhold/anchorholdref19.Deliver
noncomputable def cd47 : Code := match Try.f47.body with
  | some c => c
  | none => .skip
noncomputable def pl47 : Nat → Plan
  | 4 => .st ⟨0, false, []⟩ (.st ⟨1, false, []⟩ (.st ⟨2, false, []⟩ (.st ⟨3, false, []⟩ (.st ⟨4, false, []⟩ (.st ⟨5, false, []⟩ (.st ⟨6, false, []⟩ (.st ⟨7, false, []⟩ (.st ⟨8, false, []⟩ (.st ⟨9, false, []⟩ (.st ⟨10, false, []⟩ (.st ⟨11, false, []⟩ (.st ⟨12, false, []⟩ (.st ⟨13, false, []⟩ (.st ⟨14, false, []⟩ (.st ⟨15, false, []⟩ (.st ⟨16, false, []⟩ (.st ⟨17, false, []⟩ (.st ⟨18, false, []⟩ (.st ⟨19, false, []⟩ (.st ⟨20, true, []⟩ (.st ⟨21, false, []⟩ (.st ⟨22, false, []⟩ (.fin)))))))))))))))))))))))
  | _ => .fin
theorem fn47 : FnOK Try.prog 47 Try.f47 cd47 pl47 := ⟨Try.func47, rfl, by kernel_rfl, by kernel_rfl⟩
instance isf47 : IsFn Try.prog 47 := ⟨by kernel_rfl⟩
-- (*anchorhold/port.Ports).Send
noncomputable def cd49 : Code := match Try.f49.body with
  | some c => c
  | none => .skip
noncomputable def pl49 : Nat → Plan := fun _ => .fin
theorem fn49 : FnOK Try.prog 49 Try.f49 cd49 pl49 := ⟨Try.func49, rfl, by kernel_rfl, by kernel_rfl⟩
instance isf49 : IsFn Try.prog 49 := ⟨by kernel_rfl⟩
-- (*anchorhold/port.Ports).Receive
noncomputable def cd51 : Code := match Try.f51.body with
  | some c => c
  | none => .skip
noncomputable def pl51 : Nat → Plan := fun _ => .fin
theorem fn51 : FnOK Try.prog 51 Try.f51 cd51 pl51 := ⟨Try.func51, rfl, by kernel_rfl, by kernel_rfl⟩
instance isf51 : IsFn Try.prog 51 := ⟨by kernel_rfl⟩
-- (*anchorhold/anchorholdref18.Ports).Read
noncomputable def cd53 : Code := match Try.f53.body with
  | some c => c
  | none => .skip
noncomputable def pl53 : Nat → Plan := fun _ => .fin
theorem fn53 : FnOK Try.prog 53 Try.f53 cd53 pl53 := ⟨Try.func53, rfl, by kernel_rfl, by kernel_rfl⟩
instance isf53 : IsFn Try.prog 53 := ⟨by kernel_rfl⟩
-- (*anchorhold/link.drained).of
noncomputable def cd55 : Code := match Try.f55.body with
  | some c => c
  | none => .skip
noncomputable def pl55 : Nat → Plan := fun _ => .fin
theorem fn55 : FnOK Try.prog 55 Try.f55 cd55 pl55 := ⟨Try.func55, rfl, by kernel_rfl, by kernel_rfl⟩
instance isf55 : IsFn Try.prog 55 := ⟨by kernel_rfl⟩
-- (*anchorhold/ring.Ring[anchorhold/api.Message]).Take
noncomputable def cd58 : Code := match Try.f58.body with
  | some c => c
  | none => .skip
noncomputable def pl58 : Nat → Plan := fun _ => .fin
theorem fn58 : FnOK Try.prog 58 Try.f58 cd58 pl58 := ⟨Try.func58, rfl, by kernel_rfl, by kernel_rfl⟩
instance isf58 : IsFn Try.prog 58 := ⟨by kernel_rfl⟩
-- (*anchorhold/port.one).fill
noncomputable def cd61 : Code := match Try.f61.body with
  | some c => c
  | none => .skip
noncomputable def pl61 : Nat → Plan := fun _ => .fin
theorem fn61 : FnOK Try.prog 61 Try.f61 cd61 pl61 := ⟨Try.func61, rfl, by kernel_rfl, by kernel_rfl⟩
instance isf61 : IsFn Try.prog 61 := ⟨by kernel_rfl⟩
-- (*anchorhold/port.Ports).Len
noncomputable def cd63 : Code := match Try.f63.body with
  | some c => c
  | none => .skip
noncomputable def pl63 : Nat → Plan := fun _ => .fin
theorem fn63 : FnOK Try.prog 63 Try.f63 cd63 pl63 := ⟨Try.func63, rfl, by kernel_rfl, by kernel_rfl⟩
instance isf63 : IsFn Try.prog 63 := ⟨by kernel_rfl⟩
-- (*anchorhold/port.Ports).out
noncomputable def cd66 : Code := match Try.f66.body with
  | some c => c
  | none => .skip
noncomputable def pl66 : Nat → Plan := fun _ => .fin
theorem fn66 : FnOK Try.prog 66 Try.f66 cd66 pl66 := ⟨Try.func66, rfl, by kernel_rfl, by kernel_rfl⟩
instance isf66 : IsFn Try.prog 66 := ⟨by kernel_rfl⟩
-- (*anchorhold/anchorholdref18.Ports).Deliver
noncomputable def cd69 : Code := match Try.f69.body with
  | some c => c
  | none => .skip
noncomputable def pl69 : Nat → Plan
  | 6 => .st ⟨0, false, []⟩ (.st ⟨1, false, []⟩ (.st ⟨2, false, []⟩ (.st ⟨3, false, []⟩ (.st ⟨4, false, []⟩ (.st ⟨5, false, []⟩ (.st ⟨6, false, []⟩ (.st ⟨7, false, []⟩ (.st ⟨8, false, []⟩ (.st ⟨9, false, []⟩ (.st ⟨10, false, []⟩ (.st ⟨11, false, []⟩ (.st ⟨12, false, []⟩ (.st ⟨13, false, []⟩ (.st ⟨14, false, []⟩ (.st ⟨15, false, []⟩ (.st ⟨16, false, []⟩ (.fin)))))))))))))))))
  | 7 => .st ⟨0, false, []⟩ (.st ⟨1, false, []⟩ (.st ⟨2, false, []⟩ (.st ⟨3, false, []⟩ (.st ⟨4, false, []⟩ (.st ⟨5, false, []⟩ (.st ⟨6, false, []⟩ (.st ⟨7, false, []⟩ (.st ⟨8, false, []⟩ (.st ⟨9, false, []⟩ (.st ⟨10, false, []⟩ (.st ⟨11, false, []⟩ (.st ⟨12, false, []⟩ (.st ⟨13, false, []⟩ (.st ⟨14, false, []⟩ (.st ⟨15, false, []⟩ (.st ⟨16, false, []⟩ (.st ⟨17, true, []⟩ (.fin))))))))))))))))))
  | 9 => .st ⟨0, false, []⟩ (.st ⟨1, false, []⟩ (.st ⟨3, false, []⟩ (.st ⟨4, false, []⟩ (.st ⟨5, false, []⟩ (.st ⟨6, false, []⟩ (.st ⟨7, false, []⟩ (.st ⟨8, false, []⟩ (.st ⟨9, false, []⟩ (.st ⟨11, false, []⟩ (.st ⟨14, false, []⟩ (.st ⟨15, false, []⟩ (.st ⟨16, false, []⟩ (.st ⟨17, false, []⟩ (.st ⟨18, false, []⟩ (.st ⟨19, false, []⟩ (.st ⟨20, false, []⟩ (.br (.st ⟨2, true, [4, 5, 6, 8, 9, 15, 16, 17, 19, 20]⟩ (.br (.st ⟨10, true, [15, 16, 17, 19, 20]⟩ (.st ⟨12, true, [4, 5, 6, 8, 9, 15, 16, 17, 19, 20]⟩ (.st ⟨13, true, [15, 16, 17, 19, 20]⟩ (.st ⟨21, true, []⟩ (.fin))))) (.st ⟨12, true, [4, 5, 6, 8, 9, 15, 16, 17, 19, 20]⟩ (.st ⟨10, true, [15, 16, 17, 19, 20]⟩ (.st ⟨13, true, [15, 16, 17, 19, 20]⟩ (.st ⟨21, true, []⟩ (.fin))))))) (.st ⟨12, true, [4, 5, 6, 8, 9, 15, 16, 17, 19, 20]⟩ (.st ⟨2, true, [4, 5, 6, 8, 9, 15, 16, 17, 19, 20]⟩ (.st ⟨10, true, [15, 16, 17, 19, 20]⟩ (.st ⟨13, true, [15, 16, 17, 19, 20]⟩ (.st ⟨21, true, []⟩ (.fin)))))))))))))))))))))))
  | _ => .fin
theorem fn69 : FnOK Try.prog 69 Try.f69 cd69 pl69 := ⟨Try.func69, rfl, by kernel_rfl, by kernel_rfl⟩
instance isf69 : IsFn Try.prog 69 := ⟨by kernel_rfl⟩
-- (*anchorhold/port.one).first
noncomputable def cd77 : Code := match Try.f77.body with
  | some c => c
  | none => .skip
noncomputable def pl77 : Nat → Plan
  | 7 => .st ⟨0, false, []⟩ (.st ⟨1, false, []⟩ (.st ⟨2, false, []⟩ (.st ⟨3, false, []⟩ (.st ⟨5, false, []⟩ (.st ⟨6, false, []⟩ (.st ⟨7, false, []⟩ (.st ⟨8, false, []⟩ (.st ⟨4, true, [6, 7, 8]⟩ (.st ⟨9, false, []⟩ (.st ⟨10, false, []⟩ (.fin)))))))))))
  | _ => .fin
theorem fn77 : FnOK Try.prog 77 Try.f77 cd77 pl77 := ⟨Try.func77, rfl, by kernel_rfl, by kernel_rfl⟩
instance isf77 : IsFn Try.prog 77 := ⟨by kernel_rfl⟩
-- (*anchorhold/port.sample).len
noncomputable def cd103 : Code := match Try.f103.body with
  | some c => c
  | none => .skip
noncomputable def pl103 : Nat → Plan := fun _ => .fin
theorem fn103 : FnOK Try.prog 103 Try.f103 cd103 pl103 := ⟨Try.func103, rfl, by kernel_rfl, by kernel_rfl⟩
instance isf103 : IsFn Try.prog 103 := ⟨by kernel_rfl⟩
end Go.Proofs.Ytlhmbcmkpafjoaa
