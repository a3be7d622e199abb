/- Tables, printed by a program: each function with its plans; closed facts on types. -/
import Derived.Test.YtlmcoiloepoggaaProg
import Derived.Test.YtlmcoiloepoggaaWkF
import Derived.KernelRfl
namespace Go.Proofs.Ytlmcoiloepoggaa
open Go Go.Wk
-- anchorhold/anchorholdlaw21.ProcTurns
noncomputable def cd4 : Code := match Try.f4.body with
  | some c => c
  | none => .skip
noncomputable def pl4 : Nat → Plan
  | 1 => .st ⟨0, false, []⟩ (.st ⟨1, false, []⟩ (.st ⟨2, false, []⟩ (.st ⟨3, false, []⟩ (.st ⟨4, false, []⟩ (.st ⟨5, false, []⟩ (.st ⟨6, false, []⟩ (.st ⟨7, false, []⟩ (.st ⟨8, false, []⟩ (.st ⟨9, false, []⟩ (.st ⟨10, false, []⟩ (.st ⟨11, false, []⟩ (.fin))))))))))))
  | 10 => .st ⟨0, false, []⟩ (.st ⟨1, false, []⟩ (.st ⟨2, false, []⟩ (.st ⟨3, false, []⟩ (.st ⟨4, false, []⟩ (.st ⟨5, false, []⟩ (.st ⟨6, false, []⟩ (.st ⟨7, false, []⟩ (.st ⟨8, false, []⟩ (.st ⟨9, false, []⟩ (.fin))))))))))
  | _ => .fin
theorem fn4 : FnOK Try.prog 4 Try.f4 cd4 pl4 := ⟨Try.func4, rfl, by kernel_rfl, by kernel_rfl⟩
instance isf4 : IsFn Try.prog 4 := ⟨by kernel_rfl⟩
-- anchorhold/anchorholdlaw18.PortOrder
noncomputable def cd9 : Code := match Try.f9.body with
  | some c => c
  | none => .skip
noncomputable def pl9 : Nat → Plan := fun _ => .fin
theorem fn9 : FnOK Try.prog 9 Try.f9 cd9 pl9 := ⟨Try.func9, rfl, by kernel_rfl, by kernel_rfl⟩
instance isf9 : IsFn Try.prog 9 := ⟨by kernel_rfl⟩
-- anchorhold/anchorholdlaw18.PortPlays
noncomputable def cd11 : Code := match Try.f11.body with
  | some c => c
  | none => .skip
noncomputable def pl11 : Nat → Plan := fun _ => .fin
theorem fn11 : FnOK Try.prog 11 Try.f11 cd11 pl11 := ⟨Try.func11, rfl, by kernel_rfl, by kernel_rfl⟩
instance isf11 : IsFn Try.prog 11 := ⟨by kernel_rfl⟩
-- anchorhold/anchorholdlaw20.ObjectNone
noncomputable def cd14 : Code := match Try.f14.body with
  | some c => c
  | none => .skip
noncomputable def pl14 : Nat → Plan := fun _ => .fin
theorem fn14 : FnOK Try.prog 14 Try.f14 cd14 pl14 := ⟨Try.func14, rfl, by kernel_rfl, by kernel_rfl⟩
instance isf14 : IsFn Try.prog 14 := ⟨by kernel_rfl⟩
-- anchorhold/object.New
noncomputable def cd16 : Code := match Try.f16.body with
  | some c => c
  | none => .skip
noncomputable def pl16 : Nat → Plan := fun _ => .fin
theorem fn16 : FnOK Try.prog 16 Try.f16 cd16 pl16 := ⟨Try.func16, rfl, by kernel_rfl, by kernel_rfl⟩
instance isf16 : IsFn Try.prog 16 := ⟨by kernel_rfl⟩
-- (*anchorhold/object.Objects).Take
noncomputable def cd18 : Code := match Try.f18.body with
  | some c => c
  | none => .skip
noncomputable def pl18 : Nat → Plan := fun _ => .fin
theorem fn18 : FnOK Try.prog 18 Try.f18 cd18 pl18 := ⟨Try.func18, rfl, by kernel_rfl, by kernel_rfl⟩
instance isf18 : IsFn Try.prog 18 := ⟨by kernel_rfl⟩
-- (*anchorhold/object.Objects).Count
noncomputable def cd19 : Code := match Try.f19.body with
  | some c => c
  | none => .skip
noncomputable def pl19 : Nat → Plan := fun _ => .fin
theorem fn19 : FnOK Try.prog 19 Try.f19 cd19 pl19 := ⟨Try.func19, rfl, by kernel_rfl, by kernel_rfl⟩
instance isf19 : IsFn Try.prog 19 := ⟨by kernel_rfl⟩
-- anchorhold/anchorholdref21.New
noncomputable def cd21 : Code := match Try.f21.body with
  | some c => c
  | none => .skip
noncomputable def pl21 : Nat → Plan
  | 5 => .st ⟨0, false, []⟩ (.st ⟨1, false, []⟩ (.st ⟨2, false, []⟩ (.st ⟨3, false, []⟩ (.st ⟨4, false, []⟩ (.st ⟨5, false, []⟩ (.st ⟨6, false, []⟩ (.st ⟨7, false, []⟩ (.st ⟨8, false, []⟩ (.st ⟨9, false, []⟩ (.st ⟨10, false, []⟩ (.st ⟨11, false, []⟩ (.st ⟨12, false, []⟩ (.st ⟨13, false, []⟩ (.st ⟨14, false, []⟩ (.st ⟨15, true, [2, 3, 4]⟩ (.st ⟨16, true, []⟩ (.st ⟨17, false, []⟩ (.st ⟨18, false, []⟩ (.st ⟨19, true, []⟩ (.fin))))))))))))))))))))
  | _ => .fin
theorem fn21 : FnOK Try.prog 21 Try.f21 cd21 pl21 := ⟨Try.func21, rfl, by kernel_rfl, by kernel_rfl⟩
instance isf21 : IsFn Try.prog 21 := ⟨by kernel_rfl⟩
-- (*anchorhold/proc.Table).Rank
noncomputable def cd27 : Code := match Try.f27.body with
  | some c => c
  | none => .skip
noncomputable def pl27 : Nat → Plan
  | 5 => .st ⟨0, false, []⟩ (.st ⟨1, false, []⟩ (.st ⟨2, false, []⟩ (.st ⟨3, false, []⟩ (.st ⟨4, false, []⟩ (.st ⟨5, false, []⟩ (.st ⟨6, true, []⟩ (.fin)))))))
  | _ => .fin
theorem fn27 : FnOK Try.prog 27 Try.f27 cd27 pl27 := ⟨Try.func27, rfl, by kernel_rfl, by kernel_rfl⟩
instance isf27 : IsFn Try.prog 27 := ⟨by kernel_rfl⟩
-- (*anchorhold/proc.Table).Prio
noncomputable def cd30 : Code := match Try.f30.body with
  | some c => c
  | none => .skip
noncomputable def pl30 : Nat → Plan := fun _ => .fin
theorem fn30 : FnOK Try.prog 30 Try.f30 cd30 pl30 := ⟨Try.func30, rfl, by kernel_rfl, by kernel_rfl⟩
instance isf30 : IsFn Try.prog 30 := ⟨by kernel_rfl⟩
-- (*anchorhold/object.Objects).Look
noncomputable def cd33 : Code := match Try.f33.body with
  | some c => c
  | none => .skip
noncomputable def pl33 : Nat → Plan := fun _ => .fin
theorem fn33 : FnOK Try.prog 33 Try.f33 cd33 pl33 := ⟨Try.func33, rfl, by kernel_rfl, by kernel_rfl⟩
instance isf33 : IsFn Try.prog 33 := ⟨by kernel_rfl⟩
-- anchorhold/anchorholdlaw21.like
noncomputable def cd35 : Code := match Try.f35.body with
  | some c => c
  | none => .skip
noncomputable def pl35 : Nat → Plan
  | 1 => .st ⟨0, false, []⟩ (.st ⟨2, false, []⟩ (.st ⟨3, false, []⟩ (.st ⟨4, false, []⟩ (.st ⟨5, false, []⟩ (.st ⟨6, false, []⟩ (.st ⟨1, true, [3, 4, 5, 6]⟩ (.st ⟨7, false, []⟩ (.st ⟨8, false, []⟩ (.st ⟨9, false, []⟩ (.st ⟨11, false, []⟩ (.st ⟨10, true, []⟩ (.st ⟨12, true, []⟩ (.st ⟨13, false, []⟩ (.st ⟨14, false, []⟩ (.st ⟨15, false, []⟩ (.st ⟨16, false, []⟩ (.st ⟨17, false, []⟩ (.st ⟨18, false, []⟩ (.st ⟨20, false, []⟩ (.st ⟨21, false, []⟩ (.st ⟨22, false, []⟩ (.st ⟨19, true, []⟩ (.st ⟨23, true, []⟩ (.st ⟨24, false, []⟩ (.st ⟨25, false, []⟩ (.fin))))))))))))))))))))))))))
  | 10 => .st ⟨0, false, []⟩ (.st ⟨1, false, []⟩ (.st ⟨3, false, []⟩ (.st ⟨4, false, []⟩ (.st ⟨2, true, [3, 4]⟩ (.st ⟨5, false, []⟩ (.st ⟨6, false, []⟩ (.st ⟨7, false, []⟩ (.st ⟨8, false, []⟩ (.st ⟨10, false, []⟩ (.st ⟨11, false, []⟩ (.st ⟨9, true, [10, 11]⟩ (.st ⟨12, false, []⟩ (.st ⟨13, false, []⟩ (.st ⟨14, false, []⟩ (.st ⟨15, false, []⟩ (.st ⟨16, false, []⟩ (.st ⟨17, false, []⟩ (.st ⟨18, false, []⟩ (.st ⟨19, false, []⟩ (.st ⟨20, false, []⟩ (.st ⟨21, false, []⟩ (.st ⟨22, false, []⟩ (.st ⟨23, false, []⟩ (.st ⟨24, false, []⟩ (.st ⟨25, false, []⟩ (.st ⟨26, false, []⟩ (.st ⟨27, false, []⟩ (.st ⟨28, false, []⟩ (.st ⟨29, false, []⟩ (.st ⟨30, false, []⟩ (.st ⟨31, false, []⟩ (.fin))))))))))))))))))))))))))))))))
  | _ => .fin
theorem fn35 : FnOK Try.prog 35 Try.f35 cd35 pl35 := ⟨Try.func35, rfl, by kernel_rfl, by kernel_rfl⟩
instance isf35 : IsFn Try.prog 35 := ⟨by kernel_rfl⟩
-- anchorhold/anchorholdref18.Same
noncomputable def cd48 : Code := match Try.f48.body with
  | some c => c
  | none => .skip
noncomputable def pl48 : Nat → Plan
  | 6 => .st ⟨0, false, []⟩ (.st ⟨1, false, []⟩ (.st ⟨2, false, []⟩ (.st ⟨3, false, []⟩ (.st ⟨4, false, []⟩ (.st ⟨5, false, []⟩ (.st ⟨6, false, []⟩ (.st ⟨7, false, []⟩ (.st ⟨8, false, []⟩ (.st ⟨9, false, []⟩ (.st ⟨10, false, []⟩ (.fin)))))))))))
  | _ => .fin
theorem fn48 : FnOK Try.prog 48 Try.f48 cd48 pl48 := ⟨Try.func48, rfl, by kernel_rfl, by kernel_rfl⟩
instance isf48 : IsFn Try.prog 48 := ⟨by kernel_rfl⟩
-- anchorhold/anchorholdlaw18.like
noncomputable def cd54 : Code := match Try.f54.body with
  | some c => c
  | none => .skip
noncomputable def pl54 : Nat → Plan
  | 7 => .st ⟨0, false, []⟩ (.st ⟨1, false, []⟩ (.st ⟨3, false, []⟩ (.st ⟨4, false, []⟩ (.st ⟨5, false, []⟩ (.st ⟨6, false, []⟩ (.st ⟨7, false, []⟩ (.st ⟨8, false, []⟩ (.st ⟨9, false, []⟩ (.st ⟨10, false, []⟩ (.st ⟨2, true, [4, 5, 6, 8, 9, 10]⟩ (.st ⟨11, false, []⟩ (.st ⟨12, false, []⟩ (.st ⟨13, false, []⟩ (.st ⟨14, false, []⟩ (.st ⟨16, false, []⟩ (.st ⟨17, false, []⟩ (.st ⟨18, false, []⟩ (.st ⟨19, false, []⟩ (.st ⟨20, false, []⟩ (.st ⟨21, false, []⟩ (.st ⟨22, false, []⟩ (.st ⟨15, true, [17, 18, 19, 21, 22]⟩ (.st ⟨23, false, []⟩ (.st ⟨24, false, []⟩ (.st ⟨25, false, []⟩ (.st ⟨26, false, []⟩ (.st ⟨27, false, []⟩ (.st ⟨29, false, []⟩ (.st ⟨30, false, []⟩ (.st ⟨31, false, []⟩ (.st ⟨32, false, []⟩ (.st ⟨33, false, []⟩ (.st ⟨34, false, []⟩ (.st ⟨35, false, []⟩ (.st ⟨36, false, []⟩ (.st ⟨28, true, [30, 31, 32, 34, 35, 36]⟩ (.st ⟨37, false, []⟩ (.st ⟨38, false, []⟩ (.st ⟨39, false, []⟩ (.st ⟨40, false, []⟩ (.st ⟨41, false, []⟩ (.st ⟨42, false, []⟩ (.st ⟨43, false, []⟩ (.st ⟨44, false, []⟩ (.st ⟨45, false, []⟩ (.st ⟨46, false, []⟩ (.st ⟨47, false, []⟩ (.st ⟨48, false, []⟩ (.st ⟨49, false, []⟩ (.st ⟨50, false, []⟩ (.st ⟨51, false, []⟩ (.st ⟨52, false, []⟩ (.st ⟨53, false, []⟩ (.st ⟨54, false, []⟩ (.st ⟨55, false, []⟩ (.st ⟨56, false, []⟩ (.st ⟨57, false, []⟩ (.st ⟨58, true, []⟩ (.st ⟨59, false, []⟩ (.st ⟨60, false, []⟩ (.st ⟨61, false, []⟩ (.st ⟨62, false, []⟩ (.st ⟨63, false, []⟩ (.st ⟨64, false, []⟩ (.st ⟨65, false, []⟩ (.st ⟨66, false, []⟩ (.st ⟨67, false, []⟩ (.st ⟨68, false, []⟩ (.st ⟨69, false, []⟩ (.st ⟨70, false, []⟩ (.st ⟨71, false, []⟩ (.st ⟨72, false, []⟩ (.st ⟨73, false, []⟩ (.st ⟨74, false, []⟩ (.st ⟨75, false, []⟩ (.st ⟨76, false, []⟩ (.st ⟨77, false, []⟩ (.st ⟨78, false, []⟩ (.st ⟨79, false, []⟩ (.st ⟨80, false, []⟩ (.st ⟨81, true, []⟩ (.st ⟨82, false, []⟩ (.fin)))))))))))))))))))))))))))))))))))))))))))))))))))))))))))))))))))))))))))))))))))
  | _ => .fin
theorem fn54 : FnOK Try.prog 54 Try.f54 cd54 pl54 := ⟨Try.func54, rfl, by kernel_rfl, by kernel_rfl⟩
instance isf54 : IsFn Try.prog 54 := ⟨by kernel_rfl⟩
-- anchorhold/anchorholdlaw20.like
noncomputable def cd63 : Code := match Try.f63.body with
  | some c => c
  | none => .skip
noncomputable def pl63 : Nat → Plan := fun _ => .fin
theorem fn63 : FnOK Try.prog 63 Try.f63 cd63 pl63 := ⟨Try.func63, rfl, by kernel_rfl, by kernel_rfl⟩
instance isf63 : IsFn Try.prog 63 := ⟨by kernel_rfl⟩
-- (*anchorhold/object.Objects).Up
noncomputable def cd65 : Code := match Try.f65.body with
  | some c => c
  | none => .skip
noncomputable def pl65 : Nat → Plan := fun _ => .fin
theorem fn65 : FnOK Try.prog 65 Try.f65 cd65 pl65 := ⟨Try.func65, rfl, by kernel_rfl, by kernel_rfl⟩
instance isf65 : IsFn Try.prog 65 := ⟨by kernel_rfl⟩
-- (*anchorhold/object.Objects).Flag
noncomputable def cd67 : Code := match Try.f67.body with
  | some c => c
  | none => .skip
noncomputable def pl67 : Nat → Plan := fun _ => .fin
theorem fn67 : FnOK Try.prog 67 Try.f67 cd67 pl67 := ⟨Try.func67, rfl, by kernel_rfl, by kernel_rfl⟩
instance isf67 : IsFn Try.prog 67 := ⟨by kernel_rfl⟩
-- (*anchorhold/object.Objects).sem
noncomputable def cd69 : Code := match Try.f69.body with
  | some c => c
  | none => .skip
noncomputable def pl69 : Nat → Plan := fun _ => .fin
theorem fn69 : FnOK Try.prog 69 Try.f69 cd69 pl69 := ⟨Try.func69, rfl, by kernel_rfl, by kernel_rfl⟩
instance isf69 : IsFn Try.prog 69 := ⟨by kernel_rfl⟩
-- (*anchorhold/anchorholdref21.Table).Set
noncomputable def cd71 : Code := match Try.f71.body with
  | some c => c
  | none => .skip
noncomputable def pl71 : Nat → Plan := fun _ => .fin
theorem fn71 : FnOK Try.prog 71 Try.f71 cd71 pl71 := ⟨Try.func71, rfl, by kernel_rfl, by kernel_rfl⟩
instance isf71 : IsFn Try.prog 71 := ⟨by kernel_rfl⟩
-- (*anchorhold/anchorholdref21.Table).Rank
noncomputable def cd73 : Code := match Try.f73.body with
  | some c => c
  | none => .skip
noncomputable def pl73 : Nat → Plan := fun _ => .fin
theorem fn73 : FnOK Try.prog 73 Try.f73 cd73 pl73 := ⟨Try.func73, rfl, by kernel_rfl, by kernel_rfl⟩
instance isf73 : IsFn Try.prog 73 := ⟨by kernel_rfl⟩
-- anchorhold/anchorholdref07.Same
noncomputable def cd76 : Code := match Try.f76.body with
  | some c => c
  | none => .skip
noncomputable def pl76 : Nat → Plan
  | 6 => .st ⟨0, false, []⟩ (.st ⟨1, false, []⟩ (.st ⟨2, false, []⟩ (.st ⟨3, false, []⟩ (.st ⟨4, false, []⟩ (.st ⟨5, false, []⟩ (.st ⟨6, false, []⟩ (.st ⟨7, false, []⟩ (.st ⟨8, false, []⟩ (.fin)))))))))
  | _ => .fin
theorem fn76 : FnOK Try.prog 76 Try.f76 cd76 pl76 := ⟨Try.func76, rfl, by kernel_rfl, by kernel_rfl⟩
instance isf76 : IsFn Try.prog 76 := ⟨by kernel_rfl⟩
-- (*anchorhold/proc.Table).best
noncomputable def cd81 : Code := match Try.f81.body with
  | some c => c
  | none => .skip
noncomputable def pl81 : Nat → Plan
  | 6 => .st ⟨0, false, []⟩ (.st ⟨1, false, []⟩ (.st ⟨2, false, []⟩ (.st ⟨3, false, []⟩ (.st ⟨4, false, []⟩ (.st ⟨5, false, []⟩ (.st ⟨6, false, []⟩ (.st ⟨7, true, []⟩ (.st ⟨8, false, []⟩ (.st ⟨9, false, []⟩ (.st ⟨10, false, []⟩ (.st ⟨11, false, []⟩ (.st ⟨12, false, []⟩ (.st ⟨13, false, []⟩ (.st ⟨14, false, []⟩ (.st ⟨15, false, []⟩ (.st ⟨16, false, []⟩ (.st ⟨17, false, []⟩ (.st ⟨18, false, []⟩ (.st ⟨19, false, []⟩ (.st ⟨20, false, []⟩ (.st ⟨21, false, []⟩ (.st ⟨22, false, []⟩ (.st ⟨23, false, []⟩ (.st ⟨24, false, []⟩ (.st ⟨25, true, []⟩ (.st ⟨26, false, []⟩ (.st ⟨27, false, []⟩ (.fin))))))))))))))))))))))))))))
  | _ => .fin
theorem fn81 : FnOK Try.prog 81 Try.f81 cd81 pl81 := ⟨Try.func81, rfl, by kernel_rfl, by kernel_rfl⟩
instance isf81 : IsFn Try.prog 81 := ⟨by kernel_rfl⟩
-- slices.Delete[[][]byte,[]byte]
noncomputable def cd87 : Code := match Try.f87.body with
  | some c => c
  | none => .skip
noncomputable def pl87 : Nat → Plan
  | 5 => .st ⟨0, false, []⟩ (.st ⟨1, false, []⟩ (.st ⟨2, false, []⟩ (.st ⟨3, false, []⟩ (.st ⟨4, false, []⟩ (.st ⟨5, false, []⟩ (.st ⟨6, true, []⟩ (.st ⟨7, false, []⟩ (.fin))))))))
  | _ => .fin
theorem fn87 : FnOK Try.prog 87 Try.f87 cd87 pl87 := ⟨Try.func87, rfl, by kernel_rfl, by kernel_rfl⟩
instance isf87 : IsFn Try.prog 87 := ⟨by kernel_rfl⟩
-- (*anchorhold/anchorholdref21.Table).Is
noncomputable def cd90 : Code := match Try.f90.body with
  | some c => c
  | none => .skip
noncomputable def pl90 : Nat → Plan := fun _ => .fin
theorem fn90 : FnOK Try.prog 90 Try.f90 cd90 pl90 := ⟨Try.func90, rfl, by kernel_rfl, by kernel_rfl⟩
instance isf90 : IsFn Try.prog 90 := ⟨by kernel_rfl⟩
-- (*anchorhold/proc.Table).First$1
noncomputable def cd91 : Code := match Try.f91.body with
  | some c => c
  | none => .skip
noncomputable def pl91 : Nat → Plan := fun _ => .fin
theorem fn91 : FnOK Try.prog 91 Try.f91 cd91 pl91 := ⟨Try.func91, rfl, by kernel_rfl, by kernel_rfl⟩
instance isf91 : IsFn Try.prog 91 := ⟨by kernel_rfl⟩
-- (*anchorhold/port.one).fill
noncomputable def cd92 : Code := match Try.f92.body with
  | some c => c
  | none => .skip
noncomputable def pl92 : Nat → Plan := fun _ => .fin
theorem fn92 : FnOK Try.prog 92 Try.f92 cd92 pl92 := ⟨Try.func92, rfl, by kernel_rfl, by kernel_rfl⟩
instance isf92 : IsFn Try.prog 92 := ⟨by kernel_rfl⟩
-- (*anchorhold/port.Ports).out
noncomputable def cd95 : Code := match Try.f95.body with
  | some c => c
  | none => .skip
noncomputable def pl95 : Nat → Plan := fun _ => .fin
theorem fn95 : FnOK Try.prog 95 Try.f95 cd95 pl95 := ⟨Try.func95, rfl, by kernel_rfl, by kernel_rfl⟩
instance isf95 : IsFn Try.prog 95 := ⟨by kernel_rfl⟩
-- (*anchorhold/anchorholdref18.Ports).Send
noncomputable def cd98 : Code := match Try.f98.body with
  | some c => c
  | none => .skip
noncomputable def pl98 : Nat → Plan := fun _ => .fin
theorem fn98 : FnOK Try.prog 98 Try.f98 cd98 pl98 := ⟨Try.func98, rfl, by kernel_rfl, by kernel_rfl⟩
instance isf98 : IsFn Try.prog 98 := ⟨by kernel_rfl⟩
-- (*anchorhold/anchorholdref18.Ports).Deliver
noncomputable def cd101 : Code := match Try.f101.body with
  | some c => c
  | none => .skip
noncomputable def pl101 : Nat → Plan
  | 6 => .st ⟨0, false, []⟩ (.st ⟨1, false, []⟩ (.st ⟨2, false, []⟩ (.st ⟨3, false, []⟩ (.st ⟨4, false, []⟩ (.st ⟨5, false, []⟩ (.st ⟨6, false, []⟩ (.st ⟨7, false, []⟩ (.st ⟨8, false, []⟩ (.st ⟨9, false, []⟩ (.st ⟨10, false, []⟩ (.st ⟨11, false, []⟩ (.st ⟨12, false, []⟩ (.st ⟨13, false, []⟩ (.st ⟨14, false, []⟩ (.st ⟨15, false, []⟩ (.st ⟨16, false, []⟩ (.fin)))))))))))))))))
  | 7 => .st ⟨0, false, []⟩ (.st ⟨1, false, []⟩ (.st ⟨2, false, []⟩ (.st ⟨3, false, []⟩ (.st ⟨4, false, []⟩ (.st ⟨5, false, []⟩ (.st ⟨6, false, []⟩ (.st ⟨7, false, []⟩ (.st ⟨8, false, []⟩ (.st ⟨9, false, []⟩ (.st ⟨10, false, []⟩ (.st ⟨11, false, []⟩ (.st ⟨12, false, []⟩ (.st ⟨13, false, []⟩ (.st ⟨14, false, []⟩ (.st ⟨15, false, []⟩ (.st ⟨16, false, []⟩ (.st ⟨17, true, []⟩ (.fin))))))))))))))))))
  | 9 => .st ⟨0, false, []⟩ (.st ⟨1, false, []⟩ (.st ⟨3, false, []⟩ (.st ⟨4, false, []⟩ (.st ⟨5, false, []⟩ (.st ⟨6, false, []⟩ (.st ⟨7, false, []⟩ (.st ⟨8, false, []⟩ (.st ⟨9, false, []⟩ (.st ⟨11, false, []⟩ (.st ⟨14, false, []⟩ (.st ⟨15, false, []⟩ (.st ⟨16, false, []⟩ (.st ⟨17, false, []⟩ (.st ⟨18, false, []⟩ (.st ⟨19, false, []⟩ (.st ⟨20, false, []⟩ (.br (.st ⟨2, true, [4, 5, 6, 8, 9, 15, 16, 17, 19, 20]⟩ (.br (.st ⟨10, true, [15, 16, 17, 19, 20]⟩ (.st ⟨12, true, [4, 5, 6, 8, 9, 15, 16, 17, 19, 20]⟩ (.st ⟨13, true, [15, 16, 17, 19, 20]⟩ (.st ⟨21, true, []⟩ (.fin))))) (.st ⟨12, true, [4, 5, 6, 8, 9, 15, 16, 17, 19, 20]⟩ (.st ⟨10, true, [15, 16, 17, 19, 20]⟩ (.st ⟨13, true, [15, 16, 17, 19, 20]⟩ (.st ⟨21, true, []⟩ (.fin))))))) (.st ⟨12, true, [4, 5, 6, 8, 9, 15, 16, 17, 19, 20]⟩ (.st ⟨2, true, [4, 5, 6, 8, 9, 15, 16, 17, 19, 20]⟩ (.st ⟨10, true, [15, 16, 17, 19, 20]⟩ (.st ⟨13, true, [15, 16, 17, 19, 20]⟩ (.st ⟨21, true, []⟩ (.fin)))))))))))))))))))))))
  | _ => .fin
theorem fn101 : FnOK Try.prog 101 Try.f101 cd101 pl101 := ⟨Try.func101, rfl, by kernel_rfl, by kernel_rfl⟩
instance isf101 : IsFn Try.prog 101 := ⟨by kernel_rfl⟩
-- (*anchorhold/anchorholdref20.Objects).Show
noncomputable def cd110 : Code := match Try.f110.body with
  | some c => c
  | none => .skip
noncomputable def pl110 : Nat → Plan := fun _ => .fin
theorem fn110 : FnOK Try.prog 110 Try.f110 cd110 pl110 := ⟨Try.func110, rfl, by kernel_rfl, by kernel_rfl⟩
instance isf110 : IsFn Try.prog 110 := ⟨by kernel_rfl⟩
-- (*anchorhold/anchorholdref20.Objects).Clear
noncomputable def cd113 : Code := match Try.f113.body with
  | some c => c
  | none => .skip
noncomputable def pl113 : Nat → Plan := fun _ => .fin
theorem fn113 : FnOK Try.prog 113 Try.f113 cd113 pl113 := ⟨Try.func113, rfl, by kernel_rfl, by kernel_rfl⟩
instance isf113 : IsFn Try.prog 113 := ⟨by kernel_rfl⟩
-- anchorhold/object.some[anchorhold/api.SemConf,anchorhold/object.sem]
noncomputable def cd116 : Code := match Try.f116.body with
  | some c => c
  | none => .skip
noncomputable def pl116 : Nat → Plan
  | 5 => .st ⟨0, false, []⟩ (.st ⟨1, false, []⟩ (.st ⟨2, false, []⟩ (.st ⟨3, false, []⟩ (.st ⟨4, true, [0, 1]⟩ (.st ⟨5, true, [0, 1]⟩ (.st ⟨6, true, []⟩ (.st ⟨7, false, []⟩ (.st ⟨8, true, []⟩ (.fin)))))))))
  | _ => .fin
theorem fn116 : FnOK Try.prog 116 Try.f116 cd116 pl116 := ⟨Try.func116, rfl, by kernel_rfl, by kernel_rfl⟩
instance isf116 : IsFn Try.prog 116 := ⟨by kernel_rfl⟩
-- anchorhold/object.some[int,anchorhold/object.slate]
noncomputable def cd122 : Code := match Try.f122.body with
  | some c => c
  | none => .skip
noncomputable def pl122 : Nat → Plan
  | 5 => .st ⟨0, false, []⟩ (.st ⟨1, false, []⟩ (.st ⟨2, false, []⟩ (.st ⟨3, false, []⟩ (.st ⟨4, true, [0, 1]⟩ (.st ⟨5, true, [0, 1]⟩ (.st ⟨6, true, []⟩ (.st ⟨7, false, []⟩ (.st ⟨8, true, []⟩ (.fin)))))))))
  | _ => .fin
theorem fn122 : FnOK Try.prog 122 Try.f122 cd122 pl122 := ⟨Try.func122, rfl, by kernel_rfl, by kernel_rfl⟩
instance isf122 : IsFn Try.prog 122 := ⟨by kernel_rfl⟩
-- (*anchorhold/anchorholdref21.Table).set
noncomputable def cd127 : Code := match Try.f127.body with
  | some c => c
  | none => .skip
noncomputable def pl127 : Nat → Plan := fun _ => .fin
theorem fn127 : FnOK Try.prog 127 Try.f127 cd127 pl127 := ⟨Try.func127, rfl, by kernel_rfl, by kernel_rfl⟩
instance isf127 : IsFn Try.prog 127 := ⟨by kernel_rfl⟩
-- anchorhold/anchorholdref21.Ahead
noncomputable def cd131 : Code := match Try.f131.body with
  | some c => c
  | none => .skip
noncomputable def pl131 : Nat → Plan := fun _ => .fin
theorem fn131 : FnOK Try.prog 131 Try.f131 cd131 pl131 := ⟨Try.func131, rfl, by kernel_rfl, by kernel_rfl⟩
instance isf131 : IsFn Try.prog 131 := ⟨by kernel_rfl⟩
-- (*anchorhold/anchorholdref18.Ports).set
noncomputable def cd135 : Code := match Try.f135.body with
  | some c => c
  | none => .skip
noncomputable def pl135 : Nat → Plan := fun _ => .fin
theorem fn135 : FnOK Try.prog 135 Try.f135 cd135 pl135 := ⟨Try.func135, rfl, by kernel_rfl, by kernel_rfl⟩
instance isf135 : IsFn Try.prog 135 := ⟨by kernel_rfl⟩
-- (anchorhold/object.row[bool]).at
noncomputable def cd138 : Code := match Try.f138.body with
  | some c => c
  | none => .skip
noncomputable def pl138 : Nat → Plan := fun _ => .fin
theorem fn138 : FnOK Try.prog 138 Try.f138 cd138 pl138 := ⟨Try.func138, rfl, by kernel_rfl, by kernel_rfl⟩
instance isf138 : IsFn Try.prog 138 := ⟨by kernel_rfl⟩
-- (*anchorhold/port.queue).len
noncomputable def cd155 : Code := match Try.f155.body with
  | some c => c
  | none => .skip
noncomputable def pl155 : Nat → Plan := fun _ => .fin
theorem fn155 : FnOK Try.prog 155 Try.f155 cd155 pl155 := ⟨Try.func155, rfl, by kernel_rfl, by kernel_rfl⟩
instance isf155 : IsFn Try.prog 155 := ⟨by kernel_rfl⟩
-- (*anchorhold/port.sample).len
noncomputable def cd157 : Code := match Try.f157.body with
  | some c => c
  | none => .skip
noncomputable def pl157 : Nat → Plan := fun _ => .fin
theorem fn157 : FnOK Try.prog 157 Try.f157 cd157 pl157 := ⟨Try.func157, rfl, by kernel_rfl, by kernel_rfl⟩
instance isf157 : IsFn Try.prog 157 := ⟨by kernel_rfl⟩
-- (*anchorhold/port.sample).put
noncomputable def cd158 : Code := match Try.f158.body with
  | some c => c
  | none => .skip
noncomputable def pl158 : Nat → Plan := fun _ => .fin
theorem fn158 : FnOK Try.prog 158 Try.f158 cd158 pl158 := ⟨Try.func158, rfl, by kernel_rfl, by kernel_rfl⟩
instance isf158 : IsFn Try.prog 158 := ⟨by kernel_rfl⟩
end Go.Proofs.Ytlmcoiloepoggaa
