/- Tables, printed by a program: each function with its plans; closed facts on types. -/
import Derived.Test.YtlhmbcmkpafjoaaProg
import Derived.Test.YtlhmbcmkpafjoaaWkF
import Derived.KernelRfl
namespace Go.Proofs.Ytlhmbcmkpafjoaa
open Go Go.Wk
-- anchorhold/anchorholdlaw04.RingSizes
noncomputable def cd4 : Code := match Try.f4.body with
  | some c => c
  | none => .skip
noncomputable def pl4 : Nat → Plan := fun _ => .fin
theorem fn4 : FnOK Try.prog 4 Try.f4 cd4 pl4 := ⟨Try.func4, rfl, by kernel_rfl, by kernel_rfl⟩
instance isf4 : IsFn Try.prog 4 := ⟨by kernel_rfl⟩
-- anchorhold/anchorholdlaw19.LinkIns
noncomputable def cd9 : Code := match Try.f9.body with
  | some c => c
  | none => .skip
noncomputable def pl9 : Nat → Plan
  | 8 => .st ⟨0, false, []⟩ (.st ⟨1, false, []⟩ (.st ⟨2, false, []⟩ (.st ⟨4, false, []⟩ (.st ⟨5, false, []⟩ (.st ⟨6, false, []⟩ (.st ⟨3, true, [4]⟩ (.st ⟨7, true, []⟩ (.st ⟨8, true, []⟩ (.st ⟨9, false, []⟩ (.st ⟨10, true, []⟩ (.st ⟨11, false, []⟩ (.st ⟨12, false, []⟩ (.fin)))))))))))))
  | _ => .fin
theorem fn9 : FnOK Try.prog 9 Try.f9 cd9 pl9 := ⟨Try.func9, rfl, by kernel_rfl, by kernel_rfl⟩
instance isf9 : IsFn Try.prog 9 := ⟨by kernel_rfl⟩
-- anchorhold/anchorholdlaw19.LinkPlays
noncomputable def cd10 : Code := match Try.f10.body with
  | some c => c
  | none => .skip
noncomputable def pl10 : Nat → Plan
  | 9 => .st ⟨0, false, []⟩ (.st ⟨1, false, []⟩ (.st ⟨2, false, []⟩ (.st ⟨3, false, []⟩ (.st ⟨4, false, []⟩ (.st ⟨5, false, []⟩ (.st ⟨6, false, []⟩ (.st ⟨7, true, []⟩ (.st ⟨8, false, []⟩ (.st ⟨9, false, []⟩ (.st ⟨10, false, []⟩ (.st ⟨11, false, []⟩ (.st ⟨12, true, []⟩ (.st ⟨13, false, []⟩ (.st ⟨14, false, []⟩ (.fin)))))))))))))))
  | _ => .fin
theorem fn10 : FnOK Try.prog 10 Try.f10 cd10 pl10 := ⟨Try.func10, rfl, by kernel_rfl, by kernel_rfl⟩
instance isf10 : IsFn Try.prog 10 := ⟨by kernel_rfl⟩
-- (*anchorhold/ring.Ring[int]).Len
noncomputable def cd14 : Code := match Try.f14.body with
  | some c => c
  | none => .skip
noncomputable def pl14 : Nat → Plan := fun _ => .fin
theorem fn14 : FnOK Try.prog 14 Try.f14 cd14 pl14 := ⟨Try.func14, rfl, by kernel_rfl, by kernel_rfl⟩
instance isf14 : IsFn Try.prog 14 := ⟨by kernel_rfl⟩
-- anchorhold/anchorholdref04.New
noncomputable def cd17 : Code := match Try.f17.body with
  | some c => c
  | none => .skip
noncomputable def pl17 : Nat → Plan := fun _ => .fin
theorem fn17 : FnOK Try.prog 17 Try.f17 cd17 pl17 := ⟨Try.func17, rfl, by kernel_rfl, by kernel_rfl⟩
instance isf17 : IsFn Try.prog 17 := ⟨by kernel_rfl⟩
-- (*anchorhold/ring.Ring[int]).At
noncomputable def cd20 : Code := match Try.f20.body with
  | some c => c
  | none => .skip
noncomputable def pl20 : Nat → Plan := fun _ => .fin
theorem fn20 : FnOK Try.prog 20 Try.f20 cd20 pl20 := ⟨Try.func20, rfl, by kernel_rfl, by kernel_rfl⟩
instance isf20 : IsFn Try.prog 20 := ⟨by kernel_rfl⟩
-- (*anchorhold/ring.Ring[int]).Clear
noncomputable def cd22 : Code := match Try.f22.body with
  | some c => c
  | none => .skip
noncomputable def pl22 : Nat → Plan := fun _ => .fin
theorem fn22 : FnOK Try.prog 22 Try.f22 cd22 pl22 := ⟨Try.func22, rfl, by kernel_rfl, by kernel_rfl⟩
instance isf22 : IsFn Try.prog 22 := ⟨by kernel_rfl⟩
-- anchorhold/anchorholdlaw19.done
noncomputable def cd26 : Code := match Try.f26.body with
  | some c => c
  | none => .skip
noncomputable def pl26 : Nat → Plan
  | 6 => .st ⟨0, false, []⟩ (.st ⟨1, false, []⟩ (.st ⟨2, false, []⟩ (.st ⟨3, false, []⟩ (.st ⟨4, false, []⟩ (.st ⟨5, false, []⟩ (.st ⟨7, false, []⟩ (.st ⟨8, false, []⟩ (.st ⟨9, false, []⟩ (.st ⟨10, false, []⟩ (.st ⟨11, false, []⟩ (.st ⟨12, false, []⟩ (.st ⟨6, true, [7, 8, 9, 10, 11]⟩ (.st ⟨13, true, []⟩ (.st ⟨14, true, []⟩ (.st ⟨15, false, []⟩ (.fin))))))))))))))))
  | 9 => .st ⟨0, false, []⟩ (.st ⟨1, false, []⟩ (.st ⟨2, false, []⟩ (.st ⟨4, false, []⟩ (.st ⟨5, false, []⟩ (.st ⟨6, false, []⟩ (.st ⟨3, true, [4, 5]⟩ (.st ⟨7, true, []⟩ (.st ⟨8, false, []⟩ (.st ⟨9, false, []⟩ (.fin))))))))))
  | 13 => .st ⟨0, false, []⟩ (.st ⟨1, false, []⟩ (.st ⟨2, false, []⟩ (.st ⟨3, false, []⟩ (.st ⟨4, false, []⟩ (.st ⟨5, false, []⟩ (.st ⟨6, false, []⟩ (.st ⟨7, false, []⟩ (.st ⟨8, false, []⟩ (.st ⟨10, false, []⟩ (.st ⟨11, false, []⟩ (.st ⟨12, false, []⟩ (.st ⟨13, false, []⟩ (.st ⟨14, false, []⟩ (.st ⟨15, false, []⟩ (.st ⟨16, false, []⟩ (.st ⟨17, false, []⟩ (.st ⟨18, false, []⟩ (.st ⟨9, true, [11, 12, 13, 14, 15, 16, 17, 18]⟩ (.st ⟨19, true, []⟩ (.st ⟨20, false, []⟩ (.st ⟨21, false, []⟩ (.fin))))))))))))))))))))))
  | 15 => .st ⟨0, false, []⟩ (.st ⟨1, false, []⟩ (.st ⟨2, false, []⟩ (.st ⟨3, false, []⟩ (.st ⟨4, false, []⟩ (.st ⟨5, false, []⟩ (.st ⟨6, false, []⟩ (.st ⟨7, false, []⟩ (.st ⟨8, false, []⟩ (.st ⟨10, false, []⟩ (.st ⟨11, false, []⟩ (.st ⟨12, false, []⟩ (.st ⟨13, false, []⟩ (.st ⟨14, false, []⟩ (.st ⟨15, false, []⟩ (.st ⟨16, false, []⟩ (.st ⟨17, false, []⟩ (.st ⟨18, false, []⟩ (.st ⟨9, true, [11, 12, 13, 14, 15, 16, 17, 18]⟩ (.st ⟨19, true, []⟩ (.st ⟨20, false, []⟩ (.st ⟨21, false, []⟩ (.fin))))))))))))))))))))))
  | 17 => .st ⟨0, false, []⟩ (.st ⟨1, false, []⟩ (.st ⟨2, false, []⟩ (.st ⟨3, false, []⟩ (.st ⟨4, false, []⟩ (.st ⟨5, false, []⟩ (.st ⟨6, false, []⟩ (.st ⟨7, true, []⟩ (.st ⟨8, false, []⟩ (.st ⟨9, false, []⟩ (.st ⟨10, false, []⟩ (.st ⟨11, false, []⟩ (.st ⟨12, false, []⟩ (.fin)))))))))))))
  | 18 => .st ⟨0, false, []⟩ (.st ⟨1, false, []⟩ (.st ⟨2, false, []⟩ (.st ⟨3, false, []⟩ (.st ⟨4, false, []⟩ (.st ⟨5, false, []⟩ (.st ⟨6, false, []⟩ (.st ⟨7, true, []⟩ (.st ⟨8, false, []⟩ (.st ⟨9, false, []⟩ (.st ⟨10, false, []⟩ (.st ⟨11, false, []⟩ (.st ⟨12, false, []⟩ (.fin)))))))))))))
  | 2 => .st ⟨0, false, []⟩ (.st ⟨1, false, []⟩ (.st ⟨2, false, []⟩ (.st ⟨3, false, []⟩ (.st ⟨4, false, []⟩ (.st ⟨5, false, []⟩ (.st ⟨6, false, []⟩ (.st ⟨7, true, []⟩ (.st ⟨8, false, []⟩ (.st ⟨9, false, []⟩ (.st ⟨10, false, []⟩ (.st ⟨11, false, []⟩ (.st ⟨12, false, []⟩ (.fin)))))))))))))
  | 3 => .st ⟨0, false, []⟩ (.st ⟨1, false, []⟩ (.st ⟨2, false, []⟩ (.st ⟨3, false, []⟩ (.st ⟨4, false, []⟩ (.st ⟨5, false, []⟩ (.st ⟨6, false, []⟩ (.st ⟨7, true, []⟩ (.st ⟨8, false, []⟩ (.st ⟨9, false, []⟩ (.st ⟨10, false, []⟩ (.st ⟨11, false, []⟩ (.st ⟨12, false, []⟩ (.fin)))))))))))))
  | _ => .fin
theorem fn26 : FnOK Try.prog 26 Try.f26 cd26 pl26 := ⟨Try.func26, rfl, by kernel_rfl, by kernel_rfl⟩
instance isf26 : IsFn Try.prog 26 := ⟨by kernel_rfl⟩
-- anchorhold/link.Deliver
noncomputable def cd46 : Code := match Try.f46.body with
  | some c => c
  | none => .skip
noncomputable def pl46 : Nat → Plan
  | 4 => .st ⟨0, false, []⟩ (.st ⟨1, false, []⟩ (.st ⟨2, false, []⟩ (.st ⟨3, false, []⟩ (.st ⟨4, false, []⟩ (.st ⟨5, false, []⟩ (.st ⟨6, false, []⟩ (.st ⟨7, false, []⟩ (.st ⟨8, false, []⟩ (.st ⟨9, false, []⟩ (.st ⟨10, false, []⟩ (.st ⟨11, true, []⟩ (.st ⟨12, false, []⟩ (.fin)))))))))))))
  | _ => .fin
theorem fn46 : FnOK Try.prog 46 Try.f46 cd46 pl46 := ⟨Try.func46, rfl, by kernel_rfl, by kernel_rfl⟩
instance isf46 : IsFn Try.prog 46 := ⟨by kernel_rfl⟩
-- (*anchorhold/anchorholdref18.Ports).Write
noncomputable def cd48 : Code := match Try.f48.body with
  | some c => c
  | none => .skip
noncomputable def pl48 : Nat → Plan := fun _ => .fin
theorem fn48 : FnOK Try.prog 48 Try.f48 cd48 pl48 := ⟨Try.func48, rfl, by kernel_rfl, by kernel_rfl⟩
instance isf48 : IsFn Try.prog 48 := ⟨by kernel_rfl⟩
-- (*anchorhold/anchorholdref18.Ports).Send
noncomputable def cd50 : Code := match Try.f50.body with
  | some c => c
  | none => .skip
noncomputable def pl50 : Nat → Plan := fun _ => .fin
theorem fn50 : FnOK Try.prog 50 Try.f50 cd50 pl50 := ⟨Try.func50, rfl, by kernel_rfl, by kernel_rfl⟩
instance isf50 : IsFn Try.prog 50 := ⟨by kernel_rfl⟩
-- (*anchorhold/anchorholdref18.Ports).Receive
noncomputable def cd52 : Code := match Try.f52.body with
  | some c => c
  | none => .skip
noncomputable def pl52 : Nat → Plan
  | 6 => .st ⟨0, false, []⟩ (.st ⟨1, false, []⟩ (.st ⟨3, false, []⟩ (.st ⟨4, false, []⟩ (.st ⟨5, false, []⟩ (.st ⟨6, false, []⟩ (.st ⟨7, false, []⟩ (.st ⟨8, false, []⟩ (.st ⟨9, false, []⟩ (.st ⟨10, false, []⟩ (.st ⟨12, false, []⟩ (.st ⟨13, false, []⟩ (.st ⟨14, false, []⟩ (.st ⟨15, false, []⟩ (.st ⟨16, false, []⟩ (.st ⟨17, false, []⟩ (.st ⟨18, false, []⟩ (.st ⟨2, true, [4, 5, 6, 8, 9, 10, 13, 14, 15, 17, 18]⟩ (.st ⟨11, true, [13, 14, 15, 17, 18]⟩ (.st ⟨19, true, []⟩ (.fin))))))))))))))))))))
  | _ => .fin
theorem fn52 : FnOK Try.prog 52 Try.f52 cd52 pl52 := ⟨Try.func52, rfl, by kernel_rfl, by kernel_rfl⟩
instance isf52 : IsFn Try.prog 52 := ⟨by kernel_rfl⟩
-- slices.Clone[[]byte,byte]
noncomputable def cd57 : Code := match Try.f57.body with
  | some c => c
  | none => .skip
noncomputable def pl57 : Nat → Plan := fun _ => .fin
theorem fn57 : FnOK Try.prog 57 Try.f57 cd57 pl57 := ⟨Try.func57, rfl, by kernel_rfl, by kernel_rfl⟩
instance isf57 : IsFn Try.prog 57 := ⟨by kernel_rfl⟩
-- anchorhold/anchorholdref18.Same
noncomputable def cd60 : Code := match Try.f60.body with
  | some c => c
  | none => .skip
noncomputable def pl60 : Nat → Plan
  | 6 => .st ⟨0, false, []⟩ (.st ⟨1, false, []⟩ (.st ⟨2, false, []⟩ (.st ⟨3, false, []⟩ (.st ⟨4, false, []⟩ (.st ⟨5, false, []⟩ (.st ⟨6, false, []⟩ (.st ⟨7, false, []⟩ (.st ⟨8, false, []⟩ (.st ⟨9, false, []⟩ (.st ⟨10, false, []⟩ (.fin)))))))))))
  | _ => .fin
theorem fn60 : FnOK Try.prog 60 Try.f60 cd60 pl60 := ⟨Try.func60, rfl, by kernel_rfl, by kernel_rfl⟩
instance isf60 : IsFn Try.prog 60 := ⟨by kernel_rfl⟩
-- (*anchorhold/port.Ports).Lost
noncomputable def cd64 : Code := match Try.f64.body with
  | some c => c
  | none => .skip
noncomputable def pl64 : Nat → Plan := fun _ => .fin
theorem fn64 : FnOK Try.prog 64 Try.f64 cd64 pl64 := ⟨Try.func64, rfl, by kernel_rfl, by kernel_rfl⟩
instance isf64 : IsFn Try.prog 64 := ⟨by kernel_rfl⟩
-- (*anchorhold/anchorholdref18.Ports).Drain
noncomputable def cd67 : Code := match Try.f67.body with
  | some c => c
  | none => .skip
noncomputable def pl67 : Nat → Plan
  | 6 => .st ⟨0, false, []⟩ (.st ⟨1, false, []⟩ (.st ⟨2, false, []⟩ (.st ⟨3, false, []⟩ (.st ⟨4, false, []⟩ (.st ⟨5, false, []⟩ (.st ⟨6, false, []⟩ (.st ⟨7, false, []⟩ (.st ⟨8, false, []⟩ (.st ⟨9, false, []⟩ (.st ⟨10, false, []⟩ (.st ⟨11, false, []⟩ (.st ⟨12, false, []⟩ (.st ⟨13, false, []⟩ (.st ⟨14, false, []⟩ (.st ⟨15, false, []⟩ (.st ⟨16, true, []⟩ (.fin)))))))))))))))))
  | _ => .fin
theorem fn67 : FnOK Try.prog 67 Try.f67 cd67 pl67 := ⟨Try.func67, rfl, by kernel_rfl, by kernel_rfl⟩
instance isf67 : IsFn Try.prog 67 := ⟨by kernel_rfl⟩
-- (*anchorhold/anchorholdref18.Ports).Can
noncomputable def cd71 : Code := match Try.f71.body with
  | some c => c
  | none => .skip
noncomputable def pl71 : Nat → Plan := fun _ => .fin
theorem fn71 : FnOK Try.prog 71 Try.f71 cd71 pl71 := ⟨Try.func71, rfl, by kernel_rfl, by kernel_rfl⟩
instance isf71 : IsFn Try.prog 71 := ⟨by kernel_rfl⟩
-- (*anchorhold/anchorholdref18.Ports).set
noncomputable def cd72 : Code := match Try.f72.body with
  | some c => c
  | none => .skip
noncomputable def pl72 : Nat → Plan := fun _ => .fin
theorem fn72 : FnOK Try.prog 72 Try.f72 cd72 pl72 := ⟨Try.func72, rfl, by kernel_rfl, by kernel_rfl⟩
instance isf72 : IsFn Try.prog 72 := ⟨by kernel_rfl⟩
-- (*anchorhold/port.Ports).Drain
noncomputable def cd73 : Code := match Try.f73.body with
  | some c => c
  | none => .skip
noncomputable def pl73 : Nat → Plan := fun _ => .fin
theorem fn73 : FnOK Try.prog 73 Try.f73 cd73 pl73 := ⟨Try.func73, rfl, by kernel_rfl, by kernel_rfl⟩
instance isf73 : IsFn Try.prog 73 := ⟨by kernel_rfl⟩
-- (*anchorhold/ring.Ring[anchorhold/api.Message]).dead
noncomputable def cd74 : Code := match Try.f74.body with
  | some c => c
  | none => .skip
noncomputable def pl74 : Nat → Plan := fun _ => .fin
theorem fn74 : FnOK Try.prog 74 Try.f74 cd74 pl74 := ⟨Try.func74, rfl, by kernel_rfl, by kernel_rfl⟩
instance isf74 : IsFn Try.prog 74 := ⟨by kernel_rfl⟩
-- (*anchorhold/port.Ports).find
noncomputable def cd75 : Code := match Try.f75.body with
  | some c => c
  | none => .skip
noncomputable def pl75 : Nat → Plan := fun _ => .fin
theorem fn75 : FnOK Try.prog 75 Try.f75 cd75 pl75 := ⟨Try.func75, rfl, by kernel_rfl, by kernel_rfl⟩
instance isf75 : IsFn Try.prog 75 := ⟨by kernel_rfl⟩
-- (*anchorhold/port.queue).take
noncomputable def cd78 : Code := match Try.f78.body with
  | some c => c
  | none => .skip
noncomputable def pl78 : Nat → Plan := fun _ => .fin
theorem fn78 : FnOK Try.prog 78 Try.f78 cd78 pl78 := ⟨Try.func78, rfl, by kernel_rfl, by kernel_rfl⟩
instance isf78 : IsFn Try.prog 78 := ⟨by kernel_rfl⟩
-- (*anchorhold/port.queue).len
noncomputable def cd101 : Code := match Try.f101.body with
  | some c => c
  | none => .skip
noncomputable def pl101 : Nat → Plan := fun _ => .fin
theorem fn101 : FnOK Try.prog 101 Try.f101 cd101 pl101 := ⟨Try.func101, rfl, by kernel_rfl, by kernel_rfl⟩
instance isf101 : IsFn Try.prog 101 := ⟨by kernel_rfl⟩
-- (*anchorhold/port.sample).put
noncomputable def cd104 : Code := match Try.f104.body with
  | some c => c
  | none => .skip
noncomputable def pl104 : Nat → Plan := fun _ => .fin
theorem fn104 : FnOK Try.prog 104 Try.f104 cd104 pl104 := ⟨Try.func104, rfl, by kernel_rfl, by kernel_rfl⟩
instance isf104 : IsFn Try.prog 104 := ⟨by kernel_rfl⟩
end Go.Proofs.Ytlhmbcmkpafjoaa
