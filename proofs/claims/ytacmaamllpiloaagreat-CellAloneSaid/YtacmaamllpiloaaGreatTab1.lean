import Derived.Test.YtacmaamllpiloaaGreatProg
import Derived.Test.YtacmaamllpiloaaGreatZ02
import Derived.KernelRfl
namespace Go.Proofs.YtacmaamllpiloaaGreat
open Go Go.Wk
noncomputable def cd4 : Code := match Tryz.f4.body with
 | some c => c
 | none => .skip
instance isf4 : IsFn Tryz.prog 4 := ⟨by kernel_rfl⟩
noncomputable def cd13 : Code := match Tryz.f13.body with
 | some c => c
 | none => .skip
noncomputable def pl13 : Nat → Plan := fun _ => .fin
theorem fn13 : FnOK Tryz.prog 13 Tryz.f13 cd13 pl13 := ⟨Tryz.func13, rfl, by kernel_rfl, by kernel_rfl⟩
instance isf13 : IsFn Tryz.prog 13 := ⟨by kernel_rfl⟩
noncomputable def cd17 : Code := match Tryz.f17.body with
 | some c => c
 | none => .skip
noncomputable def pl17 : Nat → Plan := fun _ => .fin
theorem fn17 : FnOK Tryz.prog 17 Tryz.f17 cd17 pl17 := ⟨Tryz.func17, rfl, by kernel_rfl, by kernel_rfl⟩
instance isf17 : IsFn Tryz.prog 17 := ⟨by kernel_rfl⟩
noncomputable def cd21 : Code := match Tryz.f21.body with
 | some c => c
 | none => .skip
noncomputable def pl21 : Nat → Plan
 | 4 => .st ⟨0, false, []⟩ (.st ⟨2, false, []⟩ (.st ⟨3, false, []⟩ (.st ⟨4, false, []⟩ (.st ⟨5, false, []⟩ (.st ⟨6, false, []⟩ (.st ⟨7, false, []⟩ (.st ⟨8, false, []⟩ (.st ⟨1, true, [2, 3, 4, 5, 7, 8]⟩ (.st ⟨9, true, []⟩ (.fin))))))))))
 | 5 => .st ⟨0, false, []⟩ (.st ⟨1, false, []⟩ (.st ⟨2, false, []⟩ (.st ⟨3, false, []⟩ (.st ⟨4, false, []⟩ (.st ⟨5, false, []⟩ (.st ⟨6, false, []⟩ (.st ⟨7, false, []⟩ (.st ⟨8, false, []⟩ (.st ⟨9, false, []⟩ (.st ⟨10, false, []⟩ (.st ⟨11, true, []⟩ (.fin))))))))))))
 | _ => .fin
theorem fn21 : FnOK Tryz.prog 21 Tryz.f21 cd21 pl21 := ⟨Tryz.func21, rfl, by kernel_rfl, by kernel_rfl⟩
instance isf21 : IsFn Tryz.prog 21 := ⟨by kernel_rfl⟩
noncomputable def cd38 : Code := match Tryz.f38.body with
 | some c => c
 | none => .skip
noncomputable def pl38 : Nat → Plan := fun _ => .fin
theorem fn38 : FnOK Tryz.prog 38 Tryz.f38 cd38 pl38 := ⟨Tryz.func38, rfl, by kernel_rfl, by kernel_rfl⟩
instance isf38 : IsFn Tryz.prog 38 := ⟨by kernel_rfl⟩
noncomputable def cd40 : Code := match Tryz.f40.body with
 | some c => c
 | none => .skip
noncomputable def pl40 : Nat → Plan := fun _ => .fin
theorem fn40 : FnOK Tryz.prog 40 Tryz.f40 cd40 pl40 := ⟨Tryz.func40, rfl, by kernel_rfl, by kernel_rfl⟩
instance isf40 : IsFn Tryz.prog 40 := ⟨by kernel_rfl⟩
noncomputable def cd45 : Code := match Tryz.f45.body with
 | some c => c
 | none => .skip
noncomputable def pl45 : Nat → Plan := fun _ => .fin
theorem fn45 : FnOK Tryz.prog 45 Tryz.f45 cd45 pl45 := ⟨Tryz.func45, rfl, by kernel_rfl, by kernel_rfl⟩
instance isf45 : IsFn Tryz.prog 45 := ⟨by kernel_rfl⟩
noncomputable def cd47 : Code := match Tryz.f47.body with
 | some c => c
 | none => .skip
noncomputable def pl47 : Nat → Plan := fun _ => .fin
theorem fn47 : FnOK Tryz.prog 47 Tryz.f47 cd47 pl47 := ⟨Tryz.func47, rfl, by kernel_rfl, by kernel_rfl⟩
instance isf47 : IsFn Tryz.prog 47 := ⟨by kernel_rfl⟩
noncomputable def cd50 : Code := match Tryz.f50.body with
 | some c => c
 | none => .skip
noncomputable def pl50 : Nat → Plan := fun _ => .fin
theorem fn50 : FnOK Tryz.prog 50 Tryz.f50 cd50 pl50 := ⟨Tryz.func50, rfl, by kernel_rfl, by kernel_rfl⟩
instance isf50 : IsFn Tryz.prog 50 := ⟨by kernel_rfl⟩
noncomputable def cd54 : Code := match Tryz.f54.body with
 | some c => c
 | none => .skip
noncomputable def pl54 : Nat → Plan := fun _ => .fin
theorem fn54 : FnOK Tryz.prog 54 Tryz.f54 cd54 pl54 := ⟨Tryz.func54, rfl, by kernel_rfl, by kernel_rfl⟩
instance isf54 : IsFn Tryz.prog 54 := ⟨by kernel_rfl⟩
noncomputable def cd56 : Code := match Tryz.f56.body with
 | some c => c
 | none => .skip
noncomputable def pl56 : Nat → Plan := fun _ => .fin
theorem fn56 : FnOK Tryz.prog 56 Tryz.f56 cd56 pl56 := ⟨Tryz.func56, rfl, by kernel_rfl, by kernel_rfl⟩
instance isf56 : IsFn Tryz.prog 56 := ⟨by kernel_rfl⟩
noncomputable def cd60 : Code := match Tryz.f60.body with
 | some c => c
 | none => .skip
noncomputable def pl60 : Nat → Plan
 | 5 => .st ⟨0, false, []⟩ (.st ⟨1, false, []⟩ (.st ⟨2, false, []⟩ (.st ⟨3, false, []⟩ (.st ⟨4, false, []⟩ (.st ⟨5, false, []⟩ (.st ⟨6, false, []⟩ (.st ⟨7, false, []⟩ (.st ⟨8, false, []⟩ (.st ⟨9, false, []⟩ (.st ⟨10, false, []⟩ (.st ⟨11, false, []⟩ (.st ⟨12, false, []⟩ (.st ⟨13, false, []⟩ (.st ⟨14, false, []⟩ (.st ⟨15, true, [2, 3, 4]⟩ (.st ⟨16, true, []⟩ (.st ⟨17, false, []⟩ (.st ⟨18, false, []⟩ (.st ⟨19, true, []⟩ (.fin))))))))))))))))))))
 | _ => .fin
theorem fn60 : FnOK Tryz.prog 60 Tryz.f60 cd60 pl60 := ⟨Tryz.func60, rfl, by kernel_rfl, by kernel_rfl⟩
instance isf60 : IsFn Tryz.prog 60 := ⟨by kernel_rfl⟩
noncomputable def cd64 : Code := match Tryz.f64.body with
 | some c => c
 | none => .skip
noncomputable def pl64 : Nat → Plan := fun _ => .fin
theorem fn64 : FnOK Tryz.prog 64 Tryz.f64 cd64 pl64 := ⟨Tryz.func64, rfl, by kernel_rfl, by kernel_rfl⟩
instance isf64 : IsFn Tryz.prog 64 := ⟨by kernel_rfl⟩
noncomputable def cd67 : Code := match Tryz.f67.body with
 | some c => c
 | none => .skip
noncomputable def pl67 : Nat → Plan := fun _ => .fin
theorem fn67 : FnOK Tryz.prog 67 Tryz.f67 cd67 pl67 := ⟨Tryz.func67, rfl, by kernel_rfl, by kernel_rfl⟩
instance isf67 : IsFn Tryz.prog 67 := ⟨by kernel_rfl⟩
noncomputable def pl71 : Nat → Plan
 | 0 => .st ⟨0, false, []⟩ (.st ⟨1, false, []⟩ (.st ⟨2, false, []⟩ (.st ⟨3, false, []⟩ (.st ⟨4, false, []⟩ (.st ⟨5, false, []⟩ (.st ⟨6, false, []⟩ (.st ⟨7, false, []⟩ (.st ⟨8, false, []⟩ (.st ⟨9, false, []⟩ (.st ⟨10, false, []⟩ (.st ⟨11, false, []⟩ (.st ⟨12, false, []⟩ (.st ⟨13, false, []⟩ (.st ⟨14, false, []⟩ (.st ⟨15, false, []⟩ (.st ⟨16, false, []⟩ (.st ⟨17, false, []⟩ (.st ⟨18, true, [2, 3, 4]⟩ (.st ⟨19, true, []⟩ (.st ⟨20, false, []⟩ (.st ⟨21, false, []⟩ (.st ⟨22, true, []⟩ (.fin)))))))))))))))))))))))
 | _ => .fin
noncomputable def cd84 : Code := match Tryz.f84.body with
 | some c => c
 | none => .skip
noncomputable def pl84 : Nat → Plan := fun _ => .fin
theorem fn84 : FnOK Tryz.prog 84 Tryz.f84 cd84 pl84 := ⟨Tryz.func84, rfl, by kernel_rfl, by kernel_rfl⟩
instance isf84 : IsFn Tryz.prog 84 := ⟨by kernel_rfl⟩
noncomputable def cd87 : Code := match Tryz.f87.body with
 | some c => c
 | none => .skip
noncomputable def pl87 : Nat → Plan := fun _ => .fin
theorem fn87 : FnOK Tryz.prog 87 Tryz.f87 cd87 pl87 := ⟨Tryz.func87, rfl, by kernel_rfl, by kernel_rfl⟩
instance isf87 : IsFn Tryz.prog 87 := ⟨by kernel_rfl⟩
noncomputable def cd90 : Code := match Tryz.f90.body with
 | some c => c
 | none => .skip
noncomputable def pl90 : Nat → Plan
 | 0 => .st ⟨0, false, []⟩ (.st ⟨1, false, []⟩ (.st ⟨2, false, []⟩ (.st ⟨3, false, []⟩ (.st ⟨4, false, []⟩ (.st ⟨5, false, []⟩ (.st ⟨6, false, []⟩ (.st ⟨7, false, []⟩ (.st ⟨8, false, []⟩ (.st ⟨9, false, []⟩ (.st ⟨10, false, []⟩ (.st ⟨11, false, []⟩ (.st ⟨12, false, []⟩ (.st ⟨13, false, []⟩ (.st ⟨14, false, []⟩ (.st ⟨15, false, []⟩ (.st ⟨16, false, []⟩ (.st ⟨17, false, []⟩ (.st ⟨18, true, [2, 3, 4]⟩ (.st ⟨19, true, []⟩ (.st ⟨20, false, []⟩ (.st ⟨21, false, []⟩ (.st ⟨22, true, []⟩ (.fin)))))))))))))))))))))))
 | _ => .fin
theorem fn90 : FnOK Tryz.prog 90 Tryz.f90 cd90 pl90 := ⟨Tryz.func90, rfl, by kernel_rfl, by kernel_rfl⟩
instance isf90 : IsFn Tryz.prog 90 := ⟨by kernel_rfl⟩
noncomputable def cd96 : Code := match Tryz.f96.body with
 | some c => c
 | none => .skip
noncomputable def pl96 : Nat → Plan
 | 0 => .st ⟨0, false, []⟩ (.st ⟨1, false, []⟩ (.st ⟨2, false, []⟩ (.st ⟨3, false, []⟩ (.st ⟨4, false, []⟩ (.st ⟨5, false, []⟩ (.st ⟨6, false, []⟩ (.st ⟨7, false, []⟩ (.st ⟨8, false, []⟩ (.st ⟨9, false, []⟩ (.st ⟨10, false, []⟩ (.st ⟨11, false, []⟩ (.st ⟨12, false, []⟩ (.st ⟨13, false, []⟩ (.st ⟨14, false, []⟩ (.st ⟨15, true, []⟩ (.fin))))))))))))))))
 | _ => .fin
theorem fn96 : FnOK Tryz.prog 96 Tryz.f96 cd96 pl96 := ⟨Tryz.func96, rfl, by kernel_rfl, by kernel_rfl⟩
instance isf96 : IsFn Tryz.prog 96 := ⟨by kernel_rfl⟩
noncomputable def cd100 : Code := match Tryz.f100.body with
 | some c => c
 | none => .skip
noncomputable def pl100 : Nat → Plan := fun _ => .fin
theorem fn100 : FnOK Tryz.prog 100 Tryz.f100 cd100 pl100 := ⟨Tryz.func100, rfl, by kernel_rfl, by kernel_rfl⟩
instance isf100 : IsFn Tryz.prog 100 := ⟨by kernel_rfl⟩
noncomputable def cd103 : Code := match Tryz.f103.body with
 | some c => c
 | none => .skip
noncomputable def pl103 : Nat → Plan := fun _ => .fin
theorem fn103 : FnOK Tryz.prog 103 Tryz.f103 cd103 pl103 := ⟨Tryz.func103, rfl, by kernel_rfl, by kernel_rfl⟩
instance isf103 : IsFn Tryz.prog 103 := ⟨by kernel_rfl⟩
noncomputable def cd106 : Code := match Tryz.f106.body with
 | some c => c
 | none => .skip
noncomputable def pl106 : Nat → Plan
 | 3 => .st ⟨0, false, []⟩ (.st ⟨1, false, []⟩ (.st ⟨2, false, []⟩ (.st ⟨3, false, []⟩ (.st ⟨4, false, []⟩ (.st ⟨5, false, []⟩ (.st ⟨6, true, []⟩ (.st ⟨7, false, []⟩ (.fin))))))))
 | 4 => .st ⟨0, false, []⟩ (.st ⟨1, false, []⟩ (.st ⟨2, false, []⟩ (.st ⟨3, false, []⟩ (.st ⟨4, false, []⟩ (.st ⟨5, false, []⟩ (.st ⟨6, false, []⟩ (.st ⟨7, false, []⟩ (.st ⟨8, true, []⟩ (.st ⟨9, false, []⟩ (.fin))))))))))
 | 8 => .st ⟨0, false, []⟩ (.st ⟨1, false, []⟩ (.st ⟨2, false, []⟩ (.st ⟨3, false, []⟩ (.st ⟨4, false, []⟩ (.st ⟨5, false, []⟩ (.st ⟨6, true, []⟩ (.st ⟨7, false, []⟩ (.st ⟨8, false, []⟩ (.st ⟨9, false, []⟩ (.st ⟨10, false, []⟩ (.st ⟨11, false, []⟩ (.fin))))))))))))
 | 10 => .st ⟨0, false, []⟩ (.st ⟨1, false, []⟩ (.st ⟨2, false, []⟩ (.st ⟨3, false, []⟩ (.st ⟨4, false, []⟩ (.st ⟨5, false, []⟩ (.st ⟨6, true, []⟩ (.st ⟨7, false, []⟩ (.st ⟨8, false, []⟩ (.st ⟨9, false, []⟩ (.st ⟨10, false, []⟩ (.st ⟨11, false, []⟩ (.fin))))))))))))
 | 16 => .st ⟨0, false, []⟩ (.st ⟨1, false, []⟩ (.st ⟨2, false, []⟩ (.st ⟨3, false, []⟩ (.st ⟨4, false, []⟩ (.st ⟨5, false, []⟩ (.st ⟨6, false, []⟩ (.st ⟨7, false, []⟩ (.st ⟨8, false, []⟩ (.st ⟨9, false, []⟩ (.st ⟨10, true, [2]⟩ (.st ⟨11, true, []⟩ (.fin))))))))))))
 | 17 => .st ⟨0, false, []⟩ (.st ⟨1, false, []⟩ (.st ⟨2, false, []⟩ (.st ⟨3, false, []⟩ (.st ⟨4, false, []⟩ (.st ⟨5, false, []⟩ (.st ⟨6, false, []⟩ (.st ⟨7, true, []⟩ (.st ⟨8, false, []⟩ (.st ⟨9, false, []⟩ (.fin))))))))))
 | _ => .fin
theorem fn106 : FnOK Tryz.prog 106 Tryz.f106 cd106 pl106 := ⟨Tryz.func106, rfl, by kernel_rfl, by kernel_rfl⟩
instance isf106 : IsFn Tryz.prog 106 := ⟨by kernel_rfl⟩
noncomputable def cd109 : Code := match Tryz.f109.body with
 | some c => c
 | none => .skip
noncomputable def pl109 : Nat → Plan
 | 2 => .st ⟨0, false, []⟩ (.st ⟨1, false, []⟩ (.st ⟨2, false, []⟩ (.st ⟨3, false, []⟩ (.st ⟨4, false, []⟩ (.st ⟨5, false, []⟩ (.st ⟨6, false, []⟩ (.st ⟨7, false, []⟩ (.st ⟨8, false, []⟩ (.st ⟨9, true, []⟩ (.st ⟨10, false, []⟩ (.fin)))))))))))
 | 4 => .st ⟨0, false, []⟩ (.st ⟨1, false, []⟩ (.st ⟨2, false, []⟩ (.st ⟨3, false, []⟩ (.st ⟨4, false, []⟩ (.st ⟨5, false, []⟩ (.st ⟨6, true, []⟩ (.st ⟨7, false, []⟩ (.fin))))))))
 | 14 => .st ⟨0, false, []⟩ (.st ⟨1, false, []⟩ (.st ⟨2, false, []⟩ (.st ⟨3, false, []⟩ (.st ⟨4, false, []⟩ (.st ⟨5, false, []⟩ (.st ⟨6, false, []⟩ (.st ⟨7, false, []⟩ (.st ⟨8, false, []⟩ (.st ⟨9, true, [2]⟩ (.st ⟨10, true, []⟩ (.fin)))))))))))
 | 17 => .st ⟨0, false, []⟩ (.st ⟨1, false, []⟩ (.st ⟨2, false, []⟩ (.st ⟨3, false, []⟩ (.st ⟨4, false, []⟩ (.st ⟨5, false, []⟩ (.st ⟨6, true, []⟩ (.st ⟨7, false, []⟩ (.st ⟨8, false, []⟩ (.st ⟨9, false, []⟩ (.st ⟨10, false, []⟩ (.st ⟨11, false, []⟩ (.fin))))))))))))
 | 8 => .st ⟨0, false, []⟩ (.st ⟨1, false, []⟩ (.st ⟨2, false, []⟩ (.st ⟨3, false, []⟩ (.st ⟨4, false, []⟩ (.st ⟨5, false, []⟩ (.st ⟨6, false, []⟩ (.st ⟨7, false, []⟩ (.st ⟨8, false, []⟩ (.st ⟨9, false, []⟩ (.st ⟨10, true, [2]⟩ (.st ⟨11, true, []⟩ (.fin))))))))))))
 | 9 => .st ⟨0, false, []⟩ (.st ⟨1, false, []⟩ (.st ⟨2, false, []⟩ (.st ⟨3, false, []⟩ (.st ⟨4, false, []⟩ (.st ⟨5, false, []⟩ (.st ⟨6, true, []⟩ (.st ⟨7, false, []⟩ (.fin))))))))
 | 11 => .st ⟨0, false, []⟩ (.st ⟨1, false, []⟩ (.st ⟨2, false, []⟩ (.st ⟨3, false, []⟩ (.st ⟨4, false, []⟩ (.st ⟨5, false, []⟩ (.st ⟨6, true, []⟩ (.st ⟨7, false, []⟩ (.fin))))))))
 | _ => .fin
theorem fn109 : FnOK Tryz.prog 109 Tryz.f109 cd109 pl109 := ⟨Tryz.func109, rfl, by kernel_rfl, by kernel_rfl⟩
instance isf109 : IsFn Tryz.prog 109 := ⟨by kernel_rfl⟩
noncomputable def cd120 : Code := match Tryz.f120.body with
 | some c => c
 | none => .skip
noncomputable def pl120 : Nat → Plan := fun _ => .fin
theorem fn120 : FnOK Tryz.prog 120 Tryz.f120 cd120 pl120 := ⟨Tryz.func120, rfl, by kernel_rfl, by kernel_rfl⟩
instance isf120 : IsFn Tryz.prog 120 := ⟨by kernel_rfl⟩
noncomputable def pl128 : Nat → Plan
 | 6 => .st ⟨0, false, []⟩ (.st ⟨1, false, []⟩ (.st ⟨2, false, []⟩ (.st ⟨3, false, []⟩ (.st ⟨4, false, []⟩ (.st ⟨5, false, []⟩ (.st ⟨6, false, []⟩ (.st ⟨7, false, []⟩ (.st ⟨8, false, []⟩ (.st ⟨9, false, []⟩ (.st ⟨10, false, []⟩ (.st ⟨11, false, []⟩ (.st ⟨12, false, []⟩ (.st ⟨13, false, []⟩ (.st ⟨14, false, []⟩ (.st ⟨15, false, []⟩ (.st ⟨16, false, []⟩ (.st ⟨17, false, []⟩ (.st ⟨18, false, []⟩ (.st ⟨19, false, []⟩ (.st ⟨20, false, []⟩ (.st ⟨21, false, []⟩ (.st ⟨22, false, []⟩ (.st ⟨23, false, []⟩ (.st ⟨24, false, []⟩ (.st ⟨25, false, []⟩ (.st ⟨26, false, []⟩ (.st ⟨27, true, []⟩ (.st ⟨28, false, []⟩ (.st ⟨29, false, []⟩ (.fin))))))))))))))))))))))))))))))
 | _ => .fin
noncomputable def pl135 : Nat → Plan
 | 7 => .st ⟨0, false, []⟩ (.st ⟨1, false, []⟩ (.st ⟨2, false, []⟩ (.st ⟨3, false, []⟩ (.st ⟨4, false, []⟩ (.st ⟨5, false, []⟩ (.st ⟨6, false, []⟩ (.st ⟨7, false, []⟩ (.st ⟨8, false, []⟩ (.st ⟨9, false, []⟩ (.st ⟨10, false, []⟩ (.st ⟨11, false, []⟩ (.st ⟨12, true, []⟩ (.fin)))))))))))))
 | _ => .fin
noncomputable def cd142 : Code := match Tryz.f142.body with
 | some c => c
 | none => .skip
noncomputable def pl142 : Nat → Plan
 | 7 => .st ⟨0, false, []⟩ (.st ⟨1, false, []⟩ (.st ⟨2, false, []⟩ (.st ⟨3, false, []⟩ (.st ⟨4, false, []⟩ (.st ⟨5, false, []⟩ (.st ⟨6, true, []⟩ (.fin)))))))
 | _ => .fin
theorem fn142 : FnOK Tryz.prog 142 Tryz.f142 cd142 pl142 := ⟨Tryz.func142, rfl, by kernel_rfl, by kernel_rfl⟩
instance isf142 : IsFn Tryz.prog 142 := ⟨by kernel_rfl⟩
noncomputable def cd144 : Code := match Tryz.f144.body with
 | some c => c
 | none => .skip
noncomputable def pl144 : Nat → Plan := fun _ => .fin
theorem fn144 : FnOK Tryz.prog 144 Tryz.f144 cd144 pl144 := ⟨Tryz.func144, rfl, by kernel_rfl, by kernel_rfl⟩
instance isf144 : IsFn Tryz.prog 144 := ⟨by kernel_rfl⟩
noncomputable def cd147 : Code := match Tryz.f147.body with
 | some c => c
 | none => .skip
noncomputable def pl147 : Nat → Plan
 | 6 => .st ⟨0, false, []⟩ (.st ⟨1, false, []⟩ (.st ⟨2, false, []⟩ (.st ⟨3, false, []⟩ (.st ⟨4, false, []⟩ (.st ⟨5, false, []⟩ (.st ⟨6, false, []⟩ (.st ⟨7, true, []⟩ (.st ⟨8, false, []⟩ (.st ⟨9, false, []⟩ (.st ⟨10, false, []⟩ (.st ⟨11, false, []⟩ (.st ⟨12, false, []⟩ (.st ⟨13, false, []⟩ (.st ⟨14, false, []⟩ (.st ⟨15, false, []⟩ (.st ⟨16, false, []⟩ (.st ⟨17, false, []⟩ (.st ⟨18, false, []⟩ (.st ⟨19, false, []⟩ (.st ⟨20, false, []⟩ (.st ⟨21, false, []⟩ (.st ⟨22, false, []⟩ (.st ⟨23, false, []⟩ (.st ⟨24, false, []⟩ (.st ⟨25, true, []⟩ (.st ⟨26, false, []⟩ (.st ⟨27, false, []⟩ (.fin))))))))))))))))))))))))))))
 | _ => .fin
theorem fn147 : FnOK Tryz.prog 147 Tryz.f147 cd147 pl147 := ⟨Tryz.func147, rfl, by kernel_rfl, by kernel_rfl⟩
instance isf147 : IsFn Tryz.prog 147 := ⟨by kernel_rfl⟩
noncomputable def cd155 : Code := match Tryz.f155.body with
 | some c => c
 | none => .skip
noncomputable def pl155 : Nat → Plan := fun _ => .fin
theorem fn155 : FnOK Tryz.prog 155 Tryz.f155 cd155 pl155 := ⟨Tryz.func155, rfl, by kernel_rfl, by kernel_rfl⟩
instance isf155 : IsFn Tryz.prog 155 := ⟨by kernel_rfl⟩
noncomputable def cd158 : Code := match Tryz.f158.body with
 | some c => c
 | none => .skip
noncomputable def pl158 : Nat → Plan := fun _ => .fin
theorem fn158 : FnOK Tryz.prog 158 Tryz.f158 cd158 pl158 := ⟨Tryz.func158, rfl, by kernel_rfl, by kernel_rfl⟩
instance isf158 : IsFn Tryz.prog 158 := ⟨by kernel_rfl⟩
noncomputable def cd161 : Code := match Tryz.f161.body with
 | some c => c
 | none => .skip
noncomputable def pl161 : Nat → Plan
 | 5 => .st ⟨0, false, []⟩ (.st ⟨1, false, []⟩ (.st ⟨2, false, []⟩ (.st ⟨3, false, []⟩ (.st ⟨4, false, []⟩ (.st ⟨5, false, []⟩ (.st ⟨6, true, []⟩ (.fin)))))))
 | _ => .fin
theorem fn161 : FnOK Tryz.prog 161 Tryz.f161 cd161 pl161 := ⟨Tryz.func161, rfl, by kernel_rfl, by kernel_rfl⟩
instance isf161 : IsFn Tryz.prog 161 := ⟨by kernel_rfl⟩
noncomputable def cd167 : Code := match Tryz.f167.body with
 | some c => c
 | none => .skip
noncomputable def pl167 : Nat → Plan
 | 4 => .st ⟨0, false, []⟩ (.st ⟨1, false, []⟩ (.st ⟨2, false, []⟩ (.st ⟨3, false, []⟩ (.st ⟨4, false, []⟩ (.st ⟨5, false, []⟩ (.st ⟨6, false, []⟩ (.st ⟨7, false, []⟩ (.st ⟨8, true, []⟩ (.st ⟨9, false, []⟩ (.st ⟨10, false, []⟩ (.st ⟨11, false, []⟩ (.st ⟨12, false, []⟩ (.st ⟨13, false, []⟩ (.fin))))))))))))))
 | _ => .fin
theorem fn167 : FnOK Tryz.prog 167 Tryz.f167 cd167 pl167 := ⟨Tryz.func167, rfl, by kernel_rfl, by kernel_rfl⟩
instance isf167 : IsFn Tryz.prog 167 := ⟨by kernel_rfl⟩
noncomputable def cd172 : Code := match Tryz.f172.body with
 | some c => c
 | none => .skip
noncomputable def pl172 : Nat → Plan := fun _ => .fin
theorem fn172 : FnOK Tryz.prog 172 Tryz.f172 cd172 pl172 := ⟨Tryz.func172, rfl, by kernel_rfl, by kernel_rfl⟩
instance isf172 : IsFn Tryz.prog 172 := ⟨by kernel_rfl⟩
noncomputable def cd175 : Code := match Tryz.f175.body with
 | some c => c
 | none => .skip
noncomputable def pl175 : Nat → Plan := fun _ => .fin
theorem fn175 : FnOK Tryz.prog 175 Tryz.f175 cd175 pl175 := ⟨Tryz.func175, rfl, by kernel_rfl, by kernel_rfl⟩
instance isf175 : IsFn Tryz.prog 175 := ⟨by kernel_rfl⟩
noncomputable def cd177 : Code := match Tryz.f177.body with
 | some c => c
 | none => .skip
noncomputable def pl177 : Nat → Plan := fun _ => .fin
theorem fn177 : FnOK Tryz.prog 177 Tryz.f177 cd177 pl177 := ⟨Tryz.func177, rfl, by kernel_rfl, by kernel_rfl⟩
instance isf177 : IsFn Tryz.prog 177 := ⟨by kernel_rfl⟩
noncomputable def cd181 : Code := match Tryz.f181.body with
 | some c => c
 | none => .skip
noncomputable def pl181 : Nat → Plan := fun _ => .fin
theorem fn181 : FnOK Tryz.prog 181 Tryz.f181 cd181 pl181 := ⟨Tryz.func181, rfl, by kernel_rfl, by kernel_rfl⟩
instance isf181 : IsFn Tryz.prog 181 := ⟨by kernel_rfl⟩
noncomputable def cd183 : Code := match Tryz.f183.body with
 | some c => c
 | none => .skip
noncomputable def pl183 : Nat → Plan := fun _ => .fin
theorem fn183 : FnOK Tryz.prog 183 Tryz.f183 cd183 pl183 := ⟨Tryz.func183, rfl, by kernel_rfl, by kernel_rfl⟩
instance isf183 : IsFn Tryz.prog 183 := ⟨by kernel_rfl⟩
noncomputable def cd186 : Code := match Tryz.f186.body with
 | some c => c
 | none => .skip
noncomputable def pl186 : Nat → Plan
 | 5 => .st ⟨0, false, []⟩ (.st ⟨1, false, []⟩ (.st ⟨2, false, []⟩ (.st ⟨3, false, []⟩ (.st ⟨4, true, [0, 1]⟩ (.st ⟨5, true, [0, 1]⟩ (.st ⟨6, true, []⟩ (.st ⟨7, false, []⟩ (.st ⟨8, true, []⟩ (.fin)))))))))
 | _ => .fin
theorem fn186 : FnOK Tryz.prog 186 Tryz.f186 cd186 pl186 := ⟨Tryz.func186, rfl, by kernel_rfl, by kernel_rfl⟩
instance isf186 : IsFn Tryz.prog 186 := ⟨by kernel_rfl⟩
noncomputable def cd192 : Code := match Tryz.f192.body with
 | some c => c
 | none => .skip
noncomputable def pl192 : Nat → Plan
 | 5 => .st ⟨0, false, []⟩ (.st ⟨1, false, []⟩ (.st ⟨2, false, []⟩ (.st ⟨3, false, []⟩ (.st ⟨4, true, [0, 1]⟩ (.st ⟨5, true, [0, 1]⟩ (.st ⟨6, true, []⟩ (.st ⟨7, false, []⟩ (.st ⟨8, true, []⟩ (.fin)))))))))
 | _ => .fin
theorem fn192 : FnOK Tryz.prog 192 Tryz.f192 cd192 pl192 := ⟨Tryz.func192, rfl, by kernel_rfl, by kernel_rfl⟩
instance isf192 : IsFn Tryz.prog 192 := ⟨by kernel_rfl⟩
noncomputable def cd224 : Code := match Tryz.f224.body with
 | some c => c
 | none => .skip
noncomputable def pl224 : Nat → Plan := fun _ => .fin
theorem fn224 : FnOK Tryz.prog 224 Tryz.f224 cd224 pl224 := ⟨Tryz.func224, rfl, by kernel_rfl, by kernel_rfl⟩
instance isf224 : IsFn Tryz.prog 224 := ⟨by kernel_rfl⟩
noncomputable def cd227 : Code := match Tryz.f227.body with
 | some c => c
 | none => .skip
noncomputable def pl227 : Nat → Plan
 | 7 => .st ⟨0, false, []⟩ (.st ⟨1, false, []⟩ (.st ⟨2, false, []⟩ (.st ⟨3, false, []⟩ (.st ⟨5, false, []⟩ (.st ⟨6, false, []⟩ (.st ⟨7, false, []⟩ (.st ⟨8, false, []⟩ (.st ⟨4, true, [6, 7, 8]⟩ (.st ⟨9, false, []⟩ (.st ⟨10, false, []⟩ (.fin)))))))))))
 | _ => .fin
theorem fn227 : FnOK Tryz.prog 227 Tryz.f227 cd227 pl227 := ⟨Tryz.func227, rfl, by kernel_rfl, by kernel_rfl⟩
instance isf227 : IsFn Tryz.prog 227 := ⟨by kernel_rfl⟩
noncomputable def cd232 : Code := match Tryz.f232.body with
 | some c => c
 | none => .skip
noncomputable def pl232 : Nat → Plan := fun _ => .fin
theorem fn232 : FnOK Tryz.prog 232 Tryz.f232 cd232 pl232 := ⟨Tryz.func232, rfl, by kernel_rfl, by kernel_rfl⟩
instance isf232 : IsFn Tryz.prog 232 := ⟨by kernel_rfl⟩
noncomputable def cd236 : Code := match Tryz.f236.body with
 | some c => c
 | none => .skip
noncomputable def pl236 : Nat → Plan
 | 5 => .st ⟨0, false, []⟩ (.st ⟨1, false, []⟩ (.st ⟨2, false, []⟩ (.st ⟨3, false, []⟩ (.st ⟨4, false, []⟩ (.st ⟨5, false, []⟩ (.st ⟨6, true, []⟩ (.st ⟨7, false, []⟩ (.fin))))))))
 | _ => .fin
theorem fn236 : FnOK Tryz.prog 236 Tryz.f236 cd236 pl236 := ⟨Tryz.func236, rfl, by kernel_rfl, by kernel_rfl⟩
instance isf236 : IsFn Tryz.prog 236 := ⟨by kernel_rfl⟩
noncomputable def cd243 : Code := match Tryz.f243.body with
 | some c => c
 | none => .skip
noncomputable def pl243 : Nat → Plan := fun _ => .fin
theorem fn243 : FnOK Tryz.prog 243 Tryz.f243 cd243 pl243 := ⟨Tryz.func243, rfl, by kernel_rfl, by kernel_rfl⟩
instance isf243 : IsFn Tryz.prog 243 := ⟨by kernel_rfl⟩
noncomputable def cd246 : Code := match Tryz.f246.body with
 | some c => c
 | none => .skip
noncomputable def pl246 : Nat → Plan := fun _ => .fin
theorem fn246 : FnOK Tryz.prog 246 Tryz.f246 cd246 pl246 := ⟨Tryz.func246, rfl, by kernel_rfl, by kernel_rfl⟩
instance isf246 : IsFn Tryz.prog 246 := ⟨by kernel_rfl⟩
noncomputable def cd248 : Code := match Tryz.f248.body with
 | some c => c
 | none => .skip
noncomputable def pl248 : Nat → Plan := fun _ => .fin
theorem fn248 : FnOK Tryz.prog 248 Tryz.f248 cd248 pl248 := ⟨Tryz.func248, rfl, by kernel_rfl, by kernel_rfl⟩
instance isf248 : IsFn Tryz.prog 248 := ⟨by kernel_rfl⟩
noncomputable def cd250 : Code := match Tryz.f250.body with
 | some c => c
 | none => .skip
noncomputable def pl250 : Nat → Plan := fun _ => .fin
theorem fn250 : FnOK Tryz.prog 250 Tryz.f250 cd250 pl250 := ⟨Tryz.func250, rfl, by kernel_rfl, by kernel_rfl⟩
instance isf250 : IsFn Tryz.prog 250 := ⟨by kernel_rfl⟩
noncomputable def cd269 : Code := match Tryz.f269.body with
 | some c => c
 | none => .skip
noncomputable def pl269 : Nat → Plan
 | 1 => .st ⟨0, false, []⟩ (.st ⟨1, false, []⟩ (.st ⟨2, false, []⟩ (.st ⟨3, false, []⟩ (.st ⟨4, false, []⟩ (.st ⟨5, false, []⟩ (.st ⟨6, false, []⟩ (.st ⟨7, false, []⟩ (.st ⟨8, false, []⟩ (.st ⟨9, false, []⟩ (.fin))))))))))
 | 3 => .st ⟨0, false, []⟩ (.st ⟨1, false, []⟩ (.st ⟨2, false, []⟩ (.st ⟨3, false, []⟩ (.st ⟨4, false, []⟩ (.st ⟨5, false, []⟩ (.st ⟨6, true, [2, 3, 4]⟩ (.st ⟨7, true, [2, 3, 4]⟩ (.st ⟨8, true, []⟩ (.st ⟨9, false, []⟩ (.st ⟨10, false, []⟩ (.st ⟨11, true, []⟩ (.fin))))))))))))
 | _ => .fin
theorem fn269 : FnOK Tryz.prog 269 Tryz.f269 cd269 pl269 := ⟨Tryz.func269, rfl, by kernel_rfl, by kernel_rfl⟩
instance isf269 : IsFn Tryz.prog 269 := ⟨by kernel_rfl⟩
end Go.Proofs.YtacmaamllpiloaaGreat
