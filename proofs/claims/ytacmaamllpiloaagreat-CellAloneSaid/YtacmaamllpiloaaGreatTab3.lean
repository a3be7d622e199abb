import Derived.Test.YtacmaamllpiloaaGreatProg
import Derived.Test.YtacmaamllpiloaaGreatZ02
import Derived.KernelRfl
namespace Go.Proofs.YtacmaamllpiloaaGreat
open Go Go.Wk
noncomputable def cd6 : Code := match Tryz.f6.body with
 | some c => c
 | none => .skip
instance isf6 : IsFn Tryz.prog 6 := ⟨by kernel_rfl⟩
noncomputable def cd9 : Code := match Tryz.f9.body with
 | some c => c
 | none => .skip
noncomputable def pl9 : Nat → Plan
 | 4 => .st ⟨0, false, []⟩ (.st ⟨1, false, []⟩ (.st ⟨2, false, []⟩ (.st ⟨3, false, []⟩ (.st ⟨4, false, []⟩ (.st ⟨5, false, []⟩ (.st ⟨6, false, []⟩ (.st ⟨7, false, []⟩ (.st ⟨8, false, []⟩ (.st ⟨9, false, []⟩ (.st ⟨10, false, []⟩ (.st ⟨11, false, []⟩ (.st ⟨12, false, []⟩ (.st ⟨13, false, []⟩ (.st ⟨14, false, []⟩ (.st ⟨16, false, []⟩ (.st ⟨17, false, []⟩ (.st ⟨18, false, []⟩ (.st ⟨19, false, []⟩ (.st ⟨15, true, [1, 2, 3, 5, 6, 7, 8, 9, 17, 18, 19]⟩ (.st ⟨20, true, [1, 2, 3, 5, 6, 7, 8, 9]⟩ (.st ⟨21, false, []⟩ (.st ⟨22, false, []⟩ (.fin)))))))))))))))))))))))
 | _ => .fin
theorem fn9 : FnOK Tryz.prog 9 Tryz.f9 cd9 pl9 := ⟨Tryz.func9, rfl, by kernel_rfl, by kernel_rfl⟩
instance isf9 : IsFn Tryz.prog 9 := ⟨by kernel_rfl⟩
noncomputable def cd14 : Code := match Tryz.f14.body with
 | some c => c
 | none => .skip
noncomputable def pl14 : Nat → Plan := fun _ => .fin
theorem fn14 : FnOK Tryz.prog 14 Tryz.f14 cd14 pl14 := ⟨Tryz.func14, rfl, by kernel_rfl, by kernel_rfl⟩
instance isf14 : IsFn Tryz.prog 14 := ⟨by kernel_rfl⟩
noncomputable def cd18 : Code := match Tryz.f18.body with
 | some c => c
 | none => .skip
noncomputable def pl18 : Nat → Plan := fun _ => .fin
theorem fn18 : FnOK Tryz.prog 18 Tryz.f18 cd18 pl18 := ⟨Tryz.func18, rfl, by kernel_rfl, by kernel_rfl⟩
instance isf18 : IsFn Tryz.prog 18 := ⟨by kernel_rfl⟩
noncomputable def pl29 : Nat → Plan
 | 6 => .st ⟨0, false, []⟩ (.st ⟨1, false, []⟩ (.st ⟨2, false, []⟩ (.st ⟨3, false, []⟩ (.st ⟨4, false, []⟩ (.st ⟨5, false, []⟩ (.st ⟨6, false, []⟩ (.st ⟨7, false, []⟩ (.st ⟨8, false, []⟩ (.st ⟨9, false, []⟩ (.st ⟨10, false, []⟩ (.st ⟨11, false, []⟩ (.st ⟨12, false, []⟩ (.st ⟨13, false, []⟩ (.st ⟨14, false, []⟩ (.st ⟨15, false, []⟩ (.st ⟨16, true, []⟩ (.fin)))))))))))))))))
 | _ => .fin
noncomputable def cd33 : Code := match Tryz.f33.body with
 | some c => c
 | none => .skip
noncomputable def pl33 : Nat → Plan
 | 5 => .st ⟨0, false, []⟩ (.st ⟨1, false, []⟩ (.st ⟨2, false, []⟩ (.st ⟨3, false, []⟩ (.st ⟨4, false, []⟩ (.st ⟨5, false, []⟩ (.st ⟨6, true, []⟩ (.fin)))))))
 | _ => .fin
theorem fn33 : FnOK Tryz.prog 33 Tryz.f33 cd33 pl33 := ⟨Tryz.func33, rfl, by kernel_rfl, by kernel_rfl⟩
instance isf33 : IsFn Tryz.prog 33 := ⟨by kernel_rfl⟩
noncomputable def cd35 : Code := match Tryz.f35.body with
 | some c => c
 | none => .skip
noncomputable def pl35 : Nat → Plan
 | 3 => .st ⟨0, false, []⟩ (.st ⟨1, false, []⟩ (.st ⟨2, false, []⟩ (.st ⟨3, false, []⟩ (.st ⟨4, false, []⟩ (.st ⟨5, false, []⟩ (.st ⟨6, false, []⟩ (.st ⟨7, false, []⟩ (.st ⟨8, false, []⟩ (.st ⟨9, false, []⟩ (.st ⟨10, false, []⟩ (.st ⟨11, false, []⟩ (.st ⟨12, false, []⟩ (.st ⟨13, false, []⟩ (.st ⟨14, false, []⟩ (.st ⟨15, true, []⟩ (.st ⟨16, false, []⟩ (.fin)))))))))))))))))
 | _ => .fin
theorem fn35 : FnOK Tryz.prog 35 Tryz.f35 cd35 pl35 := ⟨Tryz.func35, rfl, by kernel_rfl, by kernel_rfl⟩
instance isf35 : IsFn Tryz.prog 35 := ⟨by kernel_rfl⟩
noncomputable def cd41 : Code := match Tryz.f41.body with
 | some c => c
 | none => .skip
noncomputable def pl41 : Nat → Plan := fun _ => .fin
theorem fn41 : FnOK Tryz.prog 41 Tryz.f41 cd41 pl41 := ⟨Tryz.func41, rfl, by kernel_rfl, by kernel_rfl⟩
instance isf41 : IsFn Tryz.prog 41 := ⟨by kernel_rfl⟩
noncomputable def cd46 : Code := match Tryz.f46.body with
 | some c => c
 | none => .skip
noncomputable def pl46 : Nat → Plan
 | 13 => .st ⟨0, false, []⟩ (.st ⟨1, false, []⟩ (.st ⟨2, false, []⟩ (.st ⟨3, false, []⟩ (.st ⟨4, false, []⟩ (.st ⟨5, false, []⟩ (.st ⟨6, false, []⟩ (.st ⟨7, false, []⟩ (.st ⟨8, true, []⟩ (.fin)))))))))
 | 39 => .st ⟨0, false, []⟩ (.st ⟨1, false, []⟩ (.st ⟨2, false, []⟩ (.st ⟨3, false, []⟩ (.st ⟨4, false, []⟩ (.st ⟨5, false, []⟩ (.st ⟨6, false, []⟩ (.st ⟨7, false, []⟩ (.st ⟨8, true, []⟩ (.fin)))))))))
 | _ => .fin
theorem fn46 : FnOK Tryz.prog 46 Tryz.f46 cd46 pl46 := ⟨Tryz.func46, rfl, by kernel_rfl, by kernel_rfl⟩
instance isf46 : IsFn Tryz.prog 46 := ⟨by kernel_rfl⟩
noncomputable def cd53 : Code := match Tryz.f53.body with
 | some c => c
 | none => .skip
noncomputable def pl53 : Nat → Plan := fun _ => .fin
theorem fn53 : FnOK Tryz.prog 53 Tryz.f53 cd53 pl53 := ⟨Tryz.func53, rfl, by kernel_rfl, by kernel_rfl⟩
instance isf53 : IsFn Tryz.prog 53 := ⟨by kernel_rfl⟩
noncomputable def cd55 : Code := match Tryz.f55.body with
 | some c => c
 | none => .skip
noncomputable def pl55 : Nat → Plan
 | 6 => .st ⟨0, false, []⟩ (.st ⟨1, false, []⟩ (.st ⟨2, false, []⟩ (.st ⟨3, false, []⟩ (.st ⟨4, false, []⟩ (.st ⟨5, false, []⟩ (.st ⟨6, false, []⟩ (.st ⟨7, false, []⟩ (.st ⟨8, false, []⟩ (.st ⟨9, false, []⟩ (.st ⟨10, true, []⟩ (.fin)))))))))))
 | _ => .fin
theorem fn55 : FnOK Tryz.prog 55 Tryz.f55 cd55 pl55 := ⟨Tryz.func55, rfl, by kernel_rfl, by kernel_rfl⟩
instance isf55 : IsFn Tryz.prog 55 := ⟨by kernel_rfl⟩
noncomputable def cd61 : Code := match Tryz.f61.body with
 | some c => c
 | none => .skip
noncomputable def pl61 : Nat → Plan
 | 10 => .st ⟨0, false, []⟩ (.st ⟨1, false, []⟩ (.st ⟨2, false, []⟩ (.st ⟨3, false, []⟩ (.st ⟨4, false, []⟩ (.st ⟨5, false, []⟩ (.st ⟨6, false, []⟩ (.st ⟨7, false, []⟩ (.st ⟨8, false, []⟩ (.st ⟨9, true, [2, 3, 4]⟩ (.st ⟨10, true, []⟩ (.st ⟨11, false, []⟩ (.st ⟨12, false, []⟩ (.st ⟨13, true, []⟩ (.fin))))))))))))))
 | 11 => .st ⟨0, false, []⟩ (.st ⟨1, false, []⟩ (.st ⟨2, false, []⟩ (.st ⟨3, false, []⟩ (.st ⟨4, false, []⟩ (.st ⟨5, false, []⟩ (.st ⟨6, true, [2, 3, 4]⟩ (.st ⟨7, true, [2, 3, 4]⟩ (.st ⟨8, true, []⟩ (.st ⟨9, false, []⟩ (.st ⟨10, false, []⟩ (.st ⟨11, true, []⟩ (.fin))))))))))))
 | _ => .fin
theorem fn61 : FnOK Tryz.prog 61 Tryz.f61 cd61 pl61 := ⟨Tryz.func61, rfl, by kernel_rfl, by kernel_rfl⟩
instance isf61 : IsFn Tryz.prog 61 := ⟨by kernel_rfl⟩
noncomputable def cd66 : Code := match Tryz.f66.body with
 | some c => c
 | none => .skip
noncomputable def pl66 : Nat → Plan
 | 6 => .st ⟨0, false, []⟩ (.st ⟨1, false, []⟩ (.st ⟨2, false, []⟩ (.st ⟨3, false, []⟩ (.st ⟨4, false, []⟩ (.st ⟨5, false, []⟩ (.st ⟨6, false, []⟩ (.st ⟨7, false, []⟩ (.st ⟨8, false, []⟩ (.st ⟨9, false, []⟩ (.st ⟨10, false, []⟩ (.st ⟨11, false, []⟩ (.st ⟨12, false, []⟩ (.st ⟨13, false, []⟩ (.st ⟨14, false, []⟩ (.st ⟨15, false, []⟩ (.st ⟨16, false, []⟩ (.fin)))))))))))))))))
 | 7 => .st ⟨0, false, []⟩ (.st ⟨1, false, []⟩ (.st ⟨2, false, []⟩ (.st ⟨3, false, []⟩ (.st ⟨4, false, []⟩ (.st ⟨5, false, []⟩ (.st ⟨6, false, []⟩ (.st ⟨7, false, []⟩ (.st ⟨8, false, []⟩ (.st ⟨9, false, []⟩ (.st ⟨10, false, []⟩ (.st ⟨11, false, []⟩ (.st ⟨12, false, []⟩ (.st ⟨13, false, []⟩ (.st ⟨14, false, []⟩ (.st ⟨15, false, []⟩ (.st ⟨16, false, []⟩ (.st ⟨17, true, []⟩ (.fin))))))))))))))))))
 | 9 => .st ⟨0, false, []⟩ (.st ⟨1, false, []⟩ (.st ⟨3, false, []⟩ (.st ⟨4, false, []⟩ (.st ⟨5, false, []⟩ (.st ⟨6, false, []⟩ (.st ⟨7, false, []⟩ (.st ⟨8, false, []⟩ (.st ⟨9, false, []⟩ (.st ⟨11, false, []⟩ (.st ⟨14, false, []⟩ (.st ⟨15, false, []⟩ (.st ⟨16, false, []⟩ (.st ⟨17, false, []⟩ (.st ⟨18, false, []⟩ (.st ⟨19, false, []⟩ (.st ⟨20, false, []⟩ (.br (.st ⟨2, true, [4, 5, 6, 8, 9, 15, 16, 17, 19, 20]⟩ (.br (.st ⟨10, true, [15, 16, 17, 19, 20]⟩ (.st ⟨12, true, [4, 5, 6, 8, 9, 15, 16, 17, 19, 20]⟩ (.st ⟨13, true, [15, 16, 17, 19, 20]⟩ (.st ⟨21, true, []⟩ (.fin))))) (.st ⟨12, true, [4, 5, 6, 8, 9, 15, 16, 17, 19, 20]⟩ (.st ⟨10, true, [15, 16, 17, 19, 20]⟩ (.st ⟨13, true, [15, 16, 17, 19, 20]⟩ (.st ⟨21, true, []⟩ (.fin))))))) (.st ⟨12, true, [4, 5, 6, 8, 9, 15, 16, 17, 19, 20]⟩ (.st ⟨2, true, [4, 5, 6, 8, 9, 15, 16, 17, 19, 20]⟩ (.st ⟨10, true, [15, 16, 17, 19, 20]⟩ (.st ⟨13, true, [15, 16, 17, 19, 20]⟩ (.st ⟨21, true, []⟩ (.fin)))))))))))))))))))))))
 | _ => .fin
theorem fn66 : FnOK Tryz.prog 66 Tryz.f66 cd66 pl66 := ⟨Tryz.func66, rfl, by kernel_rfl, by kernel_rfl⟩
instance isf66 : IsFn Tryz.prog 66 := ⟨by kernel_rfl⟩
noncomputable def cd89 : Code := match Tryz.f89.body with
 | some c => c
 | none => .skip
noncomputable def pl89 : Nat → Plan
 | 8 => .st ⟨0, false, []⟩ (.st ⟨1, false, []⟩ (.st ⟨2, false, []⟩ (.st ⟨3, false, []⟩ (.st ⟨4, false, []⟩ (.st ⟨5, false, []⟩ (.st ⟨6, true, []⟩ (.fin)))))))
 | _ => .fin
theorem fn89 : FnOK Tryz.prog 89 Tryz.f89 cd89 pl89 := ⟨Tryz.func89, rfl, by kernel_rfl, by kernel_rfl⟩
instance isf89 : IsFn Tryz.prog 89 := ⟨by kernel_rfl⟩
noncomputable def cd92 : Code := match Tryz.f92.body with
 | some c => c
 | none => .skip
noncomputable def pl92 : Nat → Plan := fun _ => .fin
theorem fn92 : FnOK Tryz.prog 92 Tryz.f92 cd92 pl92 := ⟨Tryz.func92, rfl, by kernel_rfl, by kernel_rfl⟩
instance isf92 : IsFn Tryz.prog 92 := ⟨by kernel_rfl⟩
noncomputable def cd94 : Code := match Tryz.f94.body with
 | some c => c
 | none => .skip
noncomputable def pl94 : Nat → Plan := fun _ => .fin
theorem fn94 : FnOK Tryz.prog 94 Tryz.f94 cd94 pl94 := ⟨Tryz.func94, rfl, by kernel_rfl, by kernel_rfl⟩
instance isf94 : IsFn Tryz.prog 94 := ⟨by kernel_rfl⟩
noncomputable def cd97 : Code := match Tryz.f97.body with
 | some c => c
 | none => .skip
noncomputable def pl97 : Nat → Plan := fun _ => .fin
theorem fn97 : FnOK Tryz.prog 97 Tryz.f97 cd97 pl97 := ⟨Tryz.func97, rfl, by kernel_rfl, by kernel_rfl⟩
instance isf97 : IsFn Tryz.prog 97 := ⟨by kernel_rfl⟩
noncomputable def cd99 : Code := match Tryz.f99.body with
 | some c => c
 | none => .skip
noncomputable def pl99 : Nat → Plan := fun _ => .fin
theorem fn99 : FnOK Tryz.prog 99 Tryz.f99 cd99 pl99 := ⟨Tryz.func99, rfl, by kernel_rfl, by kernel_rfl⟩
instance isf99 : IsFn Tryz.prog 99 := ⟨by kernel_rfl⟩
noncomputable def cd101 : Code := match Tryz.f101.body with
 | some c => c
 | none => .skip
noncomputable def pl101 : Nat → Plan := fun _ => .fin
theorem fn101 : FnOK Tryz.prog 101 Tryz.f101 cd101 pl101 := ⟨Tryz.func101, rfl, by kernel_rfl, by kernel_rfl⟩
instance isf101 : IsFn Tryz.prog 101 := ⟨by kernel_rfl⟩
noncomputable def cd104 : Code := match Tryz.f104.body with
 | some c => c
 | none => .skip
noncomputable def pl104 : Nat → Plan := fun _ => .fin
theorem fn104 : FnOK Tryz.prog 104 Tryz.f104 cd104 pl104 := ⟨Tryz.func104, rfl, by kernel_rfl, by kernel_rfl⟩
instance isf104 : IsFn Tryz.prog 104 := ⟨by kernel_rfl⟩
noncomputable def cd107 : Code := match Tryz.f107.body with
 | some c => c
 | none => .skip
noncomputable def pl107 : Nat → Plan
 | 1 => .st ⟨0, false, []⟩ (.st ⟨1, false, []⟩ (.st ⟨2, false, []⟩ (.st ⟨3, false, []⟩ (.st ⟨4, false, []⟩ (.st ⟨5, false, []⟩ (.st ⟨6, true, []⟩ (.st ⟨7, false, []⟩ (.st ⟨8, false, []⟩ (.st ⟨9, false, []⟩ (.st ⟨10, false, []⟩ (.st ⟨11, false, []⟩ (.fin))))))))))))
 | 7 => .st ⟨0, false, []⟩ (.st ⟨1, false, []⟩ (.st ⟨2, false, []⟩ (.st ⟨3, false, []⟩ (.st ⟨4, false, []⟩ (.st ⟨5, false, []⟩ (.st ⟨6, false, []⟩ (.st ⟨7, false, []⟩ (.st ⟨8, false, []⟩ (.st ⟨9, true, [2]⟩ (.st ⟨10, true, []⟩ (.fin)))))))))))
 | 9 => .st ⟨0, false, []⟩ (.st ⟨1, false, []⟩ (.st ⟨2, false, []⟩ (.st ⟨3, false, []⟩ (.st ⟨4, false, []⟩ (.st ⟨5, false, []⟩ (.st ⟨6, true, []⟩ (.st ⟨7, false, []⟩ (.fin))))))))
 | 13 => .st ⟨0, false, []⟩ (.st ⟨1, false, []⟩ (.st ⟨2, false, []⟩ (.st ⟨3, false, []⟩ (.st ⟨4, false, []⟩ (.st ⟨5, false, []⟩ (.st ⟨6, false, []⟩ (.st ⟨7, false, []⟩ (.st ⟨8, false, []⟩ (.st ⟨9, true, [2]⟩ (.st ⟨10, true, []⟩ (.fin)))))))))))
 | 15 => .st ⟨0, false, []⟩ (.st ⟨1, false, []⟩ (.st ⟨2, false, []⟩ (.st ⟨3, false, []⟩ (.st ⟨4, false, []⟩ (.st ⟨5, false, []⟩ (.st ⟨6, false, []⟩ (.st ⟨7, false, []⟩ (.st ⟨8, false, []⟩ (.st ⟨9, true, [2]⟩ (.st ⟨10, true, []⟩ (.fin)))))))))))
 | 16 => .st ⟨0, false, []⟩ (.st ⟨1, false, []⟩ (.st ⟨2, false, []⟩ (.st ⟨3, false, []⟩ (.st ⟨4, false, []⟩ (.st ⟨5, false, []⟩ (.st ⟨6, true, []⟩ (.st ⟨7, false, []⟩ (.fin))))))))
 | 18 => .st ⟨0, false, []⟩ (.st ⟨1, false, []⟩ (.st ⟨2, false, []⟩ (.st ⟨3, false, []⟩ (.st ⟨4, false, []⟩ (.st ⟨5, false, []⟩ (.st ⟨6, true, []⟩ (.st ⟨7, false, []⟩ (.fin))))))))
 | 21 => .st ⟨0, false, []⟩ (.st ⟨1, false, []⟩ (.st ⟨2, false, []⟩ (.st ⟨3, false, []⟩ (.st ⟨4, false, []⟩ (.st ⟨5, false, []⟩ (.st ⟨6, false, []⟩ (.st ⟨7, false, []⟩ (.st ⟨8, false, []⟩ (.st ⟨9, true, [2]⟩ (.st ⟨10, true, []⟩ (.fin)))))))))))
 | _ => .fin
theorem fn107 : FnOK Tryz.prog 107 Tryz.f107 cd107 pl107 := ⟨Tryz.func107, rfl, by kernel_rfl, by kernel_rfl⟩
instance isf107 : IsFn Tryz.prog 107 := ⟨by kernel_rfl⟩
noncomputable def cd111 : Code := match Tryz.f111.body with
 | some c => c
 | none => .skip
noncomputable def pl111 : Nat → Plan := fun _ => .fin
theorem fn111 : FnOK Tryz.prog 111 Tryz.f111 cd111 pl111 := ⟨Tryz.func111, rfl, by kernel_rfl, by kernel_rfl⟩
instance isf111 : IsFn Tryz.prog 111 := ⟨by kernel_rfl⟩
noncomputable def cd113 : Code := match Tryz.f113.body with
 | some c => c
 | none => .skip
noncomputable def pl113 : Nat → Plan
 | 6 => .st ⟨0, false, []⟩ (.st ⟨1, false, []⟩ (.st ⟨2, false, []⟩ (.st ⟨3, false, []⟩ (.st ⟨4, false, []⟩ (.st ⟨5, false, []⟩ (.st ⟨6, true, []⟩ (.st ⟨7, false, []⟩ (.st ⟨8, false, []⟩ (.st ⟨9, false, []⟩ (.st ⟨10, false, []⟩ (.st ⟨11, false, []⟩ (.st ⟨12, false, []⟩ (.st ⟨13, false, []⟩ (.st ⟨14, false, []⟩ (.st ⟨15, false, []⟩ (.st ⟨16, false, []⟩ (.st ⟨17, false, []⟩ (.st ⟨18, false, []⟩ (.st ⟨19, false, []⟩ (.st ⟨20, true, []⟩ (.st ⟨21, false, []⟩ (.fin))))))))))))))))))))))
 | _ => .fin
theorem fn113 : FnOK Tryz.prog 113 Tryz.f113 cd113 pl113 := ⟨Tryz.func113, rfl, by kernel_rfl, by kernel_rfl⟩
instance isf113 : IsFn Tryz.prog 113 := ⟨by kernel_rfl⟩
noncomputable def cd119 : Code := match Tryz.f119.body with
 | some c => c
 | none => .skip
noncomputable def pl119 : Nat → Plan := fun _ => .fin
theorem fn119 : FnOK Tryz.prog 119 Tryz.f119 cd119 pl119 := ⟨Tryz.func119, rfl, by kernel_rfl, by kernel_rfl⟩
instance isf119 : IsFn Tryz.prog 119 := ⟨by kernel_rfl⟩
noncomputable def cd122 : Code := match Tryz.f122.body with
 | some c => c
 | none => .skip
noncomputable def pl122 : Nat → Plan := fun _ => .fin
theorem fn122 : FnOK Tryz.prog 122 Tryz.f122 cd122 pl122 := ⟨Tryz.func122, rfl, by kernel_rfl, by kernel_rfl⟩
instance isf122 : IsFn Tryz.prog 122 := ⟨by kernel_rfl⟩
noncomputable def cd151 : Code := match Tryz.f151.body with
 | some c => c
 | none => .skip
noncomputable def pl151 : Nat → Plan := fun _ => .fin
theorem fn151 : FnOK Tryz.prog 151 Tryz.f151 cd151 pl151 := ⟨Tryz.func151, rfl, by kernel_rfl, by kernel_rfl⟩
instance isf151 : IsFn Tryz.prog 151 := ⟨by kernel_rfl⟩
noncomputable def cd154 : Code := match Tryz.f154.body with
 | some c => c
 | none => .skip
noncomputable def pl154 : Nat → Plan := fun _ => .fin
theorem fn154 : FnOK Tryz.prog 154 Tryz.f154 cd154 pl154 := ⟨Tryz.func154, rfl, by kernel_rfl, by kernel_rfl⟩
instance isf154 : IsFn Tryz.prog 154 := ⟨by kernel_rfl⟩
noncomputable def cd157 : Code := match Tryz.f157.body with
 | some c => c
 | none => .skip
noncomputable def pl157 : Nat → Plan
 | 2 => .st ⟨0, false, []⟩ (.st ⟨1, false, []⟩ (.st ⟨2, false, []⟩ (.st ⟨3, false, []⟩ (.st ⟨4, false, []⟩ (.st ⟨5, false, []⟩ (.st ⟨6, false, []⟩ (.st ⟨7, false, []⟩ (.st ⟨8, false, []⟩ (.st ⟨9, false, []⟩ (.st ⟨10, false, []⟩ (.st ⟨11, false, []⟩ (.st ⟨12, false, []⟩ (.st ⟨13, false, []⟩ (.st ⟨14, true, []⟩ (.fin)))))))))))))))
 | _ => .fin
theorem fn157 : FnOK Tryz.prog 157 Tryz.f157 cd157 pl157 := ⟨Tryz.func157, rfl, by kernel_rfl, by kernel_rfl⟩
instance isf157 : IsFn Tryz.prog 157 := ⟨by kernel_rfl⟩
noncomputable def cd164 : Code := match Tryz.f164.body with
 | some c => c
 | none => .skip
noncomputable def pl164 : Nat → Plan
 | 1 => .st ⟨0, false, []⟩ (.st ⟨1, false, []⟩ (.st ⟨2, false, []⟩ (.st ⟨3, false, []⟩ (.st ⟨4, false, []⟩ (.st ⟨5, false, []⟩ (.st ⟨6, false, []⟩ (.st ⟨7, true, []⟩ (.fin))))))))
 | _ => .fin
theorem fn164 : FnOK Tryz.prog 164 Tryz.f164 cd164 pl164 := ⟨Tryz.func164, rfl, by kernel_rfl, by kernel_rfl⟩
instance isf164 : IsFn Tryz.prog 164 := ⟨by kernel_rfl⟩
noncomputable def cd168 : Code := match Tryz.f168.body with
 | some c => c
 | none => .skip
noncomputable def pl168 : Nat → Plan := fun _ => .fin
theorem fn168 : FnOK Tryz.prog 168 Tryz.f168 cd168 pl168 := ⟨Tryz.func168, rfl, by kernel_rfl, by kernel_rfl⟩
instance isf168 : IsFn Tryz.prog 168 := ⟨by kernel_rfl⟩
noncomputable def cd171 : Code := match Tryz.f171.body with
 | some c => c
 | none => .skip
noncomputable def pl171 : Nat → Plan := fun _ => .fin
theorem fn171 : FnOK Tryz.prog 171 Tryz.f171 cd171 pl171 := ⟨Tryz.func171, rfl, by kernel_rfl, by kernel_rfl⟩
instance isf171 : IsFn Tryz.prog 171 := ⟨by kernel_rfl⟩
noncomputable def cd174 : Code := match Tryz.f174.body with
 | some c => c
 | none => .skip
noncomputable def pl174 : Nat → Plan := fun _ => .fin
theorem fn174 : FnOK Tryz.prog 174 Tryz.f174 cd174 pl174 := ⟨Tryz.func174, rfl, by kernel_rfl, by kernel_rfl⟩
instance isf174 : IsFn Tryz.prog 174 := ⟨by kernel_rfl⟩
noncomputable def cd176 : Code := match Tryz.f176.body with
 | some c => c
 | none => .skip
noncomputable def pl176 : Nat → Plan := fun _ => .fin
theorem fn176 : FnOK Tryz.prog 176 Tryz.f176 cd176 pl176 := ⟨Tryz.func176, rfl, by kernel_rfl, by kernel_rfl⟩
instance isf176 : IsFn Tryz.prog 176 := ⟨by kernel_rfl⟩
noncomputable def cd180 : Code := match Tryz.f180.body with
 | some c => c
 | none => .skip
noncomputable def pl180 : Nat → Plan := fun _ => .fin
theorem fn180 : FnOK Tryz.prog 180 Tryz.f180 cd180 pl180 := ⟨Tryz.func180, rfl, by kernel_rfl, by kernel_rfl⟩
instance isf180 : IsFn Tryz.prog 180 := ⟨by kernel_rfl⟩
noncomputable def cd182 : Code := match Tryz.f182.body with
 | some c => c
 | none => .skip
noncomputable def pl182 : Nat → Plan := fun _ => .fin
theorem fn182 : FnOK Tryz.prog 182 Tryz.f182 cd182 pl182 := ⟨Tryz.func182, rfl, by kernel_rfl, by kernel_rfl⟩
instance isf182 : IsFn Tryz.prog 182 := ⟨by kernel_rfl⟩
noncomputable def cd185 : Code := match Tryz.f185.body with
 | some c => c
 | none => .skip
noncomputable def pl185 : Nat → Plan := fun _ => .fin
theorem fn185 : FnOK Tryz.prog 185 Tryz.f185 cd185 pl185 := ⟨Tryz.func185, rfl, by kernel_rfl, by kernel_rfl⟩
instance isf185 : IsFn Tryz.prog 185 := ⟨by kernel_rfl⟩
noncomputable def cd189 : Code := match Tryz.f189.body with
 | some c => c
 | none => .skip
noncomputable def pl189 : Nat → Plan := fun _ => .fin
theorem fn189 : FnOK Tryz.prog 189 Tryz.f189 cd189 pl189 := ⟨Tryz.func189, rfl, by kernel_rfl, by kernel_rfl⟩
instance isf189 : IsFn Tryz.prog 189 := ⟨by kernel_rfl⟩
noncomputable def cd191 : Code := match Tryz.f191.body with
 | some c => c
 | none => .skip
noncomputable def pl191 : Nat → Plan := fun _ => .fin
theorem fn191 : FnOK Tryz.prog 191 Tryz.f191 cd191 pl191 := ⟨Tryz.func191, rfl, by kernel_rfl, by kernel_rfl⟩
instance isf191 : IsFn Tryz.prog 191 := ⟨by kernel_rfl⟩
noncomputable def cd194 : Code := match Tryz.f194.body with
 | some c => c
 | none => .skip
noncomputable def pl194 : Nat → Plan := fun _ => .fin
theorem fn194 : FnOK Tryz.prog 194 Tryz.f194 cd194 pl194 := ⟨Tryz.func194, rfl, by kernel_rfl, by kernel_rfl⟩
instance isf194 : IsFn Tryz.prog 194 := ⟨by kernel_rfl⟩
noncomputable def cd223 : Code := match Tryz.f223.body with
 | some c => c
 | none => .skip
noncomputable def pl223 : Nat → Plan := fun _ => .fin
theorem fn223 : FnOK Tryz.prog 223 Tryz.f223 cd223 pl223 := ⟨Tryz.func223, rfl, by kernel_rfl, by kernel_rfl⟩
instance isf223 : IsFn Tryz.prog 223 := ⟨by kernel_rfl⟩
noncomputable def cd225 : Code := match Tryz.f225.body with
 | some c => c
 | none => .skip
noncomputable def pl225 : Nat → Plan := fun _ => .fin
theorem fn225 : FnOK Tryz.prog 225 Tryz.f225 cd225 pl225 := ⟨Tryz.func225, rfl, by kernel_rfl, by kernel_rfl⟩
instance isf225 : IsFn Tryz.prog 225 := ⟨by kernel_rfl⟩
noncomputable def cd229 : Code := match Tryz.f229.body with
 | some c => c
 | none => .skip
noncomputable def pl229 : Nat → Plan := fun _ => .fin
theorem fn229 : FnOK Tryz.prog 229 Tryz.f229 cd229 pl229 := ⟨Tryz.func229, rfl, by kernel_rfl, by kernel_rfl⟩
instance isf229 : IsFn Tryz.prog 229 := ⟨by kernel_rfl⟩
noncomputable def cd233 : Code := match Tryz.f233.body with
 | some c => c
 | none => .skip
noncomputable def pl233 : Nat → Plan := fun _ => .fin
theorem fn233 : FnOK Tryz.prog 233 Tryz.f233 cd233 pl233 := ⟨Tryz.func233, rfl, by kernel_rfl, by kernel_rfl⟩
instance isf233 : IsFn Tryz.prog 233 := ⟨by kernel_rfl⟩
noncomputable def cd237 : Code := match Tryz.f237.body with
 | some c => c
 | none => .skip
noncomputable def pl237 : Nat → Plan := fun _ => .fin
theorem fn237 : FnOK Tryz.prog 237 Tryz.f237 cd237 pl237 := ⟨Tryz.func237, rfl, by kernel_rfl, by kernel_rfl⟩
instance isf237 : IsFn Tryz.prog 237 := ⟨by kernel_rfl⟩
noncomputable def cd244 : Code := match Tryz.f244.body with
 | some c => c
 | none => .skip
noncomputable def pl244 : Nat → Plan := fun _ => .fin
theorem fn244 : FnOK Tryz.prog 244 Tryz.f244 cd244 pl244 := ⟨Tryz.func244, rfl, by kernel_rfl, by kernel_rfl⟩
instance isf244 : IsFn Tryz.prog 244 := ⟨by kernel_rfl⟩
noncomputable def cd247 : Code := match Tryz.f247.body with
 | some c => c
 | none => .skip
noncomputable def pl247 : Nat → Plan := fun _ => .fin
theorem fn247 : FnOK Tryz.prog 247 Tryz.f247 cd247 pl247 := ⟨Tryz.func247, rfl, by kernel_rfl, by kernel_rfl⟩
instance isf247 : IsFn Tryz.prog 247 := ⟨by kernel_rfl⟩
noncomputable def cd249 : Code := match Tryz.f249.body with
 | some c => c
 | none => .skip
noncomputable def pl249 : Nat → Plan := fun _ => .fin
theorem fn249 : FnOK Tryz.prog 249 Tryz.f249 cd249 pl249 := ⟨Tryz.func249, rfl, by kernel_rfl, by kernel_rfl⟩
instance isf249 : IsFn Tryz.prog 249 := ⟨by kernel_rfl⟩
end Go.Proofs.YtacmaamllpiloaaGreat
