import Derived.Test.YtacmaamllpiloaaGreatProg
import Derived.Test.YtacmaamllpiloaaGreatZ02
import Derived.KernelRfl
namespace Go.Proofs.YtacmaamllpiloaaGreat
open Go Go.Wk
noncomputable def cd5 : Code := match Tryz.f5.body with
 | some c => c
 | none => .skip
noncomputable def pl5 : Nat → Plan
 | 3 => .st ⟨0, false, []⟩ (.st ⟨1, false, []⟩ (.st ⟨2, false, []⟩ (.st ⟨3, false, []⟩ (.st ⟨4, false, []⟩ (.st ⟨6, false, []⟩ (.st ⟨7, false, []⟩ (.st ⟨8, false, []⟩ (.st ⟨9, false, []⟩ (.st ⟨5, true, [6, 7, 8, 9]⟩ (.st ⟨10, true, []⟩ (.st ⟨11, false, []⟩ (.st ⟨12, false, []⟩ (.fin)))))))))))))
 | 20 => .st ⟨0, false, []⟩ (.st ⟨2, false, []⟩ (.st ⟨3, false, []⟩ (.st ⟨4, false, []⟩ (.st ⟨5, false, []⟩ (.st ⟨6, false, []⟩ (.st ⟨7, false, []⟩ (.st ⟨1, true, [2, 3, 5, 6, 7]⟩ (.st ⟨8, true, []⟩ (.fin)))))))))
 | 21 => .st ⟨0, false, []⟩ (.st ⟨2, false, []⟩ (.st ⟨3, false, []⟩ (.st ⟨4, false, []⟩ (.st ⟨5, false, []⟩ (.st ⟨6, false, []⟩ (.st ⟨7, false, []⟩ (.st ⟨1, true, [2, 3, 5, 6, 7]⟩ (.st ⟨8, true, []⟩ (.fin)))))))))
 | _ => .fin
theorem fn5 : FnOK Tryz.prog 5 Tryz.f5 cd5 pl5 := ⟨Tryz.func5, rfl, by kernel_rfl, by kernel_rfl⟩
instance isf5 : IsFn Tryz.prog 5 := ⟨by kernel_rfl⟩
noncomputable def cd8 : Code := match Tryz.f8.body with
 | some c => c
 | none => .skip
noncomputable def pl8 : Nat → Plan := fun _ => .fin
theorem fn8 : FnOK Tryz.prog 8 Tryz.f8 cd8 pl8 := ⟨Tryz.func8, rfl, by kernel_rfl, by kernel_rfl⟩
instance isf8 : IsFn Tryz.prog 8 := ⟨by kernel_rfl⟩
noncomputable def cd12 : Code := match Tryz.f12.body with
 | some c => c
 | none => .skip
noncomputable def pl12 : Nat → Plan := fun _ => .fin
theorem fn12 : FnOK Tryz.prog 12 Tryz.f12 cd12 pl12 := ⟨Tryz.func12, rfl, by kernel_rfl, by kernel_rfl⟩
instance isf12 : IsFn Tryz.prog 12 := ⟨by kernel_rfl⟩
noncomputable def cd16 : Code := match Tryz.f16.body with
 | some c => c
 | none => .skip
noncomputable def pl16 : Nat → Plan := fun _ => .fin
theorem fn16 : FnOK Tryz.prog 16 Tryz.f16 cd16 pl16 := ⟨Tryz.func16, rfl, by kernel_rfl, by kernel_rfl⟩
instance isf16 : IsFn Tryz.prog 16 := ⟨by kernel_rfl⟩
noncomputable def cd20 : Code := match Tryz.f20.body with
 | some c => c
 | none => .skip
noncomputable def pl20 : Nat → Plan
 | 1 => .st ⟨0, false, []⟩ (.st ⟨1, false, []⟩ (.st ⟨2, false, []⟩ (.st ⟨3, false, []⟩ (.st ⟨5, false, []⟩ (.st ⟨6, false, []⟩ (.st ⟨8, false, []⟩ (.st ⟨9, false, []⟩ (.st ⟨11, false, []⟩ (.st ⟨4, true, [0, 5, 6, 8, 9, 11]⟩ (.st ⟨7, true, [0, 8, 9, 11]⟩ (.st ⟨10, true, [0, 11]⟩ (.st ⟨12, true, [0]⟩ (.st ⟨13, false, []⟩ (.st ⟨14, true, []⟩ (.st ⟨15, false, []⟩ (.fin))))))))))))))))
 | _ => .fin
theorem fn20 : FnOK Tryz.prog 20 Tryz.f20 cd20 pl20 := ⟨Tryz.func20, rfl, by kernel_rfl, by kernel_rfl⟩
instance isf20 : IsFn Tryz.prog 20 := ⟨by kernel_rfl⟩
noncomputable def cd24 : Code := match Tryz.f24.body with
 | some c => c
 | none => .skip
noncomputable def pl24 : Nat → Plan := fun _ => .fin
theorem fn24 : FnOK Tryz.prog 24 Tryz.f24 cd24 pl24 := ⟨Tryz.func24, rfl, by kernel_rfl, by kernel_rfl⟩
instance isf24 : IsFn Tryz.prog 24 := ⟨by kernel_rfl⟩
noncomputable def cd31 : Code := match Tryz.f31.body with
 | some c => c
 | none => .skip
noncomputable def pl31 : Nat → Plan := fun _ => .fin
theorem fn31 : FnOK Tryz.prog 31 Tryz.f31 cd31 pl31 := ⟨Tryz.func31, rfl, by kernel_rfl, by kernel_rfl⟩
instance isf31 : IsFn Tryz.prog 31 := ⟨by kernel_rfl⟩
noncomputable def cd34 : Code := match Tryz.f34.body with
 | some c => c
 | none => .skip
noncomputable def pl34 : Nat → Plan
 | 0 => .st ⟨0, false, []⟩ (.st ⟨1, false, []⟩ (.st ⟨2, false, []⟩ (.st ⟨3, false, []⟩ (.st ⟨4, false, []⟩ (.st ⟨5, false, []⟩ (.st ⟨6, false, []⟩ (.st ⟨7, false, []⟩ (.st ⟨8, true, []⟩ (.st ⟨9, false, []⟩ (.st ⟨10, false, []⟩ (.st ⟨11, false, []⟩ (.st ⟨12, false, []⟩ (.st ⟨13, false, []⟩ (.fin))))))))))))))
 | _ => .fin
theorem fn34 : FnOK Tryz.prog 34 Tryz.f34 cd34 pl34 := ⟨Tryz.func34, rfl, by kernel_rfl, by kernel_rfl⟩
instance isf34 : IsFn Tryz.prog 34 := ⟨by kernel_rfl⟩
noncomputable def cd37 : Code := match Tryz.f37.body with
 | some c => c
 | none => .skip
noncomputable def pl37 : Nat → Plan
 | 0 => .st ⟨0, false, []⟩ (.st ⟨1, false, []⟩ (.st ⟨2, false, []⟩ (.st ⟨3, false, []⟩ (.st ⟨4, false, []⟩ (.st ⟨5, false, []⟩ (.st ⟨6, false, []⟩ (.st ⟨7, false, []⟩ (.st ⟨10, false, []⟩ (.st ⟨8, true, []⟩ (.st ⟨9, false, []⟩ (.fin)))))))))))
 | _ => .fin
theorem fn37 : FnOK Tryz.prog 37 Tryz.f37 cd37 pl37 := ⟨Tryz.func37, rfl, by kernel_rfl, by kernel_rfl⟩
instance isf37 : IsFn Tryz.prog 37 := ⟨by kernel_rfl⟩
noncomputable def cd43 : Code := match Tryz.f43.body with
 | some c => c
 | none => .skip
noncomputable def pl43 : Nat → Plan
 | 4 => .st ⟨0, false, []⟩ (.st ⟨1, false, []⟩ (.st ⟨2, false, []⟩ (.st ⟨3, false, []⟩ (.st ⟨4, false, []⟩ (.st ⟨5, false, []⟩ (.st ⟨6, false, []⟩ (.st ⟨7, false, []⟩ (.st ⟨8, false, []⟩ (.st ⟨9, false, []⟩ (.st ⟨10, false, []⟩ (.fin)))))))))))
 | _ => .fin
theorem fn43 : FnOK Tryz.prog 43 Tryz.f43 cd43 pl43 := ⟨Tryz.func43, rfl, by kernel_rfl, by kernel_rfl⟩
instance isf43 : IsFn Tryz.prog 43 := ⟨by kernel_rfl⟩
noncomputable def cd48 : Code := match Tryz.f48.body with
 | some c => c
 | none => .skip
noncomputable def pl48 : Nat → Plan := fun _ => .fin
theorem fn48 : FnOK Tryz.prog 48 Tryz.f48 cd48 pl48 := ⟨Tryz.func48, rfl, by kernel_rfl, by kernel_rfl⟩
instance isf48 : IsFn Tryz.prog 48 := ⟨by kernel_rfl⟩
noncomputable def cd51 : Code := match Tryz.f51.body with
 | some c => c
 | none => .skip
noncomputable def pl51 : Nat → Plan
 | 5 => .st ⟨0, false, []⟩ (.st ⟨1, false, []⟩ (.st ⟨2, false, []⟩ (.st ⟨3, false, []⟩ (.st ⟨4, false, []⟩ (.st ⟨5, false, []⟩ (.st ⟨6, false, []⟩ (.st ⟨7, false, []⟩ (.st ⟨8, false, []⟩ (.st ⟨9, true, []⟩ (.fin))))))))))
 | _ => .fin
theorem fn51 : FnOK Tryz.prog 51 Tryz.f51 cd51 pl51 := ⟨Tryz.func51, rfl, by kernel_rfl, by kernel_rfl⟩
instance isf51 : IsFn Tryz.prog 51 := ⟨by kernel_rfl⟩
noncomputable def cd57 : Code := match Tryz.f57.body with
 | some c => c
 | none => .skip
noncomputable def pl57 : Nat → Plan := fun _ => .fin
theorem fn57 : FnOK Tryz.prog 57 Tryz.f57 cd57 pl57 := ⟨Tryz.func57, rfl, by kernel_rfl, by kernel_rfl⟩
instance isf57 : IsFn Tryz.prog 57 := ⟨by kernel_rfl⟩
noncomputable def cd59 : Code := match Tryz.f59.body with
 | some c => c
 | none => .skip
noncomputable def pl59 : Nat → Plan := fun _ => .fin
theorem fn59 : FnOK Tryz.prog 59 Tryz.f59 cd59 pl59 := ⟨Tryz.func59, rfl, by kernel_rfl, by kernel_rfl⟩
instance isf59 : IsFn Tryz.prog 59 := ⟨by kernel_rfl⟩
noncomputable def cd63 : Code := match Tryz.f63.body with
 | some c => c
 | none => .skip
noncomputable def pl63 : Nat → Plan
 | 5 => .st ⟨0, false, []⟩ (.st ⟨1, false, []⟩ (.st ⟨2, false, []⟩ (.st ⟨3, false, []⟩ (.st ⟨4, false, []⟩ (.st ⟨5, false, []⟩ (.st ⟨6, false, []⟩ (.st ⟨7, false, []⟩ (.st ⟨8, false, []⟩ (.st ⟨9, false, []⟩ (.st ⟨10, false, []⟩ (.st ⟨11, true, [2, 3, 4]⟩ (.st ⟨12, true, []⟩ (.st ⟨13, false, []⟩ (.st ⟨14, false, []⟩ (.st ⟨15, true, []⟩ (.fin))))))))))))))))
 | _ => .fin
theorem fn63 : FnOK Tryz.prog 63 Tryz.f63 cd63 pl63 := ⟨Tryz.func63, rfl, by kernel_rfl, by kernel_rfl⟩
instance isf63 : IsFn Tryz.prog 63 := ⟨by kernel_rfl⟩
noncomputable def cd65 : Code := match Tryz.f65.body with
 | some c => c
 | none => .skip
noncomputable def pl65 : Nat → Plan := fun _ => .fin
theorem fn65 : FnOK Tryz.prog 65 Tryz.f65 cd65 pl65 := ⟨Tryz.func65, rfl, by kernel_rfl, by kernel_rfl⟩
instance isf65 : IsFn Tryz.prog 65 := ⟨by kernel_rfl⟩
noncomputable def cd68 : Code := match Tryz.f68.body with
 | some c => c
 | none => .skip
noncomputable def pl68 : Nat → Plan := fun _ => .fin
theorem fn68 : FnOK Tryz.prog 68 Tryz.f68 cd68 pl68 := ⟨Tryz.func68, rfl, by kernel_rfl, by kernel_rfl⟩
instance isf68 : IsFn Tryz.prog 68 := ⟨by kernel_rfl⟩
noncomputable def cd85 : Code := match Tryz.f85.body with
 | some c => c
 | none => .skip
noncomputable def pl85 : Nat → Plan := fun _ => .fin
theorem fn85 : FnOK Tryz.prog 85 Tryz.f85 cd85 pl85 := ⟨Tryz.func85, rfl, by kernel_rfl, by kernel_rfl⟩
instance isf85 : IsFn Tryz.prog 85 := ⟨by kernel_rfl⟩
noncomputable def cd88 : Code := match Tryz.f88.body with
 | some c => c
 | none => .skip
noncomputable def pl88 : Nat → Plan := fun _ => .fin
theorem fn88 : FnOK Tryz.prog 88 Tryz.f88 cd88 pl88 := ⟨Tryz.func88, rfl, by kernel_rfl, by kernel_rfl⟩
instance isf88 : IsFn Tryz.prog 88 := ⟨by kernel_rfl⟩
noncomputable def cd91 : Code := match Tryz.f91.body with
 | some c => c
 | none => .skip
noncomputable def pl91 : Nat → Plan := fun _ => .fin
theorem fn91 : FnOK Tryz.prog 91 Tryz.f91 cd91 pl91 := ⟨Tryz.func91, rfl, by kernel_rfl, by kernel_rfl⟩
instance isf91 : IsFn Tryz.prog 91 := ⟨by kernel_rfl⟩
noncomputable def cd93 : Code := match Tryz.f93.body with
 | some c => c
 | none => .skip
noncomputable def pl93 : Nat → Plan := fun _ => .fin
theorem fn93 : FnOK Tryz.prog 93 Tryz.f93 cd93 pl93 := ⟨Tryz.func93, rfl, by kernel_rfl, by kernel_rfl⟩
instance isf93 : IsFn Tryz.prog 93 := ⟨by kernel_rfl⟩
noncomputable def cd95 : Code := match Tryz.f95.body with
 | some c => c
 | none => .skip
noncomputable def pl95 : Nat → Plan := fun _ => .fin
theorem fn95 : FnOK Tryz.prog 95 Tryz.f95 cd95 pl95 := ⟨Tryz.func95, rfl, by kernel_rfl, by kernel_rfl⟩
instance isf95 : IsFn Tryz.prog 95 := ⟨by kernel_rfl⟩
noncomputable def cd98 : Code := match Tryz.f98.body with
 | some c => c
 | none => .skip
noncomputable def pl98 : Nat → Plan
 | 2 => .st ⟨0, false, []⟩ (.st ⟨1, false, []⟩ (.st ⟨2, false, []⟩ (.st ⟨3, false, []⟩ (.st ⟨4, false, []⟩ (.st ⟨5, false, []⟩ (.st ⟨6, false, []⟩ (.st ⟨7, false, []⟩ (.st ⟨8, false, []⟩ (.st ⟨9, false, []⟩ (.st ⟨10, false, []⟩ (.st ⟨11, false, []⟩ (.fin))))))))))))
 | _ => .fin
theorem fn98 : FnOK Tryz.prog 98 Tryz.f98 cd98 pl98 := ⟨Tryz.func98, rfl, by kernel_rfl, by kernel_rfl⟩
instance isf98 : IsFn Tryz.prog 98 := ⟨by kernel_rfl⟩
noncomputable def cd102 : Code := match Tryz.f102.body with
 | some c => c
 | none => .skip
noncomputable def pl102 : Nat → Plan := fun _ => .fin
theorem fn102 : FnOK Tryz.prog 102 Tryz.f102 cd102 pl102 := ⟨Tryz.func102, rfl, by kernel_rfl, by kernel_rfl⟩
instance isf102 : IsFn Tryz.prog 102 := ⟨by kernel_rfl⟩
noncomputable def cd105 : Code := match Tryz.f105.body with
 | some c => c
 | none => .skip
noncomputable def pl105 : Nat → Plan
 | 8 => .st ⟨0, false, []⟩ (.st ⟨1, false, []⟩ (.st ⟨2, false, []⟩ (.st ⟨3, false, []⟩ (.st ⟨4, false, []⟩ (.st ⟨5, false, []⟩ (.st ⟨6, true, []⟩ (.st ⟨7, false, []⟩ (.fin))))))))
 | 13 => .st ⟨0, false, []⟩ (.st ⟨1, false, []⟩ (.st ⟨2, false, []⟩ (.st ⟨3, false, []⟩ (.st ⟨4, false, []⟩ (.st ⟨5, false, []⟩ (.st ⟨6, false, []⟩ (.st ⟨7, false, []⟩ (.st ⟨8, true, []⟩ (.fin)))))))))
 | 16 => .st ⟨0, false, []⟩ (.st ⟨1, false, []⟩ (.st ⟨2, false, []⟩ (.st ⟨3, false, []⟩ (.st ⟨4, false, []⟩ (.st ⟨5, false, []⟩ (.st ⟨6, true, []⟩ (.fin)))))))
 | 19 => .st ⟨0, false, []⟩ (.st ⟨1, false, []⟩ (.st ⟨2, false, []⟩ (.st ⟨3, false, []⟩ (.st ⟨4, false, []⟩ (.st ⟨5, false, []⟩ (.st ⟨6, false, []⟩ (.st ⟨7, true, []⟩ (.fin))))))))
 | _ => .fin
theorem fn105 : FnOK Tryz.prog 105 Tryz.f105 cd105 pl105 := ⟨Tryz.func105, rfl, by kernel_rfl, by kernel_rfl⟩
instance isf105 : IsFn Tryz.prog 105 := ⟨by kernel_rfl⟩
noncomputable def cd108 : Code := match Tryz.f108.body with
 | some c => c
 | none => .skip
noncomputable def pl108 : Nat → Plan
 | 1 => .st ⟨0, false, []⟩ (.st ⟨1, false, []⟩ (.st ⟨2, false, []⟩ (.st ⟨3, false, []⟩ (.st ⟨4, false, []⟩ (.st ⟨5, false, []⟩ (.st ⟨6, true, []⟩ (.st ⟨7, false, []⟩ (.fin))))))))
 | 2 => .st ⟨0, false, []⟩ (.st ⟨1, false, []⟩ (.st ⟨2, false, []⟩ (.st ⟨3, false, []⟩ (.st ⟨4, false, []⟩ (.st ⟨5, false, []⟩ (.st ⟨6, false, []⟩ (.st ⟨7, false, []⟩ (.st ⟨8, false, []⟩ (.st ⟨9, true, []⟩ (.st ⟨10, false, []⟩ (.fin)))))))))))
 | 6 => .st ⟨0, false, []⟩ (.st ⟨1, false, []⟩ (.st ⟨2, false, []⟩ (.st ⟨3, false, []⟩ (.st ⟨4, false, []⟩ (.st ⟨5, false, []⟩ (.st ⟨6, true, []⟩ (.st ⟨7, false, []⟩ (.st ⟨8, false, []⟩ (.st ⟨9, false, []⟩ (.st ⟨10, false, []⟩ (.st ⟨11, false, []⟩ (.fin))))))))))))
 | 11 => .st ⟨0, false, []⟩ (.st ⟨1, false, []⟩ (.st ⟨2, false, []⟩ (.st ⟨3, false, []⟩ (.st ⟨4, false, []⟩ (.st ⟨5, false, []⟩ (.st ⟨6, true, []⟩ (.st ⟨7, false, []⟩ (.fin))))))))
 | 15 => .st ⟨0, false, []⟩ (.st ⟨1, false, []⟩ (.st ⟨2, false, []⟩ (.st ⟨3, false, []⟩ (.st ⟨4, false, []⟩ (.st ⟨5, false, []⟩ (.st ⟨6, false, []⟩ (.st ⟨7, true, []⟩ (.st ⟨8, false, []⟩ (.fin)))))))))
 | _ => .fin
theorem fn108 : FnOK Tryz.prog 108 Tryz.f108 cd108 pl108 := ⟨Tryz.func108, rfl, by kernel_rfl, by kernel_rfl⟩
instance isf108 : IsFn Tryz.prog 108 := ⟨by kernel_rfl⟩
noncomputable def cd112 : Code := match Tryz.f112.body with
 | some c => c
 | none => .skip
noncomputable def pl112 : Nat → Plan := fun _ => .fin
theorem fn112 : FnOK Tryz.prog 112 Tryz.f112 cd112 pl112 := ⟨Tryz.func112, rfl, by kernel_rfl, by kernel_rfl⟩
instance isf112 : IsFn Tryz.prog 112 := ⟨by kernel_rfl⟩
noncomputable def cd114 : Code := match Tryz.f114.body with
 | some c => c
 | none => .skip
noncomputable def pl114 : Nat → Plan := fun _ => .fin
theorem fn114 : FnOK Tryz.prog 114 Tryz.f114 cd114 pl114 := ⟨Tryz.func114, rfl, by kernel_rfl, by kernel_rfl⟩
instance isf114 : IsFn Tryz.prog 114 := ⟨by kernel_rfl⟩
noncomputable def cd115 : Code := match Tryz.f115.body with
 | some c => c
 | none => .skip
noncomputable def pl115 : Nat → Plan := fun _ => .fin
theorem fn115 : FnOK Tryz.prog 115 Tryz.f115 cd115 pl115 := ⟨Tryz.func115, rfl, by kernel_rfl, by kernel_rfl⟩
instance isf115 : IsFn Tryz.prog 115 := ⟨by kernel_rfl⟩
noncomputable def cd117 : Code := match Tryz.f117.body with
 | some c => c
 | none => .skip
noncomputable def pl117 : Nat → Plan := fun _ => .fin
theorem fn117 : FnOK Tryz.prog 117 Tryz.f117 cd117 pl117 := ⟨Tryz.func117, rfl, by kernel_rfl, by kernel_rfl⟩
instance isf117 : IsFn Tryz.prog 117 := ⟨by kernel_rfl⟩
noncomputable def cd121 : Code := match Tryz.f121.body with
 | some c => c
 | none => .skip
noncomputable def pl121 : Nat → Plan := fun _ => .fin
theorem fn121 : FnOK Tryz.prog 121 Tryz.f121 cd121 pl121 := ⟨Tryz.func121, rfl, by kernel_rfl, by kernel_rfl⟩
instance isf121 : IsFn Tryz.prog 121 := ⟨by kernel_rfl⟩
noncomputable def cd145 : Code := match Tryz.f145.body with
 | some c => c
 | none => .skip
noncomputable def pl145 : Nat → Plan := fun _ => .fin
theorem fn145 : FnOK Tryz.prog 145 Tryz.f145 cd145 pl145 := ⟨Tryz.func145, rfl, by kernel_rfl, by kernel_rfl⟩
instance isf145 : IsFn Tryz.prog 145 := ⟨by kernel_rfl⟩
noncomputable def cd148 : Code := match Tryz.f148.body with
 | some c => c
 | none => .skip
noncomputable def pl148 : Nat → Plan := fun _ => .fin
theorem fn148 : FnOK Tryz.prog 148 Tryz.f148 cd148 pl148 := ⟨Tryz.func148, rfl, by kernel_rfl, by kernel_rfl⟩
instance isf148 : IsFn Tryz.prog 148 := ⟨by kernel_rfl⟩
noncomputable def cd150 : Code := match Tryz.f150.body with
 | some c => c
 | none => .skip
noncomputable def pl150 : Nat → Plan := fun _ => .fin
theorem fn150 : FnOK Tryz.prog 150 Tryz.f150 cd150 pl150 := ⟨Tryz.func150, rfl, by kernel_rfl, by kernel_rfl⟩
instance isf150 : IsFn Tryz.prog 150 := ⟨by kernel_rfl⟩
noncomputable def cd153 : Code := match Tryz.f153.body with
 | some c => c
 | none => .skip
noncomputable def pl153 : Nat → Plan := fun _ => .fin
theorem fn153 : FnOK Tryz.prog 153 Tryz.f153 cd153 pl153 := ⟨Tryz.func153, rfl, by kernel_rfl, by kernel_rfl⟩
instance isf153 : IsFn Tryz.prog 153 := ⟨by kernel_rfl⟩
noncomputable def cd156 : Code := match Tryz.f156.body with
 | some c => c
 | none => .skip
noncomputable def pl156 : Nat → Plan := fun _ => .fin
theorem fn156 : FnOK Tryz.prog 156 Tryz.f156 cd156 pl156 := ⟨Tryz.func156, rfl, by kernel_rfl, by kernel_rfl⟩
instance isf156 : IsFn Tryz.prog 156 := ⟨by kernel_rfl⟩
noncomputable def cd160 : Code := match Tryz.f160.body with
 | some c => c
 | none => .skip
noncomputable def pl160 : Nat → Plan := fun _ => .fin
theorem fn160 : FnOK Tryz.prog 160 Tryz.f160 cd160 pl160 := ⟨Tryz.func160, rfl, by kernel_rfl, by kernel_rfl⟩
instance isf160 : IsFn Tryz.prog 160 := ⟨by kernel_rfl⟩
noncomputable def cd163 : Code := match Tryz.f163.body with
 | some c => c
 | none => .skip
noncomputable def pl163 : Nat → Plan := fun _ => .fin
theorem fn163 : FnOK Tryz.prog 163 Tryz.f163 cd163 pl163 := ⟨Tryz.func163, rfl, by kernel_rfl, by kernel_rfl⟩
instance isf163 : IsFn Tryz.prog 163 := ⟨by kernel_rfl⟩
noncomputable def cd166 : Code := match Tryz.f166.body with
 | some c => c
 | none => .skip
noncomputable def pl166 : Nat → Plan
 | 3 => .st ⟨0, false, []⟩ (.st ⟨1, false, []⟩ (.st ⟨2, false, []⟩ (.st ⟨3, false, []⟩ (.st ⟨4, false, []⟩ (.st ⟨5, false, []⟩ (.st ⟨6, false, []⟩ (.st ⟨7, true, []⟩ (.fin))))))))
 | _ => .fin
theorem fn166 : FnOK Tryz.prog 166 Tryz.f166 cd166 pl166 := ⟨Tryz.func166, rfl, by kernel_rfl, by kernel_rfl⟩
instance isf166 : IsFn Tryz.prog 166 := ⟨by kernel_rfl⟩
noncomputable def cd170 : Code := match Tryz.f170.body with
 | some c => c
 | none => .skip
noncomputable def pl170 : Nat → Plan := fun _ => .fin
theorem fn170 : FnOK Tryz.prog 170 Tryz.f170 cd170 pl170 := ⟨Tryz.func170, rfl, by kernel_rfl, by kernel_rfl⟩
instance isf170 : IsFn Tryz.prog 170 := ⟨by kernel_rfl⟩
noncomputable def cd173 : Code := match Tryz.f173.body with
 | some c => c
 | none => .skip
noncomputable def pl173 : Nat → Plan
 | 4 => .st ⟨0, false, []⟩ (.st ⟨1, false, []⟩ (.st ⟨2, false, []⟩ (.st ⟨3, false, []⟩ (.st ⟨4, false, []⟩ (.st ⟨5, false, []⟩ (.st ⟨6, false, []⟩ (.st ⟨7, false, []⟩ (.st ⟨8, false, []⟩ (.st ⟨9, false, []⟩ (.st ⟨10, false, []⟩ (.fin)))))))))))
 | _ => .fin
theorem fn173 : FnOK Tryz.prog 173 Tryz.f173 cd173 pl173 := ⟨Tryz.func173, rfl, by kernel_rfl, by kernel_rfl⟩
instance isf173 : IsFn Tryz.prog 173 := ⟨by kernel_rfl⟩
noncomputable def cd178 : Code := match Tryz.f178.body with
 | some c => c
 | none => .skip
noncomputable def pl178 : Nat → Plan
 | 1 => .st ⟨0, false, []⟩ (.st ⟨1, false, []⟩ (.st ⟨2, false, []⟩ (.st ⟨3, false, []⟩ (.st ⟨4, false, []⟩ (.st ⟨5, false, []⟩ (.st ⟨6, false, []⟩ (.st ⟨7, false, []⟩ (.st ⟨8, false, []⟩ (.st ⟨9, false, []⟩ (.st ⟨10, false, []⟩ (.st ⟨11, false, []⟩ (.st ⟨12, false, []⟩ (.st ⟨13, false, []⟩ (.st ⟨14, false, []⟩ (.st ⟨15, false, []⟩ (.st ⟨16, false, []⟩ (.st ⟨17, false, []⟩ (.st ⟨18, true, []⟩ (.st ⟨19, false, []⟩ (.st ⟨20, false, []⟩ (.fin)))))))))))))))))))))
 | _ => .fin
theorem fn178 : FnOK Tryz.prog 178 Tryz.f178 cd178 pl178 := ⟨Tryz.func178, rfl, by kernel_rfl, by kernel_rfl⟩
instance isf178 : IsFn Tryz.prog 178 := ⟨by kernel_rfl⟩
noncomputable def cd184 : Code := match Tryz.f184.body with
 | some c => c
 | none => .skip
noncomputable def pl184 : Nat → Plan := fun _ => .fin
theorem fn184 : FnOK Tryz.prog 184 Tryz.f184 cd184 pl184 := ⟨Tryz.func184, rfl, by kernel_rfl, by kernel_rfl⟩
instance isf184 : IsFn Tryz.prog 184 := ⟨by kernel_rfl⟩
noncomputable def cd188 : Code := match Tryz.f188.body with
 | some c => c
 | none => .skip
noncomputable def pl188 : Nat → Plan
 | 5 => .st ⟨0, false, []⟩ (.st ⟨1, false, []⟩ (.st ⟨2, false, []⟩ (.st ⟨3, false, []⟩ (.st ⟨4, true, [0, 1]⟩ (.st ⟨5, true, [0, 1]⟩ (.st ⟨6, true, []⟩ (.st ⟨7, false, []⟩ (.st ⟨8, true, []⟩ (.fin)))))))))
 | _ => .fin
theorem fn188 : FnOK Tryz.prog 188 Tryz.f188 cd188 pl188 := ⟨Tryz.func188, rfl, by kernel_rfl, by kernel_rfl⟩
instance isf188 : IsFn Tryz.prog 188 := ⟨by kernel_rfl⟩
noncomputable def cd193 : Code := match Tryz.f193.body with
 | some c => c
 | none => .skip
noncomputable def pl193 : Nat → Plan := fun _ => .fin
theorem fn193 : FnOK Tryz.prog 193 Tryz.f193 cd193 pl193 := ⟨Tryz.func193, rfl, by kernel_rfl, by kernel_rfl⟩
instance isf193 : IsFn Tryz.prog 193 := ⟨by kernel_rfl⟩
noncomputable def cd228 : Code := match Tryz.f228.body with
 | some c => c
 | none => .skip
noncomputable def pl228 : Nat → Plan := fun _ => .fin
theorem fn228 : FnOK Tryz.prog 228 Tryz.f228 cd228 pl228 := ⟨Tryz.func228, rfl, by kernel_rfl, by kernel_rfl⟩
instance isf228 : IsFn Tryz.prog 228 := ⟨by kernel_rfl⟩
noncomputable def cd231 : Code := match Tryz.f231.body with
 | some c => c
 | none => .skip
noncomputable def pl231 : Nat → Plan := fun _ => .fin
theorem fn231 : FnOK Tryz.prog 231 Tryz.f231 cd231 pl231 := ⟨Tryz.func231, rfl, by kernel_rfl, by kernel_rfl⟩
instance isf231 : IsFn Tryz.prog 231 := ⟨by kernel_rfl⟩
noncomputable def cd235 : Code := match Tryz.f235.body with
 | some c => c
 | none => .skip
noncomputable def pl235 : Nat → Plan := fun _ => .fin
theorem fn235 : FnOK Tryz.prog 235 Tryz.f235 cd235 pl235 := ⟨Tryz.func235, rfl, by kernel_rfl, by kernel_rfl⟩
instance isf235 : IsFn Tryz.prog 235 := ⟨by kernel_rfl⟩
noncomputable def cd242 : Code := match Tryz.f242.body with
 | some c => c
 | none => .skip
noncomputable def pl242 : Nat → Plan := fun _ => .fin
theorem fn242 : FnOK Tryz.prog 242 Tryz.f242 cd242 pl242 := ⟨Tryz.func242, rfl, by kernel_rfl, by kernel_rfl⟩
instance isf242 : IsFn Tryz.prog 242 := ⟨by kernel_rfl⟩
noncomputable def cd245 : Code := match Tryz.f245.body with
 | some c => c
 | none => .skip
noncomputable def pl245 : Nat → Plan
 | 1 => .st ⟨0, false, []⟩ (.st ⟨1, false, []⟩ (.st ⟨2, false, []⟩ (.st ⟨3, false, []⟩ (.st ⟨4, false, []⟩ (.st ⟨5, false, []⟩ (.st ⟨6, false, []⟩ (.st ⟨7, false, []⟩ (.st ⟨8, false, []⟩ (.st ⟨9, false, []⟩ (.st ⟨10, false, []⟩ (.st ⟨11, false, []⟩ (.st ⟨12, false, []⟩ (.st ⟨13, false, []⟩ (.st ⟨14, false, []⟩ (.st ⟨15, false, []⟩ (.st ⟨16, false, []⟩ (.st ⟨17, false, []⟩ (.st ⟨18, false, []⟩ (.st ⟨19, false, []⟩ (.st ⟨20, false, []⟩ (.st ⟨21, false, []⟩ (.st ⟨22, false, []⟩ (.st ⟨23, false, []⟩ (.st ⟨24, false, []⟩ (.st ⟨25, false, []⟩ (.st ⟨26, false, []⟩ (.st ⟨27, false, []⟩ (.st ⟨28, false, []⟩ (.st ⟨29, false, []⟩ (.st ⟨30, false, []⟩ (.st ⟨31, false, []⟩ (.st ⟨32, false, []⟩ (.st ⟨33, false, []⟩ (.st ⟨34, false, []⟩ (.st ⟨35, false, []⟩ (.st ⟨36, false, []⟩ (.st ⟨37, false, []⟩ (.st ⟨38, false, []⟩ (.st ⟨39, false, []⟩ (.st ⟨40, false, []⟩ (.st ⟨41, false, []⟩ (.st ⟨42, false, []⟩ (.st ⟨43, false, []⟩ (.st ⟨44, false, []⟩ (.st ⟨45, false, []⟩ (.st ⟨46, false, []⟩ (.st ⟨47, false, []⟩ (.st ⟨48, false, []⟩ (.st ⟨49, false, []⟩ (.st ⟨50, false, []⟩ (.st ⟨51, false, []⟩ (.st ⟨52, false, []⟩ (.st ⟨53, false, []⟩ (.fin))))))))))))))))))))))))))))))))))))))))))))))))))))))
 | _ => .fin
theorem fn245 : FnOK Tryz.prog 245 Tryz.f245 cd245 pl245 := ⟨Tryz.func245, rfl, by kernel_rfl, by kernel_rfl⟩
instance isf245 : IsFn Tryz.prog 245 := ⟨by kernel_rfl⟩
noncomputable def cd271 : Code := match Tryz.f271.body with
 | some c => c
 | none => .skip
noncomputable def pl271 : Nat → Plan := fun _ => .fin
theorem fn271 : FnOK Tryz.prog 271 Tryz.f271 cd271 pl271 := ⟨Tryz.func271, rfl, by kernel_rfl, by kernel_rfl⟩
instance isf271 : IsFn Tryz.prog 271 := ⟨by kernel_rfl⟩
end Go.Proofs.YtacmaamllpiloaaGreat
