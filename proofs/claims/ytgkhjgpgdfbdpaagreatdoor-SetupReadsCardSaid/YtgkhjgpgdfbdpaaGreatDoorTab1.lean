/- Tables, printed by a program: each function with its plans; closed facts on types. -/
import Derived.Test.YtgkhjgpgdfbdpaaGreatDoorProg
import Derived.Test.YtgkhjgpgdfbdpaaGreatDoorWkF
import Derived.KernelRfl
namespace Go.Proofs.YtgkhjgpgdfbdpaaGreatDoor
open Go Go.Wk
-- anchorhold/anchorholdlaw34.SetupReads
noncomputable def cd4 : Code := match Tryz.f4.body with
  | some c => c
  | none => .skip
noncomputable def pl4 : Nat → Plan := fun _ => .fin
theorem fn4 : FnOK Tryz.prog 4 Tryz.f4 cd4 pl4 := ⟨Tryz.func4, rfl, by kernel_rfl, by kernel_rfl⟩
instance isf4 : IsFn Tryz.prog 4 := ⟨by kernel_rfl⟩
-- anchorhold/setup.Words
noncomputable def cd9 : Code := match Tryz.f9.body with
  | some c => c
  | none => .skip
noncomputable def pl9 : Nat → Plan := fun _ => .fin
theorem fn9 : FnOK Tryz.prog 9 Tryz.f9 cd9 pl9 := ⟨Tryz.func9, rfl, by kernel_rfl, by kernel_rfl⟩
instance isf9 : IsFn Tryz.prog 9 := ⟨by kernel_rfl⟩
-- anchorhold/setup.Read
noncomputable def cd12 : Code := match Tryz.f12.body with
  | some c => c
  | none => .skip
noncomputable def pl12 : Nat → Plan
  | 6 => .st ⟨0, false, []⟩ (.st ⟨1, false, []⟩ (.st ⟨2, false, []⟩ (.st ⟨3, false, []⟩ (.st ⟨4, false, []⟩ (.st ⟨5, true, [2, 3, 4]⟩ (.st ⟨6, false, []⟩ (.st ⟨7, false, []⟩ (.fin))))))))
  | _ => .fin
theorem fn12 : FnOK Tryz.prog 12 Tryz.f12 cd12 pl12 := ⟨Tryz.func12, rfl, by kernel_rfl, by kernel_rfl⟩
instance isf12 : IsFn Tryz.prog 12 := ⟨by kernel_rfl⟩
-- (*anchorhold/setup.writer).rest
noncomputable def cd17 : Code := match Tryz.f17.body with
  | some c => c
  | none => .skip
noncomputable def pl17 : Nat → Plan := fun _ => .fin
theorem fn17 : FnOK Tryz.prog 17 Tryz.f17 cd17 pl17 := ⟨Tryz.func17, rfl, by kernel_rfl, by kernel_rfl⟩
instance isf17 : IsFn Tryz.prog 17 := ⟨by kernel_rfl⟩
-- anchorhold/anchorholdref34.short
noncomputable def cd20 : Code := match Tryz.f20.body with
  | some c => c
  | none => .skip
noncomputable def pl20 : Nat → Plan := fun _ => .fin
theorem fn20 : FnOK Tryz.prog 20 Tryz.f20 cd20 pl20 := ⟨Tryz.func20, rfl, by kernel_rfl, by kernel_rfl⟩
instance isf20 : IsFn Tryz.prog 20 := ⟨by kernel_rfl⟩
-- strings.Split
instance isf22 : IsFn Tryz.prog 22 := ⟨by kernel_rfl⟩
-- anchorhold/setup.number
noncomputable def cd24 : Code := match Tryz.f24.body with
  | some c => c
  | none => .skip
noncomputable def pl24 : Nat → Plan := fun _ => .fin
theorem fn24 : FnOK Tryz.prog 24 Tryz.f24 cd24 pl24 := ⟨Tryz.func24, rfl, by kernel_rfl, by kernel_rfl⟩
instance isf24 : IsFn Tryz.prog 24 := ⟨by kernel_rfl⟩
-- (*anchorhold/setup.reader).config
noncomputable def cd27 : Code := match Tryz.f27.body with
  | some c => c
  | none => .skip
noncomputable def pl27 : Nat → Plan
  | 9 => .st ⟨0, false, []⟩ (.st ⟨1, false, []⟩ (.st ⟨2, false, []⟩ (.st ⟨3, false, []⟩ (.st ⟨4, false, []⟩ (.st ⟨5, false, []⟩ (.st ⟨6, false, []⟩ (.st ⟨7, false, []⟩ (.st ⟨8, false, []⟩ (.st ⟨9, false, []⟩ (.st ⟨10, false, []⟩ (.st ⟨11, false, []⟩ (.st ⟨12, false, []⟩ (.st ⟨13, false, []⟩ (.st ⟨14, false, []⟩ (.st ⟨15, false, []⟩ (.st ⟨16, false, []⟩ (.st ⟨17, false, []⟩ (.st ⟨18, false, []⟩ (.st ⟨19, false, []⟩ (.st ⟨20, false, []⟩ (.st ⟨21, false, []⟩ (.st ⟨22, false, []⟩ (.st ⟨23, false, []⟩ (.st ⟨24, false, []⟩ (.st ⟨25, false, []⟩ (.st ⟨26, true, []⟩ (.st ⟨27, false, []⟩ (.st ⟨28, false, []⟩ (.st ⟨29, true, []⟩ (.st ⟨30, false, []⟩ (.st ⟨31, false, []⟩ (.st ⟨32, true, []⟩ (.st ⟨33, false, []⟩ (.st ⟨34, false, []⟩ (.st ⟨35, true, []⟩ (.st ⟨36, false, []⟩ (.st ⟨37, false, []⟩ (.st ⟨38, true, []⟩ (.st ⟨39, false, []⟩ (.st ⟨40, false, []⟩ (.st ⟨41, true, []⟩ (.fin))))))))))))))))))))))))))))))))))))))))))
  | _ => .fin
theorem fn27 : FnOK Tryz.prog 27 Tryz.f27 cd27 pl27 := ⟨Tryz.func27, rfl, by kernel_rfl, by kernel_rfl⟩
instance isf27 : IsFn Tryz.prog 27 := ⟨by kernel_rfl⟩
-- anchorhold/setup.truth
noncomputable def cd35 : Code := match Tryz.f35.body with
  | some c => c
  | none => .skip
noncomputable def pl35 : Nat → Plan := fun _ => .fin
theorem fn35 : FnOK Tryz.prog 35 Tryz.f35 cd35 pl35 := ⟨Tryz.func35, rfl, by kernel_rfl, by kernel_rfl⟩
instance isf35 : IsFn Tryz.prog 35 := ⟨by kernel_rfl⟩
-- anchorhold/anchorholdref34.Line
noncomputable def cd37 : Code := match Tryz.f37.body with
  | some c => c
  | none => .skip
noncomputable def pl37 : Nat → Plan := fun _ => .fin
theorem fn37 : FnOK Tryz.prog 37 Tryz.f37 cd37 pl37 := ⟨Tryz.func37, rfl, by kernel_rfl, by kernel_rfl⟩
instance isf37 : IsFn Tryz.prog 37 := ⟨by kernel_rfl⟩
-- strings.genSplit
instance isf38 : IsFn Tryz.prog 38 := ⟨by kernel_rfl⟩
-- strings.trimLeftByte
instance isf39 : IsFn Tryz.prog 39 := ⟨by kernel_rfl⟩
-- strings.trimRightByte
instance isf40 : IsFn Tryz.prog 40 := ⟨by kernel_rfl⟩
-- strings.makeASCIISet
instance isf41 : IsFn Tryz.prog 41 := ⟨by kernel_rfl⟩
-- strings.trimLeftASCII
instance isf42 : IsFn Tryz.prog 42 := ⟨by kernel_rfl⟩
-- strings.trimRightASCII
instance isf43 : IsFn Tryz.prog 43 := ⟨by kernel_rfl⟩
-- strings.trimLeftUnicode
instance isf44 : IsFn Tryz.prog 44 := ⟨by kernel_rfl⟩
-- strings.trimRightUnicode
instance isf45 : IsFn Tryz.prog 45 := ⟨by kernel_rfl⟩
-- anchorhold/setup.decimal
noncomputable def cd47 : Code := match Tryz.f47.body with
  | some c => c
  | none => .skip
noncomputable def pl47 : Nat → Plan := fun _ => .fin
theorem fn47 : FnOK Tryz.prog 47 Tryz.f47 cd47 pl47 := ⟨Tryz.func47, rfl, by kernel_rfl, by kernel_rfl⟩
instance isf47 : IsFn Tryz.prog 47 := ⟨by kernel_rfl⟩
-- anchorhold/setup.some[anchorhold/api.PartConf]
noncomputable def cd49 : Code := match Tryz.f49.body with
  | some c => c
  | none => .skip
noncomputable def pl49 : Nat → Plan := fun _ => .fin
theorem fn49 : FnOK Tryz.prog 49 Tryz.f49 cd49 pl49 := ⟨Tryz.func49, rfl, by kernel_rfl, by kernel_rfl⟩
instance isf49 : IsFn Tryz.prog 49 := ⟨by kernel_rfl⟩
-- anchorhold/setup.some[anchorhold/api.ChanConf]
noncomputable def cd51 : Code := match Tryz.f51.body with
  | some c => c
  | none => .skip
noncomputable def pl51 : Nat → Plan := fun _ => .fin
theorem fn51 : FnOK Tryz.prog 51 Tryz.f51 cd51 pl51 := ⟨Tryz.func51, rfl, by kernel_rfl, by kernel_rfl⟩
instance isf51 : IsFn Tryz.prog 51 := ⟨by kernel_rfl⟩
-- anchorhold/setup.some[anchorhold/api.Mode]
noncomputable def cd53 : Code := match Tryz.f53.body with
  | some c => c
  | none => .skip
noncomputable def pl53 : Nat → Plan := fun _ => .fin
theorem fn53 : FnOK Tryz.prog 53 Tryz.f53 cd53 pl53 := ⟨Tryz.func53, rfl, by kernel_rfl, by kernel_rfl⟩
instance isf53 : IsFn Tryz.prog 53 := ⟨by kernel_rfl⟩
-- anchorhold/setup.some[anchorhold/api.Level]
noncomputable def cd55 : Code := match Tryz.f55.body with
  | some c => c
  | none => .skip
noncomputable def pl55 : Nat → Plan := fun _ => .fin
theorem fn55 : FnOK Tryz.prog 55 Tryz.f55 cd55 pl55 := ⟨Tryz.func55, rfl, by kernel_rfl, by kernel_rfl⟩
instance isf55 : IsFn Tryz.prog 55 := ⟨by kernel_rfl⟩
-- (*anchorhold/setup.reader).config$3
noncomputable def cd58 : Code := match Tryz.f58.body with
  | some c => c
  | none => .skip
noncomputable def pl58 : Nat → Plan
  | 1 => .st ⟨0, false, []⟩ (.st ⟨1, false, []⟩ (.st ⟨2, false, []⟩ (.st ⟨3, false, []⟩ (.st ⟨4, false, []⟩ (.st ⟨5, false, []⟩ (.st ⟨6, false, []⟩ (.st ⟨7, false, []⟩ (.st ⟨8, false, []⟩ (.st ⟨9, false, []⟩ (.st ⟨10, true, []⟩ (.fin)))))))))))
  | _ => .fin
theorem fn58 : FnOK Tryz.prog 58 Tryz.f58 cd58 pl58 := ⟨Tryz.func58, rfl, by kernel_rfl, by kernel_rfl⟩
instance isf58 : IsFn Tryz.prog 58 := ⟨by kernel_rfl⟩
-- anchorhold/anchorholdref08.ints
noncomputable def cd63 : Code := match Tryz.f63.body with
  | some c => c
  | none => .skip
noncomputable def pl63 : Nat → Plan := fun _ => .fin
theorem fn63 : FnOK Tryz.prog 63 Tryz.f63 cd63 pl63 := ⟨Tryz.func63, rfl, by kernel_rfl, by kernel_rfl⟩
instance isf63 : IsFn Tryz.prog 63 := ⟨by kernel_rfl⟩
-- (*strings.Builder).WriteString
noncomputable def cd65 : Code := match Tryz.f65.body with
  | some c => c
  | none => .skip
noncomputable def pl65 : Nat → Plan := fun _ => .fin
theorem fn65 : FnOK Tryz.prog 65 Tryz.f65 cd65 pl65 := ⟨Tryz.func65, rfl, by kernel_rfl, by kernel_rfl⟩
instance isf65 : IsFn Tryz.prog 65 := ⟨by kernel_rfl⟩
-- anchorhold/anchorholdref34.bit
noncomputable def cd67 : Code := match Tryz.f67.body with
  | some c => c
  | none => .skip
noncomputable def pl67 : Nat → Plan := fun _ => .fin
theorem fn67 : FnOK Tryz.prog 67 Tryz.f67 cd67 pl67 := ⟨Tryz.func67, rfl, by kernel_rfl, by kernel_rfl⟩
instance isf67 : IsFn Tryz.prog 67 := ⟨by kernel_rfl⟩
-- unicode/utf8.DecodeRuneInString
instance isf72 : IsFn Tryz.prog 72 := ⟨by kernel_rfl⟩
-- unicode/utf8.DecodeLastRuneInString
instance isf74 : IsFn Tryz.prog 74 := ⟨by kernel_rfl⟩
-- (*anchorhold/setup.reader).peek
noncomputable def cd77 : Code := match Tryz.f77.body with
  | some c => c
  | none => .skip
noncomputable def pl77 : Nat → Plan
  | 3 => .st ⟨0, false, []⟩ (.st ⟨1, false, []⟩ (.st ⟨2, false, []⟩ (.st ⟨3, false, []⟩ (.st ⟨4, false, []⟩ (.st ⟨5, false, []⟩ (.st ⟨6, false, []⟩ (.st ⟨7, false, []⟩ (.st ⟨8, false, []⟩ (.st ⟨9, false, []⟩ (.st ⟨10, false, []⟩ (.st ⟨11, false, []⟩ (.st ⟨12, false, []⟩ (.st ⟨13, false, []⟩ (.st ⟨14, false, []⟩ (.st ⟨15, false, []⟩ (.st ⟨16, false, []⟩ (.st ⟨17, false, []⟩ (.st ⟨18, false, []⟩ (.fin)))))))))))))))))))
  | _ => .fin
theorem fn77 : FnOK Tryz.prog 77 Tryz.f77 cd77 pl77 := ⟨Tryz.func77, rfl, by kernel_rfl, by kernel_rfl⟩
instance isf77 : IsFn Tryz.prog 77 := ⟨by kernel_rfl⟩
-- (*anchorhold/setup.reader).part$1
noncomputable def cd79 : Code := match Tryz.f79.body with
  | some c => c
  | none => .skip
noncomputable def pl79 : Nat → Plan
  | 1 => .st ⟨0, false, []⟩ (.st ⟨1, false, []⟩ (.st ⟨2, false, []⟩ (.st ⟨3, false, []⟩ (.st ⟨4, false, []⟩ (.st ⟨5, false, []⟩ (.st ⟨6, false, []⟩ (.st ⟨7, false, []⟩ (.st ⟨8, false, []⟩ (.st ⟨9, false, []⟩ (.st ⟨10, true, [1, 2, 4, 5]⟩ (.st ⟨11, false, []⟩ (.st ⟨12, true, []⟩ (.fin)))))))))))))
  | _ => .fin
theorem fn79 : FnOK Tryz.prog 79 Tryz.f79 cd79 pl79 := ⟨Tryz.func79, rfl, by kernel_rfl, by kernel_rfl⟩
instance isf79 : IsFn Tryz.prog 79 := ⟨by kernel_rfl⟩
-- anchorhold/setup.some[anchorhold/api.PortConf]
noncomputable def cd83 : Code := match Tryz.f83.body with
  | some c => c
  | none => .skip
noncomputable def pl83 : Nat → Plan := fun _ => .fin
theorem fn83 : FnOK Tryz.prog 83 Tryz.f83 cd83 pl83 := ⟨Tryz.func83, rfl, by kernel_rfl, by kernel_rfl⟩
instance isf83 : IsFn Tryz.prog 83 := ⟨by kernel_rfl⟩
-- anchorhold/setup.some[anchorhold/api.SemConf]
noncomputable def cd85 : Code := match Tryz.f85.body with
  | some c => c
  | none => .skip
noncomputable def pl85 : Nat → Plan := fun _ => .fin
theorem fn85 : FnOK Tryz.prog 85 Tryz.f85 cd85 pl85 := ⟨Tryz.func85, rfl, by kernel_rfl, by kernel_rfl⟩
instance isf85 : IsFn Tryz.prog 85 := ⟨by kernel_rfl⟩
-- anchorhold/setup.some[anchorhold/api.PoolConf]
noncomputable def cd87 : Code := match Tryz.f87.body with
  | some c => c
  | none => .skip
noncomputable def pl87 : Nat → Plan := fun _ => .fin
theorem fn87 : FnOK Tryz.prog 87 Tryz.f87 cd87 pl87 := ⟨Tryz.func87, rfl, by kernel_rfl, by kernel_rfl⟩
instance isf87 : IsFn Tryz.prog 87 := ⟨by kernel_rfl⟩
-- (*anchorhold/setup.reader).part$6
noncomputable def cd90 : Code := match Tryz.f90.body with
  | some c => c
  | none => .skip
noncomputable def pl90 : Nat → Plan := fun _ => .fin
theorem fn90 : FnOK Tryz.prog 90 Tryz.f90 cd90 pl90 := ⟨Tryz.func90, rfl, by kernel_rfl, by kernel_rfl⟩
instance isf90 : IsFn Tryz.prog 90 := ⟨by kernel_rfl⟩
-- (*anchorhold/setup.reader).next
noncomputable def cd93 : Code := match Tryz.f93.body with
  | some c => c
  | none => .skip
noncomputable def pl93 : Nat → Plan := fun _ => .fin
theorem fn93 : FnOK Tryz.prog 93 Tryz.f93 cd93 pl93 := ⟨Tryz.func93, rfl, by kernel_rfl, by kernel_rfl⟩
instance isf93 : IsFn Tryz.prog 93 := ⟨by kernel_rfl⟩
-- (*strings.Builder).copyCheck
instance isf95 : IsFn Tryz.prog 95 := ⟨by kernel_rfl⟩
-- unicode/utf8.RuneCountInString
instance isf96 : IsFn Tryz.prog 96 := ⟨by kernel_rfl⟩
-- unicode/utf8.decodeRuneInStringSlow
instance isf99 : IsFn Tryz.prog 99 := ⟨by kernel_rfl⟩
-- strings.IndexByte
instance isf109 : IsFn Tryz.prog 109 := ⟨by kernel_rfl⟩
end Go.Proofs.YtgkhjgpgdfbdpaaGreatDoor
