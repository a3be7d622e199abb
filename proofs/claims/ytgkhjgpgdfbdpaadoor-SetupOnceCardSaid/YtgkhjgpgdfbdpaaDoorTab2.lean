/- Tables, printed by a program: each function with its plans; closed facts on types. -/
import Derived.Test.YtgkhjgpgdfbdpaaDoorProg
import Derived.Test.YtgkhjgpgdfbdpaaDoorWkF
import Derived.KernelRfl
namespace Go.Proofs.YtgkhjgpgdfbdpaaDoor
open Go Go.Wk
-- anchorhold/anchorholdlaw28.TraceBack
noncomputable def cd5 : Code := match Tryd.f5.body with
  | some c => c
  | none => .skip
noncomputable def pl5 : Nat → Plan := fun _ => .fin
theorem fn5 : FnOK Tryd.prog 5 Tryd.f5 cd5 pl5 := ⟨Tryd.func5, rfl, by kernel_rfl, by kernel_rfl⟩
instance isf5 : IsFn Tryd.prog 5 := ⟨by kernel_rfl⟩
-- anchorhold/anchorholdlaw29.ScriptPrints
noncomputable def cd7 : Code := match Tryd.f7.body with
  | some c => c
  | none => .skip
noncomputable def pl7 : Nat → Plan
  | 13 => .st ⟨0, false, []⟩ (.st ⟨1, false, []⟩ (.st ⟨2, false, []⟩ (.st ⟨3, false, []⟩ (.st ⟨4, false, []⟩ (.st ⟨5, false, []⟩ (.st ⟨6, false, []⟩ (.st ⟨7, false, []⟩ (.st ⟨8, false, []⟩ (.st ⟨9, false, []⟩ (.st ⟨11, false, []⟩ (.st ⟨10, true, [11]⟩ (.st ⟨12, true, []⟩ (.st ⟨13, true, []⟩ (.st ⟨14, false, []⟩ (.st ⟨15, false, []⟩ (.st ⟨16, false, []⟩ (.st ⟨18, false, []⟩ (.st ⟨17, true, []⟩ (.st ⟨19, false, []⟩ (.st ⟨20, false, []⟩ (.st ⟨21, false, []⟩ (.st ⟨22, true, []⟩ (.st ⟨23, false, []⟩ (.st ⟨24, false, []⟩ (.fin)))))))))))))))))))))))))
  | _ => .fin
theorem fn7 : FnOK Tryd.prog 7 Tryd.f7 cd7 pl7 := ⟨Tryd.func7, rfl, by kernel_rfl, by kernel_rfl⟩
instance isf7 : IsFn Tryd.prog 7 := ⟨by kernel_rfl⟩
-- anchorhold/trace.Print
noncomputable def cd14 : Code := match Tryd.f14.body with
  | some c => c
  | none => .skip
noncomputable def pl14 : Nat → Plan := fun _ => .fin
theorem fn14 : FnOK Tryd.prog 14 Tryd.f14 cd14 pl14 := ⟨Tryd.func14, rfl, by kernel_rfl, by kernel_rfl⟩
instance isf14 : IsFn Tryd.prog 14 := ⟨by kernel_rfl⟩
-- anchorhold/trace.Word
noncomputable def cd18 : Code := match Tryd.f18.body with
  | some c => c
  | none => .skip
noncomputable def pl18 : Nat → Plan := fun _ => .fin
theorem fn18 : FnOK Tryd.prog 18 Tryd.f18 cd18 pl18 := ⟨Tryd.func18, rfl, by kernel_rfl, by kernel_rfl⟩
instance isf18 : IsFn Tryd.prog 18 := ⟨by kernel_rfl⟩
-- anchorhold/anchorholdref24.Same
noncomputable def cd22 : Code := match Tryd.f22.body with
  | some c => c
  | none => .skip
noncomputable def pl22 : Nat → Plan
  | 6 => .st ⟨0, false, []⟩ (.st ⟨1, false, []⟩ (.st ⟨2, false, []⟩ (.st ⟨3, false, []⟩ (.st ⟨4, false, []⟩ (.st ⟨5, false, []⟩ (.st ⟨6, false, []⟩ (.st ⟨7, false, []⟩ (.st ⟨8, false, []⟩ (.st ⟨9, false, []⟩ (.st ⟨10, false, []⟩ (.st ⟨11, false, []⟩ (.st ⟨12, false, []⟩ (.st ⟨13, false, []⟩ (.st ⟨14, false, []⟩ (.st ⟨15, false, []⟩ (.st ⟨16, false, []⟩ (.st ⟨17, false, []⟩ (.st ⟨18, false, []⟩ (.st ⟨19, false, []⟩ (.st ⟨20, false, []⟩ (.st ⟨21, false, []⟩ (.st ⟨22, false, []⟩ (.st ⟨23, false, []⟩ (.st ⟨24, false, []⟩ (.st ⟨25, false, []⟩ (.st ⟨26, false, []⟩ (.st ⟨27, false, []⟩ (.st ⟨28, false, []⟩ (.st ⟨29, false, []⟩ (.st ⟨30, false, []⟩ (.st ⟨31, false, []⟩ (.st ⟨32, false, []⟩ (.st ⟨33, false, []⟩ (.st ⟨34, false, []⟩ (.st ⟨35, false, []⟩ (.st ⟨36, false, []⟩ (.st ⟨37, false, []⟩ (.st ⟨38, false, []⟩ (.st ⟨39, false, []⟩ (.st ⟨40, false, []⟩ (.st ⟨41, false, []⟩ (.st ⟨42, false, []⟩ (.st ⟨43, false, []⟩ (.st ⟨44, false, []⟩ (.st ⟨45, false, []⟩ (.st ⟨46, false, []⟩ (.st ⟨47, false, []⟩ (.st ⟨48, false, []⟩ (.st ⟨49, false, []⟩ (.st ⟨50, false, []⟩ (.st ⟨51, false, []⟩ (.st ⟨52, false, []⟩ (.st ⟨53, false, []⟩ (.st ⟨54, false, []⟩ (.st ⟨55, false, []⟩ (.st ⟨56, false, []⟩ (.st ⟨57, false, []⟩ (.st ⟨58, false, []⟩ (.st ⟨59, false, []⟩ (.st ⟨60, false, []⟩ (.st ⟨61, false, []⟩ (.st ⟨62, false, []⟩ (.st ⟨63, false, []⟩ (.st ⟨64, false, []⟩ (.st ⟨65, false, []⟩ (.st ⟨66, false, []⟩ (.st ⟨67, false, []⟩ (.st ⟨68, false, []⟩ (.st ⟨69, false, []⟩ (.st ⟨70, false, []⟩ (.st ⟨71, false, []⟩ (.st ⟨72, false, []⟩ (.st ⟨73, false, []⟩ (.st ⟨74, false, []⟩ (.st ⟨75, false, []⟩ (.fin))))))))))))))))))))))))))))))))))))))))))))))))))))))))))))))))))))))))))))
  | _ => .fin
theorem fn22 : FnOK Tryd.prog 22 Tryd.f22 cd22 pl22 := ⟨Tryd.func22, rfl, by kernel_rfl, by kernel_rfl⟩
instance isf22 : IsFn Tryd.prog 22 := ⟨by kernel_rfl⟩
-- anchorhold/script.Read
noncomputable def cd36 : Code := match Tryd.f36.body with
  | some c => c
  | none => .skip
noncomputable def pl36 : Nat → Plan := fun _ => .fin
theorem fn36 : FnOK Tryd.prog 36 Tryd.f36 cd36 pl36 := ⟨Tryd.func36, rfl, by kernel_rfl, by kernel_rfl⟩
instance isf36 : IsFn Tryd.prog 36 := ⟨by kernel_rfl⟩
-- anchorhold/anchorholdref08.Short
noncomputable def cd39 : Code := match Tryd.f39.body with
  | some c => c
  | none => .skip
noncomputable def pl39 : Nat → Plan := fun _ => .fin
theorem fn39 : FnOK Tryd.prog 39 Tryd.f39 cd39 pl39 := ⟨Tryd.func39, rfl, by kernel_rfl, by kernel_rfl⟩
instance isf39 : IsFn Tryd.prog 39 := ⟨by kernel_rfl⟩
-- anchorhold/setup.Print
noncomputable def cd41 : Code := match Tryd.f41.body with
  | some c => c
  | none => .skip
noncomputable def pl41 : Nat → Plan := fun _ => .fin
theorem fn41 : FnOK Tryd.prog 41 Tryd.f41 cd41 pl41 := ⟨Tryd.func41, rfl, by kernel_rfl, by kernel_rfl⟩
instance isf41 : IsFn Tryd.prog 41 := ⟨by kernel_rfl⟩
-- anchorhold/anchorholdref08.Same
noncomputable def cd43 : Code := match Tryd.f43.body with
  | some c => c
  | none => .skip
noncomputable def pl43 : Nat → Plan := fun _ => .fin
theorem fn43 : FnOK Tryd.prog 43 Tryd.f43 cd43 pl43 := ⟨Tryd.func43, rfl, by kernel_rfl, by kernel_rfl⟩
instance isf43 : IsFn Tryd.prog 43 := ⟨by kernel_rfl⟩
-- (*strings.Builder).WriteString
noncomputable def cd45 : Code := match Tryd.f45.body with
  | some c => c
  | none => .skip
noncomputable def pl45 : Nat → Plan := fun _ => .fin
theorem fn45 : FnOK Tryd.prog 45 Tryd.f45 cd45 pl45 := ⟨Tryd.func45, rfl, by kernel_rfl, by kernel_rfl⟩
instance isf45 : IsFn Tryd.prog 45 := ⟨by kernel_rfl⟩
-- (*strings.Builder).Len
noncomputable def cd47 : Code := match Tryd.f47.body with
  | some c => c
  | none => .skip
noncomputable def pl47 : Nat → Plan := fun _ => .fin
theorem fn47 : FnOK Tryd.prog 47 Tryd.f47 cd47 pl47 := ⟨Tryd.func47, rfl, by kernel_rfl, by kernel_rfl⟩
instance isf47 : IsFn Tryd.prog 47 := ⟨by kernel_rfl⟩
-- anchorhold/anchorholdref28.Line
noncomputable def cd49 : Code := match Tryd.f49.body with
  | some c => c
  | none => .skip
noncomputable def pl49 : Nat → Plan := fun _ => .fin
theorem fn49 : FnOK Tryd.prog 49 Tryd.f49 cd49 pl49 := ⟨Tryd.func49, rfl, by kernel_rfl, by kernel_rfl⟩
instance isf49 : IsFn Tryd.prog 49 := ⟨by kernel_rfl⟩
-- anchorhold/call.Is
noncomputable def cd54 : Code := match Tryd.f54.body with
  | some c => c
  | none => .skip
noncomputable def pl54 : Nat → Plan := fun _ => .fin
theorem fn54 : FnOK Tryd.prog 54 Tryd.f54 cd54 pl54 := ⟨Tryd.func54, rfl, by kernel_rfl, by kernel_rfl⟩
instance isf54 : IsFn Tryd.prog 54 := ⟨by kernel_rfl⟩
-- anchorhold/trace.decimal
noncomputable def cd58 : Code := match Tryd.f58.body with
  | some c => c
  | none => .skip
noncomputable def pl58 : Nat → Plan := fun _ => .fin
theorem fn58 : FnOK Tryd.prog 58 Tryd.f58 cd58 pl58 := ⟨Tryd.func58, rfl, by kernel_rfl, by kernel_rfl⟩
instance isf58 : IsFn Tryd.prog 58 := ⟨by kernel_rfl⟩
-- anchorhold/anchorholdref22.Decimal
noncomputable def cd62 : Code := match Tryd.f62.body with
  | some c => c
  | none => .skip
noncomputable def pl62 : Nat → Plan := fun _ => .fin
theorem fn62 : FnOK Tryd.prog 62 Tryd.f62 cd62 pl62 := ⟨Tryd.func62, rfl, by kernel_rfl, by kernel_rfl⟩
instance isf62 : IsFn Tryd.prog 62 := ⟨by kernel_rfl⟩
-- anchorhold/anchorholdref29.Text
noncomputable def cd67 : Code := match Tryd.f67.body with
  | some c => c
  | none => .skip
noncomputable def pl67 : Nat → Plan := fun _ => .fin
theorem fn67 : FnOK Tryd.prog 67 Tryd.f67 cd67 pl67 := ⟨Tryd.func67, rfl, by kernel_rfl, by kernel_rfl⟩
instance isf67 : IsFn Tryd.prog 67 := ⟨by kernel_rfl⟩
-- anchorhold/script.norm
noncomputable def cd70 : Code := match Tryd.f70.body with
  | some c => c
  | none => .skip
noncomputable def pl70 : Nat → Plan := fun _ => .fin
theorem fn70 : FnOK Tryd.prog 70 Tryd.f70 cd70 pl70 := ⟨Tryd.func70, rfl, by kernel_rfl, by kernel_rfl⟩
instance isf70 : IsFn Tryd.prog 70 := ⟨by kernel_rfl⟩
-- anchorhold/anchorholdref29.norm
noncomputable def cd71 : Code := match Tryd.f71.body with
  | some c => c
  | none => .skip
noncomputable def pl71 : Nat → Plan
  | 6 => .st ⟨0, false, []⟩ (.st ⟨1, false, []⟩ (.st ⟨2, false, []⟩ (.st ⟨3, false, []⟩ (.st ⟨4, false, []⟩ (.st ⟨5, false, []⟩ (.st ⟨6, false, []⟩ (.st ⟨7, false, []⟩ (.st ⟨8, false, []⟩ (.st ⟨9, false, []⟩ (.st ⟨10, false, []⟩ (.st ⟨11, false, []⟩ (.st ⟨12, false, []⟩ (.st ⟨13, false, []⟩ (.st ⟨14, false, []⟩ (.st ⟨15, false, []⟩ (.st ⟨16, false, []⟩ (.st ⟨17, true, []⟩ (.fin))))))))))))))))))
  | _ => .fin
theorem fn71 : FnOK Tryd.prog 71 Tryd.f71 cd71 pl71 := ⟨Tryd.func71, rfl, by kernel_rfl, by kernel_rfl⟩
instance isf71 : IsFn Tryd.prog 71 := ⟨by kernel_rfl⟩
-- anchorhold/script.Same$1
noncomputable def cd75 : Code := match Tryd.f75.body with
  | some c => c
  | none => .skip
noncomputable def pl75 : Nat → Plan := fun _ => .fin
theorem fn75 : FnOK Tryd.prog 75 Tryd.f75 cd75 pl75 := ⟨Tryd.func75, rfl, by kernel_rfl, by kernel_rfl⟩
instance isf75 : IsFn Tryd.prog 75 := ⟨by kernel_rfl⟩
-- slices.Equal[[]anchorhold/api.Step,anchorhold/api.Step]
noncomputable def cd77 : Code := match Tryd.f77.body with
  | some c => c
  | none => .skip
noncomputable def pl77 : Nat → Plan
  | 6 => .st ⟨0, false, []⟩ (.st ⟨1, false, []⟩ (.st ⟨2, false, []⟩ (.st ⟨3, false, []⟩ (.st ⟨4, false, []⟩ (.st ⟨5, false, []⟩ (.st ⟨6, false, []⟩ (.st ⟨7, false, []⟩ (.st ⟨8, false, []⟩ (.fin)))))))))
  | _ => .fin
theorem fn77 : FnOK Tryd.prog 77 Tryd.f77 cd77 pl77 := ⟨Tryd.func77, rfl, by kernel_rfl, by kernel_rfl⟩
instance isf77 : IsFn Tryd.prog 77 := ⟨by kernel_rfl⟩
-- (*anchorhold/setup.writer).rest
noncomputable def cd83 : Code := match Tryd.f83.body with
  | some c => c
  | none => .skip
noncomputable def pl83 : Nat → Plan := fun _ => .fin
theorem fn83 : FnOK Tryd.prog 83 Tryd.f83 cd83 pl83 := ⟨Tryd.func83, rfl, by kernel_rfl, by kernel_rfl⟩
instance isf83 : IsFn Tryd.prog 83 := ⟨by kernel_rfl⟩
-- strings.Join
instance isf86 : IsFn Tryd.prog 86 := ⟨by kernel_rfl⟩
-- (*strings.Builder).copyCheck
instance isf87 : IsFn Tryd.prog 87 := ⟨by kernel_rfl⟩
-- anchorhold/call.kinds
noncomputable def cd88 : Code := match Tryd.f88.body with
  | some c => c
  | none => .skip
noncomputable def pl88 : Nat → Plan := fun _ => .fin
theorem fn88 : FnOK Tryd.prog 88 Tryd.f88 cd88 pl88 := ⟨Tryd.func88, rfl, by kernel_rfl, by kernel_rfl⟩
instance isf88 : IsFn Tryd.prog 88 := ⟨by kernel_rfl⟩
-- anchorhold/call.Number$1
noncomputable def cd90 : Code := match Tryd.f90.body with
  | some c => c
  | none => .skip
noncomputable def pl90 : Nat → Plan := fun _ => .fin
theorem fn90 : FnOK Tryd.prog 90 Tryd.f90 cd90 pl90 := ⟨Tryd.func90, rfl, by kernel_rfl, by kernel_rfl⟩
instance isf90 : IsFn Tryd.prog 90 := ⟨by kernel_rfl⟩
-- anchorhold/call.of
noncomputable def cd93 : Code := match Tryd.f93.body with
  | some c => c
  | none => .skip
noncomputable def pl93 : Nat → Plan := fun _ => .fin
theorem fn93 : FnOK Tryd.prog 93 Tryd.f93 cd93 pl93 := ⟨Tryd.func93, rfl, by kernel_rfl, by kernel_rfl⟩
instance isf93 : IsFn Tryd.prog 93 := ⟨by kernel_rfl⟩
-- strings.Split
instance isf97 : IsFn Tryd.prog 97 := ⟨by kernel_rfl⟩
-- anchorhold/script.lines$1
noncomputable def cd99 : Code := match Tryd.f99.body with
  | some c => c
  | none => .skip
noncomputable def pl99 : Nat → Plan
  | 18 => .st ⟨0, false, []⟩ (.st ⟨1, false, []⟩ (.st ⟨2, false, []⟩ (.st ⟨4, false, []⟩ (.st ⟨5, false, []⟩ (.st ⟨7, false, []⟩ (.st ⟨8, false, []⟩ (.st ⟨10, false, []⟩ (.st ⟨11, false, []⟩ (.st ⟨3, true, [4, 5, 7, 8, 10, 11]⟩ (.st ⟨6, true, [7, 8, 10, 11]⟩ (.st ⟨9, true, [10, 11]⟩ (.st ⟨12, true, []⟩ (.st ⟨13, true, []⟩ (.st ⟨14, true, []⟩ (.st ⟨15, true, []⟩ (.st ⟨16, false, []⟩ (.fin)))))))))))))))))
  | _ => .fin
theorem fn99 : FnOK Tryd.prog 99 Tryd.f99 cd99 pl99 := ⟨Tryd.func99, rfl, by kernel_rfl, by kernel_rfl⟩
instance isf99 : IsFn Tryd.prog 99 := ⟨by kernel_rfl⟩
-- anchorhold/anchorholdref22.Args
noncomputable def cd104 : Code := match Tryd.f104.body with
  | some c => c
  | none => .skip
noncomputable def pl104 : Nat → Plan := fun _ => .fin
theorem fn104 : FnOK Tryd.prog 104 Tryd.f104 cd104 pl104 := ⟨Tryd.func104, rfl, by kernel_rfl, by kernel_rfl⟩
instance isf104 : IsFn Tryd.prog 104 := ⟨by kernel_rfl⟩
-- anchorhold/call.Read
noncomputable def cd107 : Code := match Tryd.f107.body with
  | some c => c
  | none => .skip
noncomputable def pl107 : Nat → Plan := fun _ => .fin
theorem fn107 : FnOK Tryd.prog 107 Tryd.f107 cd107 pl107 := ⟨Tryd.func107, rfl, by kernel_rfl, by kernel_rfl⟩
instance isf107 : IsFn Tryd.prog 107 := ⟨by kernel_rfl⟩
-- (*anchorhold/setup.writer).line
noncomputable def cd111 : Code := match Tryd.f111.body with
  | some c => c
  | none => .skip
noncomputable def pl111 : Nat → Plan
  | 4 => .st ⟨0, false, []⟩ (.st ⟨1, false, []⟩ (.st ⟨2, false, []⟩ (.st ⟨3, false, []⟩ (.st ⟨4, true, [1, 2]⟩ (.st ⟨5, false, []⟩ (.st ⟨6, true, []⟩ (.fin)))))))
  | _ => .fin
theorem fn111 : FnOK Tryd.prog 111 Tryd.f111 cd111 pl111 := ⟨Tryd.func111, rfl, by kernel_rfl, by kernel_rfl⟩
instance isf111 : IsFn Tryd.prog 111 := ⟨by kernel_rfl⟩
-- anchorhold/setup.some[anchorhold/api.Mode]
noncomputable def cd117 : Code := match Tryd.f117.body with
  | some c => c
  | none => .skip
noncomputable def pl117 : Nat → Plan := fun _ => .fin
theorem fn117 : FnOK Tryd.prog 117 Tryd.f117 cd117 pl117 := ⟨Tryd.func117, rfl, by kernel_rfl, by kernel_rfl⟩
instance isf117 : IsFn Tryd.prog 117 := ⟨by kernel_rfl⟩
-- anchorhold/setup.some[anchorhold/api.Level]
noncomputable def cd119 : Code := match Tryd.f119.body with
  | some c => c
  | none => .skip
noncomputable def pl119 : Nat → Plan := fun _ => .fin
theorem fn119 : FnOK Tryd.prog 119 Tryd.f119 cd119 pl119 := ⟨Tryd.func119, rfl, by kernel_rfl, by kernel_rfl⟩
instance isf119 : IsFn Tryd.prog 119 := ⟨by kernel_rfl⟩
-- (*anchorhold/setup.reader).take
noncomputable def cd123 : Code := match Tryd.f123.body with
  | some c => c
  | none => .skip
noncomputable def pl123 : Nat → Plan := fun _ => .fin
theorem fn123 : FnOK Tryd.prog 123 Tryd.f123 cd123 pl123 := ⟨Tryd.func123, rfl, by kernel_rfl, by kernel_rfl⟩
instance isf123 : IsFn Tryd.prog 123 := ⟨by kernel_rfl⟩
-- anchorhold/anchorholdref08.ints
noncomputable def cd126 : Code := match Tryd.f126.body with
  | some c => c
  | none => .skip
noncomputable def pl126 : Nat → Plan := fun _ => .fin
theorem fn126 : FnOK Tryd.prog 126 Tryd.f126 cd126 pl126 := ⟨Tryd.func126, rfl, by kernel_rfl, by kernel_rfl⟩
instance isf126 : IsFn Tryd.prog 126 := ⟨by kernel_rfl⟩
-- anchorhold/monitor.is
noncomputable def cd132 : Code := match Tryd.f132.body with
  | some c => c
  | none => .skip
noncomputable def pl132 : Nat → Plan := fun _ => .fin
theorem fn132 : FnOK Tryd.prog 132 Tryd.f132 cd132 pl132 := ⟨Tryd.func132, rfl, by kernel_rfl, by kernel_rfl⟩
instance isf132 : IsFn Tryd.prog 132 := ⟨by kernel_rfl⟩
-- anchorhold/script.digits
noncomputable def cd137 : Code := match Tryd.f137.body with
  | some c => c
  | none => .skip
noncomputable def pl137 : Nat → Plan
  | 3 => .st ⟨0, false, []⟩ (.st ⟨1, false, []⟩ (.st ⟨3, false, []⟩ (.st ⟨4, false, []⟩ (.st ⟨5, false, []⟩ (.st ⟨6, false, []⟩ (.st ⟨7, false, []⟩ (.st ⟨8, false, []⟩ (.st ⟨2, true, [4, 6, 7, 8]⟩ (.st ⟨9, false, []⟩ (.st ⟨10, false, []⟩ (.fin)))))))))))
  | _ => .fin
theorem fn137 : FnOK Tryd.prog 137 Tryd.f137 cd137 pl137 := ⟨Tryd.func137, rfl, by kernel_rfl, by kernel_rfl⟩
instance isf137 : IsFn Tryd.prog 137 := ⟨by kernel_rfl⟩
-- strings.trimLeftByte
instance isf141 : IsFn Tryd.prog 141 := ⟨by kernel_rfl⟩
-- strings.trimRightByte
instance isf142 : IsFn Tryd.prog 142 := ⟨by kernel_rfl⟩
-- strings.makeASCIISet
instance isf143 : IsFn Tryd.prog 143 := ⟨by kernel_rfl⟩
-- strings.trimRightASCII
instance isf145 : IsFn Tryd.prog 145 := ⟨by kernel_rfl⟩
-- anchorhold/setup.decimal
noncomputable def cd148 : Code := match Tryd.f148.body with
  | some c => c
  | none => .skip
noncomputable def pl148 : Nat → Plan := fun _ => .fin
theorem fn148 : FnOK Tryd.prog 148 Tryd.f148 cd148 pl148 := ⟨Tryd.func148, rfl, by kernel_rfl, by kernel_rfl⟩
instance isf148 : IsFn Tryd.prog 148 := ⟨by kernel_rfl⟩
-- (*anchorhold/setup.reader).part$1
noncomputable def cd151 : Code := match Tryd.f151.body with
  | some c => c
  | none => .skip
noncomputable def pl151 : Nat → Plan
  | 1 => .st ⟨0, false, []⟩ (.st ⟨1, false, []⟩ (.st ⟨2, false, []⟩ (.st ⟨3, false, []⟩ (.st ⟨4, false, []⟩ (.st ⟨5, false, []⟩ (.st ⟨6, false, []⟩ (.st ⟨7, false, []⟩ (.st ⟨8, false, []⟩ (.st ⟨9, false, []⟩ (.st ⟨10, true, [1, 2, 4, 5]⟩ (.st ⟨11, false, []⟩ (.st ⟨12, true, []⟩ (.fin)))))))))))))
  | _ => .fin
theorem fn151 : FnOK Tryd.prog 151 Tryd.f151 cd151 pl151 := ⟨Tryd.func151, rfl, by kernel_rfl, by kernel_rfl⟩
instance isf151 : IsFn Tryd.prog 151 := ⟨by kernel_rfl⟩
-- (*anchorhold/setup.reader).part$3
noncomputable def cd156 : Code := match Tryd.f156.body with
  | some c => c
  | none => .skip
noncomputable def pl156 : Nat → Plan
  | 1 => .st ⟨0, false, []⟩ (.st ⟨1, false, []⟩ (.st ⟨2, false, []⟩ (.st ⟨3, false, []⟩ (.st ⟨4, true, []⟩ (.st ⟨5, false, []⟩ (.fin))))))
  | 2 => .st ⟨0, false, []⟩ (.st ⟨1, false, []⟩ (.st ⟨2, false, []⟩ (.st ⟨3, false, []⟩ (.st ⟨4, false, []⟩ (.st ⟨6, false, []⟩ (.st ⟨7, false, []⟩ (.st ⟨8, false, []⟩ (.st ⟨9, false, []⟩ (.st ⟨10, false, []⟩ (.st ⟨11, false, []⟩ (.st ⟨5, true, [7, 8, 10, 11]⟩ (.st ⟨12, false, []⟩ (.st ⟨13, true, []⟩ (.fin))))))))))))))
  | _ => .fin
theorem fn156 : FnOK Tryd.prog 156 Tryd.f156 cd156 pl156 := ⟨Tryd.func156, rfl, by kernel_rfl, by kernel_rfl⟩
instance isf156 : IsFn Tryd.prog 156 := ⟨by kernel_rfl⟩
-- anchorhold/setup.some[anchorhold/api.Window]
noncomputable def cd163 : Code := match Tryd.f163.body with
  | some c => c
  | none => .skip
noncomputable def pl163 : Nat → Plan := fun _ => .fin
theorem fn163 : FnOK Tryd.prog 163 Tryd.f163 cd163 pl163 := ⟨Tryd.func163, rfl, by kernel_rfl, by kernel_rfl⟩
instance isf163 : IsFn Tryd.prog 163 := ⟨by kernel_rfl⟩
-- (*strings.Builder).grow
instance isf167 : IsFn Tryd.prog 167 := ⟨by kernel_rfl⟩
-- strings.explode
instance isf172 : IsFn Tryd.prog 172 := ⟨by kernel_rfl⟩
-- strings.Count
instance isf173 : IsFn Tryd.prog 173 := ⟨by kernel_rfl⟩
-- anchorhold/call.digits
noncomputable def cd175 : Code := match Tryd.f175.body with
  | some c => c
  | none => .skip
noncomputable def pl175 : Nat → Plan
  | 3 => .st ⟨0, false, []⟩ (.st ⟨1, false, []⟩ (.st ⟨3, false, []⟩ (.st ⟨4, false, []⟩ (.st ⟨5, false, []⟩ (.st ⟨6, false, []⟩ (.st ⟨7, false, []⟩ (.st ⟨8, false, []⟩ (.st ⟨2, true, [4, 6, 7, 8]⟩ (.st ⟨9, false, []⟩ (.st ⟨10, false, []⟩ (.fin)))))))))))
  | _ => .fin
theorem fn175 : FnOK Tryd.prog 175 Tryd.f175 cd175 pl175 := ⟨Tryd.func175, rfl, by kernel_rfl, by kernel_rfl⟩
instance isf175 : IsFn Tryd.prog 175 := ⟨by kernel_rfl⟩
-- strings.IndexByte
instance isf191 : IsFn Tryd.prog 191 := ⟨by kernel_rfl⟩
end Go.Proofs.YtgkhjgpgdfbdpaaDoor
