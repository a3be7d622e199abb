/- Tables, printed by a program: each function with its plans; closed facts on types. -/
import Derived.Test.YtgkhjgpgdfbdpaaDoorProg
import Derived.Test.YtgkhjgpgdfbdpaaDoorWkF
import Derived.KernelRfl
namespace Go.Proofs.YtgkhjgpgdfbdpaaDoor
open Go Go.Wk
-- anchorhold/anchorholdlaw28.TraceWindows
noncomputable def cd6 : Code := match Tryd.f6.body with
  | some c => c
  | none => .skip
noncomputable def pl6 : Nat → Plan
  | 9 => .st ⟨0, false, []⟩ (.st ⟨1, false, []⟩ (.st ⟨2, false, []⟩ (.st ⟨3, false, []⟩ (.st ⟨4, false, []⟩ (.st ⟨5, false, []⟩ (.st ⟨6, false, []⟩ (.st ⟨7, false, []⟩ (.st ⟨8, true, []⟩ (.st ⟨9, false, []⟩ (.fin))))))))))
  | _ => .fin
theorem fn6 : FnOK Tryd.prog 6 Tryd.f6 cd6 pl6 := ⟨Tryd.func6, rfl, by kernel_rfl, by kernel_rfl⟩
instance isf6 : IsFn Tryd.prog 6 := ⟨by kernel_rfl⟩
-- anchorhold/anchorholdlaw29.ScriptSame
noncomputable def cd10 : Code := match Tryd.f10.body with
  | some c => c
  | none => .skip
noncomputable def pl10 : Nat → Plan
  | 4 => .st ⟨0, false, []⟩ (.st ⟨1, false, []⟩ (.st ⟨3, false, []⟩ (.st ⟨4, false, []⟩ (.st ⟨2, true, [3, 4]⟩ (.st ⟨5, true, []⟩ (.st ⟨6, false, []⟩ (.st ⟨7, false, []⟩ (.st ⟨8, false, []⟩ (.st ⟨9, false, []⟩ (.st ⟨10, true, []⟩ (.st ⟨11, false, []⟩ (.st ⟨12, false, []⟩ (.st ⟨13, false, []⟩ (.st ⟨14, false, []⟩ (.st ⟨15, true, [13]⟩ (.st ⟨16, true, []⟩ (.st ⟨17, false, []⟩ (.st ⟨18, false, []⟩ (.st ⟨19, true, []⟩ (.st ⟨20, false, []⟩ (.st ⟨21, false, []⟩ (.fin))))))))))))))))))))))
  | _ => .fin
theorem fn10 : FnOK Tryd.prog 10 Tryd.f10 cd10 pl10 := ⟨Tryd.func10, rfl, by kernel_rfl, by kernel_rfl⟩
instance isf10 : IsFn Tryd.prog 10 := ⟨by kernel_rfl⟩
-- anchorhold/trace.Call
noncomputable def cd16 : Code := match Tryd.f16.body with
  | some c => c
  | none => .skip
noncomputable def pl16 : Nat → Plan := fun _ => .fin
theorem fn16 : FnOK Tryd.prog 16 Tryd.f16 cd16 pl16 := ⟨Tryd.func16, rfl, by kernel_rfl, by kernel_rfl⟩
instance isf16 : IsFn Tryd.prog 16 := ⟨by kernel_rfl⟩
-- anchorhold/trace.Read
noncomputable def cd20 : Code := match Tryd.f20.body with
  | some c => c
  | none => .skip
noncomputable def pl20 : Nat → Plan := fun _ => .fin
theorem fn20 : FnOK Tryd.prog 20 Tryd.f20 cd20 pl20 := ⟨Tryd.func20, rfl, by kernel_rfl, by kernel_rfl⟩
instance isf20 : IsFn Tryd.prog 20 := ⟨by kernel_rfl⟩
-- anchorhold/anchorholdref28.Windows
noncomputable def cd24 : Code := match Tryd.f24.body with
  | some c => c
  | none => .skip
noncomputable def pl24 : Nat → Plan := fun _ => .fin
theorem fn24 : FnOK Tryd.prog 24 Tryd.f24 cd24 pl24 := ⟨Tryd.func24, rfl, by kernel_rfl, by kernel_rfl⟩
instance isf24 : IsFn Tryd.prog 24 := ⟨by kernel_rfl⟩
-- anchorhold/trace.Faults
noncomputable def cd26 : Code := match Tryd.f26.body with
  | some c => c
  | none => .skip
noncomputable def pl26 : Nat → Plan := fun _ => .fin
theorem fn26 : FnOK Tryd.prog 26 Tryd.f26 cd26 pl26 := ⟨Tryd.func26, rfl, by kernel_rfl, by kernel_rfl⟩
instance isf26 : IsFn Tryd.prog 26 := ⟨by kernel_rfl⟩
-- anchorhold/anchorholdlaw29.works
noncomputable def cd29 : Code := match Tryd.f29.body with
  | some c => c
  | none => .skip
noncomputable def pl29 : Nat → Plan
  | 3 => .st ⟨0, false, []⟩ (.st ⟨1, false, []⟩ (.st ⟨2, false, []⟩ (.st ⟨3, false, []⟩ (.st ⟨4, false, []⟩ (.st ⟨5, false, []⟩ (.st ⟨6, false, []⟩ (.st ⟨7, false, []⟩ (.st ⟨8, true, []⟩ (.st ⟨9, false, []⟩ (.st ⟨10, false, []⟩ (.st ⟨11, false, []⟩ (.st ⟨12, false, []⟩ (.st ⟨13, false, []⟩ (.st ⟨14, false, []⟩ (.st ⟨15, false, []⟩ (.st ⟨16, false, []⟩ (.st ⟨17, false, []⟩ (.st ⟨18, false, []⟩ (.st ⟨19, false, []⟩ (.st ⟨20, false, []⟩ (.st ⟨21, false, []⟩ (.st ⟨22, true, [20]⟩ (.st ⟨23, true, []⟩ (.st ⟨24, false, []⟩ (.st ⟨25, false, []⟩ (.st ⟨26, false, []⟩ (.st ⟨27, false, []⟩ (.st ⟨28, true, []⟩ (.st ⟨29, false, []⟩ (.st ⟨30, false, []⟩ (.st ⟨31, false, []⟩ (.fin))))))))))))))))))))))))))))))))
  | _ => .fin
theorem fn29 : FnOK Tryd.prog 29 Tryd.f29 cd29 pl29 := ⟨Tryd.func29, rfl, by kernel_rfl, by kernel_rfl⟩
instance isf29 : IsFn Tryd.prog 29 := ⟨by kernel_rfl⟩
-- anchorhold/script.Steps
noncomputable def cd35 : Code := match Tryd.f35.body with
  | some c => c
  | none => .skip
noncomputable def pl35 : Nat → Plan := fun _ => .fin
theorem fn35 : FnOK Tryd.prog 35 Tryd.f35 cd35 pl35 := ⟨Tryd.func35, rfl, by kernel_rfl, by kernel_rfl⟩
instance isf35 : IsFn Tryd.prog 35 := ⟨by kernel_rfl⟩
-- anchorhold/script.Same
noncomputable def cd38 : Code := match Tryd.f38.body with
  | some c => c
  | none => .skip
noncomputable def pl38 : Nat → Plan := fun _ => .fin
theorem fn38 : FnOK Tryd.prog 38 Tryd.f38 cd38 pl38 := ⟨Tryd.func38, rfl, by kernel_rfl, by kernel_rfl⟩
instance isf38 : IsFn Tryd.prog 38 := ⟨by kernel_rfl⟩
-- anchorhold/anchorholdlaw34.works
noncomputable def cd40 : Code := match Tryd.f40.body with
  | some c => c
  | none => .skip
noncomputable def pl40 : Nat → Plan := fun _ => .fin
theorem fn40 : FnOK Tryd.prog 40 Tryd.f40 cd40 pl40 := ⟨Tryd.func40, rfl, by kernel_rfl, by kernel_rfl⟩
instance isf40 : IsFn Tryd.prog 40 := ⟨by kernel_rfl⟩
-- anchorhold/setup.Read
noncomputable def cd42 : Code := match Tryd.f42.body with
  | some c => c
  | none => .skip
noncomputable def pl42 : Nat → Plan
  | 6 => .st ⟨0, false, []⟩ (.st ⟨1, false, []⟩ (.st ⟨2, false, []⟩ (.st ⟨3, false, []⟩ (.st ⟨4, false, []⟩ (.st ⟨5, true, [2, 3, 4]⟩ (.st ⟨6, false, []⟩ (.st ⟨7, false, []⟩ (.fin))))))))
  | _ => .fin
theorem fn42 : FnOK Tryd.prog 42 Tryd.f42 cd42 pl42 := ⟨Tryd.func42, rfl, by kernel_rfl, by kernel_rfl⟩
instance isf42 : IsFn Tryd.prog 42 := ⟨by kernel_rfl⟩
-- (*strings.Builder).WriteByte
noncomputable def cd46 : Code := match Tryd.f46.body with
  | some c => c
  | none => .skip
noncomputable def pl46 : Nat → Plan := fun _ => .fin
theorem fn46 : FnOK Tryd.prog 46 Tryd.f46 cd46 pl46 := ⟨Tryd.func46, rfl, by kernel_rfl, by kernel_rfl⟩
instance isf46 : IsFn Tryd.prog 46 := ⟨by kernel_rfl⟩
-- (*strings.Builder).String
noncomputable def cd48 : Code := match Tryd.f48.body with
  | some c => c
  | none => .skip
noncomputable def pl48 : Nat → Plan
  | 1 => .st ⟨0, false, []⟩ (.st ⟨1, false, []⟩ (.st ⟨2, false, []⟩ (.st ⟨3, false, []⟩ (.st ⟨5, false, []⟩ (.st ⟨6, false, []⟩ (.st ⟨7, false, []⟩ (.st ⟨8, false, []⟩ (.st ⟨9, false, []⟩ (.st ⟨4, true, [6, 7, 8, 9]⟩ (.st ⟨10, true, []⟩ (.st ⟨11, false, []⟩ (.fin))))))))))))
  | _ => .fin
theorem fn48 : FnOK Tryd.prog 48 Tryd.f48 cd48 pl48 := ⟨Tryd.func48, rfl, by kernel_rfl, by kernel_rfl⟩
instance isf48 : IsFn Tryd.prog 48 := ⟨by kernel_rfl⟩
-- anchorhold/anchorholdref22.Number10
noncomputable def cd53 : Code := match Tryd.f53.body with
  | some c => c
  | none => .skip
noncomputable def pl53 : Nat → Plan := fun _ => .fin
theorem fn53 : FnOK Tryd.prog 53 Tryd.f53 cd53 pl53 := ⟨Tryd.func53, rfl, by kernel_rfl, by kernel_rfl⟩
instance isf53 : IsFn Tryd.prog 53 := ⟨by kernel_rfl⟩
-- anchorhold/monitor.Name
noncomputable def cd57 : Code := match Tryd.f57.body with
  | some c => c
  | none => .skip
noncomputable def pl57 : Nat → Plan := fun _ => .fin
theorem fn57 : FnOK Tryd.prog 57 Tryd.f57 cd57 pl57 := ⟨Tryd.func57, rfl, by kernel_rfl, by kernel_rfl⟩
instance isf57 : IsFn Tryd.prog 57 := ⟨by kernel_rfl⟩
-- anchorhold/anchorholdref23.Name
noncomputable def cd61 : Code := match Tryd.f61.body with
  | some c => c
  | none => .skip
noncomputable def pl61 : Nat → Plan := fun _ => .fin
theorem fn61 : FnOK Tryd.prog 61 Tryd.f61 cd61 pl61 := ⟨Tryd.func61, rfl, by kernel_rfl, by kernel_rfl⟩
instance isf61 : IsFn Tryd.prog 61 := ⟨by kernel_rfl⟩
-- anchorhold/script.lines
noncomputable def cd66 : Code := match Tryd.f66.body with
  | some c => c
  | none => .skip
noncomputable def pl66 : Nat → Plan := fun _ => .fin
theorem fn66 : FnOK Tryd.prog 66 Tryd.f66 cd66 pl66 := ⟨Tryd.func66, rfl, by kernel_rfl, by kernel_rfl⟩
instance isf66 : IsFn Tryd.prog 66 := ⟨by kernel_rfl⟩
-- slices.Clone[[]anchorhold/api.Frame,anchorhold/api.Frame]
noncomputable def cd69 : Code := match Tryd.f69.body with
  | some c => c
  | none => .skip
noncomputable def pl69 : Nat → Plan := fun _ => .fin
theorem fn69 : FnOK Tryd.prog 69 Tryd.f69 cd69 pl69 := ⟨Tryd.func69, rfl, by kernel_rfl, by kernel_rfl⟩
instance isf69 : IsFn Tryd.prog 69 := ⟨by kernel_rfl⟩
-- (*anchorhold/script.reader).take
noncomputable def cd72 : Code := match Tryd.f72.body with
  | some c => c
  | none => .skip
noncomputable def pl72 : Nat → Plan
  | 3 => .st ⟨0, false, []⟩ (.st ⟨1, false, []⟩ (.st ⟨2, false, []⟩ (.st ⟨3, false, []⟩ (.st ⟨4, false, []⟩ (.st ⟨5, false, []⟩ (.st ⟨6, false, []⟩ (.st ⟨7, true, [2, 3, 4, 5]⟩ (.st ⟨8, true, []⟩ (.st ⟨9, false, []⟩ (.st ⟨10, false, []⟩ (.st ⟨11, false, []⟩ (.st ⟨12, true, []⟩ (.fin)))))))))))))
  | 19 => .st ⟨0, false, []⟩ (.st ⟨1, false, []⟩ (.st ⟨2, false, []⟩ (.st ⟨3, false, []⟩ (.st ⟨4, false, []⟩ (.st ⟨5, false, []⟩ (.st ⟨6, false, []⟩ (.st ⟨7, false, []⟩ (.st ⟨8, false, []⟩ (.st ⟨9, false, []⟩ (.fin))))))))))
  | 20 => .st ⟨0, false, []⟩ (.st ⟨1, false, []⟩ (.st ⟨2, false, []⟩ (.st ⟨3, false, []⟩ (.st ⟨4, false, []⟩ (.st ⟨5, true, [2, 3]⟩ (.st ⟨6, true, []⟩ (.st ⟨7, false, []⟩ (.st ⟨8, true, []⟩ (.fin)))))))))
  | _ => .fin
theorem fn72 : FnOK Tryd.prog 72 Tryd.f72 cd72 pl72 := ⟨Tryd.func72, rfl, by kernel_rfl, by kernel_rfl⟩
instance isf72 : IsFn Tryd.prog 72 := ⟨by kernel_rfl⟩
-- slices.Equal[[]anchorhold/api.Frame,anchorhold/api.Frame]
noncomputable def cd79 : Code := match Tryd.f79.body with
  | some c => c
  | none => .skip
noncomputable def pl79 : Nat → Plan
  | 6 => .st ⟨0, false, []⟩ (.st ⟨1, false, []⟩ (.st ⟨2, false, []⟩ (.st ⟨3, false, []⟩ (.st ⟨4, false, []⟩ (.st ⟨5, false, []⟩ (.st ⟨6, false, []⟩ (.st ⟨7, false, []⟩ (.st ⟨8, false, []⟩ (.fin)))))))))
  | _ => .fin
theorem fn79 : FnOK Tryd.prog 79 Tryd.f79 cd79 pl79 := ⟨Tryd.func79, rfl, by kernel_rfl, by kernel_rfl⟩
instance isf79 : IsFn Tryd.prog 79 := ⟨by kernel_rfl⟩
-- (*anchorhold/setup.reader).config
noncomputable def cd84 : Code := match Tryd.f84.body with
  | some c => c
  | none => .skip
noncomputable def pl84 : Nat → Plan
  | 9 => .st ⟨0, false, []⟩ (.st ⟨1, false, []⟩ (.st ⟨2, false, []⟩ (.st ⟨3, false, []⟩ (.st ⟨4, false, []⟩ (.st ⟨5, false, []⟩ (.st ⟨6, false, []⟩ (.st ⟨7, false, []⟩ (.st ⟨8, false, []⟩ (.st ⟨9, false, []⟩ (.st ⟨10, false, []⟩ (.st ⟨11, false, []⟩ (.st ⟨12, false, []⟩ (.st ⟨13, false, []⟩ (.st ⟨14, false, []⟩ (.st ⟨15, false, []⟩ (.st ⟨16, false, []⟩ (.st ⟨17, false, []⟩ (.st ⟨18, false, []⟩ (.st ⟨19, false, []⟩ (.st ⟨20, false, []⟩ (.st ⟨21, false, []⟩ (.st ⟨22, false, []⟩ (.st ⟨23, false, []⟩ (.st ⟨24, false, []⟩ (.st ⟨25, false, []⟩ (.st ⟨26, true, []⟩ (.st ⟨27, false, []⟩ (.st ⟨28, false, []⟩ (.st ⟨29, true, []⟩ (.st ⟨30, false, []⟩ (.st ⟨31, false, []⟩ (.st ⟨32, true, []⟩ (.st ⟨33, false, []⟩ (.st ⟨34, false, []⟩ (.st ⟨35, true, []⟩ (.st ⟨36, false, []⟩ (.st ⟨37, false, []⟩ (.st ⟨38, true, []⟩ (.st ⟨39, false, []⟩ (.st ⟨40, false, []⟩ (.st ⟨41, true, []⟩ (.fin))))))))))))))))))))))))))))))))))))))))))
  | _ => .fin
theorem fn84 : FnOK Tryd.prog 84 Tryd.f84 cd84 pl84 := ⟨Tryd.func84, rfl, by kernel_rfl, by kernel_rfl⟩
instance isf84 : IsFn Tryd.prog 84 := ⟨by kernel_rfl⟩
-- anchorhold/trace.digits
noncomputable def cd95 : Code := match Tryd.f95.body with
  | some c => c
  | none => .skip
noncomputable def pl95 : Nat → Plan
  | 3 => .st ⟨0, false, []⟩ (.st ⟨1, false, []⟩ (.st ⟨3, false, []⟩ (.st ⟨4, false, []⟩ (.st ⟨5, false, []⟩ (.st ⟨6, false, []⟩ (.st ⟨7, false, []⟩ (.st ⟨8, false, []⟩ (.st ⟨2, true, [4, 6, 7, 8]⟩ (.st ⟨9, false, []⟩ (.st ⟨10, false, []⟩ (.fin)))))))))))
  | _ => .fin
theorem fn95 : FnOK Tryd.prog 95 Tryd.f95 cd95 pl95 := ⟨Tryd.func95, rfl, by kernel_rfl, by kernel_rfl⟩
instance isf95 : IsFn Tryd.prog 95 := ⟨by kernel_rfl⟩
-- anchorhold/script.decimal
noncomputable def cd101 : Code := match Tryd.f101.body with
  | some c => c
  | none => .skip
noncomputable def pl101 : Nat → Plan := fun _ => .fin
theorem fn101 : FnOK Tryd.prog 101 Tryd.f101 cd101 pl101 := ⟨Tryd.func101, rfl, by kernel_rfl, by kernel_rfl⟩
instance isf101 : IsFn Tryd.prog 101 := ⟨by kernel_rfl⟩
-- anchorhold/call.Args
noncomputable def cd103 : Code := match Tryd.f103.body with
  | some c => c
  | none => .skip
noncomputable def pl103 : Nat → Plan := fun _ => .fin
theorem fn103 : FnOK Tryd.prog 103 Tryd.f103 cd103 pl103 := ⟨Tryd.func103, rfl, by kernel_rfl, by kernel_rfl⟩
instance isf103 : IsFn Tryd.prog 103 := ⟨by kernel_rfl⟩
-- anchorhold/script.framed
noncomputable def cd105 : Code := match Tryd.f105.body with
  | some c => c
  | none => .skip
noncomputable def pl105 : Nat → Plan := fun _ => .fin
theorem fn105 : FnOK Tryd.prog 105 Tryd.f105 cd105 pl105 := ⟨Tryd.func105, rfl, by kernel_rfl, by kernel_rfl⟩
instance isf105 : IsFn Tryd.prog 105 := ⟨by kernel_rfl⟩
-- strings.Trim
instance isf109 : IsFn Tryd.prog 109 := ⟨by kernel_rfl⟩
-- anchorhold/setup.truth
noncomputable def cd112 : Code := match Tryd.f112.body with
  | some c => c
  | none => .skip
noncomputable def pl112 : Nat → Plan := fun _ => .fin
theorem fn112 : FnOK Tryd.prog 112 Tryd.f112 cd112 pl112 := ⟨Tryd.func112, rfl, by kernel_rfl, by kernel_rfl⟩
instance isf112 : IsFn Tryd.prog 112 := ⟨by kernel_rfl⟩
-- anchorhold/setup.some[anchorhold/api.ChanConf]
noncomputable def cd115 : Code := match Tryd.f115.body with
  | some c => c
  | none => .skip
noncomputable def pl115 : Nat → Plan := fun _ => .fin
theorem fn115 : FnOK Tryd.prog 115 Tryd.f115 cd115 pl115 := ⟨Tryd.func115, rfl, by kernel_rfl, by kernel_rfl⟩
instance isf115 : IsFn Tryd.prog 115 := ⟨by kernel_rfl⟩
-- (*anchorhold/setup.reader).mode
noncomputable def cd118 : Code := match Tryd.f118.body with
  | some c => c
  | none => .skip
noncomputable def pl118 : Nat → Plan
  | 1 => .st ⟨0, false, []⟩ (.st ⟨1, false, []⟩ (.st ⟨2, false, []⟩ (.st ⟨3, false, []⟩ (.st ⟨4, true, [1, 2]⟩ (.st ⟨5, false, []⟩ (.st ⟨6, true, []⟩ (.fin)))))))
  | _ => .fin
theorem fn118 : FnOK Tryd.prog 118 Tryd.f118 cd118 pl118 := ⟨Tryd.func118, rfl, by kernel_rfl, by kernel_rfl⟩
instance isf118 : IsFn Tryd.prog 118 := ⟨by kernel_rfl⟩
-- (*anchorhold/setup.reader).config$3
noncomputable def cd122 : Code := match Tryd.f122.body with
  | some c => c
  | none => .skip
noncomputable def pl122 : Nat → Plan
  | 1 => .st ⟨0, false, []⟩ (.st ⟨1, false, []⟩ (.st ⟨2, false, []⟩ (.st ⟨3, false, []⟩ (.st ⟨4, false, []⟩ (.st ⟨5, false, []⟩ (.st ⟨6, false, []⟩ (.st ⟨7, false, []⟩ (.st ⟨8, false, []⟩ (.st ⟨9, false, []⟩ (.st ⟨10, true, []⟩ (.fin)))))))))))
  | _ => .fin
theorem fn122 : FnOK Tryd.prog 122 Tryd.f122 cd122 pl122 := ⟨Tryd.func122, rfl, by kernel_rfl, by kernel_rfl⟩
instance isf122 : IsFn Tryd.prog 122 := ⟨by kernel_rfl⟩
-- anchorhold/anchorholdref07.Ints
noncomputable def cd127 : Code := match Tryd.f127.body with
  | some c => c
  | none => .skip
noncomputable def pl127 : Nat → Plan := fun _ => .fin
theorem fn127 : FnOK Tryd.prog 127 Tryd.f127 cd127 pl127 := ⟨Tryd.func127, rfl, by kernel_rfl, by kernel_rfl⟩
instance isf127 : IsFn Tryd.prog 127 := ⟨by kernel_rfl⟩
-- anchorhold/call.args
noncomputable def cd136 : Code := match Tryd.f136.body with
  | some c => c
  | none => .skip
noncomputable def pl136 : Nat → Plan
  | 1 => .st ⟨0, false, []⟩ (.st ⟨1, false, []⟩ (.st ⟨2, false, []⟩ (.st ⟨3, false, []⟩ (.st ⟨4, false, []⟩ (.st ⟨5, false, []⟩ (.st ⟨6, false, []⟩ (.st ⟨7, false, []⟩ (.st ⟨8, false, []⟩ (.st ⟨9, false, []⟩ (.st ⟨10, false, []⟩ (.st ⟨11, false, []⟩ (.st ⟨12, false, []⟩ (.st ⟨13, true, []⟩ (.fin))))))))))))))
  | _ => .fin
theorem fn136 : FnOK Tryd.prog 136 Tryd.f136 cd136 pl136 := ⟨Tryd.func136, rfl, by kernel_rfl, by kernel_rfl⟩
instance isf136 : IsFn Tryd.prog 136 := ⟨by kernel_rfl⟩
-- (*anchorhold/call.words).call
noncomputable def cd140 : Code := match Tryd.f140.body with
  | some c => c
  | none => .skip
noncomputable def pl140 : Nat → Plan := fun _ => .fin
theorem fn140 : FnOK Tryd.prog 140 Tryd.f140 cd140 pl140 := ⟨Tryd.func140, rfl, by kernel_rfl, by kernel_rfl⟩
instance isf140 : IsFn Tryd.prog 140 := ⟨by kernel_rfl⟩
-- strings.trimRightUnicode
instance isf147 : IsFn Tryd.prog 147 := ⟨by kernel_rfl⟩
-- anchorhold/setup.some[anchorhold/api.Region]
noncomputable def cd150 : Code := match Tryd.f150.body with
  | some c => c
  | none => .skip
noncomputable def pl150 : Nat → Plan := fun _ => .fin
theorem fn150 : FnOK Tryd.prog 150 Tryd.f150 cd150 pl150 := ⟨Tryd.func150, rfl, by kernel_rfl, by kernel_rfl⟩
instance isf150 : IsFn Tryd.prog 150 := ⟨by kernel_rfl⟩
-- (*anchorhold/setup.reader).truth
noncomputable def cd152 : Code := match Tryd.f152.body with
  | some c => c
  | none => .skip
noncomputable def pl152 : Nat → Plan := fun _ => .fin
theorem fn152 : FnOK Tryd.prog 152 Tryd.f152 cd152 pl152 := ⟨Tryd.func152, rfl, by kernel_rfl, by kernel_rfl⟩
instance isf152 : IsFn Tryd.prog 152 := ⟨by kernel_rfl⟩
-- (*anchorhold/setup.reader).part$2
noncomputable def cd154 : Code := match Tryd.f154.body with
  | some c => c
  | none => .skip
noncomputable def pl154 : Nat → Plan
  | 1 => .st ⟨0, false, []⟩ (.st ⟨1, false, []⟩ (.st ⟨2, false, []⟩ (.st ⟨3, false, []⟩ (.st ⟨4, false, []⟩ (.st ⟨5, false, []⟩ (.st ⟨6, false, []⟩ (.st ⟨7, false, []⟩ (.st ⟨8, false, []⟩ (.st ⟨9, false, []⟩ (.st ⟨10, true, []⟩ (.fin)))))))))))
  | _ => .fin
theorem fn154 : FnOK Tryd.prog 154 Tryd.f154 cd154 pl154 := ⟨Tryd.func154, rfl, by kernel_rfl, by kernel_rfl⟩
instance isf154 : IsFn Tryd.prog 154 := ⟨by kernel_rfl⟩
-- anchorhold/setup.some[anchorhold/api.PoolConf]
noncomputable def cd159 : Code := match Tryd.f159.body with
  | some c => c
  | none => .skip
noncomputable def pl159 : Nat → Plan := fun _ => .fin
theorem fn159 : FnOK Tryd.prog 159 Tryd.f159 cd159 pl159 := ⟨Tryd.func159, rfl, by kernel_rfl, by kernel_rfl⟩
instance isf159 : IsFn Tryd.prog 159 := ⟨by kernel_rfl⟩
-- (*anchorhold/setup.reader).part$6
noncomputable def cd162 : Code := match Tryd.f162.body with
  | some c => c
  | none => .skip
noncomputable def pl162 : Nat → Plan := fun _ => .fin
theorem fn162 : FnOK Tryd.prog 162 Tryd.f162 cd162 pl162 := ⟨Tryd.func162, rfl, by kernel_rfl, by kernel_rfl⟩
instance isf162 : IsFn Tryd.prog 162 := ⟨by kernel_rfl⟩
-- anchorhold/anchorholdref07.Bool
noncomputable def cd166 : Code := match Tryd.f166.body with
  | some c => c
  | none => .skip
noncomputable def pl166 : Nat → Plan := fun _ => .fin
theorem fn166 : FnOK Tryd.prog 166 Tryd.f166 cd166 pl166 := ⟨Tryd.func166, rfl, by kernel_rfl, by kernel_rfl⟩
instance isf166 : IsFn Tryd.prog 166 := ⟨by kernel_rfl⟩
-- anchorhold/call.number
noncomputable def cd176 : Code := match Tryd.f176.body with
  | some c => c
  | none => .skip
noncomputable def pl176 : Nat → Plan := fun _ => .fin
theorem fn176 : FnOK Tryd.prog 176 Tryd.f176 cd176 pl176 := ⟨Tryd.func176, rfl, by kernel_rfl, by kernel_rfl⟩
instance isf176 : IsFn Tryd.prog 176 := ⟨by kernel_rfl⟩
-- strings.ContainsRune
instance isf180 : IsFn Tryd.prog 180 := ⟨by kernel_rfl⟩
-- unicode/utf8.RuneCountInString
instance isf186 : IsFn Tryd.prog 186 := ⟨by kernel_rfl⟩
-- strings.IndexRune
instance isf189 : IsFn Tryd.prog 189 := ⟨by kernel_rfl⟩
-- unicode/utf8.ValidRune
instance isf192 : IsFn Tryd.prog 192 := ⟨by kernel_rfl⟩
end Go.Proofs.YtgkhjgpgdfbdpaaDoor
