import Derived.Test.YtacmaamllpiloaaGreatZ06
import Derived.Test.YtacmaamllpiloaaGreatProg
import Derived.Test.YtacmaamllpiloaaGreatZ02
import Derived.KernelRfl
namespace Go.Proofs.YtacmaamllpiloaaGreat
open Go Go.Wk
structure SemC where
 first : Int
 most : Int
instance : Inhabited SemC := ⟨⟨0, 0⟩⟩
instance : En SemC := ⟨fun d => [.int .i64 d.first, .int .i64 d.most], 2, fun _ => rfl, fun _ => rfl, by decide⟩
instance {l : List Asrt} {a b : Int} : De l (.agg [.int .i64 a, .int .i64 b].toArray) (SemC.mk a b) := ⟨rfl⟩
structure PoolC where
 size : Int
 depth : Int
instance : Inhabited PoolC := ⟨⟨0, 0⟩⟩
instance : En PoolC := ⟨fun d => [.int .i64 d.size, .int .i64 d.depth], 2, fun _ => rfl, fun _ => rfl, by decide⟩
instance {l : List Asrt} {a b : Int} : De l (.agg [.int .i64 a, .int .i64 b].toArray) (PoolC.mk a b) := ⟨rfl⟩
structure PartC where
 regions : SV
 procs : SV
 ports : SV
 sems : SV
 flags : Int
 pools : SV
 slates : SV
 cap : Int
 budget : Int
 ladder : Int
 acts : SV
instance : En PartC := ⟨fun d => [d.regions.v, d.procs.v, d.ports.v, d.sems.v, .int .i64 d.flags, d.pools.v, d.slates.v, .int .i64 d.cap, .int .i64 d.budget, .int .i64 d.ladder, d.acts.v], 11, fun _ => rfl, fun _ => rfl, by decide⟩
structure PortC where
 q : Bool
 i : Bool
 size : Int
 depth : Int
instance : Inhabited PortC := ⟨⟨false, false, 0, 0⟩⟩
instance : En PortC := ⟨fun d => [.bool d.q, .bool d.i, .int .i64 d.size, .int .i64 d.depth], 4, fun _ => rfl, fun _ => rfl, by decide⟩
instance {l : List Asrt} {q i : Bool} {a b : Int} : De l (.agg [.bool q, .bool i, .int .i64 a, .int .i64 b].toArray) (PortC.mk q i a b) := ⟨rfl⟩
structure RegC where
 base : Int
 size : Int
 w : Bool
instance : Inhabited RegC := ⟨⟨0, 0, false⟩⟩
instance : En RegC := ⟨fun d => [.int .i64 d.base, .int .i64 d.size, .bool d.w], 3, fun _ => rfl, fun _ => rfl, by decide⟩
structure ProcC where
 prio : Int
 period : Int
 cost : Int
instance : Inhabited ProcC := ⟨⟨0, 0, 0⟩⟩
instance : En ProcC := ⟨fun d => [.int .i64 d.prio, .int .i64 d.period, .int .i64 d.cost], 3, fun _ => rfl, fun _ => rfl, by decide⟩
structure PartD where
 regions : SL RegC
 procs : SL ProcC
 ports : SL PortC
 sems : SL SemC
 flags : Int
 pools : SL PoolC
 slates : SL Int
 cap : Int
 budget : Int
 ladder : Int
 acts : SL Int
instance : En PartD := ⟨fun d => [d.regions.s.v, d.procs.s.v, d.ports.s.v, d.sems.s.v, .int .i64 d.flags, d.pools.s.v, d.slates.s.v, .int .i64 d.cap, .int .i64 d.budget, .int .i64 d.ladder, d.acts.s.v], 11, fun _ => rfl, fun _ => rfl, by decide⟩
def PartD.c (d : PartD) : PartC := ⟨d.regions.s, d.procs.s, d.ports.s, d.sems.s, d.flags, d.pools.s, d.slates.s, d.cap, d.budget, d.ladder, d.acts.s⟩
end Go.Proofs.YtacmaamllpiloaaGreat
namespace Go.Proofs.YtacmaamllpiloaaGreat
open Go Go.Wk
noncomputable def cd3 : Code := match Tryz.f3.body with
 | some c => c
 | none => .skip
instance isf3 : IsFn Tryz.prog 3 := ⟨by kernel_rfl⟩
noncomputable def cd11 : Code := match Tryz.f11.body with
 | some c => c
 | none => .skip
noncomputable def pl11 : Nat → Plan := fun _ => .fin
theorem fn11 : FnOK Tryz.prog 11 Tryz.f11 cd11 pl11 := ⟨Tryz.func11, rfl, by kernel_rfl, by kernel_rfl⟩
instance isf11 : IsFn Tryz.prog 11 := ⟨by kernel_rfl⟩
noncomputable def cd15 : Code := match Tryz.f15.body with
 | some c => c
 | none => .skip
noncomputable def pl15 : Nat → Plan := fun _ => .fin
theorem fn15 : FnOK Tryz.prog 15 Tryz.f15 cd15 pl15 := ⟨Tryz.func15, rfl, by kernel_rfl, by kernel_rfl⟩
instance isf15 : IsFn Tryz.prog 15 := ⟨by kernel_rfl⟩
noncomputable def cd19 : Code := match Tryz.f19.body with
 | some c => c
 | none => .skip
noncomputable def pl19 : Nat → Plan
 | 1 => .st ⟨0, false, []⟩ (.st ⟨1, false, []⟩ (.st ⟨2, false, []⟩ (.st ⟨3, false, []⟩ (.st ⟨5, false, []⟩ (.st ⟨6, false, []⟩ (.st ⟨8, false, []⟩ (.st ⟨9, false, []⟩ (.st ⟨11, false, []⟩ (.st ⟨13, false, []⟩ (.st ⟨14, false, []⟩ (.st ⟨4, true, [0, 5, 6, 8, 9, 11, 13, 14]⟩ (.st ⟨7, true, [0, 8, 9, 11, 13, 14]⟩ (.st ⟨10, true, [0, 11, 13, 14]⟩ (.st ⟨12, true, [0, 13, 14]⟩ (.st ⟨15, true, [0]⟩ (.st ⟨16, false, []⟩ (.st ⟨17, true, []⟩ (.st ⟨18, false, []⟩ (.fin)))))))))))))))))))
 | _ => .fin
theorem fn19 : FnOK Tryz.prog 19 Tryz.f19 cd19 pl19 := ⟨Tryz.func19, rfl, by kernel_rfl, by kernel_rfl⟩
instance isf19 : IsFn Tryz.prog 19 := ⟨by kernel_rfl⟩
noncomputable def cd25 : Code := match Tryz.f25.body with
 | some c => c
 | none => .skip
noncomputable def pl25 : Nat → Plan
 | 6 => .st ⟨0, false, []⟩ (.st ⟨1, false, []⟩ (.st ⟨2, false, []⟩ (.st ⟨3, false, []⟩ (.st ⟨4, false, []⟩ (.st ⟨5, false, []⟩ (.st ⟨6, false, []⟩ (.st ⟨7, false, []⟩ (.st ⟨8, false, []⟩ (.st ⟨9, false, []⟩ (.st ⟨10, false, []⟩ (.st ⟨11, false, []⟩ (.st ⟨12, false, []⟩ (.st ⟨13, false, []⟩ (.st ⟨14, false, []⟩ (.st ⟨15, false, []⟩ (.st ⟨16, false, []⟩ (.st ⟨17, false, []⟩ (.st ⟨18, false, []⟩ (.st ⟨19, false, []⟩ (.st ⟨20, false, []⟩ (.st ⟨21, false, []⟩ (.st ⟨22, false, []⟩ (.st ⟨23, false, []⟩ (.st ⟨24, false, []⟩ (.st ⟨25, false, []⟩ (.st ⟨26, false, []⟩ (.st ⟨27, false, []⟩ (.st ⟨28, false, []⟩ (.st ⟨29, false, []⟩ (.st ⟨30, false, []⟩ (.st ⟨31, false, []⟩ (.st ⟨32, false, []⟩ (.st ⟨33, false, []⟩ (.st ⟨34, false, []⟩ (.st ⟨35, false, []⟩ (.st ⟨36, false, []⟩ (.st ⟨37, false, []⟩ (.st ⟨38, false, []⟩ (.st ⟨39, false, []⟩ (.st ⟨40, false, []⟩ (.st ⟨41, false, []⟩ (.st ⟨42, false, []⟩ (.st ⟨43, false, []⟩ (.st ⟨44, false, []⟩ (.st ⟨45, false, []⟩ (.st ⟨46, false, []⟩ (.st ⟨47, false, []⟩ (.st ⟨48, false, []⟩ (.st ⟨49, false, []⟩ (.st ⟨50, false, []⟩ (.st ⟨51, false, []⟩ (.st ⟨52, false, []⟩ (.st ⟨53, false, []⟩ (.st ⟨54, false, []⟩ (.st ⟨55, false, []⟩ (.st ⟨56, false, []⟩ (.st ⟨57, false, []⟩ (.st ⟨58, false, []⟩ (.st ⟨59, false, []⟩ (.st ⟨60, false, []⟩ (.st ⟨61, false, []⟩ (.st ⟨62, false, []⟩ (.st ⟨63, false, []⟩ (.st ⟨64, false, []⟩ (.st ⟨65, false, []⟩ (.st ⟨66, false, []⟩ (.st ⟨67, false, []⟩ (.st ⟨68, false, []⟩ (.st ⟨69, false, []⟩ (.st ⟨70, false, []⟩ (.st ⟨71, false, []⟩ (.st ⟨72, false, []⟩ (.st ⟨73, false, []⟩ (.st ⟨74, false, []⟩ (.st ⟨75, false, []⟩ (.fin))))))))))))))))))))))))))))))))))))))))))))))))))))))))))))))))))))))))))))
 | _ => .fin
theorem fn25 : FnOK Tryz.prog 25 Tryz.f25 cd25 pl25 := ⟨Tryz.func25, rfl, by kernel_rfl, by kernel_rfl⟩
instance isf25 : IsFn Tryz.prog 25 := ⟨by kernel_rfl⟩
noncomputable def cd32 : Code := match Tryz.f32.body with
 | some c => c
 | none => .skip
noncomputable def pl32 : Nat → Plan
 | 5 => .st ⟨0, false, []⟩ (.st ⟨1, false, []⟩ (.st ⟨2, false, []⟩ (.st ⟨3, false, []⟩ (.st ⟨4, false, []⟩ (.st ⟨5, false, []⟩ (.st ⟨6, false, []⟩ (.st ⟨7, false, []⟩ (.st ⟨8, false, []⟩ (.st ⟨9, true, [2, 3, 4]⟩ (.st ⟨10, true, [2, 3, 4]⟩ (.st ⟨11, true, []⟩ (.st ⟨12, false, []⟩ (.st ⟨13, false, []⟩ (.st ⟨14, true, []⟩ (.fin)))))))))))))))
 | _ => .fin
theorem fn32 : FnOK Tryz.prog 32 Tryz.f32 cd32 pl32 := ⟨Tryz.func32, rfl, by kernel_rfl, by kernel_rfl⟩
instance isf32 : IsFn Tryz.prog 32 := ⟨by kernel_rfl⟩
noncomputable def cd36 : Code := match Tryz.f36.body with
 | some c => c
 | none => .skip
noncomputable def pl36 : Nat → Plan := fun _ => .fin
theorem fn36 : FnOK Tryz.prog 36 Tryz.f36 cd36 pl36 := ⟨Tryz.func36, rfl, by kernel_rfl, by kernel_rfl⟩
instance isf36 : IsFn Tryz.prog 36 := ⟨by kernel_rfl⟩
noncomputable def cd39 : Code := match Tryz.f39.body with
 | some c => c
 | none => .skip
noncomputable def pl39 : Nat → Plan := fun _ => .fin
theorem fn39 : FnOK Tryz.prog 39 Tryz.f39 cd39 pl39 := ⟨Tryz.func39, rfl, by kernel_rfl, by kernel_rfl⟩
instance isf39 : IsFn Tryz.prog 39 := ⟨by kernel_rfl⟩
instance isf42 : IsFn Tryz.prog 42 := ⟨by kernel_rfl⟩
noncomputable def cd44 : Code := match Tryz.f44.body with
 | some c => c
 | none => .skip
noncomputable def pl44 : Nat → Plan
 | 1 => .st ⟨0, false, []⟩ (.st ⟨1, false, []⟩ (.st ⟨2, false, []⟩ (.st ⟨3, false, []⟩ (.st ⟨4, false, []⟩ (.st ⟨5, false, []⟩ (.st ⟨6, false, []⟩ (.st ⟨7, false, []⟩ (.st ⟨8, false, []⟩ (.st ⟨9, false, []⟩ (.st ⟨10, true, []⟩ (.fin)))))))))))
 | _ => .fin
theorem fn44 : FnOK Tryz.prog 44 Tryz.f44 cd44 pl44 := ⟨Tryz.func44, rfl, by kernel_rfl, by kernel_rfl⟩
instance isf44 : IsFn Tryz.prog 44 := ⟨by kernel_rfl⟩
noncomputable def cd49 : Code := match Tryz.f49.body with
 | some c => c
 | none => .skip
noncomputable def pl49 : Nat → Plan := fun _ => .fin
theorem fn49 : FnOK Tryz.prog 49 Tryz.f49 cd49 pl49 := ⟨Tryz.func49, rfl, by kernel_rfl, by kernel_rfl⟩
instance isf49 : IsFn Tryz.prog 49 := ⟨by kernel_rfl⟩
noncomputable def cd52 : Code := match Tryz.f52.body with
 | some c => c
 | none => .skip
noncomputable def pl52 : Nat → Plan
 | 5 => .st ⟨0, false, []⟩ (.st ⟨1, false, []⟩ (.st ⟨2, false, []⟩ (.st ⟨3, false, []⟩ (.st ⟨4, false, []⟩ (.st ⟨5, false, []⟩ (.st ⟨6, false, []⟩ (.st ⟨7, false, []⟩ (.st ⟨8, false, []⟩ (.st ⟨9, false, []⟩ (.st ⟨10, true, [2, 3, 4, 5]⟩ (.st ⟨11, false, []⟩ (.st ⟨12, true, [2, 3, 4]⟩ (.st ⟨13, true, [2, 3, 4]⟩ (.st ⟨14, true, []⟩ (.st ⟨15, false, []⟩ (.st ⟨16, false, []⟩ (.st ⟨17, true, []⟩ (.fin))))))))))))))))))
 | _ => .fin
theorem fn52 : FnOK Tryz.prog 52 Tryz.f52 cd52 pl52 := ⟨Tryz.func52, rfl, by kernel_rfl, by kernel_rfl⟩
instance isf52 : IsFn Tryz.prog 52 := ⟨by kernel_rfl⟩
noncomputable def cd58 : Code := match Tryz.f58.body with
 | some c => c
 | none => .skip
noncomputable def pl58 : Nat → Plan := fun _ => .fin
theorem fn58 : FnOK Tryz.prog 58 Tryz.f58 cd58 pl58 := ⟨Tryz.func58, rfl, by kernel_rfl, by kernel_rfl⟩
instance isf58 : IsFn Tryz.prog 58 := ⟨by kernel_rfl⟩
noncomputable def cd62 : Code := match Tryz.f62.body with
 | some c => c
 | none => .skip
noncomputable def pl62 : Nat → Plan
 | 4 => .st ⟨1, false, []⟩ (.st ⟨2, false, []⟩ (.st ⟨3, false, []⟩ (.st ⟨5, false, []⟩ (.st ⟨7, false, []⟩ (.st ⟨9, false, []⟩ (.br (.st ⟨0, true, [3]⟩ (.br (.st ⟨4, true, []⟩ (.br (.st ⟨6, true, [3]⟩ (.br (.st ⟨8, true, [3]⟩ (.st ⟨10, true, [3]⟩ (.st ⟨11, false, []⟩ (.st ⟨12, true, []⟩ (.st ⟨13, false, []⟩ (.fin)))))) (.st ⟨10, true, [3]⟩ (.st ⟨8, true, [3]⟩ (.st ⟨11, false, []⟩ (.st ⟨12, true, []⟩ (.st ⟨13, false, []⟩ (.fin)))))))) (.br (.st ⟨8, true, [3]⟩ (.br (.st ⟨6, true, [3]⟩ (.st ⟨10, true, [3]⟩ (.st ⟨11, false, []⟩ (.st ⟨12, true, []⟩ (.st ⟨13, false, []⟩ (.fin)))))) (.st ⟨10, true, [3]⟩ (.st ⟨6, true, [3]⟩ (.st ⟨11, false, []⟩ (.st ⟨12, true, []⟩ (.st ⟨13, false, []⟩ (.fin)))))))) (.st ⟨10, true, [3]⟩ (.br (.st ⟨6, true, [3]⟩ (.st ⟨8, true, [3]⟩ (.st ⟨11, false, []⟩ (.st ⟨12, true, []⟩ (.st ⟨13, false, []⟩ (.fin)))))) (.st ⟨8, true, [3]⟩ (.st ⟨6, true, [3]⟩ (.st ⟨11, false, []⟩ (.st ⟨12, true, []⟩ (.st ⟨13, false, []⟩ (.fin))))))))))) (.br (.st ⟨6, true, [3]⟩ (.br (.st ⟨4, true, []⟩ (.br (.st ⟨8, true, [3]⟩ (.st ⟨10, true, [3]⟩ (.st ⟨11, false, []⟩ (.st ⟨12, true, []⟩ (.st ⟨13, false, []⟩ (.fin)))))) (.st ⟨10, true, [3]⟩ (.st ⟨8, true, [3]⟩ (.st ⟨11, false, []⟩ (.st ⟨12, true, []⟩ (.st ⟨13, false, []⟩ (.fin)))))))) (.br (.st ⟨8, true, [3]⟩ (.br (.st ⟨4, true, []⟩ (.st ⟨10, true, [3]⟩ (.st ⟨11, false, []⟩ (.st ⟨12, true, []⟩ (.st ⟨13, false, []⟩ (.fin)))))) (.st ⟨10, true, [3]⟩ (.st ⟨4, true, []⟩ (.st ⟨11, false, []⟩ (.st ⟨12, true, []⟩ (.st ⟨13, false, []⟩ (.fin)))))))) (.st ⟨10, true, [3]⟩ (.br (.st ⟨4, true, []⟩ (.st ⟨8, true, [3]⟩ (.st ⟨11, false, []⟩ (.st ⟨12, true, []⟩ (.st ⟨13, false, []⟩ (.fin)))))) (.st ⟨8, true, [3]⟩ (.st ⟨4, true, []⟩ (.st ⟨11, false, []⟩ (.st ⟨12, true, []⟩ (.st ⟨13, false, []⟩ (.fin))))))))))) (.br (.st ⟨8, true, [3]⟩ (.br (.st ⟨4, true, []⟩ (.br (.st ⟨6, true, [3]⟩ (.st ⟨10, true, [3]⟩ (.st ⟨11, false, []⟩ (.st ⟨12, true, []⟩ (.st ⟨13, false, []⟩ (.fin)))))) (.st ⟨10, true, [3]⟩ (.st ⟨6, true, [3]⟩ (.st ⟨11, false, []⟩ (.st ⟨12, true, []⟩ (.st ⟨13, false, []⟩ (.fin)))))))) (.br (.st ⟨6, true, [3]⟩ (.br (.st ⟨4, true, []⟩ (.st ⟨10, true, [3]⟩ (.st ⟨11, false, []⟩ (.st ⟨12, true, []⟩ (.st ⟨13, false, []⟩ (.fin)))))) (.st ⟨10, true, [3]⟩ (.st ⟨4, true, []⟩ (.st ⟨11, false, []⟩ (.st ⟨12, true, []⟩ (.st ⟨13, false, []⟩ (.fin)))))))) (.st ⟨10, true, [3]⟩ (.br (.st ⟨4, true, []⟩ (.st ⟨6, true, [3]⟩ (.st ⟨11, false, []⟩ (.st ⟨12, true, []⟩ (.st ⟨13, false, []⟩ (.fin)))))) (.st ⟨6, true, [3]⟩ (.st ⟨4, true, []⟩ (.st ⟨11, false, []⟩ (.st ⟨12, true, []⟩ (.st ⟨13, false, []⟩ (.fin))))))))))) (.st ⟨10, true, [3]⟩ (.br (.st ⟨4, true, []⟩ (.br (.st ⟨6, true, [3]⟩ (.st ⟨8, true, [3]⟩ (.st ⟨11, false, []⟩ (.st ⟨12, true, []⟩ (.st ⟨13, false, []⟩ (.fin)))))) (.st ⟨8, true, [3]⟩ (.st ⟨6, true, [3]⟩ (.st ⟨11, false, []⟩ (.st ⟨12, true, []⟩ (.st ⟨13, false, []⟩ (.fin)))))))) (.br (.st ⟨6, true, [3]⟩ (.br (.st ⟨4, true, []⟩ (.st ⟨8, true, [3]⟩ (.st ⟨11, false, []⟩ (.st ⟨12, true, []⟩ (.st ⟨13, false, []⟩ (.fin)))))) (.st ⟨8, true, [3]⟩ (.st ⟨4, true, []⟩ (.st ⟨11, false, []⟩ (.st ⟨12, true, []⟩ (.st ⟨13, false, []⟩ (.fin)))))))) (.st ⟨8, true, [3]⟩ (.br (.st ⟨4, true, []⟩ (.st ⟨6, true, [3]⟩ (.st ⟨11, false, []⟩ (.st ⟨12, true, []⟩ (.st ⟨13, false, []⟩ (.fin)))))) (.st ⟨6, true, [3]⟩ (.st ⟨4, true, []⟩ (.st ⟨11, false, []⟩ (.st ⟨12, true, []⟩ (.st ⟨13, false, []⟩ (.fin))))))))))))))) (.br (.st ⟨6, true, [3]⟩ (.br (.st ⟨0, true, [3]⟩ (.br (.st ⟨4, true, []⟩ (.br (.st ⟨8, true, [3]⟩ (.st ⟨10, true, [3]⟩ (.st ⟨11, false, []⟩ (.st ⟨12, true, []⟩ (.st ⟨13, false, []⟩ (.fin)))))) (.st ⟨10, true, [3]⟩ (.st ⟨8, true, [3]⟩ (.st ⟨11, false, []⟩ (.st ⟨12, true, []⟩ (.st ⟨13, false, []⟩ (.fin)))))))) (.br (.st ⟨8, true, [3]⟩ (.br (.st ⟨4, true, []⟩ (.st ⟨10, true, [3]⟩ (.st ⟨11, false, []⟩ (.st ⟨12, true, []⟩ (.st ⟨13, false, []⟩ (.fin)))))) (.st ⟨10, true, [3]⟩ (.st ⟨4, true, []⟩ (.st ⟨11, false, []⟩ (.st ⟨12, true, []⟩ (.st ⟨13, false, []⟩ (.fin)))))))) (.st ⟨10, true, [3]⟩ (.br (.st ⟨4, true, []⟩ (.st ⟨8, true, [3]⟩ (.st ⟨11, false, []⟩ (.st ⟨12, true, []⟩ (.st ⟨13, false, []⟩ (.fin)))))) (.st ⟨8, true, [3]⟩ (.st ⟨4, true, []⟩ (.st ⟨11, false, []⟩ (.st ⟨12, true, []⟩ (.st ⟨13, false, []⟩ (.fin))))))))))) (.br (.st ⟨8, true, [3]⟩ (.br (.st ⟨0, true, [3]⟩ (.br (.st ⟨4, true, []⟩ (.st ⟨10, true, [3]⟩ (.st ⟨11, false, []⟩ (.st ⟨12, true, []⟩ (.st ⟨13, false, []⟩ (.fin)))))) (.st ⟨10, true, [3]⟩ (.st ⟨4, true, []⟩ (.st ⟨11, false, []⟩ (.st ⟨12, true, []⟩ (.st ⟨13, false, []⟩ (.fin)))))))) (.st ⟨10, true, [3]⟩ (.st ⟨0, true, [3]⟩ (.st ⟨4, true, []⟩ (.st ⟨11, false, []⟩ (.st ⟨12, true, []⟩ (.st ⟨13, false, []⟩ (.fin))))))))) (.st ⟨10, true, [3]⟩ (.br (.st ⟨0, true, [3]⟩ (.br (.st ⟨4, true, []⟩ (.st ⟨8, true, [3]⟩ (.st ⟨11, false, []⟩ (.st ⟨12, true, []⟩ (.st ⟨13, false, []⟩ (.fin)))))) (.st ⟨8, true, [3]⟩ (.st ⟨4, true, []⟩ (.st ⟨11, false, []⟩ (.st ⟨12, true, []⟩ (.st ⟨13, false, []⟩ (.fin)))))))) (.st ⟨8, true, [3]⟩ (.st ⟨0, true, [3]⟩ (.st ⟨4, true, []⟩ (.st ⟨11, false, []⟩ (.st ⟨12, true, []⟩ (.st ⟨13, false, []⟩ (.fin)))))))))))) (.br (.st ⟨8, true, [3]⟩ (.br (.st ⟨0, true, [3]⟩ (.br (.st ⟨4, true, []⟩ (.br (.st ⟨6, true, [3]⟩ (.st ⟨10, true, [3]⟩ (.st ⟨11, false, []⟩ (.st ⟨12, true, []⟩ (.st ⟨13, false, []⟩ (.fin)))))) (.st ⟨10, true, [3]⟩ (.st ⟨6, true, [3]⟩ (.st ⟨11, false, []⟩ (.st ⟨12, true, []⟩ (.st ⟨13, false, []⟩ (.fin)))))))) (.br (.st ⟨6, true, [3]⟩ (.br (.st ⟨4, true, []⟩ (.st ⟨10, true, [3]⟩ (.st ⟨11, false, []⟩ (.st ⟨12, true, []⟩ (.st ⟨13, false, []⟩ (.fin)))))) (.st ⟨10, true, [3]⟩ (.st ⟨4, true, []⟩ (.st ⟨11, false, []⟩ (.st ⟨12, true, []⟩ (.st ⟨13, false, []⟩ (.fin)))))))) (.st ⟨10, true, [3]⟩ (.br (.st ⟨4, true, []⟩ (.st ⟨6, true, [3]⟩ (.st ⟨11, false, []⟩ (.st ⟨12, true, []⟩ (.st ⟨13, false, []⟩ (.fin)))))) (.st ⟨6, true, [3]⟩ (.st ⟨4, true, []⟩ (.st ⟨11, false, []⟩ (.st ⟨12, true, []⟩ (.st ⟨13, false, []⟩ (.fin))))))))))) (.br (.st ⟨6, true, [3]⟩ (.br (.st ⟨0, true, [3]⟩ (.br (.st ⟨4, true, []⟩ (.st ⟨10, true, [3]⟩ (.st ⟨11, false, []⟩ (.st ⟨12, true, []⟩ (.st ⟨13, false, []⟩ (.fin)))))) (.st ⟨10, true, [3]⟩ (.st ⟨4, true, []⟩ (.st ⟨11, false, []⟩ (.st ⟨12, true, []⟩ (.st ⟨13, false, []⟩ (.fin)))))))) (.st ⟨10, true, [3]⟩ (.st ⟨0, true, [3]⟩ (.st ⟨4, true, []⟩ (.st ⟨11, false, []⟩ (.st ⟨12, true, []⟩ (.st ⟨13, false, []⟩ (.fin))))))))) (.st ⟨10, true, [3]⟩ (.br (.st ⟨0, true, [3]⟩ (.br (.st ⟨4, true, []⟩ (.st ⟨6, true, [3]⟩ (.st ⟨11, false, []⟩ (.st ⟨12, true, []⟩ (.st ⟨13, false, []⟩ (.fin)))))) (.st ⟨6, true, [3]⟩ (.st ⟨4, true, []⟩ (.st ⟨11, false, []⟩ (.st ⟨12, true, []⟩ (.st ⟨13, false, []⟩ (.fin)))))))) (.st ⟨6, true, [3]⟩ (.st ⟨0, true, [3]⟩ (.st ⟨4, true, []⟩ (.st ⟨11, false, []⟩ (.st ⟨12, true, []⟩ (.st ⟨13, false, []⟩ (.fin)))))))))))) (.st ⟨10, true, [3]⟩ (.br (.st ⟨0, true, [3]⟩ (.br (.st ⟨4, true, []⟩ (.br (.st ⟨6, true, [3]⟩ (.st ⟨8, true, [3]⟩ (.st ⟨11, false, []⟩ (.st ⟨12, true, []⟩ (.st ⟨13, false, []⟩ (.fin)))))) (.st ⟨8, true, [3]⟩ (.st ⟨6, true, [3]⟩ (.st ⟨11, false, []⟩ (.st ⟨12, true, []⟩ (.st ⟨13, false, []⟩ (.fin)))))))) (.br (.st ⟨6, true, [3]⟩ (.br (.st ⟨4, true, []⟩ (.st ⟨8, true, [3]⟩ (.st ⟨11, false, []⟩ (.st ⟨12, true, []⟩ (.st ⟨13, false, []⟩ (.fin)))))) (.st ⟨8, true, [3]⟩ (.st ⟨4, true, []⟩ (.st ⟨11, false, []⟩ (.st ⟨12, true, []⟩ (.st ⟨13, false, []⟩ (.fin)))))))) (.st ⟨8, true, [3]⟩ (.br (.st ⟨4, true, []⟩ (.st ⟨6, true, [3]⟩ (.st ⟨11, false, []⟩ (.st ⟨12, true, []⟩ (.st ⟨13, false, []⟩ (.fin)))))) (.st ⟨6, true, [3]⟩ (.st ⟨4, true, []⟩ (.st ⟨11, false, []⟩ (.st ⟨12, true, []⟩ (.st ⟨13, false, []⟩ (.fin))))))))))) (.br (.st ⟨6, true, [3]⟩ (.br (.st ⟨0, true, [3]⟩ (.br (.st ⟨4, true, []⟩ (.st ⟨8, true, [3]⟩ (.st ⟨11, false, []⟩ (.st ⟨12, true, []⟩ (.st ⟨13, false, []⟩ (.fin)))))) (.st ⟨8, true, [3]⟩ (.st ⟨4, true, []⟩ (.st ⟨11, false, []⟩ (.st ⟨12, true, []⟩ (.st ⟨13, false, []⟩ (.fin)))))))) (.st ⟨8, true, [3]⟩ (.st ⟨0, true, [3]⟩ (.st ⟨4, true, []⟩ (.st ⟨11, false, []⟩ (.st ⟨12, true, []⟩ (.st ⟨13, false, []⟩ (.fin))))))))) (.st ⟨8, true, [3]⟩ (.br (.st ⟨0, true, [3]⟩ (.br (.st ⟨4, true, []⟩ (.st ⟨6, true, [3]⟩ (.st ⟨11, false, []⟩ (.st ⟨12, true, []⟩ (.st ⟨13, false, []⟩ (.fin)))))) (.st ⟨6, true, [3]⟩ (.st ⟨4, true, []⟩ (.st ⟨11, false, []⟩ (.st ⟨12, true, []⟩ (.st ⟨13, false, []⟩ (.fin)))))))) (.st ⟨6, true, [3]⟩ (.st ⟨0, true, [3]⟩ (.st ⟨4, true, []⟩ (.st ⟨11, false, []⟩ (.st ⟨12, true, []⟩ (.st ⟨13, false, []⟩ (.fin))))))))))))))))))))
 | _ => .fin
theorem fn62 : FnOK Tryz.prog 62 Tryz.f62 cd62 pl62 := ⟨Tryz.func62, rfl, by kernel_rfl, by kernel_rfl⟩
instance isf62 : IsFn Tryz.prog 62 := ⟨by kernel_rfl⟩
noncomputable def cd110 : Code := match Tryz.f110.body with
 | some c => c
 | none => .skip
noncomputable def pl110 : Nat → Plan
 | 1 => .st ⟨0, false, []⟩ (.st ⟨1, false, []⟩ (.st ⟨2, false, []⟩ (.st ⟨3, false, []⟩ (.st ⟨4, false, []⟩ (.st ⟨5, false, []⟩ (.st ⟨6, true, []⟩ (.st ⟨7, false, []⟩ (.st ⟨8, false, []⟩ (.st ⟨9, false, []⟩ (.st ⟨10, false, []⟩ (.st ⟨11, false, []⟩ (.fin))))))))))))
 | 3 => .st ⟨0, false, []⟩ (.st ⟨1, false, []⟩ (.st ⟨2, false, []⟩ (.st ⟨3, false, []⟩ (.st ⟨4, false, []⟩ (.st ⟨5, false, []⟩ (.st ⟨6, false, []⟩ (.st ⟨7, false, []⟩ (.st ⟨8, true, []⟩ (.st ⟨9, false, []⟩ (.st ⟨10, false, []⟩ (.fin)))))))))))
 | _ => .fin
theorem fn110 : FnOK Tryz.prog 110 Tryz.f110 cd110 pl110 := ⟨Tryz.func110, rfl, by kernel_rfl, by kernel_rfl⟩
instance isf110 : IsFn Tryz.prog 110 := ⟨by kernel_rfl⟩
noncomputable def cd116 : Code := match Tryz.f116.body with
 | some c => c
 | none => .skip
noncomputable def pl116 : Nat → Plan := fun _ => .fin
theorem fn116 : FnOK Tryz.prog 116 Tryz.f116 cd116 pl116 := ⟨Tryz.func116, rfl, by kernel_rfl, by kernel_rfl⟩
instance isf116 : IsFn Tryz.prog 116 := ⟨by kernel_rfl⟩
noncomputable def cd118 : Code := match Tryz.f118.body with
 | some c => c
 | none => .skip
noncomputable def pl118 : Nat → Plan
 | 5 => .st ⟨0, false, []⟩ (.st ⟨1, false, []⟩ (.st ⟨2, false, []⟩ (.st ⟨3, false, []⟩ (.st ⟨4, false, []⟩ (.st ⟨5, false, []⟩ (.st ⟨6, true, []⟩ (.fin)))))))
 | _ => .fin
theorem fn118 : FnOK Tryz.prog 118 Tryz.f118 cd118 pl118 := ⟨Tryz.func118, rfl, by kernel_rfl, by kernel_rfl⟩
instance isf118 : IsFn Tryz.prog 118 := ⟨by kernel_rfl⟩
noncomputable def cd123 : Code := match Tryz.f123.body with
 | some c => c
 | none => .skip
noncomputable def pl123 : Nat → Plan := fun _ => .fin
theorem fn123 : FnOK Tryz.prog 123 Tryz.f123 cd123 pl123 := ⟨Tryz.func123, rfl, by kernel_rfl, by kernel_rfl⟩
instance isf123 : IsFn Tryz.prog 123 := ⟨by kernel_rfl⟩
noncomputable def cd143 : Code := match Tryz.f143.body with
 | some c => c
 | none => .skip
noncomputable def pl143 : Nat → Plan
 | 3 => .st ⟨0, false, []⟩ (.st ⟨1, false, []⟩ (.st ⟨2, false, []⟩ (.st ⟨3, false, []⟩ (.st ⟨4, false, []⟩ (.st ⟨5, false, []⟩ (.st ⟨6, false, []⟩ (.st ⟨7, false, []⟩ (.st ⟨8, false, []⟩ (.st ⟨9, false, []⟩ (.st ⟨10, false, []⟩ (.st ⟨11, false, []⟩ (.st ⟨12, true, []⟩ (.fin)))))))))))))
 | _ => .fin
theorem fn143 : FnOK Tryz.prog 143 Tryz.f143 cd143 pl143 := ⟨Tryz.func143, rfl, by kernel_rfl, by kernel_rfl⟩
instance isf143 : IsFn Tryz.prog 143 := ⟨by kernel_rfl⟩
noncomputable def cd146 : Code := match Tryz.f146.body with
 | some c => c
 | none => .skip
noncomputable def pl146 : Nat → Plan := fun _ => .fin
theorem fn146 : FnOK Tryz.prog 146 Tryz.f146 cd146 pl146 := ⟨Tryz.func146, rfl, by kernel_rfl, by kernel_rfl⟩
instance isf146 : IsFn Tryz.prog 146 := ⟨by kernel_rfl⟩
noncomputable def cd149 : Code := match Tryz.f149.body with
 | some c => c
 | none => .skip
noncomputable def pl149 : Nat → Plan := fun _ => .fin
theorem fn149 : FnOK Tryz.prog 149 Tryz.f149 cd149 pl149 := ⟨Tryz.func149, rfl, by kernel_rfl, by kernel_rfl⟩
instance isf149 : IsFn Tryz.prog 149 := ⟨by kernel_rfl⟩
noncomputable def cd152 : Code := match Tryz.f152.body with
 | some c => c
 | none => .skip
noncomputable def pl152 : Nat → Plan
 | 4 => .st ⟨0, false, []⟩ (.st ⟨1, false, []⟩ (.st ⟨2, false, []⟩ (.st ⟨3, false, []⟩ (.st ⟨4, false, []⟩ (.st ⟨5, false, []⟩ (.st ⟨6, false, []⟩ (.st ⟨7, false, []⟩ (.st ⟨8, false, []⟩ (.st ⟨9, false, []⟩ (.st ⟨10, false, []⟩ (.st ⟨11, false, []⟩ (.st ⟨12, false, []⟩ (.st ⟨13, true, []⟩ (.fin))))))))))))))
 | _ => .fin
theorem fn152 : FnOK Tryz.prog 152 Tryz.f152 cd152 pl152 := ⟨Tryz.func152, rfl, by kernel_rfl, by kernel_rfl⟩
instance isf152 : IsFn Tryz.prog 152 := ⟨by kernel_rfl⟩
noncomputable def cd159 : Code := match Tryz.f159.body with
 | some c => c
 | none => .skip
noncomputable def pl159 : Nat → Plan := fun _ => .fin
theorem fn159 : FnOK Tryz.prog 159 Tryz.f159 cd159 pl159 := ⟨Tryz.func159, rfl, by kernel_rfl, by kernel_rfl⟩
instance isf159 : IsFn Tryz.prog 159 := ⟨by kernel_rfl⟩
noncomputable def cd162 : Code := match Tryz.f162.body with
 | some c => c
 | none => .skip
noncomputable def pl162 : Nat → Plan := fun _ => .fin
theorem fn162 : FnOK Tryz.prog 162 Tryz.f162 cd162 pl162 := ⟨Tryz.func162, rfl, by kernel_rfl, by kernel_rfl⟩
instance isf162 : IsFn Tryz.prog 162 := ⟨by kernel_rfl⟩
noncomputable def cd165 : Code := match Tryz.f165.body with
 | some c => c
 | none => .skip
noncomputable def pl165 : Nat → Plan := fun _ => .fin
theorem fn165 : FnOK Tryz.prog 165 Tryz.f165 cd165 pl165 := ⟨Tryz.func165, rfl, by kernel_rfl, by kernel_rfl⟩
instance isf165 : IsFn Tryz.prog 165 := ⟨by kernel_rfl⟩
noncomputable def cd169 : Code := match Tryz.f169.body with
 | some c => c
 | none => .skip
noncomputable def pl169 : Nat → Plan
 | 5 => .st ⟨0, false, []⟩ (.st ⟨1, false, []⟩ (.st ⟨2, false, []⟩ (.st ⟨3, false, []⟩ (.st ⟨4, false, []⟩ (.st ⟨5, false, []⟩ (.st ⟨6, false, []⟩ (.st ⟨7, false, []⟩ (.st ⟨8, false, []⟩ (.fin)))))))))
 | 6 => .st ⟨0, false, []⟩ (.st ⟨1, false, []⟩ (.st ⟨2, false, []⟩ (.st ⟨3, false, []⟩ (.st ⟨4, false, []⟩ (.st ⟨5, false, []⟩ (.st ⟨6, false, []⟩ (.st ⟨7, false, []⟩ (.st ⟨8, false, []⟩ (.st ⟨9, false, []⟩ (.st ⟨10, false, []⟩ (.st ⟨11, false, []⟩ (.st ⟨12, false, []⟩ (.st ⟨13, false, []⟩ (.st ⟨14, false, []⟩ (.st ⟨15, false, []⟩ (.st ⟨16, false, []⟩ (.st ⟨17, false, []⟩ (.st ⟨18, false, []⟩ (.st ⟨19, true, []⟩ (.st ⟨20, false, []⟩ (.st ⟨21, false, []⟩ (.st ⟨22, true, []⟩ (.fin)))))))))))))))))))))))
 | 7 => .st ⟨0, false, []⟩ (.st ⟨1, false, []⟩ (.st ⟨2, false, []⟩ (.st ⟨3, false, []⟩ (.st ⟨4, false, []⟩ (.st ⟨5, false, []⟩ (.st ⟨6, false, []⟩ (.st ⟨7, false, []⟩ (.st ⟨8, false, []⟩ (.st ⟨9, false, []⟩ (.st ⟨10, true, []⟩ (.fin)))))))))))
 | _ => .fin
theorem fn169 : FnOK Tryz.prog 169 Tryz.f169 cd169 pl169 := ⟨Tryz.func169, rfl, by kernel_rfl, by kernel_rfl⟩
instance isf169 : IsFn Tryz.prog 169 := ⟨by kernel_rfl⟩
noncomputable def cd179 : Code := match Tryz.f179.body with
 | some c => c
 | none => .skip
noncomputable def pl179 : Nat → Plan
 | 6 => .st ⟨0, false, []⟩ (.st ⟨1, false, []⟩ (.st ⟨2, false, []⟩ (.st ⟨3, false, []⟩ (.st ⟨4, false, []⟩ (.st ⟨5, false, []⟩ (.st ⟨6, false, []⟩ (.st ⟨7, false, []⟩ (.st ⟨8, false, []⟩ (.st ⟨9, false, []⟩ (.st ⟨10, false, []⟩ (.st ⟨11, false, []⟩ (.fin))))))))))))
 | 8 => .st ⟨0, false, []⟩ (.st ⟨1, false, []⟩ (.st ⟨2, false, []⟩ (.st ⟨3, false, []⟩ (.st ⟨4, false, []⟩ (.st ⟨5, false, []⟩ (.st ⟨6, true, [2, 3, 4]⟩ (.st ⟨7, true, [2, 3, 4]⟩ (.st ⟨8, true, []⟩ (.st ⟨9, false, []⟩ (.st ⟨10, false, []⟩ (.st ⟨11, true, []⟩ (.fin))))))))))))
 | _ => .fin
theorem fn179 : FnOK Tryz.prog 179 Tryz.f179 cd179 pl179 := ⟨Tryz.func179, rfl, by kernel_rfl, by kernel_rfl⟩
instance isf179 : IsFn Tryz.prog 179 := ⟨by kernel_rfl⟩
noncomputable def cd187 : Code := match Tryz.f187.body with
 | some c => c
 | none => .skip
noncomputable def pl187 : Nat → Plan := fun _ => .fin
theorem fn187 : FnOK Tryz.prog 187 Tryz.f187 cd187 pl187 := ⟨Tryz.func187, rfl, by kernel_rfl, by kernel_rfl⟩
instance isf187 : IsFn Tryz.prog 187 := ⟨by kernel_rfl⟩
noncomputable def cd190 : Code := match Tryz.f190.body with
 | some c => c
 | none => .skip
noncomputable def pl190 : Nat → Plan
 | 5 => .st ⟨0, false, []⟩ (.st ⟨1, false, []⟩ (.st ⟨2, false, []⟩ (.st ⟨3, false, []⟩ (.st ⟨4, true, [0, 1]⟩ (.st ⟨5, true, [0, 1]⟩ (.st ⟨6, true, []⟩ (.st ⟨7, false, []⟩ (.st ⟨8, true, []⟩ (.fin)))))))))
 | _ => .fin
theorem fn190 : FnOK Tryz.prog 190 Tryz.f190 cd190 pl190 := ⟨Tryz.func190, rfl, by kernel_rfl, by kernel_rfl⟩
instance isf190 : IsFn Tryz.prog 190 := ⟨by kernel_rfl⟩
noncomputable def cd226 : Code := match Tryz.f226.body with
 | some c => c
 | none => .skip
noncomputable def pl226 : Nat → Plan := fun _ => .fin
theorem fn226 : FnOK Tryz.prog 226 Tryz.f226 cd226 pl226 := ⟨Tryz.func226, rfl, by kernel_rfl, by kernel_rfl⟩
instance isf226 : IsFn Tryz.prog 226 := ⟨by kernel_rfl⟩
noncomputable def cd230 : Code := match Tryz.f230.body with
 | some c => c
 | none => .skip
noncomputable def pl230 : Nat → Plan := fun _ => .fin
theorem fn230 : FnOK Tryz.prog 230 Tryz.f230 cd230 pl230 := ⟨Tryz.func230, rfl, by kernel_rfl, by kernel_rfl⟩
instance isf230 : IsFn Tryz.prog 230 := ⟨by kernel_rfl⟩
noncomputable def cd234 : Code := match Tryz.f234.body with
 | some c => c
 | none => .skip
noncomputable def pl234 : Nat → Plan := fun _ => .fin
theorem fn234 : FnOK Tryz.prog 234 Tryz.f234 cd234 pl234 := ⟨Tryz.func234, rfl, by kernel_rfl, by kernel_rfl⟩
instance isf234 : IsFn Tryz.prog 234 := ⟨by kernel_rfl⟩
end Go.Proofs.YtacmaamllpiloaaGreat
