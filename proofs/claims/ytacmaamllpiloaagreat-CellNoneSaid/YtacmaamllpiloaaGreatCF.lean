import Derived.Test.YtacmaamllpiloaaGreatZ06
namespace Go.Proofs.YtacmaamllpiloaaGreat
open Go Go.Wk
structure SemC where
  first : Int
  most : Int
instance : Inhabited SemC := ⟨⟨0, 0⟩⟩
instance : En SemC := ⟨fun d => [.int .i64 d.first, .int .i64 d.most], 2, fun _ => rfl, fun _ => rfl, by decide⟩
instance {l : List Asrt} {a b : Int} : De l (.agg [.int .i64 a, .int .i64 b].toArray) (SemC.mk a b) := ⟨rfl⟩
structure PoolC where
  size : Int
  depth : Int
instance : Inhabited PoolC := ⟨⟨0, 0⟩⟩
instance : En PoolC := ⟨fun d => [.int .i64 d.size, .int .i64 d.depth], 2, fun _ => rfl, fun _ => rfl, by decide⟩
instance {l : List Asrt} {a b : Int} : De l (.agg [.int .i64 a, .int .i64 b].toArray) (PoolC.mk a b) := ⟨rfl⟩
structure PartC where
  regions : SV
  procs : SV
  ports : SV
  sems : SV
  flags : Int
  pools : SV
  slates : SV
  cap : Int
  budget : Int
  ladder : Int
  acts : SV
instance : En PartC := ⟨fun d => [d.regions.v, d.procs.v, d.ports.v, d.sems.v, .int .i64 d.flags, d.pools.v, d.slates.v, .int .i64 d.cap, .int .i64 d.budget, .int .i64 d.ladder, d.acts.v], 11, fun _ => rfl, fun _ => rfl, by decide⟩
structure PortC where
  q : Bool
  i : Bool
  size : Int
  depth : Int
instance : Inhabited PortC := ⟨⟨false, false, 0, 0⟩⟩
instance : En PortC := ⟨fun d => [.bool d.q, .bool d.i, .int .i64 d.size, .int .i64 d.depth], 4, fun _ => rfl, fun _ => rfl, by decide⟩
instance {l : List Asrt} {q i : Bool} {a b : Int} : De l (.agg [.bool q, .bool i, .int .i64 a, .int .i64 b].toArray) (PortC.mk q i a b) := ⟨rfl⟩
structure RegC where
  base : Int
  size : Int
  w : Bool
instance : Inhabited RegC := ⟨⟨0, 0, false⟩⟩
instance : En RegC := ⟨fun d => [.int .i64 d.base, .int .i64 d.size, .bool d.w], 3, fun _ => rfl, fun _ => rfl, by decide⟩
structure ProcC where
  prio : Int
  period : Int
  cost : Int
instance : Inhabited ProcC := ⟨⟨0, 0, 0⟩⟩
instance : En ProcC := ⟨fun d => [.int .i64 d.prio, .int .i64 d.period, .int .i64 d.cost], 3, fun _ => rfl, fun _ => rfl, by decide⟩
structure PartD where
  regions : SL RegC
  procs : SL ProcC
  ports : SL PortC
  sems : SL SemC
  flags : Int
  pools : SL PoolC
  slates : SL Int
  cap : Int
  budget : Int
  ladder : Int
  acts : SL Int
instance : En PartD := ⟨fun d => [d.regions.s.v, d.procs.s.v, d.ports.s.v, d.sems.s.v, .int .i64 d.flags, d.pools.s.v, d.slates.s.v, .int .i64 d.cap, .int .i64 d.budget, .int .i64 d.ladder, d.acts.s.v], 11, fun _ => rfl, fun _ => rfl, by decide⟩
def PartD.c (d : PartD) : PartC := ⟨d.regions.s, d.procs.s, d.ports.s, d.sems.s, d.flags, d.pools.s, d.slates.s, d.cap, d.budget, d.ladder, d.acts.s⟩
end Go.Proofs.YtacmaamllpiloaaGreat
