/- What is configured: the words of each struct, and what its slices hold. -/
import Derived.Test.YtgkhjgpgdfbdpaaGreatDoorWky
namespace Go.Proofs.YtgkhjgpgdfbdpaaGreatDoor
open Go Go.Wk
structure SemC where
  first : Int
  most : Int
instance : Inhabited SemC := ⟨⟨0, 0⟩⟩
instance : En SemC := ⟨fun d => [.int .i64 d.first, .int .i64 d.most], 2, fun _ => rfl, fun _ => rfl, by decide⟩
instance {l : List Asrt} {a b : Int} : De l (.agg [.int .i64 a, .int .i64 b].toArray) (SemC.mk a b) := ⟨rfl⟩
structure PoolC where
  size : Int
  depth : Int
instance : Inhabited PoolC := ⟨⟨0, 0⟩⟩
instance : En PoolC := ⟨fun d => [.int .i64 d.size, .int .i64 d.depth], 2, fun _ => rfl, fun _ => rfl, by decide⟩
instance {l : List Asrt} {a b : Int} : De l (.agg [.int .i64 a, .int .i64 b].toArray) (PoolC.mk a b) := ⟨rfl⟩
/-- A partition's configuration: its words. -/
structure PartC where
  regions : SV
  procs : SV
  ports : SV
  sems : SV
  flags : Int
  pools : SV
  slates : SV
  cap : Int
  budget : Int
  ladder : Int
  acts : SV
instance : En PartC := ⟨fun d => [d.regions.v, d.procs.v, d.ports.v, d.sems.v, .int .i64 d.flags, d.pools.v, d.slates.v, .int .i64 d.cap, .int .i64 d.budget, .int .i64 d.ladder, d.acts.v], 11, fun _ => rfl, fun _ => rfl, by decide⟩
instance {a b c d e f g : Value} {i j k m : Int} {sa sb sc sd se sf sg : SV} [ha : DeSV a sa] [hb : DeSV b sb] [hc : DeSV c sc] [hd : DeSV d sd] [he : DeSV e se] [hf : DeSV f sf] [hg : DeSV g sg] :
    DeA (.agg [a, b, c, d, .int .i64 i, e, f, .int .i64 j, .int .i64 k, .int .i64 m, g].toArray) (PartC.mk sa sb sc sd i se sf j k m sg) := ⟨by rw [ha.h, hb.h, hc.h, hd.h, he.h, hf.h, hg.h]; rfl⟩
structure PortC where
  q : Bool
  i : Bool
  size : Int
  depth : Int
instance : Inhabited PortC := ⟨⟨false, false, 0, 0⟩⟩
instance : En PortC := ⟨fun d => [.bool d.q, .bool d.i, .int .i64 d.size, .int .i64 d.depth], 4, fun _ => rfl, fun _ => rfl, by decide⟩
instance {l : List Asrt} {q i : Bool} {a b : Int} : De l (.agg [.bool q, .bool i, .int .i64 a, .int .i64 b].toArray) (PortC.mk q i a b) := ⟨rfl⟩
structure RegC where
  base : Int
  size : Int
  w : Bool
instance : Inhabited RegC := ⟨⟨0, 0, false⟩⟩
instance : En RegC := ⟨fun d => [.int .i64 d.base, .int .i64 d.size, .bool d.w], 3, fun _ => rfl, fun _ => rfl, by decide⟩
structure ProcC where
  prio : Int
  period : Int
  cost : Int
instance : Inhabited ProcC := ⟨⟨0, 0, 0⟩⟩
instance : En ProcC := ⟨fun d => [.int .i64 d.prio, .int .i64 d.period, .int .i64 d.cost], 3, fun _ => rfl, fun _ => rfl, by decide⟩
structure PartD where
  regions : SL RegC
  procs : SL ProcC
  ports : SL PortC
  sems : SL SemC
  flags : Int
  pools : SL PoolC
  slates : SL Int
  cap : Int
  budget : Int
  ladder : Int
  acts : SL Int
instance : Inhabited PartD := ⟨⟨default, default, default, default, 0, default, default, 0, 0, 0, default⟩⟩
instance : En PartD := ⟨fun d => [d.regions.s.v, d.procs.s.v, d.ports.s.v, d.sems.s.v, .int .i64 d.flags, d.pools.s.v, d.slates.s.v, .int .i64 d.cap, .int .i64 d.budget, .int .i64 d.ladder, d.acts.s.v], 11, fun _ => rfl, fun _ => rfl, by decide⟩
def PartD.c (d : PartD) : PartC := ⟨d.regions.s, d.procs.s, d.ports.s, d.sems.s, d.flags, d.pools.s, d.slates.s, d.cap, d.budget, d.ladder, d.acts.s⟩
theorem PartD.enc (d : PartD) : En.enc d = En.enc d.c := rfl
structure EndC where
  part : Int
  port : Int
instance : Inhabited EndC := ⟨⟨0, 0⟩⟩
instance : En EndC := ⟨fun d => [.int .i64 d.part, .int .i64 d.port], 2, fun _ => rfl, fun _ => rfl, by decide⟩
structure ChanC where
  fp : Int
  fo : Int
  tp : Int
  to : Int
instance : Inhabited ChanC := ⟨⟨0, 0, 0, 0⟩⟩
instance : En ChanC := ⟨fun d => [.int .i64 d.fp, .int .i64 d.fo, .int .i64 d.tp, .int .i64 d.to], 4, fun _ => rfl, fun _ => rfl, by decide⟩
structure WinC where
  part : Int
  start : Int
  len : Int
instance : Inhabited WinC := ⟨⟨0, 0, 0⟩⟩
instance : En WinC := ⟨fun d => [.int .i64 d.part, .int .i64 d.start, .int .i64 d.len], 3, fun _ => rfl, fun _ => rfl, by decide⟩
structure ModeD where
  frame : Int
  wins : SL WinC
instance : Inhabited ModeD := ⟨⟨0, default⟩⟩
instance : En ModeD := ⟨fun d => [.int .i64 d.frame, d.wins.s.v], 2, fun _ => rfl, fun _ => rfl, by decide⟩
structure LevelC where
  freq : Int
  power : Int
instance : Inhabited LevelC := ⟨⟨0, 0⟩⟩
instance : En LevelC := ⟨fun d => [.int .i64 d.freq, .int .i64 d.power], 2, fun _ => rfl, fun _ => rfl, by decide⟩
structure NapC where
  power : Int
  enter : Int
  wake : Int
instance : Inhabited NapC := ⟨⟨0, 0, 0⟩⟩
instance : En NapC := ⟨fun d => [.int .i64 d.power, .int .i64 d.enter, .int .i64 d.wake], 3, fun _ => rfl, fun _ => rfl, by decide⟩
/-- All that is configured: its words. -/
structure ConfC where
  parts : SV
  chans : SV
  modes : SV
  levels : SV
  naps : SV
  sw : Int
  idle : Int
  change : Int
  quantum : Int
  slow : Int
  ppm : Int
  down : SV
  up : SV
instance : Inhabited ConfC := ⟨⟨⟨none, 0, 0⟩, ⟨none, 0, 0⟩, ⟨none, 0, 0⟩, ⟨none, 0, 0⟩, ⟨none, 0, 0⟩, 0, 0, 0, 0, 0, 0, ⟨none, 0, 0⟩, ⟨none, 0, 0⟩⟩⟩
instance : En ConfC := ⟨fun d => [d.parts.v, d.chans.v, d.modes.v, d.levels.v, d.naps.v, .int .i64 d.sw, .int .i64 d.idle, .int .i64 d.change, .int .i64 d.quantum, .int .i64 d.slow, .int .i64 d.ppm, d.down.v, d.up.v], 13, fun _ => rfl, fun _ => rfl, by decide⟩
instance {vparts vchans vmodes vlevels vnaps vdown vup : Value} {nsw nidle nchange nquantum nslow nppm : Int} {sparts schans smodes slevels snaps sdown sup : SV} [hparts : DeSV vparts sparts] [hchans : DeSV vchans schans] [hmodes : DeSV vmodes smodes] [hlevels : DeSV vlevels slevels] [hnaps : DeSV vnaps snaps] [hdown : DeSV vdown sdown] [hup : DeSV vup sup] :
    DeA (.agg [vparts, vchans, vmodes, vlevels, vnaps, .int .i64 nsw, .int .i64 nidle, .int .i64 nchange, .int .i64 nquantum, .int .i64 nslow, .int .i64 nppm, vdown, vup].toArray) (ConfC.mk sparts schans smodes slevels snaps nsw nidle nchange nquantum nslow nppm sdown sup) := ⟨by rw [hparts.h, hchans.h, hmodes.h, hlevels.h, hnaps.h, hdown.h, hup.h]; rfl⟩
end Go.Proofs.YtgkhjgpgdfbdpaaGreatDoor
