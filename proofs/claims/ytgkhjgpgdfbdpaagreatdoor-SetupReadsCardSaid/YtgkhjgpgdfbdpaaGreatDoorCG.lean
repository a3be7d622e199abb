import Derived.Test.YtgkhjgpgdfbdpaaGreatDoorCF
import Derived.Test.YtgkhjgpgdfbdpaaGreatDoorWky
/- What hangs on a configuration, for reading. -/
namespace Go.Proofs.YtgkhjgpgdfbdpaaGreatDoor
open Go Go.Wk
instance : Fz RegC := ⟨fun p => sep (Fz.fz p.base) (sep (Fz.fz p.size) (sep (Fz.fz p.w) (fact True))), fun _ => dup_sep (Fz.dup _) (dup_sep (Fz.dup _) (dup_sep (Fz.dup _) (dup_fact _)))⟩
instance : FzD RegC := ⟨fun R w => sepI (FzD.h R w) (sepI (FzD.h R w) (sepI (FzD.h R w) (trivial)))⟩
instance : Fz ProcC := ⟨fun p => sep (Fz.fz p.prio) (sep (Fz.fz p.period) (sep (Fz.fz p.cost) (fact True))), fun _ => dup_sep (Fz.dup _) (dup_sep (Fz.dup _) (dup_sep (Fz.dup _) (dup_fact _)))⟩
instance : FzD ProcC := ⟨fun R w => sepI (FzD.h R w) (sepI (FzD.h R w) (sepI (FzD.h R w) (trivial)))⟩
instance : Fz PortC := ⟨fun p => sep (Fz.fz p.q) (sep (Fz.fz p.i) (sep (Fz.fz p.size) (sep (Fz.fz p.depth) (fact True)))), fun _ => dup_sep (Fz.dup _) (dup_sep (Fz.dup _) (dup_sep (Fz.dup _) (dup_sep (Fz.dup _) (dup_fact _))))⟩
instance : FzD PortC := ⟨fun R w => sepI (FzD.h R w) (sepI (FzD.h R w) (sepI (FzD.h R w) (sepI (FzD.h R w) (trivial))))⟩
instance : Fz SemC := ⟨fun p => sep (Fz.fz p.first) (sep (Fz.fz p.most) (fact True)), fun _ => dup_sep (Fz.dup _) (dup_sep (Fz.dup _) (dup_fact _))⟩
instance : FzD SemC := ⟨fun R w => sepI (FzD.h R w) (sepI (FzD.h R w) (trivial))⟩
instance : Fz PoolC := ⟨fun p => sep (Fz.fz p.size) (sep (Fz.fz p.depth) (fact True)), fun _ => dup_sep (Fz.dup _) (dup_sep (Fz.dup _) (dup_fact _))⟩
instance : FzD PoolC := ⟨fun R w => sepI (FzD.h R w) (sepI (FzD.h R w) (trivial))⟩
instance : Fz ChanC := ⟨fun p => sep (Fz.fz p.fp) (sep (Fz.fz p.fo) (sep (Fz.fz p.tp) (sep (Fz.fz p.to) (fact True)))), fun _ => dup_sep (Fz.dup _) (dup_sep (Fz.dup _) (dup_sep (Fz.dup _) (dup_sep (Fz.dup _) (dup_fact _))))⟩
instance : FzD ChanC := ⟨fun R w => sepI (FzD.h R w) (sepI (FzD.h R w) (sepI (FzD.h R w) (sepI (FzD.h R w) (trivial))))⟩
instance : Fz WinC := ⟨fun p => sep (Fz.fz p.part) (sep (Fz.fz p.start) (sep (Fz.fz p.len) (fact True))), fun _ => dup_sep (Fz.dup _) (dup_sep (Fz.dup _) (dup_sep (Fz.dup _) (dup_fact _)))⟩
instance : FzD WinC := ⟨fun R w => sepI (FzD.h R w) (sepI (FzD.h R w) (sepI (FzD.h R w) (trivial)))⟩
instance : Fz LevelC := ⟨fun p => sep (Fz.fz p.freq) (sep (Fz.fz p.power) (fact True)), fun _ => dup_sep (Fz.dup _) (dup_sep (Fz.dup _) (dup_fact _))⟩
instance : FzD LevelC := ⟨fun R w => sepI (FzD.h R w) (sepI (FzD.h R w) (trivial))⟩
instance : Fz NapC := ⟨fun p => sep (Fz.fz p.power) (sep (Fz.fz p.enter) (sep (Fz.fz p.wake) (fact True))), fun _ => dup_sep (Fz.dup _) (dup_sep (Fz.dup _) (dup_sep (Fz.dup _) (dup_fact _)))⟩
instance : FzD NapC := ⟨fun R w => sepI (FzD.h R w) (sepI (FzD.h R w) (sepI (FzD.h R w) (trivial)))⟩
instance : Fz PartD := ⟨fun p => sep (Fz.fz p.regions) (sep (Fz.fz p.procs) (sep (Fz.fz p.ports) (sep (Fz.fz p.sems) (sep (Fz.fz p.flags) (sep (Fz.fz p.pools) (sep (Fz.fz p.slates) (sep (Fz.fz p.cap) (sep (Fz.fz p.budget) (sep (Fz.fz p.ladder) (sep (Fz.fz p.acts) (fact True))))))))))), fun _ => dup_sep (Fz.dup _) (dup_sep (Fz.dup _) (dup_sep (Fz.dup _) (dup_sep (Fz.dup _) (dup_sep (Fz.dup _) (dup_sep (Fz.dup _) (dup_sep (Fz.dup _) (dup_sep (Fz.dup _) (dup_sep (Fz.dup _) (dup_sep (Fz.dup _) (dup_sep (Fz.dup _) (dup_fact _)))))))))))⟩
instance : FzD PartD := ⟨fun R w => sepI (FzD.h R w) (sepI (FzD.h R w) (sepI (FzD.h R w) (sepI (FzD.h R w) (sepI (FzD.h R w) (sepI (FzD.h R w) (sepI (FzD.h R w) (sepI (FzD.h R w) (sepI (FzD.h R w) (sepI (FzD.h R w) (sepI (FzD.h R w) (trivial)))))))))))⟩
instance (priority := 700) hasz_PartD_regions {l : List Asrt} {x : PartD} [hz : HasZ l x] : HasZ l (PartD.regions x) := ⟨hz.h.imp fun h => ⟨fun _ => False, sep_l (Fz.dup x h)⟩⟩
instance (priority := 700) hasz_PartD_procs {l : List Asrt} {x : PartD} [hz : HasZ l x] : HasZ l (PartD.procs x) := ⟨hz.h.imp fun h => ⟨fun _ => False, sep_l (sep_r (Fz.dup x h))⟩⟩
instance (priority := 700) hasz_PartD_ports {l : List Asrt} {x : PartD} [hz : HasZ l x] : HasZ l (PartD.ports x) := ⟨hz.h.imp fun h => ⟨fun _ => False, sep_l (sep_r (sep_r (Fz.dup x h)))⟩⟩
instance (priority := 700) hasz_PartD_sems {l : List Asrt} {x : PartD} [hz : HasZ l x] : HasZ l (PartD.sems x) := ⟨hz.h.imp fun h => ⟨fun _ => False, sep_l (sep_r (sep_r (sep_r (Fz.dup x h))))⟩⟩
instance (priority := 700) hasz_PartD_pools {l : List Asrt} {x : PartD} [hz : HasZ l x] : HasZ l (PartD.pools x) := ⟨hz.h.imp fun h => ⟨fun _ => False, sep_l (sep_r (sep_r (sep_r (sep_r (sep_r (Fz.dup x h))))))⟩⟩
instance (priority := 700) hasz_PartD_slates {l : List Asrt} {x : PartD} [hz : HasZ l x] : HasZ l (PartD.slates x) := ⟨hz.h.imp fun h => ⟨fun _ => False, sep_l (sep_r (sep_r (sep_r (sep_r (sep_r (sep_r (Fz.dup x h)))))))⟩⟩
instance (priority := 700) hasz_PartD_acts {l : List Asrt} {x : PartD} [hz : HasZ l x] : HasZ l (PartD.acts x) := ⟨hz.h.imp fun h => ⟨fun _ => False, sep_l (sep_r (sep_r (sep_r (sep_r (sep_r (sep_r (sep_r (sep_r (sep_r (sep_r (Fz.dup x h)))))))))))⟩⟩
instance : Fz ModeD := ⟨fun p => sep (Fz.fz p.frame) (sep (Fz.fz p.wins) (fact True)), fun _ => dup_sep (Fz.dup _) (dup_sep (Fz.dup _) (dup_fact _))⟩
instance : FzD ModeD := ⟨fun R w => sepI (FzD.h R w) (sepI (FzD.h R w) (trivial))⟩
instance (priority := 700) hasz_ModeD_wins {l : List Asrt} {x : ModeD} [hz : HasZ l x] : HasZ l (ModeD.wins x) := ⟨hz.h.imp fun h => ⟨fun _ => False, sep_l (sep_r (Fz.dup x h))⟩⟩
/-- All that is configured, with what it holds. -/
structure ConfD where
  parts : SL PartD
  chans : SL ChanC
  modes : SL ModeD
  levels : SL LevelC
  naps : SL NapC
  sw : Int
  idle : Int
  change : Int
  quantum : Int
  slow : Int
  ppm : Int
  down : SL Int
  up : SL Int
instance : Inhabited ConfD := ⟨⟨default, default, default, default, default, 0, 0, 0, 0, 0, 0, default, default⟩⟩
def ConfD.c (d : ConfD) : ConfC := ⟨d.parts.s, d.chans.s, d.modes.s, d.levels.s, d.naps.s, d.sw, d.idle, d.change, d.quantum, d.slow, d.ppm, d.down.s, d.up.s⟩
instance : En ConfD := ⟨fun d => [d.parts.s.v, d.chans.s.v, d.modes.s.v, d.levels.s.v, d.naps.s.v, .int .i64 d.sw, .int .i64 d.idle, .int .i64 d.change, .int .i64 d.quantum, .int .i64 d.slow, .int .i64 d.ppm, d.down.s.v, d.up.s.v], 13, fun _ => rfl, fun _ => rfl, by decide⟩
theorem ConfD.enc (d : ConfD) : En.enc d = En.enc d.c := rfl
instance : Fz ConfD := ⟨fun p => sep (Fz.fz p.parts) (sep (Fz.fz p.chans) (sep (Fz.fz p.modes) (sep (Fz.fz p.levels) (sep (Fz.fz p.naps) (sep (Fz.fz p.sw) (sep (Fz.fz p.idle) (sep (Fz.fz p.change) (sep (Fz.fz p.quantum) (sep (Fz.fz p.slow) (sep (Fz.fz p.ppm) (sep (Fz.fz p.down) (sep (Fz.fz p.up) (fact True))))))))))))), fun _ => dup_sep (Fz.dup _) (dup_sep (Fz.dup _) (dup_sep (Fz.dup _) (dup_sep (Fz.dup _) (dup_sep (Fz.dup _) (dup_sep (Fz.dup _) (dup_sep (Fz.dup _) (dup_sep (Fz.dup _) (dup_sep (Fz.dup _) (dup_sep (Fz.dup _) (dup_sep (Fz.dup _) (dup_sep (Fz.dup _) (dup_sep (Fz.dup _) (dup_fact _)))))))))))))⟩
end Go.Proofs.YtgkhjgpgdfbdpaaGreatDoor
