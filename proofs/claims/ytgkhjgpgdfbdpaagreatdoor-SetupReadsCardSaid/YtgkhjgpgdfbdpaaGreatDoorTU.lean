import Derived.Test.YtgkhjgpgdfbdpaaGreatDoorVdx
import Derived.Test.YtgkhjgpgdfbdpaaGreatDoorWkA
import Derived.Test.YtgkhjgpgdfbdpaaGreatDoorRows
import Derived.Test.YtgkhjgpgdfbdpaaGreatDoorTie
import Derived.Test.YtgkhjgpgdfbdpaaGreatDoorCards
import Derived.ProofKit
import Derived.Deep.DeepHandedRow
import Derived.Deep.DeepWitnessRowRef
import Derived.SevenTiedAt
import Derived.Lay
import Derived.Shelf.Vars
namespace Go.Proofs.YtgkhjgpgdfbdpaaGreatDoor
open Go Go.Wk Go.ChangeShapes Go.WideShapes Go.ChangeAt Go.RowKit
set_option maxRecDepth 100000
theorem Tryz.own : ownKnob Tryz.prog.godebug = none := by kernel_rfl
theorem Tryz.laidOut : laidOutB Tryz.prog = true := by kernel_rfl
instance : Inp Tryz.prog 3 Int := inp_int Tryz.underlying3
instance : Inp Tryz.prog 4 Bool := inp_bool Tryz.underlying4
instance : Inp Tryz.prog 9 Str := inp_str Tryz.underlying9
instance : Inp Tryz.prog 29 (SL Int) := inp_slice Tryz.underlying29 (by kernel_rfl)
theorem Inp.mapI {P : Program} {t : Nat} {α β : Type} [En α] [Fz α] [En β] [Fz β] [hI : Inp P t α] (f : α → β) (he : ∀ a, En.enc a = En.enc (f a)) (hz : ∀ a R w, (Fz.fz a).h R (fun _ => False) w → (Fz.fz (f a)).h R (fun _ => False) w) : Inp P t β := ⟨fun hsp h => by
  obtain ⟨a, e, z⟩ := hI.h hsp h
  exact ⟨f a, e.trans (he a), fun R hR => hz a R _ (z R hR)⟩⟩
abbrev LReg := SL RegC
abbrev LProc := SL ProcC
abbrev LPort := SL PortC
abbrev LSem := SL SemC
abbrev LPool := SL PoolC
abbrev LInt := SL Int
abbrev LWin := SL WinC
abbrev LLevel := SL LevelC
abbrev LNap := SL NapC
abbrev LPart := SL PartD
abbrev LChan := SL ChanC
abbrev LMode := SL ModeD
instance : Inp Tryz.prog 93 RegC := ⟨fun {_ _ _ _ _ _ _ cs _} hsp h => by
  obtain ⟨xs, n, _, _, hl, hxl, hf⟩ := DataW.trod_struct Tryz.underlying93 h
  have g := fun i f hi (hlt : i < xs.length) => (hf i f hi).trans (List.getElem?_eq_getElem hlt)
  obtain ⟨a0, e0, z0⟩ := (inferInstance : Inp Tryz.prog 3 Int).h hsp (g 0 _ rfl (by rw [hxl]; decide))
  have d0 : (cs.drop 0).take 1 = En.enc a0 := by
    have hc : Tryz.prog.cellsOf 3 = 1 := by kernel_rfl
    have e : (cs.drop 0).take (Tryz.prog.cellsOf 3) = En.enc a0 := e0
    rw [hc] at e; exact e
  obtain ⟨a1, e1, z1⟩ := (inferInstance : Inp Tryz.prog 3 Int).h hsp (g 1 _ rfl (by rw [hxl]; decide))
  have d1 : (cs.drop 1).take 1 = En.enc a1 := by
    have hc : Tryz.prog.cellsOf 3 = 1 := by kernel_rfl
    have e : (cs.drop 1).take (Tryz.prog.cellsOf 3) = En.enc a1 := e1
    rw [hc] at e; exact e
  obtain ⟨a2, e2, z2⟩ := (inferInstance : Inp Tryz.prog 4 Bool).h hsp (g 2 _ rfl (by rw [hxl]; decide))
  have d2 : (cs.drop 2).take 1 = En.enc a2 := by
    have hc : Tryz.prog.cellsOf 4 = 1 := by kernel_rfl
    have e : (cs.drop 2).take (Tryz.prog.cellsOf 4) = En.enc a2 := e2
    rw [hc] at e; exact e
  refine ⟨⟨a0, a1, a2⟩, ?_, fun R hR => sepI (z0 R hR) (sepI (z1 R hR) (sepI (z2 R hR) (trivial)))⟩
  have hp := pcs_eq [1, 1, 1] 0 cs (by rw [hl]; kernel_rfl)
  have hq : cs = En.enc a0 ++ (En.enc a1 ++ (En.enc a2 ++ ( []))) := by rw [← d0, ← d1, ← d2]; exact hp
  rw [hq]; rfl⟩
instance : Inp Tryz.prog 51 (SL RegC) := inp_slice Tryz.underlying51 (by kernel_rfl)
instance : Inp Tryz.prog 96 ProcC := ⟨fun {_ _ _ _ _ _ _ cs _} hsp h => by
  obtain ⟨xs, n, _, _, hl, hxl, hf⟩ := DataW.trod_struct Tryz.underlying96 h
  have g := fun i f hi (hlt : i < xs.length) => (hf i f hi).trans (List.getElem?_eq_getElem hlt)
  obtain ⟨a0, e0, z0⟩ := (inferInstance : Inp Tryz.prog 3 Int).h hsp (g 0 _ rfl (by rw [hxl]; decide))
  have d0 : (cs.drop 0).take 1 = En.enc a0 := by
    have hc : Tryz.prog.cellsOf 3 = 1 := by kernel_rfl
    have e : (cs.drop 0).take (Tryz.prog.cellsOf 3) = En.enc a0 := e0
    rw [hc] at e; exact e
  obtain ⟨a1, e1, z1⟩ := (inferInstance : Inp Tryz.prog 3 Int).h hsp (g 1 _ rfl (by rw [hxl]; decide))
  have d1 : (cs.drop 1).take 1 = En.enc a1 := by
    have hc : Tryz.prog.cellsOf 3 = 1 := by kernel_rfl
    have e : (cs.drop 1).take (Tryz.prog.cellsOf 3) = En.enc a1 := e1
    rw [hc] at e; exact e
  obtain ⟨a2, e2, z2⟩ := (inferInstance : Inp Tryz.prog 3 Int).h hsp (g 2 _ rfl (by rw [hxl]; decide))
  have d2 : (cs.drop 2).take 1 = En.enc a2 := by
    have hc : Tryz.prog.cellsOf 3 = 1 := by kernel_rfl
    have e : (cs.drop 2).take (Tryz.prog.cellsOf 3) = En.enc a2 := e2
    rw [hc] at e; exact e
  refine ⟨⟨a0, a1, a2⟩, ?_, fun R hR => sepI (z0 R hR) (sepI (z1 R hR) (sepI (z2 R hR) (trivial)))⟩
  have hp := pcs_eq [1, 1, 1] 0 cs (by rw [hl]; kernel_rfl)
  have hq : cs = En.enc a0 ++ (En.enc a1 ++ (En.enc a2 ++ ( []))) := by rw [← d0, ← d1, ← d2]; exact hp
  rw [hq]; rfl⟩
instance : Inp Tryz.prog 52 (SL ProcC) := inp_slice Tryz.underlying52 (by kernel_rfl)
instance : Inp Tryz.prog 98 PortC := ⟨fun {_ _ _ _ _ _ _ cs _} hsp h => by
  obtain ⟨xs, n, _, _, hl, hxl, hf⟩ := DataW.trod_struct Tryz.underlying98 h
  have g := fun i f hi (hlt : i < xs.length) => (hf i f hi).trans (List.getElem?_eq_getElem hlt)
  obtain ⟨a0, e0, z0⟩ := (inferInstance : Inp Tryz.prog 4 Bool).h hsp (g 0 _ rfl (by rw [hxl]; decide))
  have d0 : (cs.drop 0).take 1 = En.enc a0 := by
    have hc : Tryz.prog.cellsOf 4 = 1 := by kernel_rfl
    have e : (cs.drop 0).take (Tryz.prog.cellsOf 4) = En.enc a0 := e0
    rw [hc] at e; exact e
  obtain ⟨a1, e1, z1⟩ := (inferInstance : Inp Tryz.prog 4 Bool).h hsp (g 1 _ rfl (by rw [hxl]; decide))
  have d1 : (cs.drop 1).take 1 = En.enc a1 := by
    have hc : Tryz.prog.cellsOf 4 = 1 := by kernel_rfl
    have e : (cs.drop 1).take (Tryz.prog.cellsOf 4) = En.enc a1 := e1
    rw [hc] at e; exact e
  obtain ⟨a2, e2, z2⟩ := (inferInstance : Inp Tryz.prog 3 Int).h hsp (g 2 _ rfl (by rw [hxl]; decide))
  have d2 : (cs.drop 2).take 1 = En.enc a2 := by
    have hc : Tryz.prog.cellsOf 3 = 1 := by kernel_rfl
    have e : (cs.drop 2).take (Tryz.prog.cellsOf 3) = En.enc a2 := e2
    rw [hc] at e; exact e
  obtain ⟨a3, e3, z3⟩ := (inferInstance : Inp Tryz.prog 3 Int).h hsp (g 3 _ rfl (by rw [hxl]; decide))
  have d3 : (cs.drop 3).take 1 = En.enc a3 := by
    have hc : Tryz.prog.cellsOf 3 = 1 := by kernel_rfl
    have e : (cs.drop 3).take (Tryz.prog.cellsOf 3) = En.enc a3 := e3
    rw [hc] at e; exact e
  refine ⟨⟨a0, a1, a2, a3⟩, ?_, fun R hR => sepI (z0 R hR) (sepI (z1 R hR) (sepI (z2 R hR) (sepI (z3 R hR) (trivial))))⟩
  have hp := pcs_eq [1, 1, 1, 1] 0 cs (by rw [hl]; kernel_rfl)
  have hq : cs = En.enc a0 ++ (En.enc a1 ++ (En.enc a2 ++ (En.enc a3 ++ ( [])))) := by rw [← d0, ← d1, ← d2, ← d3]; exact hp
  rw [hq]; rfl⟩
instance : Inp Tryz.prog 53 (SL PortC) := inp_slice Tryz.underlying53 (by kernel_rfl)
instance : Inp Tryz.prog 100 SemC := ⟨fun {_ _ _ _ _ _ _ cs _} hsp h => by
  obtain ⟨xs, n, _, _, hl, hxl, hf⟩ := DataW.trod_struct Tryz.underlying100 h
  have g := fun i f hi (hlt : i < xs.length) => (hf i f hi).trans (List.getElem?_eq_getElem hlt)
  obtain ⟨a0, e0, z0⟩ := (inferInstance : Inp Tryz.prog 3 Int).h hsp (g 0 _ rfl (by rw [hxl]; decide))
  have d0 : (cs.drop 0).take 1 = En.enc a0 := by
    have hc : Tryz.prog.cellsOf 3 = 1 := by kernel_rfl
    have e : (cs.drop 0).take (Tryz.prog.cellsOf 3) = En.enc a0 := e0
    rw [hc] at e; exact e
  obtain ⟨a1, e1, z1⟩ := (inferInstance : Inp Tryz.prog 3 Int).h hsp (g 1 _ rfl (by rw [hxl]; decide))
  have d1 : (cs.drop 1).take 1 = En.enc a1 := by
    have hc : Tryz.prog.cellsOf 3 = 1 := by kernel_rfl
    have e : (cs.drop 1).take (Tryz.prog.cellsOf 3) = En.enc a1 := e1
    rw [hc] at e; exact e
  refine ⟨⟨a0, a1⟩, ?_, fun R hR => sepI (z0 R hR) (sepI (z1 R hR) (trivial))⟩
  have hp := pcs_eq [1, 1] 0 cs (by rw [hl]; kernel_rfl)
  have hq : cs = En.enc a0 ++ (En.enc a1 ++ ( [])) := by rw [← d0, ← d1]; exact hp
  rw [hq]; rfl⟩
instance : Inp Tryz.prog 54 (SL SemC) := inp_slice Tryz.underlying54 (by kernel_rfl)
instance : Inp Tryz.prog 102 PoolC := ⟨fun {_ _ _ _ _ _ _ cs _} hsp h => by
  obtain ⟨xs, n, _, _, hl, hxl, hf⟩ := DataW.trod_struct Tryz.underlying102 h
  have g := fun i f hi (hlt : i < xs.length) => (hf i f hi).trans (List.getElem?_eq_getElem hlt)
  obtain ⟨a0, e0, z0⟩ := (inferInstance : Inp Tryz.prog 3 Int).h hsp (g 0 _ rfl (by rw [hxl]; decide))
  have d0 : (cs.drop 0).take 1 = En.enc a0 := by
    have hc : Tryz.prog.cellsOf 3 = 1 := by kernel_rfl
    have e : (cs.drop 0).take (Tryz.prog.cellsOf 3) = En.enc a0 := e0
    rw [hc] at e; exact e
  obtain ⟨a1, e1, z1⟩ := (inferInstance : Inp Tryz.prog 3 Int).h hsp (g 1 _ rfl (by rw [hxl]; decide))
  have d1 : (cs.drop 1).take 1 = En.enc a1 := by
    have hc : Tryz.prog.cellsOf 3 = 1 := by kernel_rfl
    have e : (cs.drop 1).take (Tryz.prog.cellsOf 3) = En.enc a1 := e1
    rw [hc] at e; exact e
  refine ⟨⟨a0, a1⟩, ?_, fun R hR => sepI (z0 R hR) (sepI (z1 R hR) (trivial))⟩
  have hp := pcs_eq [1, 1] 0 cs (by rw [hl]; kernel_rfl)
  have hq : cs = En.enc a0 ++ (En.enc a1 ++ ( [])) := by rw [← d0, ← d1]; exact hp
  rw [hq]; rfl⟩
instance : Inp Tryz.prog 55 (SL PoolC) := inp_slice Tryz.underlying55 (by kernel_rfl)
instance : Inp Tryz.prog 57 PartD := ⟨fun {_ _ _ _ _ _ _ cs _} hsp h => by
  obtain ⟨xs, n, _, _, hl, hxl, hf⟩ := DataW.trod_struct Tryz.underlying57 h
  have g := fun i f hi (hlt : i < xs.length) => (hf i f hi).trans (List.getElem?_eq_getElem hlt)
  obtain ⟨a0, e0, z0⟩ := (inferInstance : Inp Tryz.prog 51 LReg).h hsp (g 0 _ rfl (by rw [hxl]; decide))
  have d0 : (cs.drop 0).take 1 = En.enc a0 := by
    have hc : Tryz.prog.cellsOf 51 = 1 := by kernel_rfl
    have e : (cs.drop 0).take (Tryz.prog.cellsOf 51) = En.enc a0 := e0
    rw [hc] at e; exact e
  obtain ⟨a1, e1, z1⟩ := (inferInstance : Inp Tryz.prog 52 LProc).h hsp (g 1 _ rfl (by rw [hxl]; decide))
  have d1 : (cs.drop 1).take 1 = En.enc a1 := by
    have hc : Tryz.prog.cellsOf 52 = 1 := by kernel_rfl
    have e : (cs.drop 1).take (Tryz.prog.cellsOf 52) = En.enc a1 := e1
    rw [hc] at e; exact e
  obtain ⟨a2, e2, z2⟩ := (inferInstance : Inp Tryz.prog 53 LPort).h hsp (g 2 _ rfl (by rw [hxl]; decide))
  have d2 : (cs.drop 2).take 1 = En.enc a2 := by
    have hc : Tryz.prog.cellsOf 53 = 1 := by kernel_rfl
    have e : (cs.drop 2).take (Tryz.prog.cellsOf 53) = En.enc a2 := e2
    rw [hc] at e; exact e
  obtain ⟨a3, e3, z3⟩ := (inferInstance : Inp Tryz.prog 54 LSem).h hsp (g 3 _ rfl (by rw [hxl]; decide))
  have d3 : (cs.drop 3).take 1 = En.enc a3 := by
    have hc : Tryz.prog.cellsOf 54 = 1 := by kernel_rfl
    have e : (cs.drop 3).take (Tryz.prog.cellsOf 54) = En.enc a3 := e3
    rw [hc] at e; exact e
  obtain ⟨a4, e4, z4⟩ := (inferInstance : Inp Tryz.prog 3 Int).h hsp (g 4 _ rfl (by rw [hxl]; decide))
  have d4 : (cs.drop 4).take 1 = En.enc a4 := by
    have hc : Tryz.prog.cellsOf 3 = 1 := by kernel_rfl
    have e : (cs.drop 4).take (Tryz.prog.cellsOf 3) = En.enc a4 := e4
    rw [hc] at e; exact e
  obtain ⟨a5, e5, z5⟩ := (inferInstance : Inp Tryz.prog 55 LPool).h hsp (g 5 _ rfl (by rw [hxl]; decide))
  have d5 : (cs.drop 5).take 1 = En.enc a5 := by
    have hc : Tryz.prog.cellsOf 55 = 1 := by kernel_rfl
    have e : (cs.drop 5).take (Tryz.prog.cellsOf 55) = En.enc a5 := e5
    rw [hc] at e; exact e
  obtain ⟨a6, e6, z6⟩ := (inferInstance : Inp Tryz.prog 29 LInt).h hsp (g 6 _ rfl (by rw [hxl]; decide))
  have d6 : (cs.drop 6).take 1 = En.enc a6 := by
    have hc : Tryz.prog.cellsOf 29 = 1 := by kernel_rfl
    have e : (cs.drop 6).take (Tryz.prog.cellsOf 29) = En.enc a6 := e6
    rw [hc] at e; exact e
  obtain ⟨a7, e7, z7⟩ := (inferInstance : Inp Tryz.prog 3 Int).h hsp (g 7 _ rfl (by rw [hxl]; decide))
  have d7 : (cs.drop 7).take 1 = En.enc a7 := by
    have hc : Tryz.prog.cellsOf 3 = 1 := by kernel_rfl
    have e : (cs.drop 7).take (Tryz.prog.cellsOf 3) = En.enc a7 := e7
    rw [hc] at e; exact e
  obtain ⟨a8, e8, z8⟩ := (inferInstance : Inp Tryz.prog 3 Int).h hsp (g 8 _ rfl (by rw [hxl]; decide))
  have d8 : (cs.drop 8).take 1 = En.enc a8 := by
    have hc : Tryz.prog.cellsOf 3 = 1 := by kernel_rfl
    have e : (cs.drop 8).take (Tryz.prog.cellsOf 3) = En.enc a8 := e8
    rw [hc] at e; exact e
  obtain ⟨a9, e9, z9⟩ := (inferInstance : Inp Tryz.prog 3 Int).h hsp (g 9 _ rfl (by rw [hxl]; decide))
  have d9 : (cs.drop 9).take 1 = En.enc a9 := by
    have hc : Tryz.prog.cellsOf 3 = 1 := by kernel_rfl
    have e : (cs.drop 9).take (Tryz.prog.cellsOf 3) = En.enc a9 := e9
    rw [hc] at e; exact e
  obtain ⟨a10, e10, z10⟩ := (inferInstance : Inp Tryz.prog 29 LInt).h hsp (g 10 _ rfl (by rw [hxl]; decide))
  have d10 : (cs.drop 10).take 1 = En.enc a10 := by
    have hc : Tryz.prog.cellsOf 29 = 1 := by kernel_rfl
    have e : (cs.drop 10).take (Tryz.prog.cellsOf 29) = En.enc a10 := e10
    rw [hc] at e; exact e
  refine ⟨⟨a0, a1, a2, a3, a4, a5, a6, a7, a8, a9, a10⟩, ?_, fun R hR => sepI (z0 R hR) (sepI (z1 R hR) (sepI (z2 R hR) (sepI (z3 R hR) (sepI (z4 R hR) (sepI (z5 R hR) (sepI (z6 R hR) (sepI (z7 R hR) (sepI (z8 R hR) (sepI (z9 R hR) (sepI (z10 R hR) (trivial)))))))))))⟩
  have hp := pcs_eq [1, 1, 1, 1, 1, 1, 1, 1, 1, 1, 1] 0 cs (by rw [hl]; kernel_rfl)
  have hq : cs = En.enc a0 ++ (En.enc a1 ++ (En.enc a2 ++ (En.enc a3 ++ (En.enc a4 ++ (En.enc a5 ++ (En.enc a6 ++ (En.enc a7 ++ (En.enc a8 ++ (En.enc a9 ++ (En.enc a10 ++ ( []))))))))))) := by rw [← d0, ← d1, ← d2, ← d3, ← d4, ← d5, ← d6, ← d7, ← d8, ← d9, ← d10]; exact hp
  rw [hq]; rfl⟩
instance : Inp Tryz.prog 22 (SL PartD) := inp_slice Tryz.underlying22 (by kernel_rfl)
instance : Fz EndC := ⟨fun p => sep (Fz.fz p.part) (sep (Fz.fz p.port) (fact True)), fun _ => dup_sep (Fz.dup _) (dup_sep (Fz.dup _) (dup_fact _))⟩
instance : Inp Tryz.prog 104 EndC := ⟨fun {_ _ _ _ _ _ _ cs _} hsp h => by
  obtain ⟨xs, n, _, _, hl, hxl, hf⟩ := DataW.trod_struct Tryz.underlying104 h
  have g := fun i f hi (hlt : i < xs.length) => (hf i f hi).trans (List.getElem?_eq_getElem hlt)
  obtain ⟨a0, e0, z0⟩ := (inferInstance : Inp Tryz.prog 3 Int).h hsp (g 0 _ rfl (by rw [hxl]; decide))
  have d0 : (cs.drop 0).take 1 = En.enc a0 := by
    have hc : Tryz.prog.cellsOf 3 = 1 := by kernel_rfl
    have e : (cs.drop 0).take (Tryz.prog.cellsOf 3) = En.enc a0 := e0
    rw [hc] at e; exact e
  obtain ⟨a1, e1, z1⟩ := (inferInstance : Inp Tryz.prog 3 Int).h hsp (g 1 _ rfl (by rw [hxl]; decide))
  have d1 : (cs.drop 1).take 1 = En.enc a1 := by
    have hc : Tryz.prog.cellsOf 3 = 1 := by kernel_rfl
    have e : (cs.drop 1).take (Tryz.prog.cellsOf 3) = En.enc a1 := e1
    rw [hc] at e; exact e
  refine ⟨⟨a0, a1⟩, ?_, fun R hR => sepI (z0 R hR) (sepI (z1 R hR) (trivial))⟩
  have hp := pcs_eq [1, 1] 0 cs (by rw [hl]; kernel_rfl)
  have hq : cs = En.enc a0 ++ (En.enc a1 ++ ( [])) := by rw [← d0, ← d1]; exact hp
  rw [hq]; rfl⟩
structure ChanI where
  f : EndC
  t : EndC
instance : En ChanI := ⟨fun d => [.int .i64 d.f.part, .int .i64 d.f.port, .int .i64 d.t.part, .int .i64 d.t.port], 4, fun _ => rfl, fun _ => rfl, by decide⟩
instance : Fz ChanI := ⟨fun p => sep (Fz.fz p.f) (sep (Fz.fz p.t) (fact True)), fun _ => dup_sep (Fz.dup _) (dup_sep (Fz.dup _) (dup_fact _))⟩
instance : Inp Tryz.prog 106 ChanI := ⟨fun {_ _ _ _ _ _ _ cs _} hsp h => by
  obtain ⟨xs, n, _, _, hl, hxl, hf⟩ := DataW.trod_struct Tryz.underlying106 h
  have g := fun i f hi (hlt : i < xs.length) => (hf i f hi).trans (List.getElem?_eq_getElem hlt)
  obtain ⟨a0, e0, z0⟩ := (inferInstance : Inp Tryz.prog 104 EndC).h hsp (g 0 _ rfl (by rw [hxl]; decide))
  have d0 : (cs.drop 0).take 2 = En.enc a0 := by
    have hc : Tryz.prog.cellsOf 104 = 2 := by kernel_rfl
    have e : (cs.drop 0).take (Tryz.prog.cellsOf 104) = En.enc a0 := e0
    rw [hc] at e; exact e
  obtain ⟨a1, e1, z1⟩ := (inferInstance : Inp Tryz.prog 104 EndC).h hsp (g 1 _ rfl (by rw [hxl]; decide))
  have d1 : (cs.drop 2).take 2 = En.enc a1 := by
    have hc : Tryz.prog.cellsOf 104 = 2 := by kernel_rfl
    have e : (cs.drop 2).take (Tryz.prog.cellsOf 104) = En.enc a1 := e1
    rw [hc] at e; exact e
  refine ⟨⟨a0, a1⟩, ?_, fun R hR => sepI (z0 R hR) (sepI (z1 R hR) (trivial))⟩
  have hp := pcs_eq [2, 2] 0 cs (by rw [hl]; kernel_rfl)
  have hq : cs = En.enc a0 ++ (En.enc a1 ++ ( [])) := by rw [← d0, ← d1]; exact hp
  rw [hq]; rfl⟩
instance : Inp Tryz.prog 106 ChanC := Inp.mapI (fun a : ChanI => ⟨a.f.part, a.f.port, a.t.part, a.t.port⟩) (fun _ => rfl) fun _ _ _ h => sepI (sep_l (sep_l h)) (sepI (sep_l (sep_r (sep_l h))) (sepI (sep_l (sep_l (sep_r h))) (sepI (sep_l (sep_r (sep_l (sep_r h)))) trivial)))
instance : Inp Tryz.prog 23 (SL ChanC) := inp_slice Tryz.underlying23 (by kernel_rfl)
instance : Inp Tryz.prog 108 WinC := ⟨fun {_ _ _ _ _ _ _ cs _} hsp h => by
  obtain ⟨xs, n, _, _, hl, hxl, hf⟩ := DataW.trod_struct Tryz.underlying108 h
  have g := fun i f hi (hlt : i < xs.length) => (hf i f hi).trans (List.getElem?_eq_getElem hlt)
  obtain ⟨a0, e0, z0⟩ := (inferInstance : Inp Tryz.prog 3 Int).h hsp (g 0 _ rfl (by rw [hxl]; decide))
  have d0 : (cs.drop 0).take 1 = En.enc a0 := by
    have hc : Tryz.prog.cellsOf 3 = 1 := by kernel_rfl
    have e : (cs.drop 0).take (Tryz.prog.cellsOf 3) = En.enc a0 := e0
    rw [hc] at e; exact e
  obtain ⟨a1, e1, z1⟩ := (inferInstance : Inp Tryz.prog 3 Int).h hsp (g 1 _ rfl (by rw [hxl]; decide))
  have d1 : (cs.drop 1).take 1 = En.enc a1 := by
    have hc : Tryz.prog.cellsOf 3 = 1 := by kernel_rfl
    have e : (cs.drop 1).take (Tryz.prog.cellsOf 3) = En.enc a1 := e1
    rw [hc] at e; exact e
  obtain ⟨a2, e2, z2⟩ := (inferInstance : Inp Tryz.prog 3 Int).h hsp (g 2 _ rfl (by rw [hxl]; decide))
  have d2 : (cs.drop 2).take 1 = En.enc a2 := by
    have hc : Tryz.prog.cellsOf 3 = 1 := by kernel_rfl
    have e : (cs.drop 2).take (Tryz.prog.cellsOf 3) = En.enc a2 := e2
    rw [hc] at e; exact e
  refine ⟨⟨a0, a1, a2⟩, ?_, fun R hR => sepI (z0 R hR) (sepI (z1 R hR) (sepI (z2 R hR) (trivial)))⟩
  have hp := pcs_eq [1, 1, 1] 0 cs (by rw [hl]; kernel_rfl)
  have hq : cs = En.enc a0 ++ (En.enc a1 ++ (En.enc a2 ++ ( []))) := by rw [← d0, ← d1, ← d2]; exact hp
  rw [hq]; rfl⟩
instance : Inp Tryz.prog 58 (SL WinC) := inp_slice Tryz.underlying58 (by kernel_rfl)
instance : Inp Tryz.prog 60 ModeD := ⟨fun {_ _ _ _ _ _ _ cs _} hsp h => by
  obtain ⟨xs, n, _, _, hl, hxl, hf⟩ := DataW.trod_struct Tryz.underlying60 h
  have g := fun i f hi (hlt : i < xs.length) => (hf i f hi).trans (List.getElem?_eq_getElem hlt)
  obtain ⟨a0, e0, z0⟩ := (inferInstance : Inp Tryz.prog 3 Int).h hsp (g 0 _ rfl (by rw [hxl]; decide))
  have d0 : (cs.drop 0).take 1 = En.enc a0 := by
    have hc : Tryz.prog.cellsOf 3 = 1 := by kernel_rfl
    have e : (cs.drop 0).take (Tryz.prog.cellsOf 3) = En.enc a0 := e0
    rw [hc] at e; exact e
  obtain ⟨a1, e1, z1⟩ := (inferInstance : Inp Tryz.prog 58 LWin).h hsp (g 1 _ rfl (by rw [hxl]; decide))
  have d1 : (cs.drop 1).take 1 = En.enc a1 := by
    have hc : Tryz.prog.cellsOf 58 = 1 := by kernel_rfl
    have e : (cs.drop 1).take (Tryz.prog.cellsOf 58) = En.enc a1 := e1
    rw [hc] at e; exact e
  refine ⟨⟨a0, a1⟩, ?_, fun R hR => sepI (z0 R hR) (sepI (z1 R hR) (trivial))⟩
  have hp := pcs_eq [1, 1] 0 cs (by rw [hl]; kernel_rfl)
  have hq : cs = En.enc a0 ++ (En.enc a1 ++ ( [])) := by rw [← d0, ← d1]; exact hp
  rw [hq]; rfl⟩
instance : Inp Tryz.prog 24 (SL ModeD) := inp_slice Tryz.underlying24 (by kernel_rfl)
instance : Inp Tryz.prog 110 LevelC := ⟨fun {_ _ _ _ _ _ _ cs _} hsp h => by
  obtain ⟨xs, n, _, _, hl, hxl, hf⟩ := DataW.trod_struct Tryz.underlying110 h
  have g := fun i f hi (hlt : i < xs.length) => (hf i f hi).trans (List.getElem?_eq_getElem hlt)
  obtain ⟨a0, e0, z0⟩ := (inferInstance : Inp Tryz.prog 3 Int).h hsp (g 0 _ rfl (by rw [hxl]; decide))
  have d0 : (cs.drop 0).take 1 = En.enc a0 := by
    have hc : Tryz.prog.cellsOf 3 = 1 := by kernel_rfl
    have e : (cs.drop 0).take (Tryz.prog.cellsOf 3) = En.enc a0 := e0
    rw [hc] at e; exact e
  obtain ⟨a1, e1, z1⟩ := (inferInstance : Inp Tryz.prog 3 Int).h hsp (g 1 _ rfl (by rw [hxl]; decide))
  have d1 : (cs.drop 1).take 1 = En.enc a1 := by
    have hc : Tryz.prog.cellsOf 3 = 1 := by kernel_rfl
    have e : (cs.drop 1).take (Tryz.prog.cellsOf 3) = En.enc a1 := e1
    rw [hc] at e; exact e
  refine ⟨⟨a0, a1⟩, ?_, fun R hR => sepI (z0 R hR) (sepI (z1 R hR) (trivial))⟩
  have hp := pcs_eq [1, 1] 0 cs (by rw [hl]; kernel_rfl)
  have hq : cs = En.enc a0 ++ (En.enc a1 ++ ( [])) := by rw [← d0, ← d1]; exact hp
  rw [hq]; rfl⟩
instance : Inp Tryz.prog 25 (SL LevelC) := inp_slice Tryz.underlying25 (by kernel_rfl)
instance : Inp Tryz.prog 112 NapC := ⟨fun {_ _ _ _ _ _ _ cs _} hsp h => by
  obtain ⟨xs, n, _, _, hl, hxl, hf⟩ := DataW.trod_struct Tryz.underlying112 h
  have g := fun i f hi (hlt : i < xs.length) => (hf i f hi).trans (List.getElem?_eq_getElem hlt)
  obtain ⟨a0, e0, z0⟩ := (inferInstance : Inp Tryz.prog 3 Int).h hsp (g 0 _ rfl (by rw [hxl]; decide))
  have d0 : (cs.drop 0).take 1 = En.enc a0 := by
    have hc : Tryz.prog.cellsOf 3 = 1 := by kernel_rfl
    have e : (cs.drop 0).take (Tryz.prog.cellsOf 3) = En.enc a0 := e0
    rw [hc] at e; exact e
  obtain ⟨a1, e1, z1⟩ := (inferInstance : Inp Tryz.prog 3 Int).h hsp (g 1 _ rfl (by rw [hxl]; decide))
  have d1 : (cs.drop 1).take 1 = En.enc a1 := by
    have hc : Tryz.prog.cellsOf 3 = 1 := by kernel_rfl
    have e : (cs.drop 1).take (Tryz.prog.cellsOf 3) = En.enc a1 := e1
    rw [hc] at e; exact e
  obtain ⟨a2, e2, z2⟩ := (inferInstance : Inp Tryz.prog 3 Int).h hsp (g 2 _ rfl (by rw [hxl]; decide))
  have d2 : (cs.drop 2).take 1 = En.enc a2 := by
    have hc : Tryz.prog.cellsOf 3 = 1 := by kernel_rfl
    have e : (cs.drop 2).take (Tryz.prog.cellsOf 3) = En.enc a2 := e2
    rw [hc] at e; exact e
  refine ⟨⟨a0, a1, a2⟩, ?_, fun R hR => sepI (z0 R hR) (sepI (z1 R hR) (sepI (z2 R hR) (trivial)))⟩
  have hp := pcs_eq [1, 1, 1] 0 cs (by rw [hl]; kernel_rfl)
  have hq : cs = En.enc a0 ++ (En.enc a1 ++ (En.enc a2 ++ ( []))) := by rw [← d0, ← d1, ← d2]; exact hp
  rw [hq]; rfl⟩
instance : Inp Tryz.prog 26 (SL NapC) := inp_slice Tryz.underlying26 (by kernel_rfl)
structure PowerI where
  levels : SL LevelC
  naps : SL NapC
  sw : Int
  idle : Int
  change : Int
  quantum : Int
  slow : Int
  ppm : Int
instance : En PowerI := ⟨fun d => [d.levels.s.v, d.naps.s.v, .int .i64 d.sw, .int .i64 d.idle, .int .i64 d.change, .int .i64 d.quantum, .int .i64 d.slow, .int .i64 d.ppm], 8, fun _ => rfl, fun _ => rfl, by decide⟩
instance : Fz PowerI := ⟨fun p => sep (Fz.fz p.levels) (sep (Fz.fz p.naps) (sep (Fz.fz p.sw) (sep (Fz.fz p.idle) (sep (Fz.fz p.change) (sep (Fz.fz p.quantum) (sep (Fz.fz p.slow) (sep (Fz.fz p.ppm) (fact True)))))))), fun _ => dup_sep (Fz.dup _) (dup_sep (Fz.dup _) (dup_sep (Fz.dup _) (dup_sep (Fz.dup _) (dup_sep (Fz.dup _) (dup_sep (Fz.dup _) (dup_sep (Fz.dup _) (dup_sep (Fz.dup _) (dup_fact _))))))))⟩
instance : Inp Tryz.prog 28 PowerI := ⟨fun {_ _ _ _ _ _ _ cs _} hsp h => by
  obtain ⟨xs, n, _, _, hl, hxl, hf⟩ := DataW.trod_struct Tryz.underlying28 h
  have g := fun i f hi (hlt : i < xs.length) => (hf i f hi).trans (List.getElem?_eq_getElem hlt)
  obtain ⟨a0, e0, z0⟩ := (inferInstance : Inp Tryz.prog 25 LLevel).h hsp (g 0 _ rfl (by rw [hxl]; decide))
  have d0 : (cs.drop 0).take 1 = En.enc a0 := by
    have hc : Tryz.prog.cellsOf 25 = 1 := by kernel_rfl
    have e : (cs.drop 0).take (Tryz.prog.cellsOf 25) = En.enc a0 := e0
    rw [hc] at e; exact e
  obtain ⟨a1, e1, z1⟩ := (inferInstance : Inp Tryz.prog 26 LNap).h hsp (g 1 _ rfl (by rw [hxl]; decide))
  have d1 : (cs.drop 1).take 1 = En.enc a1 := by
    have hc : Tryz.prog.cellsOf 26 = 1 := by kernel_rfl
    have e : (cs.drop 1).take (Tryz.prog.cellsOf 26) = En.enc a1 := e1
    rw [hc] at e; exact e
  obtain ⟨a2, e2, z2⟩ := (inferInstance : Inp Tryz.prog 3 Int).h hsp (g 2 _ rfl (by rw [hxl]; decide))
  have d2 : (cs.drop 2).take 1 = En.enc a2 := by
    have hc : Tryz.prog.cellsOf 3 = 1 := by kernel_rfl
    have e : (cs.drop 2).take (Tryz.prog.cellsOf 3) = En.enc a2 := e2
    rw [hc] at e; exact e
  obtain ⟨a3, e3, z3⟩ := (inferInstance : Inp Tryz.prog 3 Int).h hsp (g 3 _ rfl (by rw [hxl]; decide))
  have d3 : (cs.drop 3).take 1 = En.enc a3 := by
    have hc : Tryz.prog.cellsOf 3 = 1 := by kernel_rfl
    have e : (cs.drop 3).take (Tryz.prog.cellsOf 3) = En.enc a3 := e3
    rw [hc] at e; exact e
  obtain ⟨a4, e4, z4⟩ := (inferInstance : Inp Tryz.prog 3 Int).h hsp (g 4 _ rfl (by rw [hxl]; decide))
  have d4 : (cs.drop 4).take 1 = En.enc a4 := by
    have hc : Tryz.prog.cellsOf 3 = 1 := by kernel_rfl
    have e : (cs.drop 4).take (Tryz.prog.cellsOf 3) = En.enc a4 := e4
    rw [hc] at e; exact e
  obtain ⟨a5, e5, z5⟩ := (inferInstance : Inp Tryz.prog 3 Int).h hsp (g 5 _ rfl (by rw [hxl]; decide))
  have d5 : (cs.drop 5).take 1 = En.enc a5 := by
    have hc : Tryz.prog.cellsOf 3 = 1 := by kernel_rfl
    have e : (cs.drop 5).take (Tryz.prog.cellsOf 3) = En.enc a5 := e5
    rw [hc] at e; exact e
  obtain ⟨a6, e6, z6⟩ := (inferInstance : Inp Tryz.prog 3 Int).h hsp (g 6 _ rfl (by rw [hxl]; decide))
  have d6 : (cs.drop 6).take 1 = En.enc a6 := by
    have hc : Tryz.prog.cellsOf 3 = 1 := by kernel_rfl
    have e : (cs.drop 6).take (Tryz.prog.cellsOf 3) = En.enc a6 := e6
    rw [hc] at e; exact e
  obtain ⟨a7, e7, z7⟩ := (inferInstance : Inp Tryz.prog 3 Int).h hsp (g 7 _ rfl (by rw [hxl]; decide))
  have d7 : (cs.drop 7).take 1 = En.enc a7 := by
    have hc : Tryz.prog.cellsOf 3 = 1 := by kernel_rfl
    have e : (cs.drop 7).take (Tryz.prog.cellsOf 3) = En.enc a7 := e7
    rw [hc] at e; exact e
  refine ⟨⟨a0, a1, a2, a3, a4, a5, a6, a7⟩, ?_, fun R hR => sepI (z0 R hR) (sepI (z1 R hR) (sepI (z2 R hR) (sepI (z3 R hR) (sepI (z4 R hR) (sepI (z5 R hR) (sepI (z6 R hR) (sepI (z7 R hR) (trivial))))))))⟩
  have hp := pcs_eq [1, 1, 1, 1, 1, 1, 1, 1] 0 cs (by rw [hl]; kernel_rfl)
  have hq : cs = En.enc a0 ++ (En.enc a1 ++ (En.enc a2 ++ (En.enc a3 ++ (En.enc a4 ++ (En.enc a5 ++ (En.enc a6 ++ (En.enc a7 ++ ( [])))))))) := by rw [← d0, ← d1, ← d2, ← d3, ← d4, ← d5, ← d6, ← d7]; exact hp
  rw [hq]; rfl⟩
structure ShedI where
  down : SL Int
  up : SL Int
instance : En ShedI := ⟨fun d => [d.down.s.v, d.up.s.v], 2, fun _ => rfl, fun _ => rfl, by decide⟩
instance : Fz ShedI := ⟨fun p => sep (Fz.fz p.down) (sep (Fz.fz p.up) (fact True)), fun _ => dup_sep (Fz.dup _) (dup_sep (Fz.dup _) (dup_fact _))⟩
instance : Inp Tryz.prog 31 ShedI := ⟨fun {_ _ _ _ _ _ _ cs _} hsp h => by
  obtain ⟨xs, n, _, _, hl, hxl, hf⟩ := DataW.trod_struct Tryz.underlying31 h
  have g := fun i f hi (hlt : i < xs.length) => (hf i f hi).trans (List.getElem?_eq_getElem hlt)
  obtain ⟨a0, e0, z0⟩ := (inferInstance : Inp Tryz.prog 29 LInt).h hsp (g 0 _ rfl (by rw [hxl]; decide))
  have d0 : (cs.drop 0).take 1 = En.enc a0 := by
    have hc : Tryz.prog.cellsOf 29 = 1 := by kernel_rfl
    have e : (cs.drop 0).take (Tryz.prog.cellsOf 29) = En.enc a0 := e0
    rw [hc] at e; exact e
  obtain ⟨a1, e1, z1⟩ := (inferInstance : Inp Tryz.prog 29 LInt).h hsp (g 1 _ rfl (by rw [hxl]; decide))
  have d1 : (cs.drop 1).take 1 = En.enc a1 := by
    have hc : Tryz.prog.cellsOf 29 = 1 := by kernel_rfl
    have e : (cs.drop 1).take (Tryz.prog.cellsOf 29) = En.enc a1 := e1
    rw [hc] at e; exact e
  refine ⟨⟨a0, a1⟩, ?_, fun R hR => sepI (z0 R hR) (sepI (z1 R hR) (trivial))⟩
  have hp := pcs_eq [1, 1] 0 cs (by rw [hl]; kernel_rfl)
  have hq : cs = En.enc a0 ++ (En.enc a1 ++ ( [])) := by rw [← d0, ← d1]; exact hp
  rw [hq]; rfl⟩
structure ConfI where
  parts : SL PartD
  chans : SL ChanC
  modes : SL ModeD
  power : PowerI
  shed : ShedI
instance : En ConfI := ⟨fun d => [d.parts.s.v, d.chans.s.v, d.modes.s.v, d.power.levels.s.v, d.power.naps.s.v, .int .i64 d.power.sw, .int .i64 d.power.idle, .int .i64 d.power.change, .int .i64 d.power.quantum, .int .i64 d.power.slow, .int .i64 d.power.ppm, d.shed.down.s.v, d.shed.up.s.v], 13, fun _ => rfl, fun _ => rfl, by decide⟩
instance : Fz ConfI := ⟨fun p => sep (Fz.fz p.parts) (sep (Fz.fz p.chans) (sep (Fz.fz p.modes) (sep (Fz.fz p.power) (sep (Fz.fz p.shed) (fact True))))), fun _ => dup_sep (Fz.dup _) (dup_sep (Fz.dup _) (dup_sep (Fz.dup _) (dup_sep (Fz.dup _) (dup_sep (Fz.dup _) (dup_fact _)))))⟩
instance : Inp Tryz.prog 33 ConfI := ⟨fun {_ _ _ _ _ _ _ cs _} hsp h => by
  obtain ⟨xs, n, _, _, hl, hxl, hf⟩ := DataW.trod_struct Tryz.underlying33 h
  have g := fun i f hi (hlt : i < xs.length) => (hf i f hi).trans (List.getElem?_eq_getElem hlt)
  obtain ⟨a0, e0, z0⟩ := (inferInstance : Inp Tryz.prog 22 LPart).h hsp (g 0 _ rfl (by rw [hxl]; decide))
  have d0 : (cs.drop 0).take 1 = En.enc a0 := by
    have hc : Tryz.prog.cellsOf 22 = 1 := by kernel_rfl
    have e : (cs.drop 0).take (Tryz.prog.cellsOf 22) = En.enc a0 := e0
    rw [hc] at e; exact e
  obtain ⟨a1, e1, z1⟩ := (inferInstance : Inp Tryz.prog 23 LChan).h hsp (g 1 _ rfl (by rw [hxl]; decide))
  have d1 : (cs.drop 1).take 1 = En.enc a1 := by
    have hc : Tryz.prog.cellsOf 23 = 1 := by kernel_rfl
    have e : (cs.drop 1).take (Tryz.prog.cellsOf 23) = En.enc a1 := e1
    rw [hc] at e; exact e
  obtain ⟨a2, e2, z2⟩ := (inferInstance : Inp Tryz.prog 24 LMode).h hsp (g 2 _ rfl (by rw [hxl]; decide))
  have d2 : (cs.drop 2).take 1 = En.enc a2 := by
    have hc : Tryz.prog.cellsOf 24 = 1 := by kernel_rfl
    have e : (cs.drop 2).take (Tryz.prog.cellsOf 24) = En.enc a2 := e2
    rw [hc] at e; exact e
  obtain ⟨a3, e3, z3⟩ := (inferInstance : Inp Tryz.prog 28 PowerI).h hsp (g 3 _ rfl (by rw [hxl]; decide))
  have d3 : (cs.drop 3).take 8 = En.enc a3 := by
    have hc : Tryz.prog.cellsOf 28 = 8 := by kernel_rfl
    have e : (cs.drop 3).take (Tryz.prog.cellsOf 28) = En.enc a3 := e3
    rw [hc] at e; exact e
  obtain ⟨a4, e4, z4⟩ := (inferInstance : Inp Tryz.prog 31 ShedI).h hsp (g 4 _ rfl (by rw [hxl]; decide))
  have d4 : (cs.drop 11).take 2 = En.enc a4 := by
    have hc : Tryz.prog.cellsOf 31 = 2 := by kernel_rfl
    have e : (cs.drop 11).take (Tryz.prog.cellsOf 31) = En.enc a4 := e4
    rw [hc] at e; exact e
  refine ⟨⟨a0, a1, a2, a3, a4⟩, ?_, fun R hR => sepI (z0 R hR) (sepI (z1 R hR) (sepI (z2 R hR) (sepI (z3 R hR) (sepI (z4 R hR) (trivial)))))⟩
  have hp := pcs_eq [1, 1, 1, 8, 2] 0 cs (by rw [hl]; kernel_rfl)
  have hq : cs = En.enc a0 ++ (En.enc a1 ++ (En.enc a2 ++ (En.enc a3 ++ (En.enc a4 ++ ( []))))) := by rw [← d0, ← d1, ← d2, ← d3, ← d4]; exact hp
  rw [hq]; rfl⟩
def ConfI.d (a : ConfI) : ConfD := ⟨a.parts, a.chans, a.modes, a.power.levels, a.power.naps, a.power.sw, a.power.idle, a.power.change, a.power.quantum, a.power.slow, a.power.ppm, a.shed.down, a.shed.up⟩
/-- What hangs on a configuration that is handed in. -/
theorem conf_fz {a : ConfI} {R : Blks} {w : World} (h : (Fz.fz a).h R (fun _ => False) w) : (Fz.fz a.d).h R (fun _ => False) w := by
  have hw := sep_l (sep_r (sep_r (sep_r h)))
  have hs := sep_l (sep_r (sep_r (sep_r (sep_r h))))
  exact sepI (sep_l h) (sepI (sep_l (sep_r h)) (sepI (sep_l (sep_r (sep_r h))) (sepI (sep_l hw) (sepI (sep_l (sep_r hw)) (sepI (sep_l (sep_r (sep_r hw))) (sepI (sep_l (sep_r (sep_r (sep_r hw)))) (sepI (sep_l (sep_r (sep_r (sep_r (sep_r hw))))) (sepI (sep_l (sep_r (sep_r (sep_r (sep_r (sep_r hw))))))
    (sepI (sep_l (sep_r (sep_r (sep_r (sep_r (sep_r (sep_r hw))))))) (sepI (sep_l (sep_r (sep_r (sep_r (sep_r (sep_r (sep_r (sep_r hw)))))))) (sepI (sep_l hs) (sepI (sep_l (sep_r hs)) trivial))))))))))))
theorem part_okD {p : PartD} {R : Blks} {w : World} (h : (Fz.fz p).h R (fun _ => False) w) : okPv p.v := by
  have h1 := sep_r h
  have h2 := sep_r h1
  have h3 := sep_r h2
  have h4 := sep_r h3
  have h5 := sep_r h4
  have h6 := sep_r h5
  have h7 := sep_r h6
  have h8 := sep_r h7
  have h9 := sep_r h8
  have h10 := sep_r h9
  refine ⟨fun x hx => ?_, fun x hx => ?_, fun x hx => ?_, fun x hx => ?_, sep_l h4, fun x hx => ?_, fun x hx => fzl_of_fz (sep_l h6) x hx, sep_l h7, sep_l h8, sep_l h9, fun x hx => fzl_of_fz (sep_l h10) x hx⟩
  · have z := fzl_of_fz (sep_l h) x hx
    exact ⟨sep_l z, sep_l (sep_r z)⟩
  · have z := fzl_of_fz (sep_l h1) x hx
    exact ⟨sep_l z, sep_l (sep_r z), sep_l (sep_r (sep_r z))⟩
  · have z := fzl_of_fz (sep_l h2) x hx
    exact ⟨sep_l (sep_r (sep_r z)), sep_l (sep_r (sep_r (sep_r z)))⟩
  · have z := fzl_of_fz (sep_l h3) x hx
    exact ⟨sep_l z, sep_l (sep_r z)⟩
  · have z := fzl_of_fz (sep_l h5) x hx
    exact ⟨sep_l z, sep_l (sep_r z)⟩
theorem mode_okD {p : ModeD} {R : Blks} {w : World} (h : (Fz.fz p).h R (fun _ => False) w) : okMo p.v := ⟨sep_l h, fun x hx => by
  have z := fzl_of_fz (sep_l (sep_r h)) x hx
  exact ⟨sep_l z, sep_l (sep_r z), sep_l (sep_r (sep_r z))⟩⟩
theorem conf_okD {c : ConfD} {R : Blks} {w : World} (h : (Fz.fz c).h R (fun _ => False) w) : okU c.v := by
  have h1 := sep_r h
  have h2 := sep_r h1
  have h3 := sep_r h2
  have h4 := sep_r h3
  have h5 := sep_r h4
  have h6 := sep_r h5
  have h7 := sep_r h6
  have h8 := sep_r h7
  have h9 := sep_r h8
  have h10 := sep_r h9
  have h11 := sep_r h10
  have h12 := sep_r h11
  refine ⟨fun q hq => ?_, fun x hx => ?_, fun q hq => ?_, fun x hx => ?_, fun x hx => ?_, sep_l h5, sep_l h6, sep_l h7, sep_l h8, sep_l h9, sep_l h10, fun x hx => fzl_of_fz (sep_l h11) x hx, fun x hx => fzl_of_fz (sep_l h12) x hx⟩
  · obtain ⟨p, hp, rfl⟩ := List.mem_map.1 hq
    exact part_okD (fzl_of_fz (sep_l h) p hp)
  · have z := fzl_of_fz (sep_l h1) x hx
    exact ⟨sep_l z, sep_l (sep_r z), sep_l (sep_r (sep_r z)), sep_l (sep_r (sep_r (sep_r z)))⟩
  · obtain ⟨p, hp, rfl⟩ := List.mem_map.1 hq
    exact mode_okD (fzl_of_fz (sep_l h2) p hp)
  · have z := fzl_of_fz (sep_l h3) x hx
    exact ⟨sep_l z, sep_l (sep_r z)⟩
  · have z := fzl_of_fz (sep_l h4) x hx
    exact ⟨sep_l z, sep_l (sep_r z), sep_l (sep_r (sep_r z))⟩
theorem mx_of_shape {W : World} (h : W.ShapedOpen Tryz.prog) : ∃ m, W.cell? ⟨0, 0, none⟩ = some (.int .i64 m) :=
  cell_of_shapedOpen_int (zero := #[.int .i64 0]) (t := 3) h (of_decide_eq_true (by kernel_rfl)) (by kernel_rfl) rfl (by kernel_rfl) (by kernel_rfl) Tryz.underlying3
theorem params_stand {P : Program} {fn : Func} (h : fn.params.toList.all (fun t => !P.wantsStandIn t) = true) {j : Nat} {t : TypeId} (ht : fn.params[j]? = some t) : P.wantsStandIn t = false := by
  have := List.all_eq_true.1 h t (by rw [← Array.getElem?_toList] at ht; exact List.mem_of_getElem? ht)
  simpa using this
end Go.Proofs.YtgkhjgpgdfbdpaaGreatDoor
