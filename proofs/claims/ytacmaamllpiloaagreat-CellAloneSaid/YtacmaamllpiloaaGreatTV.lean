import Derived.Test.YtacmaamllpiloaaGreatZ46
import Derived.Test.YtacmaamllpiloaaGreatLQ
namespace Go.Proofs.YtacmaamllpiloaaGreat
open Go Go.Wk Go.ChangeShapes Go.WideShapes Go.ChangeAt Go.RowKit
set_option maxRecDepth 100000
abbrev LReg := SL RegC
abbrev LProc := SL ProcC
abbrev LPort := SL PortC
abbrev LSem := SL SemC
abbrev LPool := SL PoolC
abbrev LInt := SL Int
abbrev LU8 := SL UInt8
abbrev LMsgs := SL (SL UInt8)
abbrev LStep := SL StepC
abbrev LProgs := SL (SL StepC)
abbrev LWins := SL WinL
instance : Inp Tryz.prog 168 RegC := ⟨fun {_ _ _ _ _ _ _ cs _} hsp h => by
  obtain ⟨xs, n, _, _, hl, hxl, hf⟩ := DataW.trod_struct Tryz.underlying168 h
  have g := fun i f hi (hlt : i < xs.length) => (hf i f hi).trans (List.getElem?_eq_getElem hlt)
  obtain ⟨a0, e0, z0⟩ := (inferInstance : Inp Tryz.prog 3 Int).h hsp (g 0 _ rfl (by rw [hxl]; decide))
  have d0 : (cs.drop 0).take 1 = En.enc a0 := by
    have hc : Tryz.prog.cellsOf 3 = 1 := by kernel_rfl
    have e : (cs.drop 0).take (Tryz.prog.cellsOf 3) = En.enc a0 := e0
    rw [hc] at e; exact e
  obtain ⟨a1, e1, z1⟩ := (inferInstance : Inp Tryz.prog 3 Int).h hsp (g 1 _ rfl (by rw [hxl]; decide))
  have d1 : (cs.drop 1).take 1 = En.enc a1 := by
    have hc : Tryz.prog.cellsOf 3 = 1 := by kernel_rfl
    have e : (cs.drop 1).take (Tryz.prog.cellsOf 3) = En.enc a1 := e1
    rw [hc] at e; exact e
  obtain ⟨a2, e2, z2⟩ := (inferInstance : Inp Tryz.prog 4 Bool).h hsp (g 2 _ rfl (by rw [hxl]; decide))
  have d2 : (cs.drop 2).take 1 = En.enc a2 := by
    have hc : Tryz.prog.cellsOf 4 = 1 := by kernel_rfl
    have e : (cs.drop 2).take (Tryz.prog.cellsOf 4) = En.enc a2 := e2
    rw [hc] at e; exact e
  refine ⟨⟨a0, a1, a2⟩, ?_, fun R hR => sepI (z0 R hR) (sepI (z1 R hR) (sepI (z2 R hR) (trivial)))⟩
  have hp := pcs_eq [1, 1, 1] 0 cs (by rw [hl]; kernel_rfl)
  have hq : cs = En.enc a0 ++ (En.enc a1 ++ (En.enc a2 ++ ( []))) := by rw [← d0, ← d1, ← d2]; exact hp
  rw [hq]; rfl⟩
instance : Inp Tryz.prog 23 (SL RegC) := inp_slice Tryz.underlying23 (by kernel_rfl)
instance : Inp Tryz.prog 112 ProcC := ⟨fun {_ _ _ _ _ _ _ cs _} hsp h => by
  obtain ⟨xs, n, _, _, hl, hxl, hf⟩ := DataW.trod_struct Tryz.underlying112 h
  have g := fun i f hi (hlt : i < xs.length) => (hf i f hi).trans (List.getElem?_eq_getElem hlt)
  obtain ⟨a0, e0, z0⟩ := (inferInstance : Inp Tryz.prog 3 Int).h hsp (g 0 _ rfl (by rw [hxl]; decide))
  have d0 : (cs.drop 0).take 1 = En.enc a0 := by
    have hc : Tryz.prog.cellsOf 3 = 1 := by kernel_rfl
    have e : (cs.drop 0).take (Tryz.prog.cellsOf 3) = En.enc a0 := e0
    rw [hc] at e; exact e
  obtain ⟨a1, e1, z1⟩ := (inferInstance : Inp Tryz.prog 3 Int).h hsp (g 1 _ rfl (by rw [hxl]; decide))
  have d1 : (cs.drop 1).take 1 = En.enc a1 := by
    have hc : Tryz.prog.cellsOf 3 = 1 := by kernel_rfl
    have e : (cs.drop 1).take (Tryz.prog.cellsOf 3) = En.enc a1 := e1
    rw [hc] at e; exact e
  obtain ⟨a2, e2, z2⟩ := (inferInstance : Inp Tryz.prog 3 Int).h hsp (g 2 _ rfl (by rw [hxl]; decide))
  have d2 : (cs.drop 2).take 1 = En.enc a2 := by
    have hc : Tryz.prog.cellsOf 3 = 1 := by kernel_rfl
    have e : (cs.drop 2).take (Tryz.prog.cellsOf 3) = En.enc a2 := e2
    rw [hc] at e; exact e
  refine ⟨⟨a0, a1, a2⟩, ?_, fun R hR => sepI (z0 R hR) (sepI (z1 R hR) (sepI (z2 R hR) (trivial)))⟩
  have hp := pcs_eq [1, 1, 1] 0 cs (by rw [hl]; kernel_rfl)
  have hq : cs = En.enc a0 ++ (En.enc a1 ++ (En.enc a2 ++ ( []))) := by rw [← d0, ← d1, ← d2]; exact hp
  rw [hq]; rfl⟩
instance : Inp Tryz.prog 24 (SL ProcC) := inp_slice Tryz.underlying24 (by kernel_rfl)
instance : Inp Tryz.prog 116 PortC := ⟨fun {_ _ _ _ _ _ _ cs _} hsp h => by
  obtain ⟨xs, n, _, _, hl, hxl, hf⟩ := DataW.trod_struct Tryz.underlying116 h
  have g := fun i f hi (hlt : i < xs.length) => (hf i f hi).trans (List.getElem?_eq_getElem hlt)
  obtain ⟨a0, e0, z0⟩ := (inferInstance : Inp Tryz.prog 4 Bool).h hsp (g 0 _ rfl (by rw [hxl]; decide))
  have d0 : (cs.drop 0).take 1 = En.enc a0 := by
    have hc : Tryz.prog.cellsOf 4 = 1 := by kernel_rfl
    have e : (cs.drop 0).take (Tryz.prog.cellsOf 4) = En.enc a0 := e0
    rw [hc] at e; exact e
  obtain ⟨a1, e1, z1⟩ := (inferInstance : Inp Tryz.prog 4 Bool).h hsp (g 1 _ rfl (by rw [hxl]; decide))
  have d1 : (cs.drop 1).take 1 = En.enc a1 := by
    have hc : Tryz.prog.cellsOf 4 = 1 := by kernel_rfl
    have e : (cs.drop 1).take (Tryz.prog.cellsOf 4) = En.enc a1 := e1
    rw [hc] at e; exact e
  obtain ⟨a2, e2, z2⟩ := (inferInstance : Inp Tryz.prog 3 Int).h hsp (g 2 _ rfl (by rw [hxl]; decide))
  have d2 : (cs.drop 2).take 1 = En.enc a2 := by
    have hc : Tryz.prog.cellsOf 3 = 1 := by kernel_rfl
    have e : (cs.drop 2).take (Tryz.prog.cellsOf 3) = En.enc a2 := e2
    rw [hc] at e; exact e
  obtain ⟨a3, e3, z3⟩ := (inferInstance : Inp Tryz.prog 3 Int).h hsp (g 3 _ rfl (by rw [hxl]; decide))
  have d3 : (cs.drop 3).take 1 = En.enc a3 := by
    have hc : Tryz.prog.cellsOf 3 = 1 := by kernel_rfl
    have e : (cs.drop 3).take (Tryz.prog.cellsOf 3) = En.enc a3 := e3
    rw [hc] at e; exact e
  refine ⟨⟨a0, a1, a2, a3⟩, ?_, fun R hR => sepI (z0 R hR) (sepI (z1 R hR) (sepI (z2 R hR) (sepI (z3 R hR) (trivial))))⟩
  have hp := pcs_eq [1, 1, 1, 1] 0 cs (by rw [hl]; kernel_rfl)
  have hq : cs = En.enc a0 ++ (En.enc a1 ++ (En.enc a2 ++ (En.enc a3 ++ ( [])))) := by rw [← d0, ← d1, ← d2, ← d3]; exact hp
  rw [hq]; rfl⟩
instance : Inp Tryz.prog 25 (SL PortC) := inp_slice Tryz.underlying25 (by kernel_rfl)
instance : Inp Tryz.prog 203 SemC := ⟨fun {_ _ _ _ _ _ _ cs _} hsp h => by
  obtain ⟨xs, n, _, _, hl, hxl, hf⟩ := DataW.trod_struct Tryz.underlying203 h
  have g := fun i f hi (hlt : i < xs.length) => (hf i f hi).trans (List.getElem?_eq_getElem hlt)
  obtain ⟨a0, e0, z0⟩ := (inferInstance : Inp Tryz.prog 3 Int).h hsp (g 0 _ rfl (by rw [hxl]; decide))
  have d0 : (cs.drop 0).take 1 = En.enc a0 := by
    have hc : Tryz.prog.cellsOf 3 = 1 := by kernel_rfl
    have e : (cs.drop 0).take (Tryz.prog.cellsOf 3) = En.enc a0 := e0
    rw [hc] at e; exact e
  obtain ⟨a1, e1, z1⟩ := (inferInstance : Inp Tryz.prog 3 Int).h hsp (g 1 _ rfl (by rw [hxl]; decide))
  have d1 : (cs.drop 1).take 1 = En.enc a1 := by
    have hc : Tryz.prog.cellsOf 3 = 1 := by kernel_rfl
    have e : (cs.drop 1).take (Tryz.prog.cellsOf 3) = En.enc a1 := e1
    rw [hc] at e; exact e
  refine ⟨⟨a0, a1⟩, ?_, fun R hR => sepI (z0 R hR) (sepI (z1 R hR) (trivial))⟩
  have hp := pcs_eq [1, 1] 0 cs (by rw [hl]; kernel_rfl)
  have hq : cs = En.enc a0 ++ (En.enc a1 ++ ( [])) := by rw [← d0, ← d1]; exact hp
  rw [hq]; rfl⟩
instance : Inp Tryz.prog 26 (SL SemC) := inp_slice Tryz.underlying26 (by kernel_rfl)
instance : Inp Tryz.prog 228 PoolC := ⟨fun {_ _ _ _ _ _ _ cs _} hsp h => by
  obtain ⟨xs, n, _, _, hl, hxl, hf⟩ := DataW.trod_struct Tryz.underlying228 h
  have g := fun i f hi (hlt : i < xs.length) => (hf i f hi).trans (List.getElem?_eq_getElem hlt)
  obtain ⟨a0, e0, z0⟩ := (inferInstance : Inp Tryz.prog 3 Int).h hsp (g 0 _ rfl (by rw [hxl]; decide))
  have d0 : (cs.drop 0).take 1 = En.enc a0 := by
    have hc : Tryz.prog.cellsOf 3 = 1 := by kernel_rfl
    have e : (cs.drop 0).take (Tryz.prog.cellsOf 3) = En.enc a0 := e0
    rw [hc] at e; exact e
  obtain ⟨a1, e1, z1⟩ := (inferInstance : Inp Tryz.prog 3 Int).h hsp (g 1 _ rfl (by rw [hxl]; decide))
  have d1 : (cs.drop 1).take 1 = En.enc a1 := by
    have hc : Tryz.prog.cellsOf 3 = 1 := by kernel_rfl
    have e : (cs.drop 1).take (Tryz.prog.cellsOf 3) = En.enc a1 := e1
    rw [hc] at e; exact e
  refine ⟨⟨a0, a1⟩, ?_, fun R hR => sepI (z0 R hR) (sepI (z1 R hR) (trivial))⟩
  have hp := pcs_eq [1, 1] 0 cs (by rw [hl]; kernel_rfl)
  have hq : cs = En.enc a0 ++ (En.enc a1 ++ ( [])) := by rw [← d0, ← d1]; exact hp
  rw [hq]; rfl⟩
instance : Inp Tryz.prog 27 (SL PoolC) := inp_slice Tryz.underlying27 (by kernel_rfl)
instance : Inp Tryz.prog 30 PartD := ⟨fun {_ _ _ _ _ _ _ cs _} hsp h => by
  obtain ⟨xs, n, _, _, hl, hxl, hf⟩ := DataW.trod_struct Tryz.underlying30 h
  have g := fun i f hi (hlt : i < xs.length) => (hf i f hi).trans (List.getElem?_eq_getElem hlt)
  obtain ⟨a0, e0, z0⟩ := (inferInstance : Inp Tryz.prog 23 LReg).h hsp (g 0 _ rfl (by rw [hxl]; decide))
  have d0 : (cs.drop 0).take 1 = En.enc a0 := by
    have hc : Tryz.prog.cellsOf 23 = 1 := by kernel_rfl
    have e : (cs.drop 0).take (Tryz.prog.cellsOf 23) = En.enc a0 := e0
    rw [hc] at e; exact e
  obtain ⟨a1, e1, z1⟩ := (inferInstance : Inp Tryz.prog 24 LProc).h hsp (g 1 _ rfl (by rw [hxl]; decide))
  have d1 : (cs.drop 1).take 1 = En.enc a1 := by
    have hc : Tryz.prog.cellsOf 24 = 1 := by kernel_rfl
    have e : (cs.drop 1).take (Tryz.prog.cellsOf 24) = En.enc a1 := e1
    rw [hc] at e; exact e
  obtain ⟨a2, e2, z2⟩ := (inferInstance : Inp Tryz.prog 25 LPort).h hsp (g 2 _ rfl (by rw [hxl]; decide))
  have d2 : (cs.drop 2).take 1 = En.enc a2 := by
    have hc : Tryz.prog.cellsOf 25 = 1 := by kernel_rfl
    have e : (cs.drop 2).take (Tryz.prog.cellsOf 25) = En.enc a2 := e2
    rw [hc] at e; exact e
  obtain ⟨a3, e3, z3⟩ := (inferInstance : Inp Tryz.prog 26 LSem).h hsp (g 3 _ rfl (by rw [hxl]; decide))
  have d3 : (cs.drop 3).take 1 = En.enc a3 := by
    have hc : Tryz.prog.cellsOf 26 = 1 := by kernel_rfl
    have e : (cs.drop 3).take (Tryz.prog.cellsOf 26) = En.enc a3 := e3
    rw [hc] at e; exact e
  obtain ⟨a4, e4, z4⟩ := (inferInstance : Inp Tryz.prog 3 Int).h hsp (g 4 _ rfl (by rw [hxl]; decide))
  have d4 : (cs.drop 4).take 1 = En.enc a4 := by
    have hc : Tryz.prog.cellsOf 3 = 1 := by kernel_rfl
    have e : (cs.drop 4).take (Tryz.prog.cellsOf 3) = En.enc a4 := e4
    rw [hc] at e; exact e
  obtain ⟨a5, e5, z5⟩ := (inferInstance : Inp Tryz.prog 27 LPool).h hsp (g 5 _ rfl (by rw [hxl]; decide))
  have d5 : (cs.drop 5).take 1 = En.enc a5 := by
    have hc : Tryz.prog.cellsOf 27 = 1 := by kernel_rfl
    have e : (cs.drop 5).take (Tryz.prog.cellsOf 27) = En.enc a5 := e5
    rw [hc] at e; exact e
  obtain ⟨a6, e6, z6⟩ := (inferInstance : Inp Tryz.prog 28 LInt).h hsp (g 6 _ rfl (by rw [hxl]; decide))
  have d6 : (cs.drop 6).take 1 = En.enc a6 := by
    have hc : Tryz.prog.cellsOf 28 = 1 := by kernel_rfl
    have e : (cs.drop 6).take (Tryz.prog.cellsOf 28) = En.enc a6 := e6
    rw [hc] at e; exact e
  obtain ⟨a7, e7, z7⟩ := (inferInstance : Inp Tryz.prog 3 Int).h hsp (g 7 _ rfl (by rw [hxl]; decide))
  have d7 : (cs.drop 7).take 1 = En.enc a7 := by
    have hc : Tryz.prog.cellsOf 3 = 1 := by kernel_rfl
    have e : (cs.drop 7).take (Tryz.prog.cellsOf 3) = En.enc a7 := e7
    rw [hc] at e; exact e
  obtain ⟨a8, e8, z8⟩ := (inferInstance : Inp Tryz.prog 3 Int).h hsp (g 8 _ rfl (by rw [hxl]; decide))
  have d8 : (cs.drop 8).take 1 = En.enc a8 := by
    have hc : Tryz.prog.cellsOf 3 = 1 := by kernel_rfl
    have e : (cs.drop 8).take (Tryz.prog.cellsOf 3) = En.enc a8 := e8
    rw [hc] at e; exact e
  obtain ⟨a9, e9, z9⟩ := (inferInstance : Inp Tryz.prog 3 Int).h hsp (g 9 _ rfl (by rw [hxl]; decide))
  have d9 : (cs.drop 9).take 1 = En.enc a9 := by
    have hc : Tryz.prog.cellsOf 3 = 1 := by kernel_rfl
    have e : (cs.drop 9).take (Tryz.prog.cellsOf 3) = En.enc a9 := e9
    rw [hc] at e; exact e
  obtain ⟨a10, e10, z10⟩ := (inferInstance : Inp Tryz.prog 28 LInt).h hsp (g 10 _ rfl (by rw [hxl]; decide))
  have d10 : (cs.drop 10).take 1 = En.enc a10 := by
    have hc : Tryz.prog.cellsOf 28 = 1 := by kernel_rfl
    have e : (cs.drop 10).take (Tryz.prog.cellsOf 28) = En.enc a10 := e10
    rw [hc] at e; exact e
  refine ⟨⟨a0, a1, a2, a3, a4, a5, a6, a7, a8, a9, a10⟩, ?_, fun R hR => sepI (z0 R hR) (sepI (z1 R hR) (sepI (z2 R hR) (sepI (z3 R hR) (sepI (z4 R hR) (sepI (z5 R hR) (sepI (z6 R hR) (sepI (z7 R hR) (sepI (z8 R hR) (sepI (z9 R hR) (sepI (z10 R hR) (trivial)))))))))))⟩
  have hp := pcs_eq [1, 1, 1, 1, 1, 1, 1, 1, 1, 1, 1] 0 cs (by rw [hl]; kernel_rfl)
  have hq : cs = En.enc a0 ++ (En.enc a1 ++ (En.enc a2 ++ (En.enc a3 ++ (En.enc a4 ++ (En.enc a5 ++ (En.enc a6 ++ (En.enc a7 ++ (En.enc a8 ++ (En.enc a9 ++ (En.enc a10 ++ ( []))))))))))) := by rw [← d0, ← d1, ← d2, ← d3, ← d4, ← d5, ← d6, ← d7, ← d8, ← d9, ← d10]; exact hp
  rw [hq]; rfl⟩
instance : Inp Tryz.prog 86 StepC := ⟨fun {_ _ _ _ _ _ _ cs _} hsp h => by
  obtain ⟨xs, n, _, _, hl, hxl, hf⟩ := DataW.trod_struct Tryz.underlying86 h
  have g := fun i f hi (hlt : i < xs.length) => (hf i f hi).trans (List.getElem?_eq_getElem hlt)
  obtain ⟨a0, e0, z0⟩ := (inferInstance : Inp Tryz.prog 3 Int).h hsp (g 0 _ rfl (by rw [hxl]; decide))
  have d0 : (cs.drop 0).take 1 = En.enc a0 := by
    have hc : Tryz.prog.cellsOf 3 = 1 := by kernel_rfl
    have e : (cs.drop 0).take (Tryz.prog.cellsOf 3) = En.enc a0 := e0
    rw [hc] at e; exact e
  obtain ⟨a1, e1, z1⟩ := (inferInstance : Inp Tryz.prog 3 Int).h hsp (g 1 _ rfl (by rw [hxl]; decide))
  have d1 : (cs.drop 1).take 1 = En.enc a1 := by
    have hc : Tryz.prog.cellsOf 3 = 1 := by kernel_rfl
    have e : (cs.drop 1).take (Tryz.prog.cellsOf 3) = En.enc a1 := e1
    rw [hc] at e; exact e
  obtain ⟨a2, e2, z2⟩ := (inferInstance : Inp Tryz.prog 3 Int).h hsp (g 2 _ rfl (by rw [hxl]; decide))
  have d2 : (cs.drop 2).take 1 = En.enc a2 := by
    have hc : Tryz.prog.cellsOf 3 = 1 := by kernel_rfl
    have e : (cs.drop 2).take (Tryz.prog.cellsOf 3) = En.enc a2 := e2
    rw [hc] at e; exact e
  obtain ⟨a3, e3, z3⟩ := (inferInstance : Inp Tryz.prog 3 Int).h hsp (g 3 _ rfl (by rw [hxl]; decide))
  have d3 : (cs.drop 3).take 1 = En.enc a3 := by
    have hc : Tryz.prog.cellsOf 3 = 1 := by kernel_rfl
    have e : (cs.drop 3).take (Tryz.prog.cellsOf 3) = En.enc a3 := e3
    rw [hc] at e; exact e
  obtain ⟨a4, e4, z4⟩ := (inferInstance : Inp Tryz.prog 3 Int).h hsp (g 4 _ rfl (by rw [hxl]; decide))
  have d4 : (cs.drop 4).take 1 = En.enc a4 := by
    have hc : Tryz.prog.cellsOf 3 = 1 := by kernel_rfl
    have e : (cs.drop 4).take (Tryz.prog.cellsOf 3) = En.enc a4 := e4
    rw [hc] at e; exact e
  obtain ⟨a5, e5, z5⟩ := (inferInstance : Inp Tryz.prog 3 Int).h hsp (g 5 _ rfl (by rw [hxl]; decide))
  have d5 : (cs.drop 5).take 1 = En.enc a5 := by
    have hc : Tryz.prog.cellsOf 3 = 1 := by kernel_rfl
    have e : (cs.drop 5).take (Tryz.prog.cellsOf 3) = En.enc a5 := e5
    rw [hc] at e; exact e
  refine ⟨⟨a0, a1, a2, a3, a4, a5⟩, ?_, fun R hR => sepI (z0 R hR) (sepI (z1 R hR) (sepI (z2 R hR) (sepI (z3 R hR) (sepI (z4 R hR) (sepI (z5 R hR) (trivial))))))⟩
  have hp := pcs_eq [1, 1, 1, 1, 1, 1] 0 cs (by rw [hl]; kernel_rfl)
  have hq : cs = En.enc a0 ++ (En.enc a1 ++ (En.enc a2 ++ (En.enc a3 ++ (En.enc a4 ++ (En.enc a5 ++ ( [])))))) := by rw [← d0, ← d1, ← d2, ← d3, ← d4, ← d5]; exact hp
  rw [hq]; rfl⟩
instance : Inp Tryz.prog 80 (SL StepC) := inp_slice Tryz.underlying80 (by kernel_rfl)
instance : Inp Tryz.prog 49 (SL (SL StepC)) := inp_slice Tryz.underlying49 (by kernel_rfl)
instance : Inp Tryz.prog 76 (SL UInt8) := inp_slice Tryz.underlying76 (by kernel_rfl)
instance : Inp Tryz.prog 58 (SL (SL UInt8)) := inp_slice Tryz.underlying58 (by kernel_rfl)
instance : Inp Tryz.prog 60 WinL := ⟨fun {_ _ _ _ _ _ _ cs _} hsp h => by
  obtain ⟨xs, n, _, _, hl, hxl, hf⟩ := DataW.trod_struct Tryz.underlying60 h
  have g := fun i f hi (hlt : i < xs.length) => (hf i f hi).trans (List.getElem?_eq_getElem hlt)
  obtain ⟨a0, e0, z0⟩ := (inferInstance : Inp Tryz.prog 3 Int).h hsp (g 0 _ rfl (by rw [hxl]; decide))
  have d0 : (cs.drop 0).take 1 = En.enc a0 := by
    have hc : Tryz.prog.cellsOf 3 = 1 := by kernel_rfl
    have e : (cs.drop 0).take (Tryz.prog.cellsOf 3) = En.enc a0 := e0
    rw [hc] at e; exact e
  obtain ⟨a1, e1, z1⟩ := (inferInstance : Inp Tryz.prog 58 LMsgs).h hsp (g 1 _ rfl (by rw [hxl]; decide))
  have d1 : (cs.drop 1).take 1 = En.enc a1 := by
    have hc : Tryz.prog.cellsOf 58 = 1 := by kernel_rfl
    have e : (cs.drop 1).take (Tryz.prog.cellsOf 58) = En.enc a1 := e1
    rw [hc] at e; exact e
  obtain ⟨a2, e2, z2⟩ := (inferInstance : Inp Tryz.prog 3 Int).h hsp (g 2 _ rfl (by rw [hxl]; decide))
  have d2 : (cs.drop 2).take 1 = En.enc a2 := by
    have hc : Tryz.prog.cellsOf 3 = 1 := by kernel_rfl
    have e : (cs.drop 2).take (Tryz.prog.cellsOf 3) = En.enc a2 := e2
    rw [hc] at e; exact e
  refine ⟨⟨a0, a1, a2⟩, ?_, fun R hR => sepI (z0 R hR) (sepI (z1 R hR) (sepI (z2 R hR) (trivial)))⟩
  have hp := pcs_eq [1, 1, 1] 0 cs (by rw [hl]; kernel_rfl)
  have hq : cs = En.enc a0 ++ (En.enc a1 ++ (En.enc a2 ++ ( []))) := by rw [← d0, ← d1, ← d2]; exact hp
  rw [hq]; rfl⟩
instance : Inp Tryz.prog 50 (SL WinL) := inp_slice Tryz.underlying50 (by kernel_rfl)
instance : Inp Tryz.prog 52 LifeD := ⟨fun {_ _ _ _ _ _ _ cs _} hsp h => by
  obtain ⟨xs, n, _, _, hl, hxl, hf⟩ := DataW.trod_struct Tryz.underlying52 h
  have g := fun i f hi (hlt : i < xs.length) => (hf i f hi).trans (List.getElem?_eq_getElem hlt)
  obtain ⟨a0, e0, z0⟩ := (inferInstance : Inp Tryz.prog 30 PartD).h hsp (g 0 _ rfl (by rw [hxl]; decide))
  have d0 : (cs.drop 0).take 11 = En.enc a0 := by
    have hc : Tryz.prog.cellsOf 30 = 11 := by kernel_rfl
    have e : (cs.drop 0).take (Tryz.prog.cellsOf 30) = En.enc a0 := e0
    rw [hc] at e; exact e
  obtain ⟨a1, e1, z1⟩ := (inferInstance : Inp Tryz.prog 49 LProgs).h hsp (g 1 _ rfl (by rw [hxl]; decide))
  have d1 : (cs.drop 11).take 1 = En.enc a1 := by
    have hc : Tryz.prog.cellsOf 49 = 1 := by kernel_rfl
    have e : (cs.drop 11).take (Tryz.prog.cellsOf 49) = En.enc a1 := e1
    rw [hc] at e; exact e
  obtain ⟨a2, e2, z2⟩ := (inferInstance : Inp Tryz.prog 50 LWins).h hsp (g 2 _ rfl (by rw [hxl]; decide))
  have d2 : (cs.drop 12).take 1 = En.enc a2 := by
    have hc : Tryz.prog.cellsOf 50 = 1 := by kernel_rfl
    have e : (cs.drop 12).take (Tryz.prog.cellsOf 50) = En.enc a2 := e2
    rw [hc] at e; exact e
  refine ⟨⟨a0, a1, a2⟩, ?_, fun R hR => sepI (z0 R hR) (sepI (z1 R hR) (sepI (z2 R hR) (trivial)))⟩
  have hp := pcs_eq [11, 1, 1] 0 cs (by rw [hl]; kernel_rfl)
  have hq : cs = En.enc a0 ++ (En.enc a1 ++ (En.enc a2 ++ ( []))) := by rw [← d0, ← d1, ← d2]; exact hp
  rw [hq]; rfl⟩
theorem life_pre {a : LifeD} {R : Blks} {w : World} (h : (Fz.fz a).h R (fun _ => False) w) : ∀ A ∈ lifeL a, A.h R (fun _ => False) w := by
  have hc := sep_l h
  have hp := sep_l (sep_r h)
  have hw := sep_l (sep_r (sep_r h))
  have c2 := sep_r hc
  have c3 := sep_r c2
  have c4 := sep_r c3
  have c6 := sep_r (sep_r c4)
  have c7 := sep_r c6
  have c11 := sep_r (sep_r (sep_r (sep_r c7)))
  intro A hA
  rcases List.mem_cons.1 hA with rfl | hA
  · exact sl_of_fz (sep_l hc)
  rcases List.mem_cons.1 hA with rfl | hA
  · exact sl_of_fz (sep_l c2)
  rcases List.mem_cons.1 hA with rfl | hA
  · exact sl_of_fz (sep_l c3)
  rcases List.mem_cons.1 hA with rfl | hA
  · exact sl_of_fz (sep_l c4)
  rcases List.mem_cons.1 hA with rfl | hA
  · exact sl_of_fz (sep_l c6)
  rcases List.mem_cons.1 hA with rfl | hA
  · exact sl_of_fz (sep_l c7)
  rcases List.mem_cons.1 hA with rfl | hA
  · exact sl_of_fz (sep_l c11)
  rcases List.mem_cons.1 hA with rfl | hA
  · exact sl_of_fz hp
  rcases List.mem_cons.1 hA with rfl | hA
  · exact fzl_of_fz hp
  rcases List.mem_cons.1 hA with rfl | hA
  · exact sl_of_fz hw
  · simp only [List.mem_singleton] at hA
    subst hA
    exact fzl_of_fz hw
end Go.Proofs.YtacmaamllpiloaaGreat
