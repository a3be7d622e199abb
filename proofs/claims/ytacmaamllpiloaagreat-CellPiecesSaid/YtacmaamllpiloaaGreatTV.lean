import Derived.Test.YtacmaamllpiloaaGreatZ46
import Derived.Test.YtacmaamllpiloaaGreatLQ
namespace Go.Proofs.YtacmaamllpiloaaGreat
open Go Go.Wk Go.ChangeShapes Go.WideShapes Go.ChangeAt Go.RowKit
set_option maxRecDepth 100000
abbrev xCi := SL xaL
abbrev xCg := SL WZ
abbrev xCd := SL Zd
abbrev xCh := SL JO
abbrev xCf := SL JC
abbrev xCe := SL Int
abbrev LU8 := SL UInt8
abbrev xCc := SL (SL UInt8)
abbrev xCj := SL XE
abbrev xB8 := SL (SL XE)
abbrev xCb := SL xeZ
instance : Inp Tryz.prog 168 xaL := ⟨fun {_ _ _ _ _ _ _ cs _} hsp h => by
  obtain ⟨xs, n, _, _, hl, hxl, hf⟩ := DataW.trod_struct Tryz.underlying168 h
  have g := fun i f hi (hlt : i < xs.length) => (hf i f hi).trans (List.getElem?_eq_getElem hlt)
  obtain ⟨a0, e0, z0⟩ := (inferInstance : Inp Tryz.prog 3 Int).h hsp (g 0 _ rfl (by rw [hxl]; decide))
  have d0 : (cs.drop 0).take 1 = En.enc a0 := by
    have hc : Tryz.prog.cellsOf 3 = 1 := by kernel_rfl
    have e : (cs.drop 0).take (Tryz.prog.cellsOf 3) = En.enc a0 := e0
    rw [hc] at e; exact e
  obtain ⟨a1, e1, z1⟩ := (inferInstance : Inp Tryz.prog 3 Int).h hsp (g 1 _ rfl (by rw [hxl]; decide))
  have d1 : (cs.drop 1).take 1 = En.enc a1 := by
    have hc : Tryz.prog.cellsOf 3 = 1 := by kernel_rfl
    have e : (cs.drop 1).take (Tryz.prog.cellsOf 3) = En.enc a1 := e1
    rw [hc] at e; exact e
  obtain ⟨a2, e2, z2⟩ := (inferInstance : Inp Tryz.prog 4 Bool).h hsp (g 2 _ rfl (by rw [hxl]; decide))
  have d2 : (cs.drop 2).take 1 = En.enc a2 := by
    have hc : Tryz.prog.cellsOf 4 = 1 := by kernel_rfl
    have e : (cs.drop 2).take (Tryz.prog.cellsOf 4) = En.enc a2 := e2
    rw [hc] at e; exact e
  refine ⟨⟨a0, a1, a2⟩, ?_, fun R hR => sepI (z0 R hR) (sepI (z1 R hR) (sepI (z2 R hR) (trivial)))⟩
  have hp := xBH [1, 1, 1] 0 cs (by rw [hl]; kernel_rfl)
  have hq : cs = En.enc a0 ++ (En.enc a1 ++ (En.enc a2 ++ ( []))) := by rw [← d0, ← d1, ← d2]; exact hp
  rw [hq]; rfl⟩
instance : Inp Tryz.prog 23 (SL xaL) := xBG Tryz.underlying23 (by kernel_rfl)
instance : Inp Tryz.prog 112 WZ := ⟨fun {_ _ _ _ _ _ _ cs _} hsp h => by
  obtain ⟨xs, n, _, _, hl, hxl, hf⟩ := DataW.trod_struct Tryz.underlying112 h
  have g := fun i f hi (hlt : i < xs.length) => (hf i f hi).trans (List.getElem?_eq_getElem hlt)
  obtain ⟨a0, e0, z0⟩ := (inferInstance : Inp Tryz.prog 3 Int).h hsp (g 0 _ rfl (by rw [hxl]; decide))
  have d0 : (cs.drop 0).take 1 = En.enc a0 := by
    have hc : Tryz.prog.cellsOf 3 = 1 := by kernel_rfl
    have e : (cs.drop 0).take (Tryz.prog.cellsOf 3) = En.enc a0 := e0
    rw [hc] at e; exact e
  obtain ⟨a1, e1, z1⟩ := (inferInstance : Inp Tryz.prog 3 Int).h hsp (g 1 _ rfl (by rw [hxl]; decide))
  have d1 : (cs.drop 1).take 1 = En.enc a1 := by
    have hc : Tryz.prog.cellsOf 3 = 1 := by kernel_rfl
    have e : (cs.drop 1).take (Tryz.prog.cellsOf 3) = En.enc a1 := e1
    rw [hc] at e; exact e
  obtain ⟨a2, e2, z2⟩ := (inferInstance : Inp Tryz.prog 3 Int).h hsp (g 2 _ rfl (by rw [hxl]; decide))
  have d2 : (cs.drop 2).take 1 = En.enc a2 := by
    have hc : Tryz.prog.cellsOf 3 = 1 := by kernel_rfl
    have e : (cs.drop 2).take (Tryz.prog.cellsOf 3) = En.enc a2 := e2
    rw [hc] at e; exact e
  refine ⟨⟨a0, a1, a2⟩, ?_, fun R hR => sepI (z0 R hR) (sepI (z1 R hR) (sepI (z2 R hR) (trivial)))⟩
  have hp := xBH [1, 1, 1] 0 cs (by rw [hl]; kernel_rfl)
  have hq : cs = En.enc a0 ++ (En.enc a1 ++ (En.enc a2 ++ ( []))) := by rw [← d0, ← d1, ← d2]; exact hp
  rw [hq]; rfl⟩
instance : Inp Tryz.prog 24 (SL WZ) := xBG Tryz.underlying24 (by kernel_rfl)
instance : Inp Tryz.prog 116 Zd := ⟨fun {_ _ _ _ _ _ _ cs _} hsp h => by
  obtain ⟨xs, n, _, _, hl, hxl, hf⟩ := DataW.trod_struct Tryz.underlying116 h
  have g := fun i f hi (hlt : i < xs.length) => (hf i f hi).trans (List.getElem?_eq_getElem hlt)
  obtain ⟨a0, e0, z0⟩ := (inferInstance : Inp Tryz.prog 4 Bool).h hsp (g 0 _ rfl (by rw [hxl]; decide))
  have d0 : (cs.drop 0).take 1 = En.enc a0 := by
    have hc : Tryz.prog.cellsOf 4 = 1 := by kernel_rfl
    have e : (cs.drop 0).take (Tryz.prog.cellsOf 4) = En.enc a0 := e0
    rw [hc] at e; exact e
  obtain ⟨a1, e1, z1⟩ := (inferInstance : Inp Tryz.prog 4 Bool).h hsp (g 1 _ rfl (by rw [hxl]; decide))
  have d1 : (cs.drop 1).take 1 = En.enc a1 := by
    have hc : Tryz.prog.cellsOf 4 = 1 := by kernel_rfl
    have e : (cs.drop 1).take (Tryz.prog.cellsOf 4) = En.enc a1 := e1
    rw [hc] at e; exact e
  obtain ⟨a2, e2, z2⟩ := (inferInstance : Inp Tryz.prog 3 Int).h hsp (g 2 _ rfl (by rw [hxl]; decide))
  have d2 : (cs.drop 2).take 1 = En.enc a2 := by
    have hc : Tryz.prog.cellsOf 3 = 1 := by kernel_rfl
    have e : (cs.drop 2).take (Tryz.prog.cellsOf 3) = En.enc a2 := e2
    rw [hc] at e; exact e
  obtain ⟨a3, e3, z3⟩ := (inferInstance : Inp Tryz.prog 3 Int).h hsp (g 3 _ rfl (by rw [hxl]; decide))
  have d3 : (cs.drop 3).take 1 = En.enc a3 := by
    have hc : Tryz.prog.cellsOf 3 = 1 := by kernel_rfl
    have e : (cs.drop 3).take (Tryz.prog.cellsOf 3) = En.enc a3 := e3
    rw [hc] at e; exact e
  refine ⟨⟨a0, a1, a2, a3⟩, ?_, fun R hR => sepI (z0 R hR) (sepI (z1 R hR) (sepI (z2 R hR) (sepI (z3 R hR) (trivial))))⟩
  have hp := xBH [1, 1, 1, 1] 0 cs (by rw [hl]; kernel_rfl)
  have hq : cs = En.enc a0 ++ (En.enc a1 ++ (En.enc a2 ++ (En.enc a3 ++ ( [])))) := by rw [← d0, ← d1, ← d2, ← d3]; exact hp
  rw [hq]; rfl⟩
instance : Inp Tryz.prog 25 (SL Zd) := xBG Tryz.underlying25 (by kernel_rfl)
instance : Inp Tryz.prog 203 JO := ⟨fun {_ _ _ _ _ _ _ cs _} hsp h => by
  obtain ⟨xs, n, _, _, hl, hxl, hf⟩ := DataW.trod_struct Tryz.underlying203 h
  have g := fun i f hi (hlt : i < xs.length) => (hf i f hi).trans (List.getElem?_eq_getElem hlt)
  obtain ⟨a0, e0, z0⟩ := (inferInstance : Inp Tryz.prog 3 Int).h hsp (g 0 _ rfl (by rw [hxl]; decide))
  have d0 : (cs.drop 0).take 1 = En.enc a0 := by
    have hc : Tryz.prog.cellsOf 3 = 1 := by kernel_rfl
    have e : (cs.drop 0).take (Tryz.prog.cellsOf 3) = En.enc a0 := e0
    rw [hc] at e; exact e
  obtain ⟨a1, e1, z1⟩ := (inferInstance : Inp Tryz.prog 3 Int).h hsp (g 1 _ rfl (by rw [hxl]; decide))
  have d1 : (cs.drop 1).take 1 = En.enc a1 := by
    have hc : Tryz.prog.cellsOf 3 = 1 := by kernel_rfl
    have e : (cs.drop 1).take (Tryz.prog.cellsOf 3) = En.enc a1 := e1
    rw [hc] at e; exact e
  refine ⟨⟨a0, a1⟩, ?_, fun R hR => sepI (z0 R hR) (sepI (z1 R hR) (trivial))⟩
  have hp := xBH [1, 1] 0 cs (by rw [hl]; kernel_rfl)
  have hq : cs = En.enc a0 ++ (En.enc a1 ++ ( [])) := by rw [← d0, ← d1]; exact hp
  rw [hq]; rfl⟩
instance : Inp Tryz.prog 26 (SL JO) := xBG Tryz.underlying26 (by kernel_rfl)
instance : Inp Tryz.prog 228 JC := ⟨fun {_ _ _ _ _ _ _ cs _} hsp h => by
  obtain ⟨xs, n, _, _, hl, hxl, hf⟩ := DataW.trod_struct Tryz.underlying228 h
  have g := fun i f hi (hlt : i < xs.length) => (hf i f hi).trans (List.getElem?_eq_getElem hlt)
  obtain ⟨a0, e0, z0⟩ := (inferInstance : Inp Tryz.prog 3 Int).h hsp (g 0 _ rfl (by rw [hxl]; decide))
  have d0 : (cs.drop 0).take 1 = En.enc a0 := by
    have hc : Tryz.prog.cellsOf 3 = 1 := by kernel_rfl
    have e : (cs.drop 0).take (Tryz.prog.cellsOf 3) = En.enc a0 := e0
    rw [hc] at e; exact e
  obtain ⟨a1, e1, z1⟩ := (inferInstance : Inp Tryz.prog 3 Int).h hsp (g 1 _ rfl (by rw [hxl]; decide))
  have d1 : (cs.drop 1).take 1 = En.enc a1 := by
    have hc : Tryz.prog.cellsOf 3 = 1 := by kernel_rfl
    have e : (cs.drop 1).take (Tryz.prog.cellsOf 3) = En.enc a1 := e1
    rw [hc] at e; exact e
  refine ⟨⟨a0, a1⟩, ?_, fun R hR => sepI (z0 R hR) (sepI (z1 R hR) (trivial))⟩
  have hp := xBH [1, 1] 0 cs (by rw [hl]; kernel_rfl)
  have hq : cs = En.enc a0 ++ (En.enc a1 ++ ( [])) := by rw [← d0, ← d1]; exact hp
  rw [hq]; rfl⟩
instance : Inp Tryz.prog 27 (SL JC) := xBG Tryz.underlying27 (by kernel_rfl)
instance : Inp Tryz.prog 30 YF := ⟨fun {_ _ _ _ _ _ _ cs _} hsp h => by
  obtain ⟨xs, n, _, _, hl, hxl, hf⟩ := DataW.trod_struct Tryz.underlying30 h
  have g := fun i f hi (hlt : i < xs.length) => (hf i f hi).trans (List.getElem?_eq_getElem hlt)
  obtain ⟨a0, e0, z0⟩ := (inferInstance : Inp Tryz.prog 23 xCi).h hsp (g 0 _ rfl (by rw [hxl]; decide))
  have d0 : (cs.drop 0).take 1 = En.enc a0 := by
    have hc : Tryz.prog.cellsOf 23 = 1 := by kernel_rfl
    have e : (cs.drop 0).take (Tryz.prog.cellsOf 23) = En.enc a0 := e0
    rw [hc] at e; exact e
  obtain ⟨a1, e1, z1⟩ := (inferInstance : Inp Tryz.prog 24 xCg).h hsp (g 1 _ rfl (by rw [hxl]; decide))
  have d1 : (cs.drop 1).take 1 = En.enc a1 := by
    have hc : Tryz.prog.cellsOf 24 = 1 := by kernel_rfl
    have e : (cs.drop 1).take (Tryz.prog.cellsOf 24) = En.enc a1 := e1
    rw [hc] at e; exact e
  obtain ⟨a2, e2, z2⟩ := (inferInstance : Inp Tryz.prog 25 xCd).h hsp (g 2 _ rfl (by rw [hxl]; decide))
  have d2 : (cs.drop 2).take 1 = En.enc a2 := by
    have hc : Tryz.prog.cellsOf 25 = 1 := by kernel_rfl
    have e : (cs.drop 2).take (Tryz.prog.cellsOf 25) = En.enc a2 := e2
    rw [hc] at e; exact e
  obtain ⟨a3, e3, z3⟩ := (inferInstance : Inp Tryz.prog 26 xCh).h hsp (g 3 _ rfl (by rw [hxl]; decide))
  have d3 : (cs.drop 3).take 1 = En.enc a3 := by
    have hc : Tryz.prog.cellsOf 26 = 1 := by kernel_rfl
    have e : (cs.drop 3).take (Tryz.prog.cellsOf 26) = En.enc a3 := e3
    rw [hc] at e; exact e
  obtain ⟨a4, e4, z4⟩ := (inferInstance : Inp Tryz.prog 3 Int).h hsp (g 4 _ rfl (by rw [hxl]; decide))
  have d4 : (cs.drop 4).take 1 = En.enc a4 := by
    have hc : Tryz.prog.cellsOf 3 = 1 := by kernel_rfl
    have e : (cs.drop 4).take (Tryz.prog.cellsOf 3) = En.enc a4 := e4
    rw [hc] at e; exact e
  obtain ⟨a5, e5, z5⟩ := (inferInstance : Inp Tryz.prog 27 xCf).h hsp (g 5 _ rfl (by rw [hxl]; decide))
  have d5 : (cs.drop 5).take 1 = En.enc a5 := by
    have hc : Tryz.prog.cellsOf 27 = 1 := by kernel_rfl
    have e : (cs.drop 5).take (Tryz.prog.cellsOf 27) = En.enc a5 := e5
    rw [hc] at e; exact e
  obtain ⟨a6, e6, z6⟩ := (inferInstance : Inp Tryz.prog 28 xCe).h hsp (g 6 _ rfl (by rw [hxl]; decide))
  have d6 : (cs.drop 6).take 1 = En.enc a6 := by
    have hc : Tryz.prog.cellsOf 28 = 1 := by kernel_rfl
    have e : (cs.drop 6).take (Tryz.prog.cellsOf 28) = En.enc a6 := e6
    rw [hc] at e; exact e
  obtain ⟨a7, e7, z7⟩ := (inferInstance : Inp Tryz.prog 3 Int).h hsp (g 7 _ rfl (by rw [hxl]; decide))
  have d7 : (cs.drop 7).take 1 = En.enc a7 := by
    have hc : Tryz.prog.cellsOf 3 = 1 := by kernel_rfl
    have e : (cs.drop 7).take (Tryz.prog.cellsOf 3) = En.enc a7 := e7
    rw [hc] at e; exact e
  obtain ⟨a8, e8, z8⟩ := (inferInstance : Inp Tryz.prog 3 Int).h hsp (g 8 _ rfl (by rw [hxl]; decide))
  have d8 : (cs.drop 8).take 1 = En.enc a8 := by
    have hc : Tryz.prog.cellsOf 3 = 1 := by kernel_rfl
    have e : (cs.drop 8).take (Tryz.prog.cellsOf 3) = En.enc a8 := e8
    rw [hc] at e; exact e
  obtain ⟨a9, e9, z9⟩ := (inferInstance : Inp Tryz.prog 3 Int).h hsp (g 9 _ rfl (by rw [hxl]; decide))
  have d9 : (cs.drop 9).take 1 = En.enc a9 := by
    have hc : Tryz.prog.cellsOf 3 = 1 := by kernel_rfl
    have e : (cs.drop 9).take (Tryz.prog.cellsOf 3) = En.enc a9 := e9
    rw [hc] at e; exact e
  obtain ⟨a10, e10, z10⟩ := (inferInstance : Inp Tryz.prog 28 xCe).h hsp (g 10 _ rfl (by rw [hxl]; decide))
  have d10 : (cs.drop 10).take 1 = En.enc a10 := by
    have hc : Tryz.prog.cellsOf 28 = 1 := by kernel_rfl
    have e : (cs.drop 10).take (Tryz.prog.cellsOf 28) = En.enc a10 := e10
    rw [hc] at e; exact e
  refine ⟨⟨a0, a1, a2, a3, a4, a5, a6, a7, a8, a9, a10⟩, ?_, fun R hR => sepI (z0 R hR) (sepI (z1 R hR) (sepI (z2 R hR) (sepI (z3 R hR) (sepI (z4 R hR) (sepI (z5 R hR) (sepI (z6 R hR) (sepI (z7 R hR) (sepI (z8 R hR) (sepI (z9 R hR) (sepI (z10 R hR) (trivial)))))))))))⟩
  have hp := xBH [1, 1, 1, 1, 1, 1, 1, 1, 1, 1, 1] 0 cs (by rw [hl]; kernel_rfl)
  have hq : cs = En.enc a0 ++ (En.enc a1 ++ (En.enc a2 ++ (En.enc a3 ++ (En.enc a4 ++ (En.enc a5 ++ (En.enc a6 ++ (En.enc a7 ++ (En.enc a8 ++ (En.enc a9 ++ (En.enc a10 ++ ( []))))))))))) := by rw [← d0, ← d1, ← d2, ← d3, ← d4, ← d5, ← d6, ← d7, ← d8, ← d9, ← d10]; exact hp
  rw [hq]; rfl⟩
instance : Inp Tryz.prog 86 XE := ⟨fun {_ _ _ _ _ _ _ cs _} hsp h => by
  obtain ⟨xs, n, _, _, hl, hxl, hf⟩ := DataW.trod_struct Tryz.underlying86 h
  have g := fun i f hi (hlt : i < xs.length) => (hf i f hi).trans (List.getElem?_eq_getElem hlt)
  obtain ⟨a0, e0, z0⟩ := (inferInstance : Inp Tryz.prog 3 Int).h hsp (g 0 _ rfl (by rw [hxl]; decide))
  have d0 : (cs.drop 0).take 1 = En.enc a0 := by
    have hc : Tryz.prog.cellsOf 3 = 1 := by kernel_rfl
    have e : (cs.drop 0).take (Tryz.prog.cellsOf 3) = En.enc a0 := e0
    rw [hc] at e; exact e
  obtain ⟨a1, e1, z1⟩ := (inferInstance : Inp Tryz.prog 3 Int).h hsp (g 1 _ rfl (by rw [hxl]; decide))
  have d1 : (cs.drop 1).take 1 = En.enc a1 := by
    have hc : Tryz.prog.cellsOf 3 = 1 := by kernel_rfl
    have e : (cs.drop 1).take (Tryz.prog.cellsOf 3) = En.enc a1 := e1
    rw [hc] at e; exact e
  obtain ⟨a2, e2, z2⟩ := (inferInstance : Inp Tryz.prog 3 Int).h hsp (g 2 _ rfl (by rw [hxl]; decide))
  have d2 : (cs.drop 2).take 1 = En.enc a2 := by
    have hc : Tryz.prog.cellsOf 3 = 1 := by kernel_rfl
    have e : (cs.drop 2).take (Tryz.prog.cellsOf 3) = En.enc a2 := e2
    rw [hc] at e; exact e
  obtain ⟨a3, e3, z3⟩ := (inferInstance : Inp Tryz.prog 3 Int).h hsp (g 3 _ rfl (by rw [hxl]; decide))
  have d3 : (cs.drop 3).take 1 = En.enc a3 := by
    have hc : Tryz.prog.cellsOf 3 = 1 := by kernel_rfl
    have e : (cs.drop 3).take (Tryz.prog.cellsOf 3) = En.enc a3 := e3
    rw [hc] at e; exact e
  obtain ⟨a4, e4, z4⟩ := (inferInstance : Inp Tryz.prog 3 Int).h hsp (g 4 _ rfl (by rw [hxl]; decide))
  have d4 : (cs.drop 4).take 1 = En.enc a4 := by
    have hc : Tryz.prog.cellsOf 3 = 1 := by kernel_rfl
    have e : (cs.drop 4).take (Tryz.prog.cellsOf 3) = En.enc a4 := e4
    rw [hc] at e; exact e
  obtain ⟨a5, e5, z5⟩ := (inferInstance : Inp Tryz.prog 3 Int).h hsp (g 5 _ rfl (by rw [hxl]; decide))
  have d5 : (cs.drop 5).take 1 = En.enc a5 := by
    have hc : Tryz.prog.cellsOf 3 = 1 := by kernel_rfl
    have e : (cs.drop 5).take (Tryz.prog.cellsOf 3) = En.enc a5 := e5
    rw [hc] at e; exact e
  refine ⟨⟨a0, a1, a2, a3, a4, a5⟩, ?_, fun R hR => sepI (z0 R hR) (sepI (z1 R hR) (sepI (z2 R hR) (sepI (z3 R hR) (sepI (z4 R hR) (sepI (z5 R hR) (trivial))))))⟩
  have hp := xBH [1, 1, 1, 1, 1, 1] 0 cs (by rw [hl]; kernel_rfl)
  have hq : cs = En.enc a0 ++ (En.enc a1 ++ (En.enc a2 ++ (En.enc a3 ++ (En.enc a4 ++ (En.enc a5 ++ ( [])))))) := by rw [← d0, ← d1, ← d2, ← d3, ← d4, ← d5]; exact hp
  rw [hq]; rfl⟩
instance : Inp Tryz.prog 80 (SL XE) := xBG Tryz.underlying80 (by kernel_rfl)
instance : Inp Tryz.prog 49 (SL (SL XE)) := xBG Tryz.underlying49 (by kernel_rfl)
instance : Inp Tryz.prog 76 (SL UInt8) := xBG Tryz.underlying76 (by kernel_rfl)
instance : Inp Tryz.prog 58 (SL (SL UInt8)) := xBG Tryz.underlying58 (by kernel_rfl)
instance : Inp Tryz.prog 60 xeZ := ⟨fun {_ _ _ _ _ _ _ cs _} hsp h => by
  obtain ⟨xs, n, _, _, hl, hxl, hf⟩ := DataW.trod_struct Tryz.underlying60 h
  have g := fun i f hi (hlt : i < xs.length) => (hf i f hi).trans (List.getElem?_eq_getElem hlt)
  obtain ⟨a0, e0, z0⟩ := (inferInstance : Inp Tryz.prog 3 Int).h hsp (g 0 _ rfl (by rw [hxl]; decide))
  have d0 : (cs.drop 0).take 1 = En.enc a0 := by
    have hc : Tryz.prog.cellsOf 3 = 1 := by kernel_rfl
    have e : (cs.drop 0).take (Tryz.prog.cellsOf 3) = En.enc a0 := e0
    rw [hc] at e; exact e
  obtain ⟨a1, e1, z1⟩ := (inferInstance : Inp Tryz.prog 58 xCc).h hsp (g 1 _ rfl (by rw [hxl]; decide))
  have d1 : (cs.drop 1).take 1 = En.enc a1 := by
    have hc : Tryz.prog.cellsOf 58 = 1 := by kernel_rfl
    have e : (cs.drop 1).take (Tryz.prog.cellsOf 58) = En.enc a1 := e1
    rw [hc] at e; exact e
  obtain ⟨a2, e2, z2⟩ := (inferInstance : Inp Tryz.prog 3 Int).h hsp (g 2 _ rfl (by rw [hxl]; decide))
  have d2 : (cs.drop 2).take 1 = En.enc a2 := by
    have hc : Tryz.prog.cellsOf 3 = 1 := by kernel_rfl
    have e : (cs.drop 2).take (Tryz.prog.cellsOf 3) = En.enc a2 := e2
    rw [hc] at e; exact e
  refine ⟨⟨a0, a1, a2⟩, ?_, fun R hR => sepI (z0 R hR) (sepI (z1 R hR) (sepI (z2 R hR) (trivial)))⟩
  have hp := xBH [1, 1, 1] 0 cs (by rw [hl]; kernel_rfl)
  have hq : cs = En.enc a0 ++ (En.enc a1 ++ (En.enc a2 ++ ( []))) := by rw [← d0, ← d1, ← d2]; exact hp
  rw [hq]; rfl⟩
instance : Inp Tryz.prog 50 (SL xeZ) := xBG Tryz.underlying50 (by kernel_rfl)
instance : Inp Tryz.prog 52 xcJ := ⟨fun {_ _ _ _ _ _ _ cs _} hsp h => by
  obtain ⟨xs, n, _, _, hl, hxl, hf⟩ := DataW.trod_struct Tryz.underlying52 h
  have g := fun i f hi (hlt : i < xs.length) => (hf i f hi).trans (List.getElem?_eq_getElem hlt)
  obtain ⟨a0, e0, z0⟩ := (inferInstance : Inp Tryz.prog 30 YF).h hsp (g 0 _ rfl (by rw [hxl]; decide))
  have d0 : (cs.drop 0).take 11 = En.enc a0 := by
    have hc : Tryz.prog.cellsOf 30 = 11 := by kernel_rfl
    have e : (cs.drop 0).take (Tryz.prog.cellsOf 30) = En.enc a0 := e0
    rw [hc] at e; exact e
  obtain ⟨a1, e1, z1⟩ := (inferInstance : Inp Tryz.prog 49 xB8).h hsp (g 1 _ rfl (by rw [hxl]; decide))
  have d1 : (cs.drop 11).take 1 = En.enc a1 := by
    have hc : Tryz.prog.cellsOf 49 = 1 := by kernel_rfl
    have e : (cs.drop 11).take (Tryz.prog.cellsOf 49) = En.enc a1 := e1
    rw [hc] at e; exact e
  obtain ⟨a2, e2, z2⟩ := (inferInstance : Inp Tryz.prog 50 xCb).h hsp (g 2 _ rfl (by rw [hxl]; decide))
  have d2 : (cs.drop 12).take 1 = En.enc a2 := by
    have hc : Tryz.prog.cellsOf 50 = 1 := by kernel_rfl
    have e : (cs.drop 12).take (Tryz.prog.cellsOf 50) = En.enc a2 := e2
    rw [hc] at e; exact e
  refine ⟨⟨a0, a1, a2⟩, ?_, fun R hR => sepI (z0 R hR) (sepI (z1 R hR) (sepI (z2 R hR) (trivial)))⟩
  have hp := xBH [11, 1, 1] 0 cs (by rw [hl]; kernel_rfl)
  have hq : cs = En.enc a0 ++ (En.enc a1 ++ (En.enc a2 ++ ( []))) := by rw [← d0, ← d1, ← d2]; exact hp
  rw [hq]; rfl⟩
theorem xB2 {a : xcJ} {R : Jd} {w : World} (h : (Fz.fz a).h R (fun _ => False) w) : ∀ A ∈ xtU a, A.h R (fun _ => False) w := by
  have hc := xfO h
  have hp := xfO (VB h)
  have hw := xfO (VB (VB h))
  have c2 := VB hc
  have c3 := VB c2
  have c4 := VB c3
  have c6 := VB (VB c4)
  have c7 := VB c6
  have c11 := VB (VB (VB (VB c7)))
  intro A hA
  rcases List.mem_cons.1 hA with rfl | hA
  · exact xp5 (xfO hc)
  rcases List.mem_cons.1 hA with rfl | hA
  · exact xp5 (xfO c2)
  rcases List.mem_cons.1 hA with rfl | hA
  · exact xp5 (xfO c3)
  rcases List.mem_cons.1 hA with rfl | hA
  · exact xp5 (xfO c4)
  rcases List.mem_cons.1 hA with rfl | hA
  · exact xp5 (xfO c6)
  rcases List.mem_cons.1 hA with rfl | hA
  · exact xp5 (xfO c7)
  rcases List.mem_cons.1 hA with rfl | hA
  · exact xp5 (xfO c11)
  rcases List.mem_cons.1 hA with rfl | hA
  · exact xp5 hp
  rcases List.mem_cons.1 hA with rfl | hA
  · exact xfe hp
  rcases List.mem_cons.1 hA with rfl | hA
  · exact xp5 hw
  · simp only [List.mem_singleton] at hA
    subst hA
    exact xfe hw
end Go.Proofs.YtacmaamllpiloaaGreat
