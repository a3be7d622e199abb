import Derived.Test.YtkapfpliiaegfaaGreatZ14
import Derived.Test.YtkapfpliiaegfaaGreatLQ
namespace Go.Proofs.YtkapfpliiaegfaaGreat
open Go Go.Wk Go.ChangeShapes Go.WideShapes Go.ChangeAt Go.RowKit
set_option maxRecDepth 100000
theorem Inp.mapI {P : Program} {t : Nat} {α β : Type} [En α] [Fz α] [En β] [Fz β] [hI : Inp P t α] (f : α → β) (he : ∀ a, En.enc a = En.enc (f a)) (hz : ∀ a R w, (Fz.fz a).h R (fun _ => False) w → (Fz.fz (f a)).h R (fun _ => False) w) : Inp P t β := ⟨fun hsp h => by
  obtain ⟨a, e, z⟩ := hI.h hsp h
  exact ⟨f a, e.trans (he a), fun R hR => hz a R _ (z R hR)⟩⟩
abbrev xL3 := SL xaL
abbrev xLu := SL WZ
abbrev xLs := SL Zd
abbrev xLV := SL JO
abbrev xLC := SL JC
abbrev xFz := SL Int
abbrev xLR := SL xDL
abbrev xK7 := SL xCo
abbrev xL4 := SL xGB
abbrev xLn := SL YF
abbrev xLm := SL xD7
abbrev xLl := SL xCE
instance : Inp Tryz.prog 132 xaL := ⟨fun {_ _ _ _ _ _ _ cs _} hsp h => by
  obtain ⟨xs, n, _, _, hl, hxl, hf⟩ := DataW.trod_struct Tryz.underlying132 h
  have g := fun i f hi (hlt : i < xs.length) => (hf i f hi).trans (List.getElem?_eq_getElem hlt)
  obtain ⟨a0, e0, z0⟩ := (inferInstance : Inp Tryz.prog 3 Int).h hsp (g 0 _ rfl (by rw [hxl]; decide))
  have d0 : (cs.drop 0).take 1 = En.enc a0 := by
    have hc : Tryz.prog.cellsOf 3 = 1 := by kernel_rfl
    have e : (cs.drop 0).take (Tryz.prog.cellsOf 3) = En.enc a0 := e0
    rw [hc] at e; exact e
  obtain ⟨a1, e1, z1⟩ := (inferInstance : Inp Tryz.prog 3 Int).h hsp (g 1 _ rfl (by rw [hxl]; decide))
  have d1 : (cs.drop 1).take 1 = En.enc a1 := by
    have hc : Tryz.prog.cellsOf 3 = 1 := by kernel_rfl
    have e : (cs.drop 1).take (Tryz.prog.cellsOf 3) = En.enc a1 := e1
    rw [hc] at e; exact e
  obtain ⟨a2, e2, z2⟩ := (inferInstance : Inp Tryz.prog 4 Bool).h hsp (g 2 _ rfl (by rw [hxl]; decide))
  have d2 : (cs.drop 2).take 1 = En.enc a2 := by
    have hc : Tryz.prog.cellsOf 4 = 1 := by kernel_rfl
    have e : (cs.drop 2).take (Tryz.prog.cellsOf 4) = En.enc a2 := e2
    rw [hc] at e; exact e
  refine ⟨⟨a0, a1, a2⟩, ?_, fun R hR => sepI (z0 R hR) (sepI (z1 R hR) (sepI (z2 R hR) (trivial)))⟩
  have hp := xB6 [1, 1, 1] 0 cs (by rw [hl]; kernel_rfl)
  have hq : cs = En.enc a0 ++ (En.enc a1 ++ (En.enc a2 ++ ( []))) := by rw [← d0, ← d1, ← d2]; exact hp
  rw [hq]; rfl⟩
instance : Inp Tryz.prog 93 (SL xaL) := xBQ Tryz.underlying93 (by kernel_rfl)
instance : Inp Tryz.prog 134 WZ := ⟨fun {_ _ _ _ _ _ _ cs _} hsp h => by
  obtain ⟨xs, n, _, _, hl, hxl, hf⟩ := DataW.trod_struct Tryz.underlying134 h
  have g := fun i f hi (hlt : i < xs.length) => (hf i f hi).trans (List.getElem?_eq_getElem hlt)
  obtain ⟨a0, e0, z0⟩ := (inferInstance : Inp Tryz.prog 3 Int).h hsp (g 0 _ rfl (by rw [hxl]; decide))
  have d0 : (cs.drop 0).take 1 = En.enc a0 := by
    have hc : Tryz.prog.cellsOf 3 = 1 := by kernel_rfl
    have e : (cs.drop 0).take (Tryz.prog.cellsOf 3) = En.enc a0 := e0
    rw [hc] at e; exact e
  obtain ⟨a1, e1, z1⟩ := (inferInstance : Inp Tryz.prog 3 Int).h hsp (g 1 _ rfl (by rw [hxl]; decide))
  have d1 : (cs.drop 1).take 1 = En.enc a1 := by
    have hc : Tryz.prog.cellsOf 3 = 1 := by kernel_rfl
    have e : (cs.drop 1).take (Tryz.prog.cellsOf 3) = En.enc a1 := e1
    rw [hc] at e; exact e
  obtain ⟨a2, e2, z2⟩ := (inferInstance : Inp Tryz.prog 3 Int).h hsp (g 2 _ rfl (by rw [hxl]; decide))
  have d2 : (cs.drop 2).take 1 = En.enc a2 := by
    have hc : Tryz.prog.cellsOf 3 = 1 := by kernel_rfl
    have e : (cs.drop 2).take (Tryz.prog.cellsOf 3) = En.enc a2 := e2
    rw [hc] at e; exact e
  refine ⟨⟨a0, a1, a2⟩, ?_, fun R hR => sepI (z0 R hR) (sepI (z1 R hR) (sepI (z2 R hR) (trivial)))⟩
  have hp := xB6 [1, 1, 1] 0 cs (by rw [hl]; kernel_rfl)
  have hq : cs = En.enc a0 ++ (En.enc a1 ++ (En.enc a2 ++ ( []))) := by rw [← d0, ← d1, ← d2]; exact hp
  rw [hq]; rfl⟩
instance : Inp Tryz.prog 94 (SL WZ) := xBQ Tryz.underlying94 (by kernel_rfl)
instance : Inp Tryz.prog 297 Zd := ⟨fun {_ _ _ _ _ _ _ cs _} hsp h => by
  obtain ⟨xs, n, _, _, hl, hxl, hf⟩ := DataW.trod_struct Tryz.underlying297 h
  have g := fun i f hi (hlt : i < xs.length) => (hf i f hi).trans (List.getElem?_eq_getElem hlt)
  obtain ⟨a0, e0, z0⟩ := (inferInstance : Inp Tryz.prog 4 Bool).h hsp (g 0 _ rfl (by rw [hxl]; decide))
  have d0 : (cs.drop 0).take 1 = En.enc a0 := by
    have hc : Tryz.prog.cellsOf 4 = 1 := by kernel_rfl
    have e : (cs.drop 0).take (Tryz.prog.cellsOf 4) = En.enc a0 := e0
    rw [hc] at e; exact e
  obtain ⟨a1, e1, z1⟩ := (inferInstance : Inp Tryz.prog 4 Bool).h hsp (g 1 _ rfl (by rw [hxl]; decide))
  have d1 : (cs.drop 1).take 1 = En.enc a1 := by
    have hc : Tryz.prog.cellsOf 4 = 1 := by kernel_rfl
    have e : (cs.drop 1).take (Tryz.prog.cellsOf 4) = En.enc a1 := e1
    rw [hc] at e; exact e
  obtain ⟨a2, e2, z2⟩ := (inferInstance : Inp Tryz.prog 3 Int).h hsp (g 2 _ rfl (by rw [hxl]; decide))
  have d2 : (cs.drop 2).take 1 = En.enc a2 := by
    have hc : Tryz.prog.cellsOf 3 = 1 := by kernel_rfl
    have e : (cs.drop 2).take (Tryz.prog.cellsOf 3) = En.enc a2 := e2
    rw [hc] at e; exact e
  obtain ⟨a3, e3, z3⟩ := (inferInstance : Inp Tryz.prog 3 Int).h hsp (g 3 _ rfl (by rw [hxl]; decide))
  have d3 : (cs.drop 3).take 1 = En.enc a3 := by
    have hc : Tryz.prog.cellsOf 3 = 1 := by kernel_rfl
    have e : (cs.drop 3).take (Tryz.prog.cellsOf 3) = En.enc a3 := e3
    rw [hc] at e; exact e
  refine ⟨⟨a0, a1, a2, a3⟩, ?_, fun R hR => sepI (z0 R hR) (sepI (z1 R hR) (sepI (z2 R hR) (sepI (z3 R hR) (trivial))))⟩
  have hp := xB6 [1, 1, 1, 1] 0 cs (by rw [hl]; kernel_rfl)
  have hq : cs = En.enc a0 ++ (En.enc a1 ++ (En.enc a2 ++ (En.enc a3 ++ ( [])))) := by rw [← d0, ← d1, ← d2, ← d3]; exact hp
  rw [hq]; rfl⟩
instance : Inp Tryz.prog 95 (SL Zd) := xBQ Tryz.underlying95 (by kernel_rfl)
instance : Inp Tryz.prog 369 JO := ⟨fun {_ _ _ _ _ _ _ cs _} hsp h => by
  obtain ⟨xs, n, _, _, hl, hxl, hf⟩ := DataW.trod_struct Tryz.underlying369 h
  have g := fun i f hi (hlt : i < xs.length) => (hf i f hi).trans (List.getElem?_eq_getElem hlt)
  obtain ⟨a0, e0, z0⟩ := (inferInstance : Inp Tryz.prog 3 Int).h hsp (g 0 _ rfl (by rw [hxl]; decide))
  have d0 : (cs.drop 0).take 1 = En.enc a0 := by
    have hc : Tryz.prog.cellsOf 3 = 1 := by kernel_rfl
    have e : (cs.drop 0).take (Tryz.prog.cellsOf 3) = En.enc a0 := e0
    rw [hc] at e; exact e
  obtain ⟨a1, e1, z1⟩ := (inferInstance : Inp Tryz.prog 3 Int).h hsp (g 1 _ rfl (by rw [hxl]; decide))
  have d1 : (cs.drop 1).take 1 = En.enc a1 := by
    have hc : Tryz.prog.cellsOf 3 = 1 := by kernel_rfl
    have e : (cs.drop 1).take (Tryz.prog.cellsOf 3) = En.enc a1 := e1
    rw [hc] at e; exact e
  refine ⟨⟨a0, a1⟩, ?_, fun R hR => sepI (z0 R hR) (sepI (z1 R hR) (trivial))⟩
  have hp := xB6 [1, 1] 0 cs (by rw [hl]; kernel_rfl)
  have hq : cs = En.enc a0 ++ (En.enc a1 ++ ( [])) := by rw [← d0, ← d1]; exact hp
  rw [hq]; rfl⟩
instance : Inp Tryz.prog 96 (SL JO) := xBQ Tryz.underlying96 (by kernel_rfl)
instance : Inp Tryz.prog 380 JC := ⟨fun {_ _ _ _ _ _ _ cs _} hsp h => by
  obtain ⟨xs, n, _, _, hl, hxl, hf⟩ := DataW.trod_struct Tryz.underlying380 h
  have g := fun i f hi (hlt : i < xs.length) => (hf i f hi).trans (List.getElem?_eq_getElem hlt)
  obtain ⟨a0, e0, z0⟩ := (inferInstance : Inp Tryz.prog 3 Int).h hsp (g 0 _ rfl (by rw [hxl]; decide))
  have d0 : (cs.drop 0).take 1 = En.enc a0 := by
    have hc : Tryz.prog.cellsOf 3 = 1 := by kernel_rfl
    have e : (cs.drop 0).take (Tryz.prog.cellsOf 3) = En.enc a0 := e0
    rw [hc] at e; exact e
  obtain ⟨a1, e1, z1⟩ := (inferInstance : Inp Tryz.prog 3 Int).h hsp (g 1 _ rfl (by rw [hxl]; decide))
  have d1 : (cs.drop 1).take 1 = En.enc a1 := by
    have hc : Tryz.prog.cellsOf 3 = 1 := by kernel_rfl
    have e : (cs.drop 1).take (Tryz.prog.cellsOf 3) = En.enc a1 := e1
    rw [hc] at e; exact e
  refine ⟨⟨a0, a1⟩, ?_, fun R hR => sepI (z0 R hR) (sepI (z1 R hR) (trivial))⟩
  have hp := xB6 [1, 1] 0 cs (by rw [hl]; kernel_rfl)
  have hq : cs = En.enc a0 ++ (En.enc a1 ++ ( [])) := by rw [← d0, ← d1]; exact hp
  rw [hq]; rfl⟩
instance : Inp Tryz.prog 97 (SL JC) := xBQ Tryz.underlying97 (by kernel_rfl)
instance : Inp Tryz.prog 99 YF := ⟨fun {_ _ _ _ _ _ _ cs _} hsp h => by
  obtain ⟨xs, n, _, _, hl, hxl, hf⟩ := DataW.trod_struct Tryz.underlying99 h
  have g := fun i f hi (hlt : i < xs.length) => (hf i f hi).trans (List.getElem?_eq_getElem hlt)
  obtain ⟨a0, e0, z0⟩ := (inferInstance : Inp Tryz.prog 93 xL3).h hsp (g 0 _ rfl (by rw [hxl]; decide))
  have d0 : (cs.drop 0).take 1 = En.enc a0 := by
    have hc : Tryz.prog.cellsOf 93 = 1 := by kernel_rfl
    have e : (cs.drop 0).take (Tryz.prog.cellsOf 93) = En.enc a0 := e0
    rw [hc] at e; exact e
  obtain ⟨a1, e1, z1⟩ := (inferInstance : Inp Tryz.prog 94 xLu).h hsp (g 1 _ rfl (by rw [hxl]; decide))
  have d1 : (cs.drop 1).take 1 = En.enc a1 := by
    have hc : Tryz.prog.cellsOf 94 = 1 := by kernel_rfl
    have e : (cs.drop 1).take (Tryz.prog.cellsOf 94) = En.enc a1 := e1
    rw [hc] at e; exact e
  obtain ⟨a2, e2, z2⟩ := (inferInstance : Inp Tryz.prog 95 xLs).h hsp (g 2 _ rfl (by rw [hxl]; decide))
  have d2 : (cs.drop 2).take 1 = En.enc a2 := by
    have hc : Tryz.prog.cellsOf 95 = 1 := by kernel_rfl
    have e : (cs.drop 2).take (Tryz.prog.cellsOf 95) = En.enc a2 := e2
    rw [hc] at e; exact e
  obtain ⟨a3, e3, z3⟩ := (inferInstance : Inp Tryz.prog 96 xLV).h hsp (g 3 _ rfl (by rw [hxl]; decide))
  have d3 : (cs.drop 3).take 1 = En.enc a3 := by
    have hc : Tryz.prog.cellsOf 96 = 1 := by kernel_rfl
    have e : (cs.drop 3).take (Tryz.prog.cellsOf 96) = En.enc a3 := e3
    rw [hc] at e; exact e
  obtain ⟨a4, e4, z4⟩ := (inferInstance : Inp Tryz.prog 3 Int).h hsp (g 4 _ rfl (by rw [hxl]; decide))
  have d4 : (cs.drop 4).take 1 = En.enc a4 := by
    have hc : Tryz.prog.cellsOf 3 = 1 := by kernel_rfl
    have e : (cs.drop 4).take (Tryz.prog.cellsOf 3) = En.enc a4 := e4
    rw [hc] at e; exact e
  obtain ⟨a5, e5, z5⟩ := (inferInstance : Inp Tryz.prog 97 xLC).h hsp (g 5 _ rfl (by rw [hxl]; decide))
  have d5 : (cs.drop 5).take 1 = En.enc a5 := by
    have hc : Tryz.prog.cellsOf 97 = 1 := by kernel_rfl
    have e : (cs.drop 5).take (Tryz.prog.cellsOf 97) = En.enc a5 := e5
    rw [hc] at e; exact e
  obtain ⟨a6, e6, z6⟩ := (inferInstance : Inp Tryz.prog 29 xFz).h hsp (g 6 _ rfl (by rw [hxl]; decide))
  have d6 : (cs.drop 6).take 1 = En.enc a6 := by
    have hc : Tryz.prog.cellsOf 29 = 1 := by kernel_rfl
    have e : (cs.drop 6).take (Tryz.prog.cellsOf 29) = En.enc a6 := e6
    rw [hc] at e; exact e
  obtain ⟨a7, e7, z7⟩ := (inferInstance : Inp Tryz.prog 3 Int).h hsp (g 7 _ rfl (by rw [hxl]; decide))
  have d7 : (cs.drop 7).take 1 = En.enc a7 := by
    have hc : Tryz.prog.cellsOf 3 = 1 := by kernel_rfl
    have e : (cs.drop 7).take (Tryz.prog.cellsOf 3) = En.enc a7 := e7
    rw [hc] at e; exact e
  obtain ⟨a8, e8, z8⟩ := (inferInstance : Inp Tryz.prog 3 Int).h hsp (g 8 _ rfl (by rw [hxl]; decide))
  have d8 : (cs.drop 8).take 1 = En.enc a8 := by
    have hc : Tryz.prog.cellsOf 3 = 1 := by kernel_rfl
    have e : (cs.drop 8).take (Tryz.prog.cellsOf 3) = En.enc a8 := e8
    rw [hc] at e; exact e
  obtain ⟨a9, e9, z9⟩ := (inferInstance : Inp Tryz.prog 3 Int).h hsp (g 9 _ rfl (by rw [hxl]; decide))
  have d9 : (cs.drop 9).take 1 = En.enc a9 := by
    have hc : Tryz.prog.cellsOf 3 = 1 := by kernel_rfl
    have e : (cs.drop 9).take (Tryz.prog.cellsOf 3) = En.enc a9 := e9
    rw [hc] at e; exact e
  obtain ⟨a10, e10, z10⟩ := (inferInstance : Inp Tryz.prog 29 xFz).h hsp (g 10 _ rfl (by rw [hxl]; decide))
  have d10 : (cs.drop 10).take 1 = En.enc a10 := by
    have hc : Tryz.prog.cellsOf 29 = 1 := by kernel_rfl
    have e : (cs.drop 10).take (Tryz.prog.cellsOf 29) = En.enc a10 := e10
    rw [hc] at e; exact e
  refine ⟨⟨a0, a1, a2, a3, a4, a5, a6, a7, a8, a9, a10⟩, ?_, fun R hR => sepI (z0 R hR) (sepI (z1 R hR) (sepI (z2 R hR) (sepI (z3 R hR) (sepI (z4 R hR) (sepI (z5 R hR) (sepI (z6 R hR) (sepI (z7 R hR) (sepI (z8 R hR) (sepI (z9 R hR) (sepI (z10 R hR) (trivial)))))))))))⟩
  have hp := xB6 [1, 1, 1, 1, 1, 1, 1, 1, 1, 1, 1] 0 cs (by rw [hl]; kernel_rfl)
  have hq : cs = En.enc a0 ++ (En.enc a1 ++ (En.enc a2 ++ (En.enc a3 ++ (En.enc a4 ++ (En.enc a5 ++ (En.enc a6 ++ (En.enc a7 ++ (En.enc a8 ++ (En.enc a9 ++ (En.enc a10 ++ ( []))))))))))) := by rw [← d0, ← d1, ← d2, ← d3, ← d4, ← d5, ← d6, ← d7, ← d8, ← d9, ← d10]; exact hp
  rw [hq]; rfl⟩
instance : Inp Tryz.prog 22 (SL YF) := xBQ Tryz.underlying22 (by kernel_rfl)
structure xGm where
  part : Int
  port : Int
instance : En xGm := ⟨fun d => [.int .i64 d.part, .int .i64 d.port], 2, fun _ => rfl, fun _ => rfl, by decide⟩
instance : Fz xGm := ⟨fun p => sep (Fz.fz p.part) (sep (Fz.fz p.port) (fact True)), fun _ => XX (Fz.dup _) (XX (Fz.dup _) (xBP _))⟩
instance : Inp Tryz.prog 90 xGm := ⟨fun {_ _ _ _ _ _ _ cs _} hsp h => by
  obtain ⟨xs, n, _, _, hl, hxl, hf⟩ := DataW.trod_struct Tryz.underlying90 h
  have g := fun i f hi (hlt : i < xs.length) => (hf i f hi).trans (List.getElem?_eq_getElem hlt)
  obtain ⟨a0, e0, z0⟩ := (inferInstance : Inp Tryz.prog 3 Int).h hsp (g 0 _ rfl (by rw [hxl]; decide))
  have d0 : (cs.drop 0).take 1 = En.enc a0 := by
    have hc : Tryz.prog.cellsOf 3 = 1 := by kernel_rfl
    have e : (cs.drop 0).take (Tryz.prog.cellsOf 3) = En.enc a0 := e0
    rw [hc] at e; exact e
  obtain ⟨a1, e1, z1⟩ := (inferInstance : Inp Tryz.prog 3 Int).h hsp (g 1 _ rfl (by rw [hxl]; decide))
  have d1 : (cs.drop 1).take 1 = En.enc a1 := by
    have hc : Tryz.prog.cellsOf 3 = 1 := by kernel_rfl
    have e : (cs.drop 1).take (Tryz.prog.cellsOf 3) = En.enc a1 := e1
    rw [hc] at e; exact e
  refine ⟨⟨a0, a1⟩, ?_, fun R hR => sepI (z0 R hR) (sepI (z1 R hR) (trivial))⟩
  have hp := xB6 [1, 1] 0 cs (by rw [hl]; kernel_rfl)
  have hq : cs = En.enc a0 ++ (En.enc a1 ++ ( [])) := by rw [← d0, ← d1]; exact hp
  rw [hq]; rfl⟩
structure xHA where
  f : xGm
  t : xGm
instance : En xHA := ⟨fun d => [.int .i64 d.f.part, .int .i64 d.f.port, .int .i64 d.t.part, .int .i64 d.t.port], 4, fun _ => rfl, fun _ => rfl, by decide⟩
instance : Fz xHA := ⟨fun p => sep (Fz.fz p.f) (sep (Fz.fz p.t) (fact True)), fun _ => XX (Fz.dup _) (XX (Fz.dup _) (xBP _))⟩
instance : Inp Tryz.prog 92 xHA := ⟨fun {_ _ _ _ _ _ _ cs _} hsp h => by
  obtain ⟨xs, n, _, _, hl, hxl, hf⟩ := DataW.trod_struct Tryz.underlying92 h
  have g := fun i f hi (hlt : i < xs.length) => (hf i f hi).trans (List.getElem?_eq_getElem hlt)
  obtain ⟨a0, e0, z0⟩ := (inferInstance : Inp Tryz.prog 90 xGm).h hsp (g 0 _ rfl (by rw [hxl]; decide))
  have d0 : (cs.drop 0).take 2 = En.enc a0 := by
    have hc : Tryz.prog.cellsOf 90 = 2 := by kernel_rfl
    have e : (cs.drop 0).take (Tryz.prog.cellsOf 90) = En.enc a0 := e0
    rw [hc] at e; exact e
  obtain ⟨a1, e1, z1⟩ := (inferInstance : Inp Tryz.prog 90 xGm).h hsp (g 1 _ rfl (by rw [hxl]; decide))
  have d1 : (cs.drop 2).take 2 = En.enc a1 := by
    have hc : Tryz.prog.cellsOf 90 = 2 := by kernel_rfl
    have e : (cs.drop 2).take (Tryz.prog.cellsOf 90) = En.enc a1 := e1
    rw [hc] at e; exact e
  refine ⟨⟨a0, a1⟩, ?_, fun R hR => sepI (z0 R hR) (sepI (z1 R hR) (trivial))⟩
  have hp := xB6 [2, 2] 0 cs (by rw [hl]; kernel_rfl)
  have hq : cs = En.enc a0 ++ (En.enc a1 ++ ( [])) := by rw [← d0, ← d1]; exact hp
  rw [hq]; rfl⟩
instance : Inp Tryz.prog 92 xD7 := Inp.mapI (fun a : xHA => ⟨a.f.part, a.f.port, a.t.part, a.t.port⟩) (fun _ => rfl) fun _ _ _ h => sepI (xfO (xfO h)) (sepI (xfO (VB (xfO h))) (sepI (xfO (xfO (VB h))) (sepI (xfO (VB (xfO (VB h)))) trivial)))
instance : Inp Tryz.prog 23 (SL xD7) := xBQ Tryz.underlying23 (by kernel_rfl)
instance : Inp Tryz.prog 136 xDL := ⟨fun {_ _ _ _ _ _ _ cs _} hsp h => by
  obtain ⟨xs, n, _, _, hl, hxl, hf⟩ := DataW.trod_struct Tryz.underlying136 h
  have g := fun i f hi (hlt : i < xs.length) => (hf i f hi).trans (List.getElem?_eq_getElem hlt)
  obtain ⟨a0, e0, z0⟩ := (inferInstance : Inp Tryz.prog 3 Int).h hsp (g 0 _ rfl (by rw [hxl]; decide))
  have d0 : (cs.drop 0).take 1 = En.enc a0 := by
    have hc : Tryz.prog.cellsOf 3 = 1 := by kernel_rfl
    have e : (cs.drop 0).take (Tryz.prog.cellsOf 3) = En.enc a0 := e0
    rw [hc] at e; exact e
  obtain ⟨a1, e1, z1⟩ := (inferInstance : Inp Tryz.prog 3 Int).h hsp (g 1 _ rfl (by rw [hxl]; decide))
  have d1 : (cs.drop 1).take 1 = En.enc a1 := by
    have hc : Tryz.prog.cellsOf 3 = 1 := by kernel_rfl
    have e : (cs.drop 1).take (Tryz.prog.cellsOf 3) = En.enc a1 := e1
    rw [hc] at e; exact e
  obtain ⟨a2, e2, z2⟩ := (inferInstance : Inp Tryz.prog 3 Int).h hsp (g 2 _ rfl (by rw [hxl]; decide))
  have d2 : (cs.drop 2).take 1 = En.enc a2 := by
    have hc : Tryz.prog.cellsOf 3 = 1 := by kernel_rfl
    have e : (cs.drop 2).take (Tryz.prog.cellsOf 3) = En.enc a2 := e2
    rw [hc] at e; exact e
  refine ⟨⟨a0, a1, a2⟩, ?_, fun R hR => sepI (z0 R hR) (sepI (z1 R hR) (sepI (z2 R hR) (trivial)))⟩
  have hp := xB6 [1, 1, 1] 0 cs (by rw [hl]; kernel_rfl)
  have hq : cs = En.enc a0 ++ (En.enc a1 ++ (En.enc a2 ++ ( []))) := by rw [← d0, ← d1, ← d2]; exact hp
  rw [hq]; rfl⟩
instance : Inp Tryz.prog 100 (SL xDL) := xBQ Tryz.underlying100 (by kernel_rfl)
instance : Inp Tryz.prog 102 xCE := ⟨fun {_ _ _ _ _ _ _ cs _} hsp h => by
  obtain ⟨xs, n, _, _, hl, hxl, hf⟩ := DataW.trod_struct Tryz.underlying102 h
  have g := fun i f hi (hlt : i < xs.length) => (hf i f hi).trans (List.getElem?_eq_getElem hlt)
  obtain ⟨a0, e0, z0⟩ := (inferInstance : Inp Tryz.prog 3 Int).h hsp (g 0 _ rfl (by rw [hxl]; decide))
  have d0 : (cs.drop 0).take 1 = En.enc a0 := by
    have hc : Tryz.prog.cellsOf 3 = 1 := by kernel_rfl
    have e : (cs.drop 0).take (Tryz.prog.cellsOf 3) = En.enc a0 := e0
    rw [hc] at e; exact e
  obtain ⟨a1, e1, z1⟩ := (inferInstance : Inp Tryz.prog 100 xLR).h hsp (g 1 _ rfl (by rw [hxl]; decide))
  have d1 : (cs.drop 1).take 1 = En.enc a1 := by
    have hc : Tryz.prog.cellsOf 100 = 1 := by kernel_rfl
    have e : (cs.drop 1).take (Tryz.prog.cellsOf 100) = En.enc a1 := e1
    rw [hc] at e; exact e
  refine ⟨⟨a0, a1⟩, ?_, fun R hR => sepI (z0 R hR) (sepI (z1 R hR) (trivial))⟩
  have hp := xB6 [1, 1] 0 cs (by rw [hl]; kernel_rfl)
  have hq : cs = En.enc a0 ++ (En.enc a1 ++ ( [])) := by rw [← d0, ← d1]; exact hp
  rw [hq]; rfl⟩
instance : Inp Tryz.prog 24 (SL xCE) := xBQ Tryz.underlying24 (by kernel_rfl)
instance : Inp Tryz.prog 138 xCo := ⟨fun {_ _ _ _ _ _ _ cs _} hsp h => by
  obtain ⟨xs, n, _, _, hl, hxl, hf⟩ := DataW.trod_struct Tryz.underlying138 h
  have g := fun i f hi (hlt : i < xs.length) => (hf i f hi).trans (List.getElem?_eq_getElem hlt)
  obtain ⟨a0, e0, z0⟩ := (inferInstance : Inp Tryz.prog 3 Int).h hsp (g 0 _ rfl (by rw [hxl]; decide))
  have d0 : (cs.drop 0).take 1 = En.enc a0 := by
    have hc : Tryz.prog.cellsOf 3 = 1 := by kernel_rfl
    have e : (cs.drop 0).take (Tryz.prog.cellsOf 3) = En.enc a0 := e0
    rw [hc] at e; exact e
  obtain ⟨a1, e1, z1⟩ := (inferInstance : Inp Tryz.prog 3 Int).h hsp (g 1 _ rfl (by rw [hxl]; decide))
  have d1 : (cs.drop 1).take 1 = En.enc a1 := by
    have hc : Tryz.prog.cellsOf 3 = 1 := by kernel_rfl
    have e : (cs.drop 1).take (Tryz.prog.cellsOf 3) = En.enc a1 := e1
    rw [hc] at e; exact e
  refine ⟨⟨a0, a1⟩, ?_, fun R hR => sepI (z0 R hR) (sepI (z1 R hR) (trivial))⟩
  have hp := xB6 [1, 1] 0 cs (by rw [hl]; kernel_rfl)
  have hq : cs = En.enc a0 ++ (En.enc a1 ++ ( [])) := by rw [← d0, ← d1]; exact hp
  rw [hq]; rfl⟩
instance : Inp Tryz.prog 25 (SL xCo) := xBQ Tryz.underlying25 (by kernel_rfl)
instance : Inp Tryz.prog 358 xGB := ⟨fun {_ _ _ _ _ _ _ cs _} hsp h => by
  obtain ⟨xs, n, _, _, hl, hxl, hf⟩ := DataW.trod_struct Tryz.underlying358 h
  have g := fun i f hi (hlt : i < xs.length) => (hf i f hi).trans (List.getElem?_eq_getElem hlt)
  obtain ⟨a0, e0, z0⟩ := (inferInstance : Inp Tryz.prog 3 Int).h hsp (g 0 _ rfl (by rw [hxl]; decide))
  have d0 : (cs.drop 0).take 1 = En.enc a0 := by
    have hc : Tryz.prog.cellsOf 3 = 1 := by kernel_rfl
    have e : (cs.drop 0).take (Tryz.prog.cellsOf 3) = En.enc a0 := e0
    rw [hc] at e; exact e
  obtain ⟨a1, e1, z1⟩ := (inferInstance : Inp Tryz.prog 3 Int).h hsp (g 1 _ rfl (by rw [hxl]; decide))
  have d1 : (cs.drop 1).take 1 = En.enc a1 := by
    have hc : Tryz.prog.cellsOf 3 = 1 := by kernel_rfl
    have e : (cs.drop 1).take (Tryz.prog.cellsOf 3) = En.enc a1 := e1
    rw [hc] at e; exact e
  obtain ⟨a2, e2, z2⟩ := (inferInstance : Inp Tryz.prog 3 Int).h hsp (g 2 _ rfl (by rw [hxl]; decide))
  have d2 : (cs.drop 2).take 1 = En.enc a2 := by
    have hc : Tryz.prog.cellsOf 3 = 1 := by kernel_rfl
    have e : (cs.drop 2).take (Tryz.prog.cellsOf 3) = En.enc a2 := e2
    rw [hc] at e; exact e
  refine ⟨⟨a0, a1, a2⟩, ?_, fun R hR => sepI (z0 R hR) (sepI (z1 R hR) (sepI (z2 R hR) (trivial)))⟩
  have hp := xB6 [1, 1, 1] 0 cs (by rw [hl]; kernel_rfl)
  have hq : cs = En.enc a0 ++ (En.enc a1 ++ (En.enc a2 ++ ( []))) := by rw [← d0, ← d1, ← d2]; exact hp
  rw [hq]; rfl⟩
instance : Inp Tryz.prog 26 (SL xGB) := xBQ Tryz.underlying26 (by kernel_rfl)
structure xD5 where
  levels : SL xCo
  naps : SL xGB
  sw : Int
  idle : Int
  change : Int
  quantum : Int
  slow : Int
  ppm : Int
instance : En xD5 := ⟨fun d => [d.levels.s.v, d.naps.s.v, .int .i64 d.sw, .int .i64 d.idle, .int .i64 d.change, .int .i64 d.quantum, .int .i64 d.slow, .int .i64 d.ppm], 8, fun _ => rfl, fun _ => rfl, by decide⟩
instance : Fz xD5 := ⟨fun p => sep (Fz.fz p.levels) (sep (Fz.fz p.naps) (sep (Fz.fz p.sw) (sep (Fz.fz p.idle) (sep (Fz.fz p.change) (sep (Fz.fz p.quantum) (sep (Fz.fz p.slow) (sep (Fz.fz p.ppm) (fact True)))))))), fun _ => XX (Fz.dup _) (XX (Fz.dup _) (XX (Fz.dup _) (XX (Fz.dup _) (XX (Fz.dup _) (XX (Fz.dup _) (XX (Fz.dup _) (XX (Fz.dup _) (xBP _))))))))⟩
instance : Inp Tryz.prog 28 xD5 := ⟨fun {_ _ _ _ _ _ _ cs _} hsp h => by
  obtain ⟨xs, n, _, _, hl, hxl, hf⟩ := DataW.trod_struct Tryz.underlying28 h
  have g := fun i f hi (hlt : i < xs.length) => (hf i f hi).trans (List.getElem?_eq_getElem hlt)
  obtain ⟨a0, e0, z0⟩ := (inferInstance : Inp Tryz.prog 25 xK7).h hsp (g 0 _ rfl (by rw [hxl]; decide))
  have d0 : (cs.drop 0).take 1 = En.enc a0 := by
    have hc : Tryz.prog.cellsOf 25 = 1 := by kernel_rfl
    have e : (cs.drop 0).take (Tryz.prog.cellsOf 25) = En.enc a0 := e0
    rw [hc] at e; exact e
  obtain ⟨a1, e1, z1⟩ := (inferInstance : Inp Tryz.prog 26 xL4).h hsp (g 1 _ rfl (by rw [hxl]; decide))
  have d1 : (cs.drop 1).take 1 = En.enc a1 := by
    have hc : Tryz.prog.cellsOf 26 = 1 := by kernel_rfl
    have e : (cs.drop 1).take (Tryz.prog.cellsOf 26) = En.enc a1 := e1
    rw [hc] at e; exact e
  obtain ⟨a2, e2, z2⟩ := (inferInstance : Inp Tryz.prog 3 Int).h hsp (g 2 _ rfl (by rw [hxl]; decide))
  have d2 : (cs.drop 2).take 1 = En.enc a2 := by
    have hc : Tryz.prog.cellsOf 3 = 1 := by kernel_rfl
    have e : (cs.drop 2).take (Tryz.prog.cellsOf 3) = En.enc a2 := e2
    rw [hc] at e; exact e
  obtain ⟨a3, e3, z3⟩ := (inferInstance : Inp Tryz.prog 3 Int).h hsp (g 3 _ rfl (by rw [hxl]; decide))
  have d3 : (cs.drop 3).take 1 = En.enc a3 := by
    have hc : Tryz.prog.cellsOf 3 = 1 := by kernel_rfl
    have e : (cs.drop 3).take (Tryz.prog.cellsOf 3) = En.enc a3 := e3
    rw [hc] at e; exact e
  obtain ⟨a4, e4, z4⟩ := (inferInstance : Inp Tryz.prog 3 Int).h hsp (g 4 _ rfl (by rw [hxl]; decide))
  have d4 : (cs.drop 4).take 1 = En.enc a4 := by
    have hc : Tryz.prog.cellsOf 3 = 1 := by kernel_rfl
    have e : (cs.drop 4).take (Tryz.prog.cellsOf 3) = En.enc a4 := e4
    rw [hc] at e; exact e
  obtain ⟨a5, e5, z5⟩ := (inferInstance : Inp Tryz.prog 3 Int).h hsp (g 5 _ rfl (by rw [hxl]; decide))
  have d5 : (cs.drop 5).take 1 = En.enc a5 := by
    have hc : Tryz.prog.cellsOf 3 = 1 := by kernel_rfl
    have e : (cs.drop 5).take (Tryz.prog.cellsOf 3) = En.enc a5 := e5
    rw [hc] at e; exact e
  obtain ⟨a6, e6, z6⟩ := (inferInstance : Inp Tryz.prog 3 Int).h hsp (g 6 _ rfl (by rw [hxl]; decide))
  have d6 : (cs.drop 6).take 1 = En.enc a6 := by
    have hc : Tryz.prog.cellsOf 3 = 1 := by kernel_rfl
    have e : (cs.drop 6).take (Tryz.prog.cellsOf 3) = En.enc a6 := e6
    rw [hc] at e; exact e
  obtain ⟨a7, e7, z7⟩ := (inferInstance : Inp Tryz.prog 3 Int).h hsp (g 7 _ rfl (by rw [hxl]; decide))
  have d7 : (cs.drop 7).take 1 = En.enc a7 := by
    have hc : Tryz.prog.cellsOf 3 = 1 := by kernel_rfl
    have e : (cs.drop 7).take (Tryz.prog.cellsOf 3) = En.enc a7 := e7
    rw [hc] at e; exact e
  refine ⟨⟨a0, a1, a2, a3, a4, a5, a6, a7⟩, ?_, fun R hR => sepI (z0 R hR) (sepI (z1 R hR) (sepI (z2 R hR) (sepI (z3 R hR) (sepI (z4 R hR) (sepI (z5 R hR) (sepI (z6 R hR) (sepI (z7 R hR) (trivial))))))))⟩
  have hp := xB6 [1, 1, 1, 1, 1, 1, 1, 1] 0 cs (by rw [hl]; kernel_rfl)
  have hq : cs = En.enc a0 ++ (En.enc a1 ++ (En.enc a2 ++ (En.enc a3 ++ (En.enc a4 ++ (En.enc a5 ++ (En.enc a6 ++ (En.enc a7 ++ ( [])))))))) := by rw [← d0, ← d1, ← d2, ← d3, ← d4, ← d5, ← d6, ← d7]; exact hp
  rw [hq]; rfl⟩
structure xF6 where
  down : SL Int
  up : SL Int
instance : En xF6 := ⟨fun d => [d.down.s.v, d.up.s.v], 2, fun _ => rfl, fun _ => rfl, by decide⟩
instance : Fz xF6 := ⟨fun p => sep (Fz.fz p.down) (sep (Fz.fz p.up) (fact True)), fun _ => XX (Fz.dup _) (XX (Fz.dup _) (xBP _))⟩
instance : Inp Tryz.prog 31 xF6 := ⟨fun {_ _ _ _ _ _ _ cs _} hsp h => by
  obtain ⟨xs, n, _, _, hl, hxl, hf⟩ := DataW.trod_struct Tryz.underlying31 h
  have g := fun i f hi (hlt : i < xs.length) => (hf i f hi).trans (List.getElem?_eq_getElem hlt)
  obtain ⟨a0, e0, z0⟩ := (inferInstance : Inp Tryz.prog 29 xFz).h hsp (g 0 _ rfl (by rw [hxl]; decide))
  have d0 : (cs.drop 0).take 1 = En.enc a0 := by
    have hc : Tryz.prog.cellsOf 29 = 1 := by kernel_rfl
    have e : (cs.drop 0).take (Tryz.prog.cellsOf 29) = En.enc a0 := e0
    rw [hc] at e; exact e
  obtain ⟨a1, e1, z1⟩ := (inferInstance : Inp Tryz.prog 29 xFz).h hsp (g 1 _ rfl (by rw [hxl]; decide))
  have d1 : (cs.drop 1).take 1 = En.enc a1 := by
    have hc : Tryz.prog.cellsOf 29 = 1 := by kernel_rfl
    have e : (cs.drop 1).take (Tryz.prog.cellsOf 29) = En.enc a1 := e1
    rw [hc] at e; exact e
  refine ⟨⟨a0, a1⟩, ?_, fun R hR => sepI (z0 R hR) (sepI (z1 R hR) (trivial))⟩
  have hp := xB6 [1, 1] 0 cs (by rw [hl]; kernel_rfl)
  have hq : cs = En.enc a0 ++ (En.enc a1 ++ ( [])) := by rw [← d0, ← d1]; exact hp
  rw [hq]; rfl⟩
structure xDF where
  parts : SL YF
  chans : SL xD7
  modes : SL xCE
  power : xD5
  shed : xF6
instance : En xDF := ⟨fun d => [d.parts.s.v, d.chans.s.v, d.modes.s.v, d.power.levels.s.v, d.power.naps.s.v, .int .i64 d.power.sw, .int .i64 d.power.idle, .int .i64 d.power.change, .int .i64 d.power.quantum, .int .i64 d.power.slow, .int .i64 d.power.ppm, d.shed.down.s.v, d.shed.up.s.v], 13, fun _ => rfl, fun _ => rfl, by decide⟩
instance : Fz xDF := ⟨fun p => sep (Fz.fz p.parts) (sep (Fz.fz p.chans) (sep (Fz.fz p.modes) (sep (Fz.fz p.power) (sep (Fz.fz p.shed) (fact True))))), fun _ => XX (Fz.dup _) (XX (Fz.dup _) (XX (Fz.dup _) (XX (Fz.dup _) (XX (Fz.dup _) (xBP _)))))⟩
instance : Inp Tryz.prog 33 xDF := ⟨fun {_ _ _ _ _ _ _ cs _} hsp h => by
  obtain ⟨xs, n, _, _, hl, hxl, hf⟩ := DataW.trod_struct Tryz.underlying33 h
  have g := fun i f hi (hlt : i < xs.length) => (hf i f hi).trans (List.getElem?_eq_getElem hlt)
  obtain ⟨a0, e0, z0⟩ := (inferInstance : Inp Tryz.prog 22 xLn).h hsp (g 0 _ rfl (by rw [hxl]; decide))
  have d0 : (cs.drop 0).take 1 = En.enc a0 := by
    have hc : Tryz.prog.cellsOf 22 = 1 := by kernel_rfl
    have e : (cs.drop 0).take (Tryz.prog.cellsOf 22) = En.enc a0 := e0
    rw [hc] at e; exact e
  obtain ⟨a1, e1, z1⟩ := (inferInstance : Inp Tryz.prog 23 xLm).h hsp (g 1 _ rfl (by rw [hxl]; decide))
  have d1 : (cs.drop 1).take 1 = En.enc a1 := by
    have hc : Tryz.prog.cellsOf 23 = 1 := by kernel_rfl
    have e : (cs.drop 1).take (Tryz.prog.cellsOf 23) = En.enc a1 := e1
    rw [hc] at e; exact e
  obtain ⟨a2, e2, z2⟩ := (inferInstance : Inp Tryz.prog 24 xLl).h hsp (g 2 _ rfl (by rw [hxl]; decide))
  have d2 : (cs.drop 2).take 1 = En.enc a2 := by
    have hc : Tryz.prog.cellsOf 24 = 1 := by kernel_rfl
    have e : (cs.drop 2).take (Tryz.prog.cellsOf 24) = En.enc a2 := e2
    rw [hc] at e; exact e
  obtain ⟨a3, e3, z3⟩ := (inferInstance : Inp Tryz.prog 28 xD5).h hsp (g 3 _ rfl (by rw [hxl]; decide))
  have d3 : (cs.drop 3).take 8 = En.enc a3 := by
    have hc : Tryz.prog.cellsOf 28 = 8 := by kernel_rfl
    have e : (cs.drop 3).take (Tryz.prog.cellsOf 28) = En.enc a3 := e3
    rw [hc] at e; exact e
  obtain ⟨a4, e4, z4⟩ := (inferInstance : Inp Tryz.prog 31 xF6).h hsp (g 4 _ rfl (by rw [hxl]; decide))
  have d4 : (cs.drop 11).take 2 = En.enc a4 := by
    have hc : Tryz.prog.cellsOf 31 = 2 := by kernel_rfl
    have e : (cs.drop 11).take (Tryz.prog.cellsOf 31) = En.enc a4 := e4
    rw [hc] at e; exact e
  refine ⟨⟨a0, a1, a2, a3, a4⟩, ?_, fun R hR => sepI (z0 R hR) (sepI (z1 R hR) (sepI (z2 R hR) (sepI (z3 R hR) (sepI (z4 R hR) (trivial)))))⟩
  have hp := xB6 [1, 1, 1, 8, 2] 0 cs (by rw [hl]; kernel_rfl)
  have hq : cs = En.enc a0 ++ (En.enc a1 ++ (En.enc a2 ++ (En.enc a3 ++ (En.enc a4 ++ ( []))))) := by rw [← d0, ← d1, ← d2, ← d3, ← d4]; exact hp
  rw [hq]; rfl⟩
def xDF.d (a : xDF) : xs2 := ⟨a.parts, a.chans, a.modes, a.power.levels, a.power.naps, a.power.sw, a.power.idle, a.power.change, a.power.quantum, a.power.slow, a.power.ppm, a.shed.down, a.shed.up⟩
/-- The words of a configuration and what hangs on it. -/
theorem xJh {a : xDF} {R : Jd} {w : World} (h : (Fz.fz a).h R (fun _ => False) w) : ∀ A ∈ [sl true a.d.parts.s.v a.d.parts.d, fzl a.d.parts.d, sl true a.d.chans.s.v a.d.chans.d, sl true a.d.modes.s.v a.d.modes.d, fzl a.d.modes.d, sl true a.d.levels.s.v a.d.levels.d, sl true a.d.naps.s.v a.d.naps.d, sl true a.d.down.s.v a.d.down.d, sl true a.d.up.s.v a.d.up.d], A.h R (fun _ => False) w := by
  have hp := xfO h
  have hc := xfO (VB h)
  have hm := xfO (VB (VB h))
  have hw := xfO (VB (VB (VB h)))
  have hs := xfO (VB (VB (VB (VB h))))
  intro A hA
  rcases List.mem_cons.1 hA with rfl | hA
  · exact xp5 hp
  rcases List.mem_cons.1 hA with rfl | hA
  · exact xfe hp
  rcases List.mem_cons.1 hA with rfl | hA
  · exact xp5 hc
  rcases List.mem_cons.1 hA with rfl | hA
  · exact xp5 hm
  rcases List.mem_cons.1 hA with rfl | hA
  · exact xfe hm
  rcases List.mem_cons.1 hA with rfl | hA
  · exact xp5 (xfO hw)
  rcases List.mem_cons.1 hA with rfl | hA
  · exact xp5 (xfO (VB hw))
  rcases List.mem_cons.1 hA with rfl | hA
  · exact xp5 (xfO hs)
  · simp only [List.mem_singleton] at hA
    subst hA
    exact xp5 (xfO (VB hs))
abbrev xTZ := SL XE
abbrev xTY := SL (SL XE)
abbrev xSX := SL (SL (SL XE))
abbrev xLU := SL xBL
instance : Inp Tryz.prog 68 XE := ⟨fun {_ _ _ _ _ _ _ cs _} hsp h => by
  obtain ⟨xs, n, _, _, hl, hxl, hf⟩ := DataW.trod_struct Tryz.underlying68 h
  have g := fun i f hi (hlt : i < xs.length) => (hf i f hi).trans (List.getElem?_eq_getElem hlt)
  obtain ⟨a0, e0, z0⟩ := (inferInstance : Inp Tryz.prog 3 Int).h hsp (g 0 _ rfl (by rw [hxl]; decide))
  have d0 : (cs.drop 0).take 1 = En.enc a0 := by
    have hc : Tryz.prog.cellsOf 3 = 1 := by kernel_rfl
    have e : (cs.drop 0).take (Tryz.prog.cellsOf 3) = En.enc a0 := e0
    rw [hc] at e; exact e
  obtain ⟨a1, e1, z1⟩ := (inferInstance : Inp Tryz.prog 3 Int).h hsp (g 1 _ rfl (by rw [hxl]; decide))
  have d1 : (cs.drop 1).take 1 = En.enc a1 := by
    have hc : Tryz.prog.cellsOf 3 = 1 := by kernel_rfl
    have e : (cs.drop 1).take (Tryz.prog.cellsOf 3) = En.enc a1 := e1
    rw [hc] at e; exact e
  obtain ⟨a2, e2, z2⟩ := (inferInstance : Inp Tryz.prog 3 Int).h hsp (g 2 _ rfl (by rw [hxl]; decide))
  have d2 : (cs.drop 2).take 1 = En.enc a2 := by
    have hc : Tryz.prog.cellsOf 3 = 1 := by kernel_rfl
    have e : (cs.drop 2).take (Tryz.prog.cellsOf 3) = En.enc a2 := e2
    rw [hc] at e; exact e
  obtain ⟨a3, e3, z3⟩ := (inferInstance : Inp Tryz.prog 3 Int).h hsp (g 3 _ rfl (by rw [hxl]; decide))
  have d3 : (cs.drop 3).take 1 = En.enc a3 := by
    have hc : Tryz.prog.cellsOf 3 = 1 := by kernel_rfl
    have e : (cs.drop 3).take (Tryz.prog.cellsOf 3) = En.enc a3 := e3
    rw [hc] at e; exact e
  obtain ⟨a4, e4, z4⟩ := (inferInstance : Inp Tryz.prog 3 Int).h hsp (g 4 _ rfl (by rw [hxl]; decide))
  have d4 : (cs.drop 4).take 1 = En.enc a4 := by
    have hc : Tryz.prog.cellsOf 3 = 1 := by kernel_rfl
    have e : (cs.drop 4).take (Tryz.prog.cellsOf 3) = En.enc a4 := e4
    rw [hc] at e; exact e
  obtain ⟨a5, e5, z5⟩ := (inferInstance : Inp Tryz.prog 3 Int).h hsp (g 5 _ rfl (by rw [hxl]; decide))
  have d5 : (cs.drop 5).take 1 = En.enc a5 := by
    have hc : Tryz.prog.cellsOf 3 = 1 := by kernel_rfl
    have e : (cs.drop 5).take (Tryz.prog.cellsOf 3) = En.enc a5 := e5
    rw [hc] at e; exact e
  refine ⟨⟨a0, a1, a2, a3, a4, a5⟩, ?_, fun R hR => sepI (z0 R hR) (sepI (z1 R hR) (sepI (z2 R hR) (sepI (z3 R hR) (sepI (z4 R hR) (sepI (z5 R hR) (trivial))))))⟩
  have hp := xB6 [1, 1, 1, 1, 1, 1] 0 cs (by rw [hl]; kernel_rfl)
  have hq : cs = En.enc a0 ++ (En.enc a1 ++ (En.enc a2 ++ (En.enc a3 ++ (En.enc a4 ++ (En.enc a5 ++ ( [])))))) := by rw [← d0, ← d1, ← d2, ← d3, ← d4, ← d5]; exact hp
  rw [hq]; rfl⟩
instance : Inp Tryz.prog 69 (SL XE) := xBQ Tryz.underlying69 (by kernel_rfl)
instance : Inp Tryz.prog 70 (SL (SL XE)) := xBQ Tryz.underlying70 (by kernel_rfl)
instance : Inp Tryz.prog 34 (SL (SL (SL XE))) := xBQ Tryz.underlying34 (by kernel_rfl)
instance : Fz xBL := ⟨fun p => sep (Fz.fz p.reading) (sep (Fz.fz p.mode) (sep (Fz.fz p.drift) (sep (Fz.fz p.choice) (fact True)))), fun _ => XX (Fz.dup _) (XX (Fz.dup _) (XX (Fz.dup _) (XX (Fz.dup _) (xBP _))))⟩
instance : Inp Tryz.prog 155 xBL := ⟨fun {_ _ _ _ _ _ _ cs _} hsp h => by
  obtain ⟨xs, n, _, _, hl, hxl, hf⟩ := DataW.trod_struct Tryz.underlying155 h
  have g := fun i f hi (hlt : i < xs.length) => (hf i f hi).trans (List.getElem?_eq_getElem hlt)
  obtain ⟨a0, e0, z0⟩ := (inferInstance : Inp Tryz.prog 3 Int).h hsp (g 0 _ rfl (by rw [hxl]; decide))
  have d0 : (cs.drop 0).take 1 = En.enc a0 := by
    have hc : Tryz.prog.cellsOf 3 = 1 := by kernel_rfl
    have e : (cs.drop 0).take (Tryz.prog.cellsOf 3) = En.enc a0 := e0
    rw [hc] at e; exact e
  obtain ⟨a1, e1, z1⟩ := (inferInstance : Inp Tryz.prog 3 Int).h hsp (g 1 _ rfl (by rw [hxl]; decide))
  have d1 : (cs.drop 1).take 1 = En.enc a1 := by
    have hc : Tryz.prog.cellsOf 3 = 1 := by kernel_rfl
    have e : (cs.drop 1).take (Tryz.prog.cellsOf 3) = En.enc a1 := e1
    rw [hc] at e; exact e
  obtain ⟨a2, e2, z2⟩ := (inferInstance : Inp Tryz.prog 3 Int).h hsp (g 2 _ rfl (by rw [hxl]; decide))
  have d2 : (cs.drop 2).take 1 = En.enc a2 := by
    have hc : Tryz.prog.cellsOf 3 = 1 := by kernel_rfl
    have e : (cs.drop 2).take (Tryz.prog.cellsOf 3) = En.enc a2 := e2
    rw [hc] at e; exact e
  obtain ⟨a3, e3, z3⟩ := (inferInstance : Inp Tryz.prog 3 Int).h hsp (g 3 _ rfl (by rw [hxl]; decide))
  have d3 : (cs.drop 3).take 1 = En.enc a3 := by
    have hc : Tryz.prog.cellsOf 3 = 1 := by kernel_rfl
    have e : (cs.drop 3).take (Tryz.prog.cellsOf 3) = En.enc a3 := e3
    rw [hc] at e; exact e
  refine ⟨⟨a0, a1, a2, a3⟩, ?_, fun R hR => sepI (z0 R hR) (sepI (z1 R hR) (sepI (z2 R hR) (sepI (z3 R hR) (trivial))))⟩
  have hp := xB6 [1, 1, 1, 1] 0 cs (by rw [hl]; kernel_rfl)
  have hq : cs = En.enc a0 ++ (En.enc a1 ++ (En.enc a2 ++ (En.enc a3 ++ ( [])))) := by rw [← d0, ← d1, ← d2, ← d3]; exact hp
  rw [hq]; rfl⟩
instance : Inp Tryz.prog 35 (SL xBL) := xBQ Tryz.underlying35 (by kernel_rfl)
structure xSk where
  progs : xSX
  frames : xLU
instance : En xSk := ⟨fun d => [d.progs.s.v, d.frames.s.v], 2, fun _ => rfl, fun _ => rfl, by decide⟩
instance : Fz xSk := ⟨fun p => sep (Fz.fz p.progs) (sep (Fz.fz p.frames) (fact True)), fun _ => XX (Fz.dup _) (XX (Fz.dup _) (xBP _))⟩
instance : Inp Tryz.prog 37 xSk := ⟨fun {_ _ _ _ _ _ _ cs _} hsp h => by
  obtain ⟨xs, n, _, _, hl, hxl, hf⟩ := DataW.trod_struct Tryz.underlying37 h
  have g := fun i f hi (hlt : i < xs.length) => (hf i f hi).trans (List.getElem?_eq_getElem hlt)
  obtain ⟨a0, e0, z0⟩ := (inferInstance : Inp Tryz.prog 34 xSX).h hsp (g 0 _ rfl (by rw [hxl]; decide))
  have d0 : (cs.drop 0).take 1 = En.enc a0 := by
    have hc : Tryz.prog.cellsOf 34 = 1 := by kernel_rfl
    have e : (cs.drop 0).take (Tryz.prog.cellsOf 34) = En.enc a0 := e0
    rw [hc] at e; exact e
  obtain ⟨a1, e1, z1⟩ := (inferInstance : Inp Tryz.prog 35 xLU).h hsp (g 1 _ rfl (by rw [hxl]; decide))
  have d1 : (cs.drop 1).take 1 = En.enc a1 := by
    have hc : Tryz.prog.cellsOf 35 = 1 := by kernel_rfl
    have e : (cs.drop 1).take (Tryz.prog.cellsOf 35) = En.enc a1 := e1
    rw [hc] at e; exact e
  refine ⟨⟨a0, a1⟩, ?_, fun R hR => sepI (z0 R hR) (sepI (z1 R hR) (trivial))⟩
  have hp := xB6 [1, 1] 0 cs (by rw [hl]; kernel_rfl)
  have hq : cs = En.enc a0 ++ (En.enc a1 ++ ( [])) := by rw [← d0, ← d1]; exact hp
  rw [hq]; rfl⟩
theorem xSG {a : xSk} {R : Jd} {w : World} (h : (Fz.fz a).h R (fun _ => False) w) : ∀ A ∈ [sl true a.progs.s.v a.progs.d, fzl a.progs.d, sl true a.frames.s.v a.frames.d], A.h R (fun _ => False) w := fun A hA => by
  simp only [List.mem_cons, List.not_mem_nil, or_false] at hA
  rcases hA with rfl | rfl | rfl
  · exact xp5 (xfO h)
  · exact xfe (xfO h)
  · exact xp5 (xfO (VB h))
abbrev LEv := SL EvA
abbrev xLz := SL xRY
abbrev xI4 := SL xB8
abbrev xKu := SL (SL Int)
instance : Inhabited EvA := ⟨⟨0, 0, 0, 0, 0, 0⟩⟩
instance : En EvA := ⟨fun s => [.int .i64 s.part, .int .i64 s.win, .int .i64 s.proc, .int .i64 s.call, .int .i64 s.code, .int .i64 s.value], 6, fun _ => rfl, fun _ => rfl, by decide⟩
instance : Fz EvA := ⟨fun p => sep (Fz.fz p.part) (sep (Fz.fz p.win) (sep (Fz.fz p.proc) (sep (Fz.fz p.call) (sep (Fz.fz p.code) (sep (Fz.fz p.value) (fact True)))))), fun _ => XX (Fz.dup _) (XX (Fz.dup _) (XX (Fz.dup _) (XX (Fz.dup _) (XX (Fz.dup _) (XX (Fz.dup _) (xBP _))))))⟩
instance : Inp Tryz.prog 76 EvA := ⟨fun {_ _ _ _ _ _ _ cs _} hsp h => by
  obtain ⟨xs, n, _, _, hl, hxl, hf⟩ := DataW.trod_struct Tryz.underlying76 h
  have g := fun i f hi (hlt : i < xs.length) => (hf i f hi).trans (List.getElem?_eq_getElem hlt)
  obtain ⟨a0, e0, z0⟩ := (inferInstance : Inp Tryz.prog 3 Int).h hsp (g 0 _ rfl (by rw [hxl]; decide))
  have d0 : (cs.drop 0).take 1 = En.enc a0 := by
    have hc : Tryz.prog.cellsOf 3 = 1 := by kernel_rfl
    have e : (cs.drop 0).take (Tryz.prog.cellsOf 3) = En.enc a0 := e0
    rw [hc] at e; exact e
  obtain ⟨a1, e1, z1⟩ := (inferInstance : Inp Tryz.prog 3 Int).h hsp (g 1 _ rfl (by rw [hxl]; decide))
  have d1 : (cs.drop 1).take 1 = En.enc a1 := by
    have hc : Tryz.prog.cellsOf 3 = 1 := by kernel_rfl
    have e : (cs.drop 1).take (Tryz.prog.cellsOf 3) = En.enc a1 := e1
    rw [hc] at e; exact e
  obtain ⟨a2, e2, z2⟩ := (inferInstance : Inp Tryz.prog 3 Int).h hsp (g 2 _ rfl (by rw [hxl]; decide))
  have d2 : (cs.drop 2).take 1 = En.enc a2 := by
    have hc : Tryz.prog.cellsOf 3 = 1 := by kernel_rfl
    have e : (cs.drop 2).take (Tryz.prog.cellsOf 3) = En.enc a2 := e2
    rw [hc] at e; exact e
  obtain ⟨a3, e3, z3⟩ := (inferInstance : Inp Tryz.prog 3 Int).h hsp (g 3 _ rfl (by rw [hxl]; decide))
  have d3 : (cs.drop 3).take 1 = En.enc a3 := by
    have hc : Tryz.prog.cellsOf 3 = 1 := by kernel_rfl
    have e : (cs.drop 3).take (Tryz.prog.cellsOf 3) = En.enc a3 := e3
    rw [hc] at e; exact e
  obtain ⟨a4, e4, z4⟩ := (inferInstance : Inp Tryz.prog 3 Int).h hsp (g 4 _ rfl (by rw [hxl]; decide))
  have d4 : (cs.drop 4).take 1 = En.enc a4 := by
    have hc : Tryz.prog.cellsOf 3 = 1 := by kernel_rfl
    have e : (cs.drop 4).take (Tryz.prog.cellsOf 3) = En.enc a4 := e4
    rw [hc] at e; exact e
  obtain ⟨a5, e5, z5⟩ := (inferInstance : Inp Tryz.prog 3 Int).h hsp (g 5 _ rfl (by rw [hxl]; decide))
  have d5 : (cs.drop 5).take 1 = En.enc a5 := by
    have hc : Tryz.prog.cellsOf 3 = 1 := by kernel_rfl
    have e : (cs.drop 5).take (Tryz.prog.cellsOf 3) = En.enc a5 := e5
    rw [hc] at e; exact e
  refine ⟨⟨a0, a1, a2, a3, a4, a5⟩, ?_, fun R hR => sepI (z0 R hR) (sepI (z1 R hR) (sepI (z2 R hR) (sepI (z3 R hR) (sepI (z4 R hR) (sepI (z5 R hR) (trivial))))))⟩
  have hp := xB6 [1, 1, 1, 1, 1, 1] 0 cs (by rw [hl]; kernel_rfl)
  have hq : cs = En.enc a0 ++ (En.enc a1 ++ (En.enc a2 ++ (En.enc a3 ++ (En.enc a4 ++ (En.enc a5 ++ ( [])))))) := by rw [← d0, ← d1, ← d2, ← d3, ← d4, ← d5]; exact hp
  rw [hq]; rfl⟩
instance : Inp Tryz.prog 38 (SL EvA) := xBQ Tryz.underlying38 (by kernel_rfl)
instance : Inp Tryz.prog 48 Msg := xBQ Tryz.underlying48 (by kernel_rfl)
structure xIy where
  ch : Int
  win : Int
  d : Msg
instance : En xIy := ⟨fun d => [.int .i64 d.ch, .int .i64 d.win, d.d.s.v], 3, fun _ => rfl, fun _ => rfl, by decide⟩
instance : Fz xIy := ⟨fun p => sep (Fz.fz p.ch) (sep (Fz.fz p.win) (sep (Fz.fz p.d) (fact True))), fun _ => XX (Fz.dup _) (XX (Fz.dup _) (XX (Fz.dup _) (xBP _)))⟩
instance : Inp Tryz.prog 50 xIy := ⟨fun {_ _ _ _ _ _ _ cs _} hsp h => by
  obtain ⟨xs, n, _, _, hl, hxl, hf⟩ := DataW.trod_struct Tryz.underlying50 h
  have g := fun i f hi (hlt : i < xs.length) => (hf i f hi).trans (List.getElem?_eq_getElem hlt)
  obtain ⟨a0, e0, z0⟩ := (inferInstance : Inp Tryz.prog 3 Int).h hsp (g 0 _ rfl (by rw [hxl]; decide))
  have d0 : (cs.drop 0).take 1 = En.enc a0 := by
    have hc : Tryz.prog.cellsOf 3 = 1 := by kernel_rfl
    have e : (cs.drop 0).take (Tryz.prog.cellsOf 3) = En.enc a0 := e0
    rw [hc] at e; exact e
  obtain ⟨a1, e1, z1⟩ := (inferInstance : Inp Tryz.prog 3 Int).h hsp (g 1 _ rfl (by rw [hxl]; decide))
  have d1 : (cs.drop 1).take 1 = En.enc a1 := by
    have hc : Tryz.prog.cellsOf 3 = 1 := by kernel_rfl
    have e : (cs.drop 1).take (Tryz.prog.cellsOf 3) = En.enc a1 := e1
    rw [hc] at e; exact e
  obtain ⟨a2, e2, z2⟩ := (inferInstance : Inp Tryz.prog 48 Msg).h hsp (g 2 _ rfl (by rw [hxl]; decide))
  have d2 : (cs.drop 2).take 1 = En.enc a2 := by
    have hc : Tryz.prog.cellsOf 48 = 1 := by kernel_rfl
    have e : (cs.drop 2).take (Tryz.prog.cellsOf 48) = En.enc a2 := e2
    rw [hc] at e; exact e
  refine ⟨⟨a0, a1, a2⟩, ?_, fun R hR => sepI (z0 R hR) (sepI (z1 R hR) (sepI (z2 R hR) (trivial)))⟩
  have hp := xB6 [1, 1, 1] 0 cs (by rw [hl]; kernel_rfl)
  have hq : cs = En.enc a0 ++ (En.enc a1 ++ (En.enc a2 ++ ( []))) := by rw [← d0, ← d1, ← d2]; exact hp
  rw [hq]; rfl⟩
instance : Inp Tryz.prog 50 xRY := Inp.mapI (fun a : xIy => ⟨a.ch, a.win, a.d⟩) (fun _ => rfl) fun _ _ _ h => xfO (VB (VB h))
instance : Inp Tryz.prog 39 (SL xRY) := xBQ Tryz.underlying39 (by kernel_rfl)
instance : Fz xB8 := ⟨fun p => sep (Fz.fz p.due) (sep (Fz.fz p.at_) (sep (Fz.fz p.part) (fact True))), fun _ => XX (Fz.dup _) (XX (Fz.dup _) (XX (Fz.dup _) (xBP _)))⟩
instance : Inp Tryz.prog 106 xB8 := ⟨fun {_ _ _ _ _ _ _ cs _} hsp h => by
  obtain ⟨xs, n, _, _, hl, hxl, hf⟩ := DataW.trod_struct Tryz.underlying106 h
  have g := fun i f hi (hlt : i < xs.length) => (hf i f hi).trans (List.getElem?_eq_getElem hlt)
  obtain ⟨a0, e0, z0⟩ := (inferInstance : Inp Tryz.prog 3 Int).h hsp (g 0 _ rfl (by rw [hxl]; decide))
  have d0 : (cs.drop 0).take 1 = En.enc a0 := by
    have hc : Tryz.prog.cellsOf 3 = 1 := by kernel_rfl
    have e : (cs.drop 0).take (Tryz.prog.cellsOf 3) = En.enc a0 := e0
    rw [hc] at e; exact e
  obtain ⟨a1, e1, z1⟩ := (inferInstance : Inp Tryz.prog 3 Int).h hsp (g 1 _ rfl (by rw [hxl]; decide))
  have d1 : (cs.drop 1).take 1 = En.enc a1 := by
    have hc : Tryz.prog.cellsOf 3 = 1 := by kernel_rfl
    have e : (cs.drop 1).take (Tryz.prog.cellsOf 3) = En.enc a1 := e1
    rw [hc] at e; exact e
  obtain ⟨a2, e2, z2⟩ := (inferInstance : Inp Tryz.prog 3 Int).h hsp (g 2 _ rfl (by rw [hxl]; decide))
  have d2 : (cs.drop 2).take 1 = En.enc a2 := by
    have hc : Tryz.prog.cellsOf 3 = 1 := by kernel_rfl
    have e : (cs.drop 2).take (Tryz.prog.cellsOf 3) = En.enc a2 := e2
    rw [hc] at e; exact e
  refine ⟨⟨a0, a1, a2⟩, ?_, fun R hR => sepI (z0 R hR) (sepI (z1 R hR) (sepI (z2 R hR) (trivial)))⟩
  have hp := xB6 [1, 1, 1] 0 cs (by rw [hl]; kernel_rfl)
  have hq : cs = En.enc a0 ++ (En.enc a1 ++ (En.enc a2 ++ ( []))) := by rw [← d0, ← d1, ← d2]; exact hp
  rw [hq]; rfl⟩
instance : Inp Tryz.prog 40 (SL xB8) := xBQ Tryz.underlying40 (by kernel_rfl)
instance : Inp Tryz.prog 43 (SL (SL Int)) := xBQ Tryz.underlying43 (by kernel_rfl)
structure xDh where
  run : SL Int
  idle : Int
  sleep : Int
  change : Int
instance : En xDh := ⟨fun d => [d.run.s.v, .int .i64 d.idle, .int .i64 d.sleep, .int .i64 d.change], 4, fun _ => rfl, fun _ => rfl, by decide⟩
instance : Fz xDh := ⟨fun p => sep (Fz.fz p.run) (sep (Fz.fz p.idle) (sep (Fz.fz p.sleep) (sep (Fz.fz p.change) (fact True)))), fun _ => XX (Fz.dup _) (XX (Fz.dup _) (XX (Fz.dup _) (XX (Fz.dup _) (xBP _))))⟩
instance : Inp Tryz.prog 42 xDh := ⟨fun {_ _ _ _ _ _ _ cs _} hsp h => by
  obtain ⟨xs, n, _, _, hl, hxl, hf⟩ := DataW.trod_struct Tryz.underlying42 h
  have g := fun i f hi (hlt : i < xs.length) => (hf i f hi).trans (List.getElem?_eq_getElem hlt)
  obtain ⟨a0, e0, z0⟩ := (inferInstance : Inp Tryz.prog 29 xFz).h hsp (g 0 _ rfl (by rw [hxl]; decide))
  have d0 : (cs.drop 0).take 1 = En.enc a0 := by
    have hc : Tryz.prog.cellsOf 29 = 1 := by kernel_rfl
    have e : (cs.drop 0).take (Tryz.prog.cellsOf 29) = En.enc a0 := e0
    rw [hc] at e; exact e
  obtain ⟨a1, e1, z1⟩ := (inferInstance : Inp Tryz.prog 3 Int).h hsp (g 1 _ rfl (by rw [hxl]; decide))
  have d1 : (cs.drop 1).take 1 = En.enc a1 := by
    have hc : Tryz.prog.cellsOf 3 = 1 := by kernel_rfl
    have e : (cs.drop 1).take (Tryz.prog.cellsOf 3) = En.enc a1 := e1
    rw [hc] at e; exact e
  obtain ⟨a2, e2, z2⟩ := (inferInstance : Inp Tryz.prog 3 Int).h hsp (g 2 _ rfl (by rw [hxl]; decide))
  have d2 : (cs.drop 2).take 1 = En.enc a2 := by
    have hc : Tryz.prog.cellsOf 3 = 1 := by kernel_rfl
    have e : (cs.drop 2).take (Tryz.prog.cellsOf 3) = En.enc a2 := e2
    rw [hc] at e; exact e
  obtain ⟨a3, e3, z3⟩ := (inferInstance : Inp Tryz.prog 3 Int).h hsp (g 3 _ rfl (by rw [hxl]; decide))
  have d3 : (cs.drop 3).take 1 = En.enc a3 := by
    have hc : Tryz.prog.cellsOf 3 = 1 := by kernel_rfl
    have e : (cs.drop 3).take (Tryz.prog.cellsOf 3) = En.enc a3 := e3
    rw [hc] at e; exact e
  refine ⟨⟨a0, a1, a2, a3⟩, ?_, fun R hR => sepI (z0 R hR) (sepI (z1 R hR) (sepI (z2 R hR) (sepI (z3 R hR) (trivial))))⟩
  have hp := xB6 [1, 1, 1, 1] 0 cs (by rw [hl]; kernel_rfl)
  have hq : cs = En.enc a0 ++ (En.enc a1 ++ (En.enc a2 ++ (En.enc a3 ++ ( [])))) := by rw [← d0, ← d1, ← d2, ← d3]; exact hp
  rw [hq]; rfl⟩
structure xE4 where
  evs : LEv
  ms : xLz
  bounds : xI4
  charge : xDh
  meter : Int
  sheds : xFz
  modes : xFz
  creds : xKu
  late : Int
instance : En xE4 := ⟨fun d => [d.evs.s.v, d.ms.s.v, d.bounds.s.v, d.charge.run.s.v, .int .i64 d.charge.idle, .int .i64 d.charge.sleep, .int .i64 d.charge.change, .int .i64 d.meter, d.sheds.s.v, d.modes.s.v, d.creds.s.v, .int .i64 d.late], 12, fun _ => rfl, fun _ => rfl, by decide⟩
instance : Fz xE4 := ⟨fun p => sep (Fz.fz p.evs) (sep (Fz.fz p.ms) (sep (Fz.fz p.bounds) (sep (Fz.fz p.charge) (sep (Fz.fz p.meter) (sep (Fz.fz p.sheds) (sep (Fz.fz p.modes) (sep (Fz.fz p.creds) (sep (Fz.fz p.late) (fact True))))))))), fun _ => XX (Fz.dup _) (XX (Fz.dup _) (XX (Fz.dup _) (XX (Fz.dup _) (XX (Fz.dup _) (XX (Fz.dup _) (XX (Fz.dup _) (XX (Fz.dup _) (XX (Fz.dup _) (xBP _)))))))))⟩
instance : Inp Tryz.prog 45 xE4 := ⟨fun {_ _ _ _ _ _ _ cs _} hsp h => by
  obtain ⟨xs, n, _, _, hl, hxl, hf⟩ := DataW.trod_struct Tryz.underlying45 h
  have g := fun i f hi (hlt : i < xs.length) => (hf i f hi).trans (List.getElem?_eq_getElem hlt)
  obtain ⟨a0, e0, z0⟩ := (inferInstance : Inp Tryz.prog 38 LEv).h hsp (g 0 _ rfl (by rw [hxl]; decide))
  have d0 : (cs.drop 0).take 1 = En.enc a0 := by
    have hc : Tryz.prog.cellsOf 38 = 1 := by kernel_rfl
    have e : (cs.drop 0).take (Tryz.prog.cellsOf 38) = En.enc a0 := e0
    rw [hc] at e; exact e
  obtain ⟨a1, e1, z1⟩ := (inferInstance : Inp Tryz.prog 39 xLz).h hsp (g 1 _ rfl (by rw [hxl]; decide))
  have d1 : (cs.drop 1).take 1 = En.enc a1 := by
    have hc : Tryz.prog.cellsOf 39 = 1 := by kernel_rfl
    have e : (cs.drop 1).take (Tryz.prog.cellsOf 39) = En.enc a1 := e1
    rw [hc] at e; exact e
  obtain ⟨a2, e2, z2⟩ := (inferInstance : Inp Tryz.prog 40 xI4).h hsp (g 2 _ rfl (by rw [hxl]; decide))
  have d2 : (cs.drop 2).take 1 = En.enc a2 := by
    have hc : Tryz.prog.cellsOf 40 = 1 := by kernel_rfl
    have e : (cs.drop 2).take (Tryz.prog.cellsOf 40) = En.enc a2 := e2
    rw [hc] at e; exact e
  obtain ⟨a3, e3, z3⟩ := (inferInstance : Inp Tryz.prog 42 xDh).h hsp (g 3 _ rfl (by rw [hxl]; decide))
  have d3 : (cs.drop 3).take 4 = En.enc a3 := by
    have hc : Tryz.prog.cellsOf 42 = 4 := by kernel_rfl
    have e : (cs.drop 3).take (Tryz.prog.cellsOf 42) = En.enc a3 := e3
    rw [hc] at e; exact e
  obtain ⟨a4, e4, z4⟩ := (inferInstance : Inp Tryz.prog 3 Int).h hsp (g 4 _ rfl (by rw [hxl]; decide))
  have d4 : (cs.drop 7).take 1 = En.enc a4 := by
    have hc : Tryz.prog.cellsOf 3 = 1 := by kernel_rfl
    have e : (cs.drop 7).take (Tryz.prog.cellsOf 3) = En.enc a4 := e4
    rw [hc] at e; exact e
  obtain ⟨a5, e5, z5⟩ := (inferInstance : Inp Tryz.prog 29 xFz).h hsp (g 5 _ rfl (by rw [hxl]; decide))
  have d5 : (cs.drop 8).take 1 = En.enc a5 := by
    have hc : Tryz.prog.cellsOf 29 = 1 := by kernel_rfl
    have e : (cs.drop 8).take (Tryz.prog.cellsOf 29) = En.enc a5 := e5
    rw [hc] at e; exact e
  obtain ⟨a6, e6, z6⟩ := (inferInstance : Inp Tryz.prog 29 xFz).h hsp (g 6 _ rfl (by rw [hxl]; decide))
  have d6 : (cs.drop 9).take 1 = En.enc a6 := by
    have hc : Tryz.prog.cellsOf 29 = 1 := by kernel_rfl
    have e : (cs.drop 9).take (Tryz.prog.cellsOf 29) = En.enc a6 := e6
    rw [hc] at e; exact e
  obtain ⟨a7, e7, z7⟩ := (inferInstance : Inp Tryz.prog 43 xKu).h hsp (g 7 _ rfl (by rw [hxl]; decide))
  have d7 : (cs.drop 10).take 1 = En.enc a7 := by
    have hc : Tryz.prog.cellsOf 43 = 1 := by kernel_rfl
    have e : (cs.drop 10).take (Tryz.prog.cellsOf 43) = En.enc a7 := e7
    rw [hc] at e; exact e
  obtain ⟨a8, e8, z8⟩ := (inferInstance : Inp Tryz.prog 3 Int).h hsp (g 8 _ rfl (by rw [hxl]; decide))
  have d8 : (cs.drop 11).take 1 = En.enc a8 := by
    have hc : Tryz.prog.cellsOf 3 = 1 := by kernel_rfl
    have e : (cs.drop 11).take (Tryz.prog.cellsOf 3) = En.enc a8 := e8
    rw [hc] at e; exact e
  refine ⟨⟨a0, a1, a2, a3, a4, a5, a6, a7, a8⟩, ?_, fun R hR => sepI (z0 R hR) (sepI (z1 R hR) (sepI (z2 R hR) (sepI (z3 R hR) (sepI (z4 R hR) (sepI (z5 R hR) (sepI (z6 R hR) (sepI (z7 R hR) (sepI (z8 R hR) (trivial)))))))))⟩
  have hp := xB6 [1, 1, 1, 4, 1, 1, 1, 1, 1] 0 cs (by rw [hl]; kernel_rfl)
  have hq : cs = En.enc a0 ++ (En.enc a1 ++ (En.enc a2 ++ (En.enc a3 ++ (En.enc a4 ++ (En.enc a5 ++ (En.enc a6 ++ (En.enc a7 ++ (En.enc a8 ++ ( []))))))))) := by rw [← d0, ← d1, ← d2, ← d3, ← d4, ← d5, ← d6, ← d7, ← d8]; exact hp
  rw [hq]; rfl⟩
def xE4.r (a : xE4) : xCT := ⟨a.evs.s, a.ms.s, a.bounds.s, a.charge.run.s, a.charge.idle, a.charge.sleep, a.charge.change, a.meter, a.sheds.s, a.modes.s, a.creds.s, a.late⟩
end Go.Proofs.YtkapfpliiaegfaaGreat
