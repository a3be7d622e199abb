/- Whatever the configuration, the result and the partition, the law PlainParts returns true (no condition). -/
import Derived.Test.YtmebccjndhlpoaaGreatZ45
import Derived.Test.YtmebccjndhlpoaaGreatTR
namespace Go.Proofs.YtmebccjndhlpoaaGreat
open Go Go.Wk Go.ChangeShapes Go.WideShapes Go.ChangeAt Go.RowKit
set_option maxRecDepth 100000
abbrev LEv := SL EvC
abbrev xOk := SL xBH
abbrev xOf := SL xC8
abbrev xOj := SL (SL Int)
instance : Fz EvC := ⟨fun p => sep (Fz.fz p.part) (sep (Fz.fz p.win) (sep (Fz.fz p.proc) (sep (Fz.fz p.call) (sep (Fz.fz p.code) (sep (Fz.fz p.value) (fact True)))))), fun _ => XX (Fz.dup _) (XX (Fz.dup _) (XX (Fz.dup _) (XX (Fz.dup _) (XX (Fz.dup _) (XX (Fz.dup _) (xBN _))))))⟩
instance : Inp Tryz.prog 67 EvC := ⟨fun {_ _ _ _ _ _ _ cs _} hsp h => by
  obtain ⟨xs, n, _, _, hl, hxl, hf⟩ := DataW.trod_struct Tryz.underlying67 h
  have g := fun i f hi (hlt : i < xs.length) => (hf i f hi).trans (List.getElem?_eq_getElem hlt)
  obtain ⟨a0, e0, z0⟩ := (inferInstance : Inp Tryz.prog 3 Int).h hsp (g 0 _ rfl (by rw [hxl]; decide))
  have d0 : (cs.drop 0).take 1 = En.enc a0 := by
    have hc : Tryz.prog.cellsOf 3 = 1 := by kernel_rfl
    have e : (cs.drop 0).take (Tryz.prog.cellsOf 3) = En.enc a0 := e0
    rw [hc] at e; exact e
  obtain ⟨a1, e1, z1⟩ := (inferInstance : Inp Tryz.prog 3 Int).h hsp (g 1 _ rfl (by rw [hxl]; decide))
  have d1 : (cs.drop 1).take 1 = En.enc a1 := by
    have hc : Tryz.prog.cellsOf 3 = 1 := by kernel_rfl
    have e : (cs.drop 1).take (Tryz.prog.cellsOf 3) = En.enc a1 := e1
    rw [hc] at e; exact e
  obtain ⟨a2, e2, z2⟩ := (inferInstance : Inp Tryz.prog 3 Int).h hsp (g 2 _ rfl (by rw [hxl]; decide))
  have d2 : (cs.drop 2).take 1 = En.enc a2 := by
    have hc : Tryz.prog.cellsOf 3 = 1 := by kernel_rfl
    have e : (cs.drop 2).take (Tryz.prog.cellsOf 3) = En.enc a2 := e2
    rw [hc] at e; exact e
  obtain ⟨a3, e3, z3⟩ := (inferInstance : Inp Tryz.prog 3 Int).h hsp (g 3 _ rfl (by rw [hxl]; decide))
  have d3 : (cs.drop 3).take 1 = En.enc a3 := by
    have hc : Tryz.prog.cellsOf 3 = 1 := by kernel_rfl
    have e : (cs.drop 3).take (Tryz.prog.cellsOf 3) = En.enc a3 := e3
    rw [hc] at e; exact e
  obtain ⟨a4, e4, z4⟩ := (inferInstance : Inp Tryz.prog 3 Int).h hsp (g 4 _ rfl (by rw [hxl]; decide))
  have d4 : (cs.drop 4).take 1 = En.enc a4 := by
    have hc : Tryz.prog.cellsOf 3 = 1 := by kernel_rfl
    have e : (cs.drop 4).take (Tryz.prog.cellsOf 3) = En.enc a4 := e4
    rw [hc] at e; exact e
  obtain ⟨a5, e5, z5⟩ := (inferInstance : Inp Tryz.prog 3 Int).h hsp (g 5 _ rfl (by rw [hxl]; decide))
  have d5 : (cs.drop 5).take 1 = En.enc a5 := by
    have hc : Tryz.prog.cellsOf 3 = 1 := by kernel_rfl
    have e : (cs.drop 5).take (Tryz.prog.cellsOf 3) = En.enc a5 := e5
    rw [hc] at e; exact e
  refine ⟨⟨a0, a1, a2, a3, a4, a5⟩, ?_, fun R hR => sepI (z0 R hR) (sepI (z1 R hR) (sepI (z2 R hR) (sepI (z3 R hR) (sepI (z4 R hR) (sepI (z5 R hR) (trivial))))))⟩
  have hp := xCa [1, 1, 1, 1, 1, 1] 0 cs (by rw [hl]; kernel_rfl)
  have hq : cs = En.enc a0 ++ (En.enc a1 ++ (En.enc a2 ++ (En.enc a3 ++ (En.enc a4 ++ (En.enc a5 ++ ( [])))))) := by rw [← d0, ← d1, ← d2, ← d3, ← d4, ← d5]; exact hp
  rw [hq]; rfl⟩
instance : Inp Tryz.prog 40 (SL EvC) := xBX Tryz.underlying40 (by kernel_rfl)
instance : Inp Tryz.prog 60 Msg := xBX Tryz.underlying60 (by kernel_rfl)
structure xOg where
  ch : Int
  win : Int
  d : Msg
instance : En xOg := ⟨fun d => [.int .i64 d.ch, .int .i64 d.win, d.d.s.v], 3, fun _ => rfl, fun _ => rfl, by decide⟩
instance : Fz xOg := ⟨fun p => sep (Fz.fz p.ch) (sep (Fz.fz p.win) (sep (Fz.fz p.d) (fact True))), fun _ => XX (Fz.dup _) (XX (Fz.dup _) (XX (Fz.dup _) (xBN _)))⟩
instance : Inp Tryz.prog 71 xOg := ⟨fun {_ _ _ _ _ _ _ cs _} hsp h => by
  obtain ⟨xs, n, _, _, hl, hxl, hf⟩ := DataW.trod_struct Tryz.underlying71 h
  have g := fun i f hi (hlt : i < xs.length) => (hf i f hi).trans (List.getElem?_eq_getElem hlt)
  obtain ⟨a0, e0, z0⟩ := (inferInstance : Inp Tryz.prog 3 Int).h hsp (g 0 _ rfl (by rw [hxl]; decide))
  have d0 : (cs.drop 0).take 1 = En.enc a0 := by
    have hc : Tryz.prog.cellsOf 3 = 1 := by kernel_rfl
    have e : (cs.drop 0).take (Tryz.prog.cellsOf 3) = En.enc a0 := e0
    rw [hc] at e; exact e
  obtain ⟨a1, e1, z1⟩ := (inferInstance : Inp Tryz.prog 3 Int).h hsp (g 1 _ rfl (by rw [hxl]; decide))
  have d1 : (cs.drop 1).take 1 = En.enc a1 := by
    have hc : Tryz.prog.cellsOf 3 = 1 := by kernel_rfl
    have e : (cs.drop 1).take (Tryz.prog.cellsOf 3) = En.enc a1 := e1
    rw [hc] at e; exact e
  obtain ⟨a2, e2, z2⟩ := (inferInstance : Inp Tryz.prog 60 Msg).h hsp (g 2 _ rfl (by rw [hxl]; decide))
  have d2 : (cs.drop 2).take 1 = En.enc a2 := by
    have hc : Tryz.prog.cellsOf 60 = 1 := by kernel_rfl
    have e : (cs.drop 2).take (Tryz.prog.cellsOf 60) = En.enc a2 := e2
    rw [hc] at e; exact e
  refine ⟨⟨a0, a1, a2⟩, ?_, fun R hR => sepI (z0 R hR) (sepI (z1 R hR) (sepI (z2 R hR) (trivial)))⟩
  have hp := xCa [1, 1, 1] 0 cs (by rw [hl]; kernel_rfl)
  have hq : cs = En.enc a0 ++ (En.enc a1 ++ (En.enc a2 ++ ( []))) := by rw [← d0, ← d1, ← d2]; exact hp
  rw [hq]; rfl⟩
instance : Inp Tryz.prog 71 xBH := Inp.mapI (fun a : xOg => ⟨a.ch, a.win, a.d⟩) (fun _ => rfl) fun _ _ _ h => xfO (VB (VB h))
instance : Inp Tryz.prog 41 (SL xBH) := xBX Tryz.underlying41 (by kernel_rfl)
instance : Fz xC8 := ⟨fun p => sep (Fz.fz p.due) (sep (Fz.fz p.at_) (sep (Fz.fz p.part) (fact True))), fun _ => XX (Fz.dup _) (XX (Fz.dup _) (XX (Fz.dup _) (xBN _)))⟩
instance : Inp Tryz.prog 142 xC8 := ⟨fun {_ _ _ _ _ _ _ cs _} hsp h => by
  obtain ⟨xs, n, _, _, hl, hxl, hf⟩ := DataW.trod_struct Tryz.underlying142 h
  have g := fun i f hi (hlt : i < xs.length) => (hf i f hi).trans (List.getElem?_eq_getElem hlt)
  obtain ⟨a0, e0, z0⟩ := (inferInstance : Inp Tryz.prog 3 Int).h hsp (g 0 _ rfl (by rw [hxl]; decide))
  have d0 : (cs.drop 0).take 1 = En.enc a0 := by
    have hc : Tryz.prog.cellsOf 3 = 1 := by kernel_rfl
    have e : (cs.drop 0).take (Tryz.prog.cellsOf 3) = En.enc a0 := e0
    rw [hc] at e; exact e
  obtain ⟨a1, e1, z1⟩ := (inferInstance : Inp Tryz.prog 3 Int).h hsp (g 1 _ rfl (by rw [hxl]; decide))
  have d1 : (cs.drop 1).take 1 = En.enc a1 := by
    have hc : Tryz.prog.cellsOf 3 = 1 := by kernel_rfl
    have e : (cs.drop 1).take (Tryz.prog.cellsOf 3) = En.enc a1 := e1
    rw [hc] at e; exact e
  obtain ⟨a2, e2, z2⟩ := (inferInstance : Inp Tryz.prog 3 Int).h hsp (g 2 _ rfl (by rw [hxl]; decide))
  have d2 : (cs.drop 2).take 1 = En.enc a2 := by
    have hc : Tryz.prog.cellsOf 3 = 1 := by kernel_rfl
    have e : (cs.drop 2).take (Tryz.prog.cellsOf 3) = En.enc a2 := e2
    rw [hc] at e; exact e
  refine ⟨⟨a0, a1, a2⟩, ?_, fun R hR => sepI (z0 R hR) (sepI (z1 R hR) (sepI (z2 R hR) (trivial)))⟩
  have hp := xCa [1, 1, 1] 0 cs (by rw [hl]; kernel_rfl)
  have hq : cs = En.enc a0 ++ (En.enc a1 ++ (En.enc a2 ++ ( []))) := by rw [← d0, ← d1, ← d2]; exact hp
  rw [hq]; rfl⟩
instance : Inp Tryz.prog 42 (SL xC8) := xBX Tryz.underlying42 (by kernel_rfl)
instance : Inp Tryz.prog 45 (SL (SL Int)) := xBX Tryz.underlying45 (by kernel_rfl)
structure xOa where
  run : SL Int
  idle : Int
  sleep : Int
  change : Int
instance : En xOa := ⟨fun d => [d.run.s.v, .int .i64 d.idle, .int .i64 d.sleep, .int .i64 d.change], 4, fun _ => rfl, fun _ => rfl, by decide⟩
instance : Fz xOa := ⟨fun p => sep (Fz.fz p.run) (sep (Fz.fz p.idle) (sep (Fz.fz p.sleep) (sep (Fz.fz p.change) (fact True)))), fun _ => XX (Fz.dup _) (XX (Fz.dup _) (XX (Fz.dup _) (XX (Fz.dup _) (xBN _))))⟩
instance : Inp Tryz.prog 44 xOa := ⟨fun {_ _ _ _ _ _ _ cs _} hsp h => by
  obtain ⟨xs, n, _, _, hl, hxl, hf⟩ := DataW.trod_struct Tryz.underlying44 h
  have g := fun i f hi (hlt : i < xs.length) => (hf i f hi).trans (List.getElem?_eq_getElem hlt)
  obtain ⟨a0, e0, z0⟩ := (inferInstance : Inp Tryz.prog 29 xKi).h hsp (g 0 _ rfl (by rw [hxl]; decide))
  have d0 : (cs.drop 0).take 1 = En.enc a0 := by
    have hc : Tryz.prog.cellsOf 29 = 1 := by kernel_rfl
    have e : (cs.drop 0).take (Tryz.prog.cellsOf 29) = En.enc a0 := e0
    rw [hc] at e; exact e
  obtain ⟨a1, e1, z1⟩ := (inferInstance : Inp Tryz.prog 3 Int).h hsp (g 1 _ rfl (by rw [hxl]; decide))
  have d1 : (cs.drop 1).take 1 = En.enc a1 := by
    have hc : Tryz.prog.cellsOf 3 = 1 := by kernel_rfl
    have e : (cs.drop 1).take (Tryz.prog.cellsOf 3) = En.enc a1 := e1
    rw [hc] at e; exact e
  obtain ⟨a2, e2, z2⟩ := (inferInstance : Inp Tryz.prog 3 Int).h hsp (g 2 _ rfl (by rw [hxl]; decide))
  have d2 : (cs.drop 2).take 1 = En.enc a2 := by
    have hc : Tryz.prog.cellsOf 3 = 1 := by kernel_rfl
    have e : (cs.drop 2).take (Tryz.prog.cellsOf 3) = En.enc a2 := e2
    rw [hc] at e; exact e
  obtain ⟨a3, e3, z3⟩ := (inferInstance : Inp Tryz.prog 3 Int).h hsp (g 3 _ rfl (by rw [hxl]; decide))
  have d3 : (cs.drop 3).take 1 = En.enc a3 := by
    have hc : Tryz.prog.cellsOf 3 = 1 := by kernel_rfl
    have e : (cs.drop 3).take (Tryz.prog.cellsOf 3) = En.enc a3 := e3
    rw [hc] at e; exact e
  refine ⟨⟨a0, a1, a2, a3⟩, ?_, fun R hR => sepI (z0 R hR) (sepI (z1 R hR) (sepI (z2 R hR) (sepI (z3 R hR) (trivial))))⟩
  have hp := xCa [1, 1, 1, 1] 0 cs (by rw [hl]; kernel_rfl)
  have hq : cs = En.enc a0 ++ (En.enc a1 ++ (En.enc a2 ++ (En.enc a3 ++ ( [])))) := by rw [← d0, ← d1, ← d2, ← d3]; exact hp
  rw [hq]; rfl⟩
structure xOh where
  evs : LEv
  ms : xOk
  bounds : xOf
  charge : xOa
  meter : Int
  sheds : xKi
  modes : xKi
  creds : xOj
  late : Int
instance : En xOh := ⟨fun d => [d.evs.s.v, d.ms.s.v, d.bounds.s.v, d.charge.run.s.v, .int .i64 d.charge.idle, .int .i64 d.charge.sleep, .int .i64 d.charge.change, .int .i64 d.meter, d.sheds.s.v, d.modes.s.v, d.creds.s.v, .int .i64 d.late], 12, fun _ => rfl, fun _ => rfl, by decide⟩
instance : Fz xOh := ⟨fun p => sep (Fz.fz p.evs) (sep (Fz.fz p.ms) (sep (Fz.fz p.bounds) (sep (Fz.fz p.charge) (sep (Fz.fz p.meter) (sep (Fz.fz p.sheds) (sep (Fz.fz p.modes) (sep (Fz.fz p.creds) (sep (Fz.fz p.late) (fact True))))))))), fun _ => XX (Fz.dup _) (XX (Fz.dup _) (XX (Fz.dup _) (XX (Fz.dup _) (XX (Fz.dup _) (XX (Fz.dup _) (XX (Fz.dup _) (XX (Fz.dup _) (XX (Fz.dup _) (xBN _)))))))))⟩
instance : Inp Tryz.prog 47 xOh := ⟨fun {_ _ _ _ _ _ _ cs _} hsp h => by
  obtain ⟨xs, n, _, _, hl, hxl, hf⟩ := DataW.trod_struct Tryz.underlying47 h
  have g := fun i f hi (hlt : i < xs.length) => (hf i f hi).trans (List.getElem?_eq_getElem hlt)
  obtain ⟨a0, e0, z0⟩ := (inferInstance : Inp Tryz.prog 40 LEv).h hsp (g 0 _ rfl (by rw [hxl]; decide))
  have d0 : (cs.drop 0).take 1 = En.enc a0 := by
    have hc : Tryz.prog.cellsOf 40 = 1 := by kernel_rfl
    have e : (cs.drop 0).take (Tryz.prog.cellsOf 40) = En.enc a0 := e0
    rw [hc] at e; exact e
  obtain ⟨a1, e1, z1⟩ := (inferInstance : Inp Tryz.prog 41 xOk).h hsp (g 1 _ rfl (by rw [hxl]; decide))
  have d1 : (cs.drop 1).take 1 = En.enc a1 := by
    have hc : Tryz.prog.cellsOf 41 = 1 := by kernel_rfl
    have e : (cs.drop 1).take (Tryz.prog.cellsOf 41) = En.enc a1 := e1
    rw [hc] at e; exact e
  obtain ⟨a2, e2, z2⟩ := (inferInstance : Inp Tryz.prog 42 xOf).h hsp (g 2 _ rfl (by rw [hxl]; decide))
  have d2 : (cs.drop 2).take 1 = En.enc a2 := by
    have hc : Tryz.prog.cellsOf 42 = 1 := by kernel_rfl
    have e : (cs.drop 2).take (Tryz.prog.cellsOf 42) = En.enc a2 := e2
    rw [hc] at e; exact e
  obtain ⟨a3, e3, z3⟩ := (inferInstance : Inp Tryz.prog 44 xOa).h hsp (g 3 _ rfl (by rw [hxl]; decide))
  have d3 : (cs.drop 3).take 4 = En.enc a3 := by
    have hc : Tryz.prog.cellsOf 44 = 4 := by kernel_rfl
    have e : (cs.drop 3).take (Tryz.prog.cellsOf 44) = En.enc a3 := e3
    rw [hc] at e; exact e
  obtain ⟨a4, e4, z4⟩ := (inferInstance : Inp Tryz.prog 3 Int).h hsp (g 4 _ rfl (by rw [hxl]; decide))
  have d4 : (cs.drop 7).take 1 = En.enc a4 := by
    have hc : Tryz.prog.cellsOf 3 = 1 := by kernel_rfl
    have e : (cs.drop 7).take (Tryz.prog.cellsOf 3) = En.enc a4 := e4
    rw [hc] at e; exact e
  obtain ⟨a5, e5, z5⟩ := (inferInstance : Inp Tryz.prog 29 xKi).h hsp (g 5 _ rfl (by rw [hxl]; decide))
  have d5 : (cs.drop 8).take 1 = En.enc a5 := by
    have hc : Tryz.prog.cellsOf 29 = 1 := by kernel_rfl
    have e : (cs.drop 8).take (Tryz.prog.cellsOf 29) = En.enc a5 := e5
    rw [hc] at e; exact e
  obtain ⟨a6, e6, z6⟩ := (inferInstance : Inp Tryz.prog 29 xKi).h hsp (g 6 _ rfl (by rw [hxl]; decide))
  have d6 : (cs.drop 9).take 1 = En.enc a6 := by
    have hc : Tryz.prog.cellsOf 29 = 1 := by kernel_rfl
    have e : (cs.drop 9).take (Tryz.prog.cellsOf 29) = En.enc a6 := e6
    rw [hc] at e; exact e
  obtain ⟨a7, e7, z7⟩ := (inferInstance : Inp Tryz.prog 45 xOj).h hsp (g 7 _ rfl (by rw [hxl]; decide))
  have d7 : (cs.drop 10).take 1 = En.enc a7 := by
    have hc : Tryz.prog.cellsOf 45 = 1 := by kernel_rfl
    have e : (cs.drop 10).take (Tryz.prog.cellsOf 45) = En.enc a7 := e7
    rw [hc] at e; exact e
  obtain ⟨a8, e8, z8⟩ := (inferInstance : Inp Tryz.prog 3 Int).h hsp (g 8 _ rfl (by rw [hxl]; decide))
  have d8 : (cs.drop 11).take 1 = En.enc a8 := by
    have hc : Tryz.prog.cellsOf 3 = 1 := by kernel_rfl
    have e : (cs.drop 11).take (Tryz.prog.cellsOf 3) = En.enc a8 := e8
    rw [hc] at e; exact e
  refine ⟨⟨a0, a1, a2, a3, a4, a5, a6, a7, a8⟩, ?_, fun R hR => sepI (z0 R hR) (sepI (z1 R hR) (sepI (z2 R hR) (sepI (z3 R hR) (sepI (z4 R hR) (sepI (z5 R hR) (sepI (z6 R hR) (sepI (z7 R hR) (sepI (z8 R hR) (trivial)))))))))⟩
  have hp := xCa [1, 1, 1, 4, 1, 1, 1, 1, 1] 0 cs (by rw [hl]; kernel_rfl)
  have hq : cs = En.enc a0 ++ (En.enc a1 ++ (En.enc a2 ++ (En.enc a3 ++ (En.enc a4 ++ (En.enc a5 ++ (En.enc a6 ++ (En.enc a7 ++ (En.enc a8 ++ ( []))))))))) := by rw [← d0, ← d1, ← d2, ← d3, ← d4, ← d5, ← d6, ← d7, ← d8]; exact hp
  rw [hq]; rfl⟩
theorem plainParts_lifted (os : Os) (started : os.Started) (H : Type) (enc : TypeId × Value → H) :
    ReturnsInHanded {} Tryz.checked os 5 .any (Rows.plainPartsSpec.pre6 enc Tryz.prog Tryz.f5 Rows.plainPartsRow.domain false) (Rows.plainPartsSpec.post enc Tryz.prog Tryz.f5 false true false false) := by
  refine returnsInHanded_of_change (C := Tryz.checked) Tryz.own started (by kernel_rfl) Tryz.func5
    (ChangeSpec.witness6 (enc := enc) (C := Tryz.checked) false ⟨#[], #[.agg #[.slice none 0 0, .slice none 0 0, .slice none 0 0, .slice none 0 0, .slice none 0 0, .int .i64 0, .int .i64 0, .int .i64 0, .int .i64 0, .int .i64 0, .int .i64 0, .slice none 0 0, .slice none 0 0], .agg #[.slice none 0 0, .slice none 0 0, .slice none 0 0, .slice none 0 0, .int .i64 0, .int .i64 0, .int .i64 0, .int .i64 0, .slice none 0 0, .slice none 0 0, .slice none 0 0, .int .i64 0], .int .i64 0], []⟩ 12 (by kernel_rfl) (by kernel_rfl) (by kernel_rfl) (by kernel_rfl)) ?_
  intro W base args ds gs before hval0 hW _ _
  have hval : ∀ (j : Nat) t v, Tryz.f5.params[j]? = some t → args[j]? = some v → Value.okWide Tryz.prog W .any base t v := hval0
  have hpost := fun W' hb => xIy (W' := W') (tb := 4) Tryz.laidOut (by kernel_rfl) rfl (by kernel_rfl) Tryz.underlying4 (fun ds hd => by
    match ds, hd with
    | [_, _, _], _ => exact ⟨rfl, rfl, rfl⟩) hW hb
  obtain ⟨p, q, hA0, hV, rfl, hfz, hnd⟩ := hW
  have hA : DataW.TrodAll enc Tryz.prog W 0 (fun _ => true) true Tryz.f5.params.toList args.toList ds p := hA0
  rw [Tryz.params5] at hA hval
  obtain ⟨v0, v1, v2, d0, d1, d2, p0, p1, p2, rfl, rfl, rfl, h0, h1, h2⟩ := trodAll_three hA
  obtain ⟨a, rfl, za⟩ := xHi (α := xEK) (t := 33) Tryz.underlying33 (hval 0 _ v0 rfl rfl) (fun _ => rfl) h0
  obtain ⟨b, rfl, zb⟩ := xHi (α := xOh) (t := 47) Tryz.underlying47 (hval 1 _ v1 rfl rfl) (fun _ => rfl) h1
  obtain ⟨c, ec, zc⟩ := xOi (α := Int) (t := 3) (by kernel_rfl) (hval 2 _ v2 rfl rfl) (fun _ => rfl) h2
  cases ec
  refine (xIW (W := W) (xMm (c := a.d) (ev := b.evs.s) (ms := b.ms.s) (bd := b.bounds.s) (rn := b.charge.run.s) (sh := b.sheds.s) (md := b.modes.s) (cr := b.creds.s) (i1 := b.charge.idle) (i2 := b.charge.sleep) (i3 := b.charge.change) (i4 := b.meter) (i5 := b.late) (part := c) (evs := b.evs.d) (msgs := b.ms.d)) (r := .bool true) (fun v l' h => h.1) (fun A hA => ?_)).mono fun e W' ⟨he, hb⟩ => ⟨_, he, hpost W' hb⟩
  rcases List.mem_append.1 hA with hA | hA
  · exact fun R hR => xJN (za R hR) A hA
  simp only [List.mem_cons, List.not_mem_nil, or_false] at hA
  rcases hA with rfl | rfl | rfl
  · exact fun R hR => xp5 (xfO (zb R hR))
  · exact fun R hR => xp5 (xfO (VB (zb R hR)))
  · exact fun R hR => xfe (xfO (VB (zb R hR)))
theorem xL4 {a b : Bool} (h1 : a = true) (h2 : b = true) : (a && b) = true := by rw [h1, h2]; rfl
set_option maxHeartbeats 6400000
theorem xN9 : joinedFacts Tryz.pinned.checked.prog 5 Tryz.f5 Rows.plainPartsSpec Rows.plainPartsRow = true := by
  unfold joinedFacts
  repeat' (with_reducible refine xL4 ?_ ?_)
  all_goals (as_aux_lemma => kernel_rfl)
theorem xOb : Tryz.pinned.checked.prog.funcNamed Rows.plainPartsRow.func = some 5 := by kernel_rfl
theorem xOd : Tryz.f5.isInstance Tryz.pinned.checked.prog Rows.plainPartsRow.origin Rows.plainPartsRow.targs := of_decide_eq_true (by kernel_rfl)
theorem xOc : Tryz.f5.isWrapper Tryz.pinned.checked.prog Rows.plainPartsRow.wrapper Rows.plainPartsRow.mainSum := by unfold Func.isWrapper; first | (rw [if_pos (by decide +kernel)]; kernel_rfl) | (rw [if_neg (by decide +kernel)]; exact ⟨rfl, rfl⟩)
theorem plainParts_holds : Rows.PlainPartsSaid :=
  OpenClaim.holds_of_wide 5 Tryz.f5 rfl rfl rfl rfl rfl rfl rfl ⟨rfl, rfl, rfl, rfl, rfl⟩ rfl rfl rfl rfl rfl xOb Tryz.func5 xN9 xOd xOc
    (fun os started H enc _ => plainParts_lifted os started H enc)
end Go.Proofs.YtmebccjndhlpoaaGreat
