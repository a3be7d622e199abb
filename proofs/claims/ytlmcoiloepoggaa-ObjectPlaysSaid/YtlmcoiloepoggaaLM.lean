/- ObjectPlays: whatever is taken, set, put and shown, objects tell, and have, step by step, what the document says: of the first 40 acts, of at most 300 bytes each: no condition. -/
import Derived.Test.YtlmcoiloepoggaaOS
import Derived.Test.YtlmcoiloepoggaaLJ
namespace Go.Proofs.Ytlmcoiloepoggaa
open Go Go.Wk Go.ChangeShapes Go.WideShapes Go.ChangeAt Go.RowKit
set_option maxRecDepth 100000
abbrev LReg := SL RegC
abbrev LProc := SL ProcC
abbrev LPort := SL PortC
abbrev LSem := SL SemC
abbrev LPool := SL PoolC
abbrev LInt := SL Int
instance : Fz RegC := ⟨fun p => sep (Fz.fz p.base) (sep (Fz.fz p.size) (sep (Fz.fz p.w) (fact True))), fun _ => dup_sep (Fz.dup _) (dup_sep (Fz.dup _) (dup_sep (Fz.dup _) (dup_fact _)))⟩
instance : Inp Try.prog 210 RegC := ⟨fun {_ _ _ _ _ _ _ cs _} hsp h => by
  obtain ⟨xs, n, _, _, hl, hxl, hf⟩ := DataW.trod_struct Try.underlying210 h
  have g := fun i f hi (hlt : i < xs.length) => (hf i f hi).trans (List.getElem?_eq_getElem hlt)
  obtain ⟨a0, e0, z0⟩ := (inferInstance : Inp Try.prog 3 Int).h hsp (g 0 _ rfl (by rw [hxl]; decide))
  have d0 : (cs.drop 0).take 1 = En.enc a0 := by
    have hc : Try.prog.cellsOf 3 = 1 := by kernel_rfl
    have e : (cs.drop 0).take (Try.prog.cellsOf 3) = En.enc a0 := e0
    rw [hc] at e; exact e
  obtain ⟨a1, e1, z1⟩ := (inferInstance : Inp Try.prog 3 Int).h hsp (g 1 _ rfl (by rw [hxl]; decide))
  have d1 : (cs.drop 1).take 1 = En.enc a1 := by
    have hc : Try.prog.cellsOf 3 = 1 := by kernel_rfl
    have e : (cs.drop 1).take (Try.prog.cellsOf 3) = En.enc a1 := e1
    rw [hc] at e; exact e
  obtain ⟨a2, e2, z2⟩ := (inferInstance : Inp Try.prog 4 Bool).h hsp (g 2 _ rfl (by rw [hxl]; decide))
  have d2 : (cs.drop 2).take 1 = En.enc a2 := by
    have hc : Try.prog.cellsOf 4 = 1 := by kernel_rfl
    have e : (cs.drop 2).take (Try.prog.cellsOf 4) = En.enc a2 := e2
    rw [hc] at e; exact e
  refine ⟨⟨a0, a1, a2⟩, ?_, fun R hR => sepI (z0 R hR) (sepI (z1 R hR) (sepI (z2 R hR) (trivial)))⟩
  have hp := pcs_eq [1, 1, 1] 0 cs (by rw [hl]; kernel_rfl)
  have hq : cs = En.enc a0 ++ (En.enc a1 ++ (En.enc a2 ++ ( []))) := by rw [← d0, ← d1, ← d2]; exact hp
  rw [hq]; rfl⟩
instance : Fz ProcC := ⟨fun p => sep (Fz.fz p.prio) (sep (Fz.fz p.period) (sep (Fz.fz p.cost) (fact True))), fun _ => dup_sep (Fz.dup _) (dup_sep (Fz.dup _) (dup_sep (Fz.dup _) (dup_fact _)))⟩
instance : Inp Try.prog 56 ProcC := ⟨fun {_ _ _ _ _ _ _ cs _} hsp h => by
  obtain ⟨xs, n, _, _, hl, hxl, hf⟩ := DataW.trod_struct Try.underlying56 h
  have g := fun i f hi (hlt : i < xs.length) => (hf i f hi).trans (List.getElem?_eq_getElem hlt)
  obtain ⟨a0, e0, z0⟩ := (inferInstance : Inp Try.prog 3 Int).h hsp (g 0 _ rfl (by rw [hxl]; decide))
  have d0 : (cs.drop 0).take 1 = En.enc a0 := by
    have hc : Try.prog.cellsOf 3 = 1 := by kernel_rfl
    have e : (cs.drop 0).take (Try.prog.cellsOf 3) = En.enc a0 := e0
    rw [hc] at e; exact e
  obtain ⟨a1, e1, z1⟩ := (inferInstance : Inp Try.prog 3 Int).h hsp (g 1 _ rfl (by rw [hxl]; decide))
  have d1 : (cs.drop 1).take 1 = En.enc a1 := by
    have hc : Try.prog.cellsOf 3 = 1 := by kernel_rfl
    have e : (cs.drop 1).take (Try.prog.cellsOf 3) = En.enc a1 := e1
    rw [hc] at e; exact e
  obtain ⟨a2, e2, z2⟩ := (inferInstance : Inp Try.prog 3 Int).h hsp (g 2 _ rfl (by rw [hxl]; decide))
  have d2 : (cs.drop 2).take 1 = En.enc a2 := by
    have hc : Try.prog.cellsOf 3 = 1 := by kernel_rfl
    have e : (cs.drop 2).take (Try.prog.cellsOf 3) = En.enc a2 := e2
    rw [hc] at e; exact e
  refine ⟨⟨a0, a1, a2⟩, ?_, fun R hR => sepI (z0 R hR) (sepI (z1 R hR) (sepI (z2 R hR) (trivial)))⟩
  have hp := pcs_eq [1, 1, 1] 0 cs (by rw [hl]; kernel_rfl)
  have hq : cs = En.enc a0 ++ (En.enc a1 ++ (En.enc a2 ++ ( []))) := by rw [← d0, ← d1, ← d2]; exact hp
  rw [hq]; rfl⟩
instance : Fz PortC := ⟨fun p => sep (Fz.fz p.q) (sep (Fz.fz p.i) (sep (Fz.fz p.size) (sep (Fz.fz p.depth) (fact True)))), fun _ => dup_sep (Fz.dup _) (dup_sep (Fz.dup _) (dup_sep (Fz.dup _) (dup_sep (Fz.dup _) (dup_fact _))))⟩
instance : Inp Try.prog 85 PortC := ⟨fun {_ _ _ _ _ _ _ cs _} hsp h => by
  obtain ⟨xs, n, _, _, hl, hxl, hf⟩ := DataW.trod_struct Try.underlying85 h
  have g := fun i f hi (hlt : i < xs.length) => (hf i f hi).trans (List.getElem?_eq_getElem hlt)
  obtain ⟨a0, e0, z0⟩ := (inferInstance : Inp Try.prog 4 Bool).h hsp (g 0 _ rfl (by rw [hxl]; decide))
  have d0 : (cs.drop 0).take 1 = En.enc a0 := by
    have hc : Try.prog.cellsOf 4 = 1 := by kernel_rfl
    have e : (cs.drop 0).take (Try.prog.cellsOf 4) = En.enc a0 := e0
    rw [hc] at e; exact e
  obtain ⟨a1, e1, z1⟩ := (inferInstance : Inp Try.prog 4 Bool).h hsp (g 1 _ rfl (by rw [hxl]; decide))
  have d1 : (cs.drop 1).take 1 = En.enc a1 := by
    have hc : Try.prog.cellsOf 4 = 1 := by kernel_rfl
    have e : (cs.drop 1).take (Try.prog.cellsOf 4) = En.enc a1 := e1
    rw [hc] at e; exact e
  obtain ⟨a2, e2, z2⟩ := (inferInstance : Inp Try.prog 3 Int).h hsp (g 2 _ rfl (by rw [hxl]; decide))
  have d2 : (cs.drop 2).take 1 = En.enc a2 := by
    have hc : Try.prog.cellsOf 3 = 1 := by kernel_rfl
    have e : (cs.drop 2).take (Try.prog.cellsOf 3) = En.enc a2 := e2
    rw [hc] at e; exact e
  obtain ⟨a3, e3, z3⟩ := (inferInstance : Inp Try.prog 3 Int).h hsp (g 3 _ rfl (by rw [hxl]; decide))
  have d3 : (cs.drop 3).take 1 = En.enc a3 := by
    have hc : Try.prog.cellsOf 3 = 1 := by kernel_rfl
    have e : (cs.drop 3).take (Try.prog.cellsOf 3) = En.enc a3 := e3
    rw [hc] at e; exact e
  refine ⟨⟨a0, a1, a2, a3⟩, ?_, fun R hR => sepI (z0 R hR) (sepI (z1 R hR) (sepI (z2 R hR) (sepI (z3 R hR) (trivial))))⟩
  have hp := pcs_eq [1, 1, 1, 1] 0 cs (by rw [hl]; kernel_rfl)
  have hq : cs = En.enc a0 ++ (En.enc a1 ++ (En.enc a2 ++ (En.enc a3 ++ ( [])))) := by rw [← d0, ← d1, ← d2, ← d3]; exact hp
  rw [hq]; rfl⟩
instance : Fz PoolC := ⟨fun p => sep (Fz.fz p.size) (sep (Fz.fz p.depth) (fact True)), fun _ => dup_sep (Fz.dup _) (dup_sep (Fz.dup _) (dup_fact _))⟩
instance : Inp Try.prog 62 PoolC := ⟨fun {_ _ _ _ _ _ _ cs _} hsp h => by
  obtain ⟨xs, n, _, _, hl, hxl, hf⟩ := DataW.trod_struct Try.underlying62 h
  have g := fun i f hi (hlt : i < xs.length) => (hf i f hi).trans (List.getElem?_eq_getElem hlt)
  obtain ⟨a0, e0, z0⟩ := (inferInstance : Inp Try.prog 3 Int).h hsp (g 0 _ rfl (by rw [hxl]; decide))
  have d0 : (cs.drop 0).take 1 = En.enc a0 := by
    have hc : Try.prog.cellsOf 3 = 1 := by kernel_rfl
    have e : (cs.drop 0).take (Try.prog.cellsOf 3) = En.enc a0 := e0
    rw [hc] at e; exact e
  obtain ⟨a1, e1, z1⟩ := (inferInstance : Inp Try.prog 3 Int).h hsp (g 1 _ rfl (by rw [hxl]; decide))
  have d1 : (cs.drop 1).take 1 = En.enc a1 := by
    have hc : Try.prog.cellsOf 3 = 1 := by kernel_rfl
    have e : (cs.drop 1).take (Try.prog.cellsOf 3) = En.enc a1 := e1
    rw [hc] at e; exact e
  refine ⟨⟨a0, a1⟩, ?_, fun R hR => sepI (z0 R hR) (sepI (z1 R hR) (trivial))⟩
  have hp := pcs_eq [1, 1] 0 cs (by rw [hl]; kernel_rfl)
  have hq : cs = En.enc a0 ++ (En.enc a1 ++ ( [])) := by rw [← d0, ← d1]; exact hp
  rw [hq]; rfl⟩
instance : Inp Try.prog 29 (SL RegC) := inp_slice Try.underlying29 (by kernel_rfl)
instance : Inp Try.prog 30 (SL ProcC) := inp_slice Try.underlying30 (by kernel_rfl)
instance : Inp Try.prog 31 (SL PortC) := inp_slice Try.underlying31 (by kernel_rfl)
instance : Inp Try.prog 28 (SL SemC) := inp_slice Try.underlying28 (by kernel_rfl)
instance : Inp Try.prog 32 (SL PoolC) := inp_slice Try.underlying32 (by kernel_rfl)
instance : Inp Try.prog 33 (SL Int) := inp_slice Try.underlying33 (by kernel_rfl)
instance : Fz PartD := ⟨fun p => sep (Fz.fz p.regions) (sep (Fz.fz p.procs) (sep (Fz.fz p.ports) (sep (Fz.fz p.sems) (sep (Fz.fz p.flags) (sep (Fz.fz p.pools) (sep (Fz.fz p.slates) (sep (Fz.fz p.cap) (sep (Fz.fz p.budget) (sep (Fz.fz p.ladder) (sep (Fz.fz p.acts) (fact True))))))))))), fun _ => dup_sep (Fz.dup _) (dup_sep (Fz.dup _) (dup_sep (Fz.dup _) (dup_sep (Fz.dup _) (dup_sep (Fz.dup _) (dup_sep (Fz.dup _) (dup_sep (Fz.dup _) (dup_sep (Fz.dup _) (dup_sep (Fz.dup _) (dup_sep (Fz.dup _) (dup_sep (Fz.dup _) (dup_fact _)))))))))))⟩
instance : Inp Try.prog 35 PartD := ⟨fun {_ _ _ _ _ _ _ cs _} hsp h => by
  obtain ⟨xs, n, _, _, hl, hxl, hf⟩ := DataW.trod_struct Try.underlying35 h
  have g := fun i f hi (hlt : i < xs.length) => (hf i f hi).trans (List.getElem?_eq_getElem hlt)
  obtain ⟨a0, e0, z0⟩ := (inferInstance : Inp Try.prog 29 LReg).h hsp (g 0 _ rfl (by rw [hxl]; decide))
  have d0 : (cs.drop 0).take 1 = En.enc a0 := by
    have hc : Try.prog.cellsOf 29 = 1 := by kernel_rfl
    have e : (cs.drop 0).take (Try.prog.cellsOf 29) = En.enc a0 := e0
    rw [hc] at e; exact e
  obtain ⟨a1, e1, z1⟩ := (inferInstance : Inp Try.prog 30 LProc).h hsp (g 1 _ rfl (by rw [hxl]; decide))
  have d1 : (cs.drop 1).take 1 = En.enc a1 := by
    have hc : Try.prog.cellsOf 30 = 1 := by kernel_rfl
    have e : (cs.drop 1).take (Try.prog.cellsOf 30) = En.enc a1 := e1
    rw [hc] at e; exact e
  obtain ⟨a2, e2, z2⟩ := (inferInstance : Inp Try.prog 31 LPort).h hsp (g 2 _ rfl (by rw [hxl]; decide))
  have d2 : (cs.drop 2).take 1 = En.enc a2 := by
    have hc : Try.prog.cellsOf 31 = 1 := by kernel_rfl
    have e : (cs.drop 2).take (Try.prog.cellsOf 31) = En.enc a2 := e2
    rw [hc] at e; exact e
  obtain ⟨a3, e3, z3⟩ := (inferInstance : Inp Try.prog 28 LSem).h hsp (g 3 _ rfl (by rw [hxl]; decide))
  have d3 : (cs.drop 3).take 1 = En.enc a3 := by
    have hc : Try.prog.cellsOf 28 = 1 := by kernel_rfl
    have e : (cs.drop 3).take (Try.prog.cellsOf 28) = En.enc a3 := e3
    rw [hc] at e; exact e
  obtain ⟨a4, e4, z4⟩ := (inferInstance : Inp Try.prog 3 Int).h hsp (g 4 _ rfl (by rw [hxl]; decide))
  have d4 : (cs.drop 4).take 1 = En.enc a4 := by
    have hc : Try.prog.cellsOf 3 = 1 := by kernel_rfl
    have e : (cs.drop 4).take (Try.prog.cellsOf 3) = En.enc a4 := e4
    rw [hc] at e; exact e
  obtain ⟨a5, e5, z5⟩ := (inferInstance : Inp Try.prog 32 LPool).h hsp (g 5 _ rfl (by rw [hxl]; decide))
  have d5 : (cs.drop 5).take 1 = En.enc a5 := by
    have hc : Try.prog.cellsOf 32 = 1 := by kernel_rfl
    have e : (cs.drop 5).take (Try.prog.cellsOf 32) = En.enc a5 := e5
    rw [hc] at e; exact e
  obtain ⟨a6, e6, z6⟩ := (inferInstance : Inp Try.prog 33 LInt).h hsp (g 6 _ rfl (by rw [hxl]; decide))
  have d6 : (cs.drop 6).take 1 = En.enc a6 := by
    have hc : Try.prog.cellsOf 33 = 1 := by kernel_rfl
    have e : (cs.drop 6).take (Try.prog.cellsOf 33) = En.enc a6 := e6
    rw [hc] at e; exact e
  obtain ⟨a7, e7, z7⟩ := (inferInstance : Inp Try.prog 3 Int).h hsp (g 7 _ rfl (by rw [hxl]; decide))
  have d7 : (cs.drop 7).take 1 = En.enc a7 := by
    have hc : Try.prog.cellsOf 3 = 1 := by kernel_rfl
    have e : (cs.drop 7).take (Try.prog.cellsOf 3) = En.enc a7 := e7
    rw [hc] at e; exact e
  obtain ⟨a8, e8, z8⟩ := (inferInstance : Inp Try.prog 3 Int).h hsp (g 8 _ rfl (by rw [hxl]; decide))
  have d8 : (cs.drop 8).take 1 = En.enc a8 := by
    have hc : Try.prog.cellsOf 3 = 1 := by kernel_rfl
    have e : (cs.drop 8).take (Try.prog.cellsOf 3) = En.enc a8 := e8
    rw [hc] at e; exact e
  obtain ⟨a9, e9, z9⟩ := (inferInstance : Inp Try.prog 3 Int).h hsp (g 9 _ rfl (by rw [hxl]; decide))
  have d9 : (cs.drop 9).take 1 = En.enc a9 := by
    have hc : Try.prog.cellsOf 3 = 1 := by kernel_rfl
    have e : (cs.drop 9).take (Try.prog.cellsOf 3) = En.enc a9 := e9
    rw [hc] at e; exact e
  obtain ⟨a10, e10, z10⟩ := (inferInstance : Inp Try.prog 33 LInt).h hsp (g 10 _ rfl (by rw [hxl]; decide))
  have d10 : (cs.drop 10).take 1 = En.enc a10 := by
    have hc : Try.prog.cellsOf 33 = 1 := by kernel_rfl
    have e : (cs.drop 10).take (Try.prog.cellsOf 33) = En.enc a10 := e10
    rw [hc] at e; exact e
  refine ⟨⟨a0, a1, a2, a3, a4, a5, a6, a7, a8, a9, a10⟩, ?_, fun R hR => sepI (z0 R hR) (sepI (z1 R hR) (sepI (z2 R hR) (sepI (z3 R hR) (sepI (z4 R hR) (sepI (z5 R hR) (sepI (z6 R hR) (sepI (z7 R hR) (sepI (z8 R hR) (sepI (z9 R hR) (sepI (z10 R hR) (trivial)))))))))))⟩
  have hp := pcs_eq [1, 1, 1, 1, 1, 1, 1, 1, 1, 1, 1] 0 cs (by rw [hl]; kernel_rfl)
  have hq : cs = En.enc a0 ++ (En.enc a1 ++ (En.enc a2 ++ (En.enc a3 ++ (En.enc a4 ++ (En.enc a5 ++ (En.enc a6 ++ (En.enc a7 ++ (En.enc a8 ++ (En.enc a9 ++ (En.enc a10 ++ ( []))))))))))) := by rw [← d0, ← d1, ← d2, ← d3, ← d4, ← d5, ← d6, ← d7, ← d8, ← d9, ← d10]; exact hp
  rw [hq]; rfl⟩
instance : Inp Try.prog 109 Act20 := ⟨fun {_ _ _ _ _ _ _ cs _} hsp h => by
  obtain ⟨xs, n, _, _, hl, hxl, hf⟩ := DataW.trod_struct Try.underlying109 h
  have g := fun i f hi (hlt : i < xs.length) => (hf i f hi).trans (List.getElem?_eq_getElem hlt)
  obtain ⟨a0, e0, z0⟩ := (inferInstance : Inp Try.prog 3 Int).h hsp (g 0 _ rfl (by rw [hxl]; decide))
  have d0 : (cs.drop 0).take 1 = En.enc a0 := by
    have hc : Try.prog.cellsOf 3 = 1 := by kernel_rfl
    have e : (cs.drop 0).take (Try.prog.cellsOf 3) = En.enc a0 := e0
    rw [hc] at e; exact e
  obtain ⟨a1, e1, z1⟩ := (inferInstance : Inp Try.prog 3 Int).h hsp (g 1 _ rfl (by rw [hxl]; decide))
  have d1 : (cs.drop 1).take 1 = En.enc a1 := by
    have hc : Try.prog.cellsOf 3 = 1 := by kernel_rfl
    have e : (cs.drop 1).take (Try.prog.cellsOf 3) = En.enc a1 := e1
    rw [hc] at e; exact e
  obtain ⟨a2, e2, z2⟩ := (inferInstance : Inp Try.prog 63 Msg).h hsp (g 2 _ rfl (by rw [hxl]; decide))
  have d2 : (cs.drop 2).take 1 = En.enc a2 := by
    have hc : Try.prog.cellsOf 63 = 1 := by kernel_rfl
    have e : (cs.drop 2).take (Try.prog.cellsOf 63) = En.enc a2 := e2
    rw [hc] at e; exact e
  refine ⟨⟨a0, a1, a2⟩, ?_, fun R hR => sepI (z0 R hR) (sepI (z1 R hR) (sepI (z2 R hR) (trivial)))⟩
  have hp := pcs_eq [1, 1, 1] 0 cs (by rw [hl]; kernel_rfl)
  have hq : cs = En.enc a0 ++ (En.enc a1 ++ (En.enc a2 ++ ( []))) := by rw [← d0, ← d1, ← d2]; exact hp
  rw [hq]; rfl⟩
instance : Inp Try.prog 104 (SL Act20) := inp_slice Try.underlying104 (by kernel_rfl)
theorem objectPlays_lifted (os : Os) (started : os.Started) (H : Type) (enc : TypeId × Value → H) :
    ReturnsInHanded {} Try.checked os 13 .any (Rows.objectPlaysSpec.pre6 enc Try.prog Try.f13 Rows.objectPlaysRow.domain false) (Rows.objectPlaysSpec.post enc Try.prog Try.f13 false true false false) := by
  refine returnsInHanded_of_change (C := Try.checked) Try.own started (by kernel_rfl) Try.func13
    (ChangeSpec.witness6 (enc := enc) (C := Try.checked) false ⟨#[], #[.agg #[.slice none 0 0, .slice none 0 0, .slice none 0 0, .slice none 0 0, .int .i64 0, .slice none 0 0, .slice none 0 0, .int .i64 0, .int .i64 0, .int .i64 0, .slice none 0 0], .slice none 0 0], []⟩ 12 (by kernel_rfl) (by kernel_rfl) (by kernel_rfl) (by kernel_rfl)) ?_
  intro W base args ds gs before hval0 hW _ _
  have hval : ∀ (j : Nat) t v, Try.f13.params[j]? = some t → args[j]? = some v → Value.okWide Try.prog W .any base t v := hval0
  have hpost := fun W' hb => law_post (W' := W') (tb := 4) Try.laidOut (by kernel_rfl) rfl (by kernel_rfl) Try.underlying4 (fun ds hd => by
    match ds, hd with
    | [_, _], _ => exact ⟨rfl, rfl, rfl⟩) hW hb
  obtain ⟨p, q, hA0, hV, rfl, hfz, hnd⟩ := hW
  have hA : DataW.TrodAll enc Try.prog W 0 (fun _ => true) true Try.f13.params.toList args.toList ds p := hA0
  rw [Try.params13] at hA hval
  obtain ⟨v0, v1, d0, d1, p0, p1, rfl, rfl, rfl, h0, h1⟩ := trodAll_two hA
  obtain ⟨a, rfl, za⟩ := arg_agg (α := PartD) (t := 35) Try.underlying35 (hval 0 _ v0 rfl rfl) (fun _ => rfl) h0
  obtain ⟨b, eb, zb⟩ := arg_one (α := SL Act20) (t := 104) (by kernel_rfl) (hval 1 _ v1 rfl rfl) (fun _ => rfl) h1
  cases eb
  refine (calls_of (W := W) (plays20_ok (c := a.c) (s2 := b.s) (cs := a.sems.d) (cp := a.pools.d) (cl := a.slates.d) (acts := b.d)) (r := .bool true) (fun v l' h => h.1) (fun A hA => ?_)).mono fun e W' ⟨he, hb⟩ => ⟨_, he, hpost W' hb⟩
  rcases List.mem_cons.1 hA with rfl | hA
  · exact fun R hR => sl_of_fz (sep_l (sep_r (sep_r (sep_r (za R hR)))))
  rcases List.mem_cons.1 hA with rfl | hA
  · exact fun R hR => sl_of_fz (sep_l (sep_r (sep_r (sep_r (sep_r (sep_r (za R hR)))))))
  rcases List.mem_cons.1 hA with rfl | hA
  · exact fun R hR => sl_of_fz (sep_l (sep_r (sep_r (sep_r (sep_r (sep_r (sep_r (za R hR))))))))
  rcases List.mem_cons.1 hA with rfl | hA
  · exact fun R hR => sl_of_fz (zb R hR)
  · simp only [List.mem_singleton] at hA
    subst hA
    exact fun R hR => fzl_of_fz (zb R hR)
theorem objectPlays_holds : Rows.ObjectPlaysSaid :=
  OpenClaim.holds_of_wide 13 Try.f13 rfl rfl rfl rfl rfl rfl rfl ⟨rfl, rfl, rfl, rfl, rfl⟩ rfl rfl rfl rfl rfl (by kernel_rfl) Try.func13 (by kernel_rfl)
    (of_decide_eq_true (by kernel_rfl)) (by unfold Func.isWrapper; first | (rw [if_pos (by decide +kernel)]; kernel_rfl) | (rw [if_neg (by decide +kernel)]; exact ⟨rfl, rfl⟩))
    (fun os started H enc _ => objectPlays_lifted os started H enc)
end Go.Proofs.Ytlmcoiloepoggaa
