/- ProcTurns: whoever becomes ready stands behind all of the same priority, for every list of processes, all acts and both numbers: no condition. -/
import Derived.Test.YtlmcoiloepoggaaQT
import Derived.Test.YtlmcoiloepoggaaLI
import Derived.OpenShut
namespace Go.Proofs.Ytlmcoiloepoggaa
open Go Go.Wk Go.ChangeShapes Go.WideShapes Go.ChangeAt Go.RowKit
set_option maxRecDepth 100000
structure TwoS where
  l : SL PConf
  acts : SL ActP
instance : En TwoS := ⟨fun x => [x.l.s.v, x.acts.s.v], 2, fun _ => rfl, fun _ => rfl, by decide⟩
abbrev SLP := SL PConf
abbrev SLA := SL ActP
instance : Inp Try.prog 5 UInt8 := inp_u8 Try.underlying5
instance : Fz TwoS := ⟨fun p => sep (Fz.fz p.l) (sep (Fz.fz p.acts) (fact True)), fun _ => dup_sep (Fz.dup _) (dup_sep (Fz.dup _) (dup_fact _))⟩
instance : Inp Try.prog 40 TwoS := ⟨fun {_ _ _ _ _ _ _ cs _} hsp h => by
  obtain ⟨xs, n, _, _, hl, hxl, hf⟩ := DataW.trod_struct Try.underlying40 h
  have g := fun i f hi (hlt : i < xs.length) => (hf i f hi).trans (List.getElem?_eq_getElem hlt)
  obtain ⟨a0, e0, z0⟩ := (inferInstance : Inp Try.prog 30 SLP).h hsp (g 0 _ rfl (by rw [hxl]; decide))
  have d0 : (cs.drop 0).take 1 = En.enc a0 := by
    have hc : Try.prog.cellsOf 30 = 1 := by kernel_rfl
    have e : (cs.drop 0).take (Try.prog.cellsOf 30) = En.enc a0 := e0
    rw [hc] at e; exact e
  obtain ⟨a1, e1, z1⟩ := (inferInstance : Inp Try.prog 38 SLA).h hsp (g 1 _ rfl (by rw [hxl]; decide))
  have d1 : (cs.drop 1).take 1 = En.enc a1 := by
    have hc : Try.prog.cellsOf 38 = 1 := by kernel_rfl
    have e : (cs.drop 1).take (Try.prog.cellsOf 38) = En.enc a1 := e1
    rw [hc] at e; exact e
  refine ⟨⟨a0, a1⟩, ?_, fun R hR => sepI (z0 R hR) (sepI (z1 R hR) (trivial))⟩
  have hp := pcs_eq [1, 1] 0 cs (by rw [hl]; kernel_rfl)
  have hq : cs = En.enc a0 ++ (En.enc a1 ++ ( [])) := by rw [← d0, ← d1]; exact hp
  rw [hq]; rfl⟩
instance : Fz A2 := ⟨fun p => sep (Fz.fz p.a) (sep (Fz.fz p.b) (fact True)), fun _ => dup_sep (Fz.dup _) (dup_sep (Fz.dup _) (dup_fact _))⟩
instance : Inp Try.prog 41 A2 := ⟨fun {_ _ _ _ _ _ _ cs _} hsp h => by
  obtain ⟨xs, n, _, _, hl, hxl, hf⟩ := DataW.trod_array Try.underlying41 h
  have g := fun i (hi : i < 2) (hlt : i < xs.length) => (hf i hi).trans (List.getElem?_eq_getElem hlt)
  obtain ⟨a0, e0, z0⟩ := (inferInstance : Inp Try.prog 5 UInt8).h hsp (g 0 (by decide) (by rw [hxl]; decide))
  have d0 : (cs.drop 0).take 1 = En.enc a0 := by
    have hc : Try.prog.cellsOf 5 = 1 := by kernel_rfl
    have e : (cs.drop (0 * Try.prog.cellsOf 5)).take (Try.prog.cellsOf 5) = En.enc a0 := e0
    rw [hc] at e; exact e
  obtain ⟨a1, e1, z1⟩ := (inferInstance : Inp Try.prog 5 UInt8).h hsp (g 1 (by decide) (by rw [hxl]; decide))
  have d1 : (cs.drop 1).take 1 = En.enc a1 := by
    have hc : Try.prog.cellsOf 5 = 1 := by kernel_rfl
    have e : (cs.drop (1 * Try.prog.cellsOf 5)).take (Try.prog.cellsOf 5) = En.enc a1 := e1
    rw [hc] at e; exact e
  refine ⟨⟨a0, a1⟩, ?_, fun R hR => sepI (z0 R hR) (sepI (z1 R hR) (trivial))⟩
  have hp := pcs_eq [1, 1] 0 cs (by rw [hl]; kernel_rfl)
  have hq : cs = En.enc a0 ++ (En.enc a1 ++ ( [])) := by rw [← d0, ← d1]; exact hp
  rw [hq]; rfl⟩
theorem procTurns_lifted (os : Os) (started : os.Started) (H : Type) (enc : TypeId × Value → H) :
    ReturnsInHanded {} Try.checked os 4 .any (Rows.procTurnsSpec.pre6 enc Try.prog Try.f4 Rows.procTurnsRow.domain false) (Rows.procTurnsSpec.post enc Try.prog Try.f4 false true false false) := by
  refine returnsInHanded_of_change (C := Try.checked) Try.own started (by kernel_rfl) Try.func4
    (ChangeSpec.witness6 (enc := enc) (C := Try.checked) false ⟨#[], #[.agg #[.slice none 0 0, .slice none 0 0], .agg #[.int .u8 0, .int .u8 0]], []⟩ 12 (by kernel_rfl) (by kernel_rfl) (by kernel_rfl) (by kernel_rfl)) ?_
  intro W base args ds gs before hval0 hW _ _
  have hval : ∀ (j : Nat) t v, Try.f4.params[j]? = some t → args[j]? = some v → Value.okWide Try.prog W .any base t v := hval0
  have hpost := fun W' hb => law_post (W' := W') (tb := 4) Try.laidOut (by kernel_rfl) rfl (by kernel_rfl) Try.underlying4 (fun ds hd => by
    match ds, hd with
    | [_, _], _ => exact ⟨rfl, rfl, rfl⟩) hW hb
  obtain ⟨p, q, hA0, hV, rfl, hfz, hnd⟩ := hW
  have hA : DataW.TrodAll enc Try.prog W 0 (fun _ => true) true Try.f4.params.toList args.toList ds p := hA0
  rw [Try.params4] at hA hval
  obtain ⟨v0, v1, d0, d1, p0, p1, rfl, rfl, rfl, h0, h1⟩ := trodAll_two hA
  obtain ⟨a, rfl, za⟩ := arg_agg (α := TwoS) (t := 40) Try.underlying40 (hval 0 _ v0 rfl rfl) (fun _ => rfl) h0
  obtain ⟨b, rfl, zb⟩ := arg_arr (α := A2) (t := 41) (by decide) (fun _ => rfl) h1
  refine (calls_of (W := W) (turns21_ok (s1 := a.l.s) (s2 := a.acts.s) (l := a.l.d) (acts := a.acts.d) (at2 := b)) (r := .bool true) (fun v l' h => h.1) (fun A hA => ?_)).mono fun e W' ⟨he, hb⟩ => ⟨_, he, hpost W' hb⟩
  have zl := fun R hR => sep_l (za R hR)
  have zr := fun R hR => sep_l (sep_r (za R hR))
  rcases List.mem_cons.1 hA with rfl | hA
  · exact fun R hR => by exact sl_of_fz (zl R hR)
  · simp only [List.mem_singleton] at hA
    subst hA
    exact fun R hR => sl_of_fz (zr R hR)
theorem procTurns_holds : Rows.ProcTurnsSaid :=
  OpenClaim.holds_of_wide 4 Try.f4 rfl rfl rfl rfl rfl rfl rfl ⟨rfl, rfl, rfl, rfl, rfl⟩ rfl rfl rfl rfl rfl (by kernel_rfl) Try.func4 (by kernel_rfl)
    (of_decide_eq_true (by kernel_rfl)) (by unfold Func.isWrapper; first | (rw [if_pos (by decide +kernel)]; kernel_rfl) | (rw [if_neg (by decide +kernel)]; exact ⟨rfl, rfl⟩))
    (fun os started H enc _ => procTurns_lifted os started H enc)
end Go.Proofs.Ytlmcoiloepoggaa
