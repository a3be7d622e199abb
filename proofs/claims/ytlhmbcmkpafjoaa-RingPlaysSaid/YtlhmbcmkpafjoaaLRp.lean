/- RingPlays: whatever is put, taken, cleared and moved, two rings tell, and have, step by step, what the document says: of the first 60 acts: no condition. -/
import Derived.Test.YtlhmbcmkpafjoaaRI
import Derived.Test.YtlhmbcmkpafjoaaLQ
namespace Go.Proofs.Ytlhmbcmkpafjoaa
open Go Go.Wk Go.ChangeShapes Go.WideShapes Go.ChangeAt Go.RowKit
set_option maxRecDepth 100000
structure I8 where
  n : Int
instance : En I8 := ⟨fun d => [.int .i8 d.n], 1, fun _ => rfl, fun _ => rfl, by decide⟩
instance : Fz I8 := ⟨fun d => fact (-128 ≤ d.n ∧ d.n ≤ 127), fun _ => dup_fact _⟩
theorem inp_i8 {P : Program} {t : Nat} (ht : P.underlying t = some (.int .i8)) : Inp P t I8 := ⟨fun _ h => by
  obtain ⟨n, rfl, _, hw⟩ := DataW.trod_int ht h
  refine ⟨⟨n⟩, rfl, fun _ _ => ?_⟩
  simp only [Lit.wf, Bool.and_eq_true, decide_eq_true_eq] at hw
  exact hw⟩
instance : Inp Try.prog 35 I8 := inp_i8 Try.underlying35
instance : Fz Act04 := ⟨fun p => sep (Fz.fz p.act) (sep (Fz.fz p.on) (sep (Fz.fz p.n) (fact True))), fun _ => dup_sep (Fz.dup _) (dup_sep (Fz.dup _) (dup_sep (Fz.dup _) (dup_fact _)))⟩
instance : Inp Try.prog 40 Act04 := ⟨fun {_ _ _ _ _ _ _ cs _} hsp h => by
  obtain ⟨xs, n, _, _, hl, hxl, hf⟩ := DataW.trod_struct Try.underlying40 h
  have g := fun i f hi (hlt : i < xs.length) => (hf i f hi).trans (List.getElem?_eq_getElem hlt)
  obtain ⟨a0, e0, z0⟩ := (inferInstance : Inp Try.prog 3 Int).h hsp (g 0 _ rfl (by rw [hxl]; decide))
  have d0 : (cs.drop 0).take 1 = En.enc a0 := by
    have hc : Try.prog.cellsOf 3 = 1 := by kernel_rfl
    have e : (cs.drop 0).take (Try.prog.cellsOf 3) = En.enc a0 := e0
    rw [hc] at e; exact e
  obtain ⟨a1, e1, z1⟩ := (inferInstance : Inp Try.prog 3 Int).h hsp (g 1 _ rfl (by rw [hxl]; decide))
  have d1 : (cs.drop 1).take 1 = En.enc a1 := by
    have hc : Try.prog.cellsOf 3 = 1 := by kernel_rfl
    have e : (cs.drop 1).take (Try.prog.cellsOf 3) = En.enc a1 := e1
    rw [hc] at e; exact e
  obtain ⟨a2, e2, z2⟩ := (inferInstance : Inp Try.prog 3 Int).h hsp (g 2 _ rfl (by rw [hxl]; decide))
  have d2 : (cs.drop 2).take 1 = En.enc a2 := by
    have hc : Try.prog.cellsOf 3 = 1 := by kernel_rfl
    have e : (cs.drop 2).take (Try.prog.cellsOf 3) = En.enc a2 := e2
    rw [hc] at e; exact e
  refine ⟨⟨a0, a1, a2⟩, ?_, fun R hR => sepI (z0 R hR) (sepI (z1 R hR) (sepI (z2 R hR) (trivial)))⟩
  have hp := pcs_eq [1, 1, 1] 0 cs (by rw [hl]; kernel_rfl)
  have hq : cs = En.enc a0 ++ (En.enc a1 ++ (En.enc a2 ++ ( []))) := by rw [← d0, ← d1, ← d2]; exact hp
  rw [hq]; rfl⟩
instance : Inp Try.prog 36 (SL Act04) := inp_slice Try.underlying36 (by kernel_rfl)
theorem ringPlays_lifted (os : Os) (started : os.Started) (H : Type) (enc : TypeId × Value → H) :
    ReturnsInHanded {} Try.checked os 5 .any (Rows.ringPlaysSpec.pre6 enc Try.prog Try.f5 Rows.ringPlaysRow.domain false) (Rows.ringPlaysSpec.post enc Try.prog Try.f5 false true false false) := by
  refine returnsInHanded_of_change (C := Try.checked) Try.own started (by kernel_rfl) Try.func5
    (ChangeSpec.witness6 (enc := enc) (C := Try.checked) false ⟨#[], #[.int .i8 0, .int .i8 0, .slice none 0 0], []⟩ 12 (by kernel_rfl) (by kernel_rfl) (by kernel_rfl) (by kernel_rfl)) ?_
  intro W base args ds gs before hval0 hW _ _
  have hval : ∀ (j : Nat) t v, Try.f5.params[j]? = some t → args[j]? = some v → Value.okWide Try.prog W .any base t v := hval0
  have hpost := fun W' hb => law_post (W' := W') (tb := 4) Try.laidOut (by kernel_rfl) rfl (by kernel_rfl) Try.underlying4 (fun ds hd => by
    match ds, hd with
    | [_, _, _], _ => exact ⟨rfl, rfl, rfl⟩) hW hb
  obtain ⟨p, q, hA0, hV, rfl, hfz, hnd⟩ := hW
  have hA : DataW.TrodAll enc Try.prog W 0 (fun _ => true) true Try.f5.params.toList args.toList ds p := hA0
  rw [Try.params5] at hA hval
  obtain ⟨v0, v1, v2, d0, d1, d2, p0, p1, p2, rfl, rfl, rfl, h0, h1, h2⟩ := trodAll_three hA
  obtain ⟨a, ea, za⟩ := arg_one (α := I8) (t := 35) (by kernel_rfl) (hval 0 _ v0 rfl rfl) (fun _ => rfl) h0
  obtain ⟨b, eb, zb⟩ := arg_one (α := I8) (t := 35) (by kernel_rfl) (hval 1 _ v1 rfl rfl) (fun _ => rfl) h1
  obtain ⟨c, ec, zc⟩ := arg_one (α := SL Act04) (t := 36) (by kernel_rfl) (hval 2 _ v2 rfl rfl) (fun _ => rfl) h2
  cases ea
  cases eb
  cases ec
  refine (calls_of (W := W) (plays04_ok (a := a.n) (b := b.n) (s := c.s) (l := c.d) (za (fun _ => True) (fun _ _ => trivial)) (zb (fun _ => True) (fun _ _ => trivial))) (r := .bool true) (fun v l' h => h.1) (fun A hA => ?_)).mono fun e W' ⟨he, hb⟩ => ⟨_, he, hpost W' hb⟩
  simp only [List.mem_singleton] at hA
  subst hA
  exact fun R hR => sl_of_fz (zc R hR)
theorem ringPlays_holds : Rows.RingPlaysSaid :=
  OpenClaim.holds_of_wide 5 Try.f5 rfl rfl rfl rfl rfl rfl rfl ⟨rfl, rfl, rfl, rfl, rfl⟩ rfl rfl rfl rfl rfl (by kernel_rfl) Try.func5 (by kernel_rfl)
    (of_decide_eq_true (by kernel_rfl)) (by unfold Func.isWrapper; first | (rw [if_pos (by decide +kernel)]; kernel_rfl) | (rw [if_neg (by decide +kernel)]; exact ⟨rfl, rfl⟩))
    (fun os started H enc _ => ringPlays_lifted os started H enc)
end Go.Proofs.Ytlhmbcmkpafjoaa
