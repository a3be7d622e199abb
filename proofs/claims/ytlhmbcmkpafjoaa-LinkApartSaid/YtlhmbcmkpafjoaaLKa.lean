/- LinkApart: what a partition lets go hangs on no other that receives: for lists of at most 100 and the first 40 acts of at most 300 bytes: no condition. -/
import Derived.Test.YtlhmbcmkpafjoaaKU
import Derived.Test.YtlhmbcmkpafjoaaLZ
namespace Go.Proofs.Ytlhmbcmkpafjoaa
open Go Go.Wk Go.ChangeShapes Go.WideShapes Go.ChangeAt Go.RowKit
set_option maxRecDepth 100000
instance : Inp Try.prog 65 Msg := inp_slice Try.underlying65 (by kernel_rfl)
structure ActI where
  act : Int
  part : Int
  k : Int
  b : Msg
instance : En ActI := ⟨fun d => [.int .i64 d.act, .int .i64 d.part, .int .i64 d.k, d.b.s.v], 4, fun _ => rfl, fun _ => rfl, by decide⟩
instance : Fz ActI := ⟨fun p => sep (Fz.fz p.act) (sep (Fz.fz p.part) (sep (Fz.fz p.k) (sep (Fz.fz p.b) (fact True)))), fun _ => dup_sep (Fz.dup _) (dup_sep (Fz.dup _) (dup_sep (Fz.dup _) (dup_sep (Fz.dup _) (dup_fact _))))⟩
instance : Inp Try.prog 67 ActI := ⟨fun {_ _ _ _ _ _ _ cs _} hsp h => by
  obtain ⟨xs, n, _, _, hl, hxl, hf⟩ := DataW.trod_struct Try.underlying67 h
  have g := fun i f hi (hlt : i < xs.length) => (hf i f hi).trans (List.getElem?_eq_getElem hlt)
  obtain ⟨a0, e0, z0⟩ := (inferInstance : Inp Try.prog 3 Int).h hsp (g 0 _ rfl (by rw [hxl]; decide))
  have d0 : (cs.drop 0).take 1 = En.enc a0 := by
    have hc : Try.prog.cellsOf 3 = 1 := by kernel_rfl
    have e : (cs.drop 0).take (Try.prog.cellsOf 3) = En.enc a0 := e0
    rw [hc] at e; exact e
  obtain ⟨a1, e1, z1⟩ := (inferInstance : Inp Try.prog 3 Int).h hsp (g 1 _ rfl (by rw [hxl]; decide))
  have d1 : (cs.drop 1).take 1 = En.enc a1 := by
    have hc : Try.prog.cellsOf 3 = 1 := by kernel_rfl
    have e : (cs.drop 1).take (Try.prog.cellsOf 3) = En.enc a1 := e1
    rw [hc] at e; exact e
  obtain ⟨a2, e2, z2⟩ := (inferInstance : Inp Try.prog 3 Int).h hsp (g 2 _ rfl (by rw [hxl]; decide))
  have d2 : (cs.drop 2).take 1 = En.enc a2 := by
    have hc : Try.prog.cellsOf 3 = 1 := by kernel_rfl
    have e : (cs.drop 2).take (Try.prog.cellsOf 3) = En.enc a2 := e2
    rw [hc] at e; exact e
  obtain ⟨a3, e3, z3⟩ := (inferInstance : Inp Try.prog 65 Msg).h hsp (g 3 _ rfl (by rw [hxl]; decide))
  have d3 : (cs.drop 3).take 1 = En.enc a3 := by
    have hc : Try.prog.cellsOf 65 = 1 := by kernel_rfl
    have e : (cs.drop 3).take (Try.prog.cellsOf 65) = En.enc a3 := e3
    rw [hc] at e; exact e
  refine ⟨⟨a0, a1, a2, a3⟩, ?_, fun R hR => sepI (z0 R hR) (sepI (z1 R hR) (sepI (z2 R hR) (sepI (z3 R hR) (trivial))))⟩
  have hp := pcs_eq [1, 1, 1, 1] 0 cs (by rw [hl]; kernel_rfl)
  have hq : cs = En.enc a0 ++ (En.enc a1 ++ (En.enc a2 ++ (En.enc a3 ++ ( [])))) := by rw [← d0, ← d1, ← d2, ← d3]; exact hp
  rw [hq]; rfl⟩
instance : Inp Try.prog 67 Act19 := Inp.mapI (fun a : ActI => ⟨a.act, a.part, a.k, a.b⟩) (fun _ => rfl) fun _ _ _ h => sep_l (sep_r (sep_r (sep_r h)))
instance : Inp Try.prog 59 (SL Act19) := inp_slice Try.underlying59 (by kernel_rfl)
theorem linkApart_lifted (os : Os) (started : os.Started) (H : Type) (enc : TypeId × Value → H) :
    ReturnsInHanded {} Try.checked os 8 .any (Rows.linkApartSpec.pre6 enc Try.prog Try.f8 Rows.linkApartRow.domain false) (Rows.linkApartSpec.post enc Try.prog Try.f8 false true false false) := by
  refine returnsInHanded_of_change (C := Try.checked) Try.own started (by kernel_rfl) Try.func8
    (ChangeSpec.witness6 (enc := enc) (C := Try.checked) false ⟨#[], #[.agg #[.slice none 0 0, .slice none 0 0, .slice none 0 0, .slice none 0 0, .slice none 0 0, .int .i64 0, .int .i64 0, .int .i64 0, .int .i64 0, .int .i64 0, .int .i64 0, .slice none 0 0, .slice none 0 0], .slice none 0 0, .int .i64 0], []⟩ 12 (by kernel_rfl) (by kernel_rfl) (by kernel_rfl) (by kernel_rfl)) ?_
  intro W base args ds gs before hval0 hW _ _
  have hval : ∀ (j : Nat) t v, Try.f8.params[j]? = some t → args[j]? = some v → Value.okWide Try.prog W .any base t v := hval0
  have hpost := fun W' hb => law_post (W' := W') (tb := 4) Try.laidOut (by kernel_rfl) rfl (by kernel_rfl) Try.underlying4 (fun ds hd => by
    match ds, hd with
    | [_, _, _], _ => exact ⟨rfl, rfl, rfl⟩) hW hb
  obtain ⟨p, q, hA0, hV, rfl, hfz, hnd⟩ := hW
  have hA : DataW.TrodAll enc Try.prog W 0 (fun _ => true) true Try.f8.params.toList args.toList ds p := hA0
  rw [Try.params8] at hA hval
  obtain ⟨v0, v1, v2, d0, d1, d2, p0, p1, p2, rfl, rfl, rfl, h0, h1, h2⟩ := trodAll_three hA
  obtain ⟨a, rfl, za⟩ := arg_agg (α := ConfI) (t := 58) Try.underlying58 (hval 0 _ v0 rfl rfl) (fun _ => rfl) h0
  obtain ⟨b, eb, zb⟩ := arg_one (α := SL Act19) (t := 59) (by kernel_rfl) (hval 1 _ v1 rfl rfl) (fun _ => rfl) h1
  obtain ⟨c, ec, zc⟩ := arg_one (α := Int) (t := 3) (by kernel_rfl) (hval 2 _ v2 rfl rfl) (fun _ => rfl) h2
  cases eb
  cases ec
  refine (calls_of (W := W) (lapart_ok (c := a.d.c) (ps := a.d.parts.d) (chs := a.d.chans.d) (mds := a.d.modes.d) (ls := a.d.levels.d) (ns := a.d.naps.d) (ds := a.d.down.d) (us := a.d.up.d) (s0 := b.s) (l := b.d) (part := c)) (r := .bool true) (fun v l' h => h.1) (fun A hA => ?_)).mono fun e W' ⟨he, hb⟩ => ⟨_, he, hpost W' hb⟩
  have hA : A ∈ ([sl true a.d.parts.s.v a.d.parts.d, fzl a.d.parts.d, sl true a.d.chans.s.v a.d.chans.d, sl true a.d.modes.s.v a.d.modes.d, fzl a.d.modes.d, sl true a.d.levels.s.v a.d.levels.d, sl true a.d.naps.s.v a.d.naps.d, sl true a.d.down.s.v a.d.down.d, sl true a.d.up.s.v a.d.up.d] ++ [sl true b.s.v b.d, fzl b.d] : List Asrt) := hA
  rcases List.mem_append.1 hA with hA | hA
  · exact fun R hR => conf_pre (za R hR) A hA
  rcases List.mem_cons.1 hA with rfl | hA
  · exact fun R hR => sl_of_fz (zb R hR)
  · simp only [List.mem_singleton] at hA
    subst hA
    exact fun R hR => fzl_of_fz (zb R hR)
theorem linkApart_holds : Rows.LinkApartSaid :=
  OpenClaim.holds_of_wide 8 Try.f8 rfl rfl rfl rfl rfl rfl rfl ⟨rfl, rfl, rfl, rfl, rfl⟩ rfl rfl rfl rfl rfl (by kernel_rfl) Try.func8 (by kernel_rfl)
    (of_decide_eq_true (by kernel_rfl)) (by unfold Func.isWrapper; first | (rw [if_pos (by decide +kernel)]; kernel_rfl) | (rw [if_neg (by decide +kernel)]; exact ⟨rfl, rfl⟩))
    (fun os started H enc _ => linkApart_lifted os started H enc)
end Go.Proofs.Ytlhmbcmkpafjoaa
