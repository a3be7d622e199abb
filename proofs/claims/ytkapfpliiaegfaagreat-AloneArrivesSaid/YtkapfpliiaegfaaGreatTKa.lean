/- What comes to a partition, window by window, of any messages, is as the document says; no condition. -/
import Derived.Test.YtkapfpliiaegfaaGreatZ14
import Derived.Test.YtkapfpliiaegfaaGreatTK
namespace Go.Proofs.YtkapfpliiaegfaaGreat
open Go Go.Wk Go.ChangeShapes Go.WideShapes Go.ChangeAt Go.RowKit
set_option maxRecDepth 100000
theorem aloneArrives_lifted (os : Os) (started : os.Started) (H : Type) (enc : TypeId × Value → H) :
    ReturnsInHanded {} Tryz.checked os 3 .any (Rows.aloneArrivesSpec.pre6 enc Tryz.prog Tryz.f3 Rows.aloneArrivesRow.domain false) (Rows.aloneArrivesSpec.post enc Tryz.prog Tryz.f3 false true false false) := by
  refine returnsInHanded_of_change (C := Tryz.checked) Tryz.own started (by kernel_rfl) Tryz.func3
    (ChangeSpec.witness6 (enc := enc) (C := Tryz.checked) false ⟨#[], #[.agg #[.slice none 0 0, .slice none 0 0, .slice none 0 0, .slice none 0 0, .slice none 0 0, .int .i64 0, .int .i64 0, .int .i64 0, .int .i64 0, .int .i64 0, .int .i64 0, .slice none 0 0, .slice none 0 0], .agg #[.slice none 0 0, .slice none 0 0], .agg #[.slice none 0 0, .slice none 0 0, .slice none 0 0, .slice none 0 0, .int .i64 0, .int .i64 0, .int .i64 0, .int .i64 0, .slice none 0 0, .slice none 0 0, .slice none 0 0, .int .i64 0]], []⟩ 12 (by kernel_rfl) (by kernel_rfl) (by kernel_rfl) (by kernel_rfl)) ?_
  intro W base args ds gs before hval0 hW _ _
  have hval : ∀ (j : Nat) t v, Tryz.f3.params[j]? = some t → args[j]? = some v → Value.okWide Tryz.prog W .any base t v := hval0
  have hpost := fun W' hb => xJP (W' := W') (tb := 4) Tryz.laidOut (by kernel_rfl) rfl (by kernel_rfl) Tryz.underlying4 (fun ds hd => by
    match ds, hd with
    | [_, _, _], _ => exact ⟨rfl, rfl, rfl⟩) hW hb
  obtain ⟨p, q, hA0, hV, rfl, hfz, hnd⟩ := hW
  have hA : DataW.TrodAll enc Tryz.prog W 0 (fun _ => true) true Tryz.f3.params.toList args.toList ds p := hA0
  rw [Tryz.params3] at hA hval
  obtain ⟨v0, v1, v2, d0, d1, d2, p0, p1, p2, rfl, rfl, rfl, h0, h1, h2⟩ := trodAll_three hA
  obtain ⟨a, rfl, za⟩ := xGZ (α := xDF) (t := 33) Tryz.underlying33 (hval 0 _ v0 rfl rfl) (fun _ => rfl) h0
  obtain ⟨b, rfl, zb⟩ := xGZ (α := xSk) (t := 37) Tryz.underlying37 (hval 1 _ v1 rfl rfl) (fun _ => rfl) h1
  obtain ⟨c, rfl, zc⟩ := xGZ (α := xE4) (t := 45) Tryz.underlying45 (hval 2 _ v2 rfl rfl) (fun _ => rfl) h2
  refine (xJs (W := W) (xTq (c := a.d) (ps := b.progs.s) (fv := b.frames.s) (pp := b.progs.d) (fs := b.frames.d) (r := c.r) (ms := c.ms.d)) (r := .bool true) (fun v l' h => h.1) (fun A hA => ?_)).mono fun e W' ⟨he, hb⟩ => ⟨_, he, hpost W' hb⟩
  have hconf := fun (R : Jd) hR => xJh (za R hR)
  have hscr := fun (R : Jd) hR => xSG (zb R hR)
  rcases List.mem_append.1 (show A ∈ [sl true a.d.parts.s.v a.d.parts.d, fzl a.d.parts.d, sl true a.d.chans.s.v a.d.chans.d, sl true a.d.modes.s.v a.d.modes.d, fzl a.d.modes.d, sl true a.d.levels.s.v a.d.levels.d, sl true a.d.naps.s.v a.d.naps.d, sl true a.d.down.s.v a.d.down.d, sl true a.d.up.s.v a.d.up.d] ++ [sl true b.progs.s.v b.progs.d, fzl b.progs.d, sl true b.frames.s.v b.frames.d, sl true c.r.ms.v c.ms.d, fzl c.ms.d] from hA) with hA | hA
  · exact fun R hR => hconf R hR A hA
  simp only [List.mem_cons, List.not_mem_nil, or_false] at hA
  rcases hA with hA | hA | hA | rfl | rfl
  · exact fun R hR => hscr R hR A (by rw [hA]; exact List.mem_cons_self ..)
  · exact fun R hR => hscr R hR A (by rw [hA]; exact List.mem_cons_of_mem _ (List.mem_cons_self ..))
  · exact fun R hR => hscr R hR A (by rw [hA]; exact List.mem_cons_of_mem _ (List.mem_cons_of_mem _ (List.mem_cons_self ..)))
  · exact fun R hR => xp5 (xfO (VB (zc R hR)))
  · exact fun R hR => xfe (xfO (VB (zc R hR)))
theorem xKP {a b : Bool} (h1 : a = true) (h2 : b = true) : (a && b) = true := by rw [h1, h2]; rfl
set_option maxHeartbeats 6400000
theorem xSc : joinedFacts Tryz.pinned.checked.prog 3 Tryz.f3 Rows.aloneArrivesSpec Rows.aloneArrivesRow = true := by
  unfold joinedFacts
  repeat' (with_reducible refine xKP ?_ ?_)
  all_goals (as_aux_lemma => kernel_rfl)
theorem xSg : Tryz.pinned.checked.prog.funcNamed Rows.aloneArrivesRow.func = some 3 := by kernel_rfl
theorem xSh : Tryz.f3.isInstance Tryz.pinned.checked.prog Rows.aloneArrivesRow.origin Rows.aloneArrivesRow.targs := of_decide_eq_true (by kernel_rfl)
theorem xSj : Tryz.f3.isWrapper Tryz.pinned.checked.prog Rows.aloneArrivesRow.wrapper Rows.aloneArrivesRow.mainSum := by unfold Func.isWrapper; first | (rw [if_pos (by decide +kernel)]; kernel_rfl) | (rw [if_neg (by decide +kernel)]; exact ⟨rfl, rfl⟩)
theorem aloneArrives_holds : Rows.AloneArrivesSaid :=
  OpenClaim.holds_of_wide 3 Tryz.f3 rfl rfl rfl rfl rfl rfl rfl ⟨rfl, rfl, rfl, rfl, rfl⟩ rfl rfl rfl rfl rfl xSg Tryz.func3 xSc xSh xSj
    (fun os started H enc _ => aloneArrives_lifted os started H enc)
end Go.Proofs.YtkapfpliiaegfaaGreat
