/- What is found wrong in any result, for any configuration and frames, is as the document says; no condition. -/
import Derived.Test.YtkapfpliiaegfaaGreatZ23
import Derived.Test.YtkapfpliiaegfaaGreatTJ
namespace Go.Proofs.YtkapfpliiaegfaaGreat
open Go Go.Wk Go.ChangeShapes Go.WideShapes Go.ChangeAt Go.RowKit
set_option maxRecDepth 100000
theorem auditTells_lifted (os : Os) (started : os.Started) (H : Type) (enc : TypeId × Value → H) :
    ReturnsInHanded {} Tryz.checked os 4 .any (Rows.auditTellsSpec.pre6 enc Tryz.prog Tryz.f4 Rows.auditTellsRow.domain false) (Rows.auditTellsSpec.post enc Tryz.prog Tryz.f4 false true false false) := by
  refine returnsInHanded_of_change (C := Tryz.checked) Tryz.own started (by kernel_rfl) Tryz.func4
    (ChangeSpec.witness6 (enc := enc) (C := Tryz.checked) false ⟨#[], #[.agg #[.slice none 0 0, .slice none 0 0, .slice none 0 0, .slice none 0 0, .slice none 0 0, .int .i64 0, .int .i64 0, .int .i64 0, .int .i64 0, .int .i64 0, .int .i64 0, .slice none 0 0, .slice none 0 0], .slice none 0 0, .agg #[.slice none 0 0, .slice none 0 0, .slice none 0 0, .slice none 0 0, .int .i64 0, .int .i64 0, .int .i64 0, .int .i64 0, .slice none 0 0, .slice none 0 0, .slice none 0 0, .int .i64 0]], []⟩ 12 (by kernel_rfl) (by kernel_rfl) (by kernel_rfl) (by kernel_rfl)) ?_
  intro W base args ds gs before hval0 hW _ _
  have hval : ∀ (j : Nat) t v, Tryz.f4.params[j]? = some t → args[j]? = some v → Value.okWide Tryz.prog W .any base t v := hval0
  have hpost := fun W' hb => xJP (W' := W') (tb := 4) Tryz.laidOut (by kernel_rfl) rfl (by kernel_rfl) Tryz.underlying4 (fun ds hd => by
    match ds, hd with
    | [_, _, _], _ => exact ⟨rfl, rfl, rfl⟩) hW hb
  obtain ⟨p, q, hA0, hV, rfl, hfz, hnd⟩ := hW
  have hA : DataW.TrodAll enc Tryz.prog W 0 (fun _ => true) true Tryz.f4.params.toList args.toList ds p := hA0
  rw [Tryz.params4] at hA hval
  obtain ⟨v0, v1, v2, d0, d1, d2, p0, p1, p2, rfl, rfl, rfl, h0, h1, h2⟩ := trodAll_three hA
  obtain ⟨a, rfl, za⟩ := xGZ (α := xDF) (t := 33) Tryz.underlying33 (hval 0 _ v0 rfl rfl) (fun _ => rfl) h0
  obtain ⟨b, eb, zb⟩ := xJ1 (α := SL xBL) (t := 35) (by kernel_rfl) (hval 1 _ v1 rfl rfl) (fun _ => rfl) h1
  cases eb
  obtain ⟨c, rfl, zc⟩ := xGZ (α := xE4) (t := 45) Tryz.underlying45 (hval 2 _ v2 rfl rfl) (fun _ => rfl) h2
  refine (xJs (W := W) (xIL (c := a.d) (fv := b.s) (fs := b.d) (r := c.r) (q := c.q)) (r := .bool true) (fun v l' h => h.1) (fun A hA => ?_)).mono fun e W' ⟨he, hb⟩ => ⟨_, he, hpost W' hb⟩
  rcases List.mem_append.1 hA with hA | hA
  · rcases List.mem_cons.1 hA with rfl | hA
    · exact fun R hR => xKm (za R hR)
    rcases List.mem_cons.1 hA with rfl | hA
    · exact fun R hR => xp5 (zb R hR)
    · exact fun R hR => xJh (za R hR) A hA
  · exact fun R hR => xJU (zc R hR) A hA
theorem xKP {a b : Bool} (h1 : a = true) (h2 : b = true) : (a && b) = true := by rw [h1, h2]; rfl
set_option maxHeartbeats 6400000
theorem xDs : joinedFacts Tryz.pinned.checked.prog 4 Tryz.f4 Rows.auditTellsSpec Rows.auditTellsRow = true := by
  unfold joinedFacts
  repeat' (with_reducible refine xKP ?_ ?_)
  all_goals (as_aux_lemma => kernel_rfl)
theorem xDu : Tryz.pinned.checked.prog.funcNamed Rows.auditTellsRow.func = some 4 := by kernel_rfl
theorem xDI : Tryz.f4.isInstance Tryz.pinned.checked.prog Rows.auditTellsRow.origin Rows.auditTellsRow.targs := of_decide_eq_true (by kernel_rfl)
theorem xDJ : Tryz.f4.isWrapper Tryz.pinned.checked.prog Rows.auditTellsRow.wrapper Rows.auditTellsRow.mainSum := by unfold Func.isWrapper; first | (rw [if_pos (by decide +kernel)]; kernel_rfl) | (rw [if_neg (by decide +kernel)]; exact ⟨rfl, rfl⟩)
theorem auditTells_holds : Rows.AuditTellsSaid :=
  OpenClaim.holds_of_wide 4 Tryz.f4 rfl rfl rfl rfl rfl rfl rfl ⟨rfl, rfl, rfl, rfl, rfl⟩ rfl rfl rfl rfl rfl xDu Tryz.func4 xDs xDI xDJ
    (fun os started H enc _ => auditTells_lifted os started H enc)
end Go.Proofs.YtkapfpliiaegfaaGreat
