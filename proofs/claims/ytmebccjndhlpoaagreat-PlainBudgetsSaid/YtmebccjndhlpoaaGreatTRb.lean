/- Whatever the configuration and the script, the law PlainBudgets returns true (no condition). -/
import Derived.Test.YtmebccjndhlpoaaGreatZ45
import Derived.Test.YtmebccjndhlpoaaGreatTR
namespace Go.Proofs.YtmebccjndhlpoaaGreat
open Go Go.Wk Go.ChangeShapes Go.WideShapes Go.ChangeAt Go.RowKit
set_option maxRecDepth 100000
theorem plainBudgets_lifted (os : Os) (started : os.Started) (H : Type) (enc : TypeId × Value → H) :
    ReturnsInHanded {} Tryz.checked os 3 .any (Rows.plainBudgetsSpec.pre6 enc Tryz.prog Tryz.f3 Rows.plainBudgetsRow.domain false) (Rows.plainBudgetsSpec.post enc Tryz.prog Tryz.f3 false true false false) := by
  refine returnsInHanded_of_change (C := Tryz.checked) Tryz.own started (by kernel_rfl) Tryz.func3
    (ChangeSpec.witness6 (enc := enc) (C := Tryz.checked) false ⟨#[], #[.agg #[.slice none 0 0, .slice none 0 0, .slice none 0 0, .slice none 0 0, .slice none 0 0, .int .i64 0, .int .i64 0, .int .i64 0, .int .i64 0, .int .i64 0, .int .i64 0, .slice none 0 0, .slice none 0 0], .agg #[.slice none 0 0, .slice none 0 0]], []⟩ 12 (by kernel_rfl) (by kernel_rfl) (by kernel_rfl) (by kernel_rfl)) ?_
  intro W base args ds gs before hval0 hW _ _
  have hval : ∀ (j : Nat) t v, Tryz.f3.params[j]? = some t → args[j]? = some v → Value.okWide Tryz.prog W .any base t v := hval0
  have hpost := fun W' hb => xIy (W' := W') (tb := 4) Tryz.laidOut (by kernel_rfl) rfl (by kernel_rfl) Tryz.underlying4 (fun ds hd => by
    match ds, hd with
    | [_, _], _ => exact ⟨rfl, rfl, rfl⟩) hW hb
  obtain ⟨p, q, hA0, hV, rfl, hfz, hnd⟩ := hW
  have hA : DataW.TrodAll enc Tryz.prog W 0 (fun _ => true) true Tryz.f3.params.toList args.toList ds p := hA0
  rw [Tryz.params3] at hA hval
  obtain ⟨v0, v1, d0, d1, p0, p1, rfl, rfl, rfl, h0, h1⟩ := trodAll_two hA
  obtain ⟨a, rfl, za⟩ := xHi (α := xEK) (t := 33) Tryz.underlying33 (hval 0 _ v0 rfl rfl) (fun _ => rfl) h0
  obtain ⟨b, rfl, zb⟩ := xHi (α := xDQ) (t := 37) Tryz.underlying37 (hval 1 _ v1 rfl rfl) (fun _ => rfl) h1
  refine (xIW (W := W) (xKN (c := a.d) (ps := b.progs.s) (fv := b.frames.s) (pp := b.progs.d) (fs := b.frames.d)) (r := .bool true) (fun v l' h => h.1) (fun A hA => ?_)).mono fun e W' ⟨he, hb⟩ => ⟨_, he, hpost W' hb⟩
  rcases List.mem_append.1 hA with hA | hA
  · exact fun R hR => xJN (za R hR) A hA
  · exact fun R hR => xGt (zb R hR) A hA
theorem xL4 {a b : Bool} (h1 : a = true) (h2 : b = true) : (a && b) = true := by rw [h1, h2]; rfl
set_option maxHeartbeats 6400000
theorem xDv : joinedFacts Tryz.pinned.checked.prog 3 Tryz.f3 Rows.plainBudgetsSpec Rows.plainBudgetsRow = true := by
  unfold joinedFacts
  repeat' (with_reducible refine xL4 ?_ ?_)
  all_goals (as_aux_lemma => kernel_rfl)
theorem xDB : Tryz.pinned.checked.prog.funcNamed Rows.plainBudgetsRow.func = some 3 := by kernel_rfl
theorem xDR : Tryz.f3.isInstance Tryz.pinned.checked.prog Rows.plainBudgetsRow.origin Rows.plainBudgetsRow.targs := of_decide_eq_true (by kernel_rfl)
theorem xDM : Tryz.f3.isWrapper Tryz.pinned.checked.prog Rows.plainBudgetsRow.wrapper Rows.plainBudgetsRow.mainSum := by unfold Func.isWrapper; first | (rw [if_pos (by decide +kernel)]; kernel_rfl) | (rw [if_neg (by decide +kernel)]; exact ⟨rfl, rfl⟩)
theorem plainBudgets_holds : Rows.PlainBudgetsSaid :=
  OpenClaim.holds_of_wide 3 Tryz.f3 rfl rfl rfl rfl rfl rfl rfl ⟨rfl, rfl, rfl, rfl, rfl⟩ rfl rfl rfl rfl rfl xDB Tryz.func3 xDv xDR xDM
    (fun os started H enc _ => plainBudgets_lifted os started H enc)
end Go.Proofs.YtmebccjndhlpoaaGreat
