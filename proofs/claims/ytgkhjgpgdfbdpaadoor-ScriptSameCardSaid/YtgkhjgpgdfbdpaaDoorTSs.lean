/- ScriptSame: whether two scripts are alike is as the document says, and a script without numbers that nobody reads stays so: no condition. -/
import Derived.Test.YtgkhjgpgdfbdpaaDoorS4
import Derived.Test.YtgkhjgpgdfbdpaaDoorTS
namespace Go.Proofs.YtgkhjgpgdfbdpaaDoor
open Go Go.Wk Go.ChangeShapes Go.WideShapes Go.ChangeAt Go.RowKit
set_option maxRecDepth 100000
theorem scriptSame_met (os : Os) (args : Array Value) : laidMet Tryd.prog Rows.scriptSameRow.laid ((World.laidAll Tryd.prog os Rows.scriptSameRow.laid).forCall (fun _ _ => 0) ⟨#[], args, []⟩).memory :=
  laidMet_laidAll args (by kernel_rfl) (by kernel_rfl)
theorem scriptSame_wit (os : Os) {H : Type} (enc : TypeId × Value → H) :
    (OpenSpec.ofChange Rows.scriptSameSpec).preRow enc Tryd.prog Tryd.f10 Rows.scriptSameRow.domain false Rows.scriptSameRow.laid ((World.laidAll Tryd.prog os Rows.scriptSameRow.laid).forCall (fun _ _ => 0) ⟨#[], #[.agg #[.slice none 0 0, .slice none 0 0], .agg #[.slice none 0 0, .slice none 0 0]], []⟩).memory #[.agg #[.slice none 0 0, .slice none 0 0], .agg #[.slice none 0 0, .slice none 0 0]] := by
  have hw : ∃ x, DataW.whole enc Tryd.prog ((World.laidAll Tryd.prog os Rows.scriptSameRow.laid).forCall (fun _ _ => 0) ⟨#[], #[.agg #[.slice none 0 0, .slice none 0 0], .agg #[.slice none 0 0, .slice none 0 0]], []⟩).memory Tryd.f10.params.toList (OpenSpec.ofChange Rows.scriptSameSpec).vars false #[.agg #[.slice none 0 0, .slice none 0 0], .agg #[.slice none 0 0, .slice none 0 0]].toList 8 = some x :=
    Option.isSome_iff_exists.1 (by kernel_rfl)
  obtain ⟨x, hx⟩ := hw
  exact OpenSpec.preRow_of_cond 8 hx (by rfl) (fun k hk => by cases hk) (by kernel_rfl) (scriptSame_met os _)
theorem scriptSame_lifted (os : Os) (started : os.Started) (H : Type) (enc : TypeId × Value → H) (F0 : Stop.Interp) :
    ReturnsInHanded {} Tryd.checked os 10 .any ((OpenSpec.ofChange Rows.scriptSameSpec).preRow enc Tryd.prog Tryd.f10 Rows.scriptSameRow.domain false Rows.scriptSameRow.laid) (((OpenSpec.ofChange Rows.scriptSameSpec).at F0).post enc Tryd.prog Tryd.f10 false true false false) := by
  refine returnsInHanded_of_row (C := Tryd.checked) (s := OpenSpec.ofChange Rows.scriptSameSpec) Tryd.own started (by kernel_rfl) Tryd.func10
    (witness_row_atRef (enc := enc) (C := Tryd.checked) false (World.laidAll Tryd.prog os Rows.scriptSameRow.laid) #[.agg #[.slice none 0 0, .slice none 0 0], .agg #[.slice none 0 0, .slice none 0 0]] (World.laidAll_os _ _ _) (by kernel_rfl) (by kernel_rfl) (by kernel_rfl) (scriptSame_wit os enc)) ?_
  intro W base args ds gs before hval0 hW _ _ _ _ hsh _
  have hval : ∀ (j : Nat) t v, Tryd.f10.params[j]? = some t → args[j]? = some v → Value.okWide Tryd.prog W .any base t v := hval0
  have hpost := fun W' hb => law_post (s := Rows.scriptSameSpec) (W' := W') (tb := 4) Tryd.laidOut (by kernel_rfl) rfl (by kernel_rfl) Tryd.underlying4 (fun ds hd => by
    match ds, hd with
    | [_, _], _ => exact ⟨rfl, rfl, rfl⟩) hW hb
  obtain ⟨p, q, hA0, hV, rfl, hfz, hnd⟩ := hW
  have hA : DataW.TrodAll enc Tryd.prog W 0 (fun _ => true) true Tryd.f10.params.toList args.toList ds p := hA0
  rw [Tryd.params10] at hA hval
  obtain ⟨m, hm⟩ := mx_of_shape hsh
  obtain ⟨v0, v1, d0, d1, p0, p1, rfl, rfl, rfl, h0, h1⟩ := trodAll_two hA
  obtain ⟨a, rfl, za⟩ := arg_agg (α := ScriptI) (t := 48) Tryd.underlying48 (hval 0 _ v0 rfl rfl) (fun _ => rfl) h0
  obtain ⟨b, rfl, zb⟩ := arg_agg (α := ScriptI) (t := 48) Tryd.underlying48 (hval 1 _ v1 rfl rfl) (fun _ => rfl) h1
  have ka := script_ok (za (fun _ => True) (fun _ _ => trivial))
  have kb := script_ok (zb (fun _ => True) (fun _ _ => trivial))
  refine (calls_of (W := W) (same29law_ok (p1 := a.progs.s) (f1 := a.frames.s) (xs := a.progs.d) (fx := a.frames.d) (p2 := b.progs.s) (f2 := b.frames.s) (ys := b.progs.d) (fy := b.frames.d) (m := m) ka.2 kb.2) (r := .bool true) (fun v l' h => h.1) (fun A hA => ?_)).mono fun e W' ⟨he, hb⟩ => ⟨_, he, hpost W' hb⟩
  rcases List.mem_cons.1 hA with rfl | hA
  · exact mx_of_cell hm
  · rcases List.mem_append.1 (show A ∈ [sl true a.progs.s.v a.progs.d, famProg true a.progs.d, sl true a.frames.s.v a.frames.d] ++ [sl true b.progs.s.v b.progs.d, famProg true b.progs.d, sl true b.frames.s.v b.frames.d] from hA) with hA | hA
    · exact fun R hR => script_pre (za R hR) A hA
    · exact fun R hR => script_pre (zb R hR) A hA
theorem scriptSame_row : Rows.ScriptSameSaid :=
  OpenClaim.holds_of_cond 10 Tryd.f10 rfl rfl rfl rfl rfl rfl rfl ⟨rfl, rfl, rfl, rfl, rfl⟩ rfl rfl rfl rfl rfl (by kernel_rfl) Tryd.func10 (by kernel_rfl)
    (of_decide_eq_true (by kernel_rfl)) (by unfold Func.isWrapper; first | (rw [if_pos (by decide +kernel)]; kernel_rfl) | (rw [if_neg (by decide +kernel)]; exact ⟨rfl, rfl⟩))
    (fun os started H enc _ F0 => by rw [OpenClaim.pre_eq_preRow]; exact scriptSame_lifted os started H enc F0)
theorem scriptSame_holds : Rows.ScriptSameCardSaid :=
  Claim7.holds_tied_plain_at .later [] Rows.scriptSameCard.laidKinds Rows.scriptSameCard.laidTests Rows.scriptSameCard.stood.harness Rows.scriptSameCard.stood.looks
    scriptSame_row (fun _ h => by cases h) (by kernel_rfl) (fun _ h => by cases h) scriptSame_row_tie rfl ⟨rfl, rfl⟩ (by kernel_rfl) rfl
    (fun f fn hf hfn => by
      obtain rfl : f = 10 := Option.some.inj ((show Tryd.prog.funcNamed "anchorhold/anchorholdlaw29.ScriptSame" = some 10 by kernel_rfl).symm.trans hf) |>.symm
      obtain rfl : fn = Tryd.f10 := (Option.some.inj (Tryd.func10.symm.trans hfn)).symm
      exact ⟨by kernel_rfl, fun j t ht => params_stand (by kernel_rfl) ht⟩)
    (by kernel_rfl)
end Go.Proofs.YtgkhjgpgdfbdpaaDoor
