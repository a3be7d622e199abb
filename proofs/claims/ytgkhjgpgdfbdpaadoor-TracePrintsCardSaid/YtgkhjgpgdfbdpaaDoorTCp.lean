/- TracePrints: any call's word, any word's call, and any events' text, are as the document says, or the error: of at most 3000 events, and 100 bytes: no condition. -/
import Derived.Test.YtgkhjgpgdfbdpaaDoorTC
namespace Go.Proofs.YtgkhjgpgdfbdpaaDoor
open Go Go.Wk Go.ChangeShapes Go.WideShapes Go.ChangeAt Go.RowKit
set_option maxRecDepth 100000
theorem tracePrints_met (os : Os) (args : Array Value) : laidMet Tryd.prog Rows.tracePrintsRow.laid ((World.laidAll Tryd.prog os Rows.tracePrintsRow.laid).forCall (fun _ _ => 0) ⟨#[], args, []⟩).memory :=
  laidMet_laidAll args (by kernel_rfl) (by kernel_rfl)
theorem tracePrints_wit (os : Os) {H : Type} (enc : TypeId × Value → H) :
    (OpenSpec.ofChange Rows.tracePrintsSpec).preRow enc Tryd.prog Tryd.f3 Rows.tracePrintsRow.domain false Rows.tracePrintsRow.laid ((World.laidAll Tryd.prog os Rows.tracePrintsRow.laid).forCall (fun _ _ => 0) ⟨#[], #[.slice none 0 0, .int .i64 0, .string ⟨#[]⟩], []⟩).memory #[.slice none 0 0, .int .i64 0, .string ⟨#[]⟩] := by
  have hw : ∃ x, DataW.whole enc Tryd.prog ((World.laidAll Tryd.prog os Rows.tracePrintsRow.laid).forCall (fun _ _ => 0) ⟨#[], #[.slice none 0 0, .int .i64 0, .string ⟨#[]⟩], []⟩).memory Tryd.f3.params.toList (OpenSpec.ofChange Rows.tracePrintsSpec).vars false #[.slice none 0 0, .int .i64 0, .string ⟨#[]⟩].toList 8 = some x :=
    Option.isSome_iff_exists.1 (by kernel_rfl)
  obtain ⟨x, hx⟩ := hw
  exact OpenSpec.preRow_of_cond 8 hx (by rfl) (fun k hk => by cases hk) (by kernel_rfl) (tracePrints_met os _)
theorem tracePrints_lifted (os : Os) (started : os.Started) (H : Type) (enc : TypeId × Value → H) (F0 : Stop.Interp) :
    ReturnsInHanded {} Tryd.checked os 3 .any ((OpenSpec.ofChange Rows.tracePrintsSpec).preRow enc Tryd.prog Tryd.f3 Rows.tracePrintsRow.domain false Rows.tracePrintsRow.laid) (((OpenSpec.ofChange Rows.tracePrintsSpec).at F0).post enc Tryd.prog Tryd.f3 false true false false) := by
  refine returnsInHanded_of_row (C := Tryd.checked) (s := OpenSpec.ofChange Rows.tracePrintsSpec) Tryd.own started (by kernel_rfl) Tryd.func3
    (witness_row_atRef (enc := enc) (C := Tryd.checked) false (World.laidAll Tryd.prog os Rows.tracePrintsRow.laid) #[.slice none 0 0, .int .i64 0, .string ⟨#[]⟩] (World.laidAll_os _ _ _) (by kernel_rfl) (by kernel_rfl) (by kernel_rfl) (tracePrints_wit os enc)) ?_
  intro W base args ds gs before hval0 hW _ _ _ _ hsh _
  have hval : ∀ (j : Nat) t v, Tryd.f3.params[j]? = some t → args[j]? = some v → Value.okWide Tryd.prog W .any base t v := hval0
  have hpost := fun W' hb => law_post (s := Rows.tracePrintsSpec) (W' := W') (tb := 4) Tryd.laidOut (by kernel_rfl) rfl (by kernel_rfl) Tryd.underlying4 (fun ds hd => by
    match ds, hd with
    | [_, _, _], _ => exact ⟨rfl, rfl, rfl⟩) hW hb
  obtain ⟨p, q, hA0, hV, rfl, hfz, hnd⟩ := hW
  have hA : DataW.TrodAll enc Tryd.prog W 0 (fun _ => true) true Tryd.f3.params.toList args.toList ds p := hA0
  rw [Tryd.params3] at hA hval
  obtain ⟨m, hm⟩ := mx_of_shape hsh
  obtain ⟨v0, v1, v2, d0, d1, d2, p0, p1, p2, rfl, rfl, rfl, h0, h1, h2⟩ := trodAll_three hA
  obtain ⟨a, ea, za⟩ := arg_one (α := SL EvC) (t := 22) (by kernel_rfl) (hval 0 _ v0 rfl rfl) (fun _ => rfl) h0
  obtain ⟨b, eb, zb⟩ := arg_one (α := Int) (t := 3) (by kernel_rfl) (hval 1 _ v1 rfl rfl) (fun _ => rfl) h1
  obtain ⟨c, ec, zc⟩ := arg_one (α := Str) (t := 9) (by kernel_rfl) (hval 2 _ v2 rfl rfl) (fun _ => rfl) h2
  cases ea
  cases eb
  cases ec
  refine (calls_of (W := W) (prints28_ok (v := a.s.v) (xs := a.d) (call := b) (word := c.d) (m := m) (evs_ok_of (za (fun _ => True) (fun _ _ => trivial))) (int_ok_of (zb (fun _ => True) (fun _ _ => trivial)))) (r := .bool true) (fun v l' h => h.1) (fun A hA => ?_)).mono fun e W' ⟨he, hb⟩ => ⟨_, he, hpost W' hb⟩
  rcases List.mem_cons.1 hA with rfl | hA
  · exact mx_of_cell hm
  · simp only [List.mem_singleton] at hA
    subst hA
    exact fun R hR => sl_of_fz (za R hR)
theorem tracePrints_row : Rows.TracePrintsSaid :=
  OpenClaim.holds_of_cond 3 Tryd.f3 rfl rfl rfl rfl rfl rfl rfl ⟨rfl, rfl, rfl, rfl, rfl⟩ rfl rfl rfl rfl rfl (by kernel_rfl) Tryd.func3 (by kernel_rfl)
    (of_decide_eq_true (by kernel_rfl)) (by unfold Func.isWrapper; first | (rw [if_pos (by decide +kernel)]; kernel_rfl) | (rw [if_neg (by decide +kernel)]; exact ⟨rfl, rfl⟩))
    (fun os started H enc _ F0 => by rw [OpenClaim.pre_eq_preRow]; exact tracePrints_lifted os started H enc F0)
theorem tracePrints_holds : Rows.TracePrintsCardSaid :=
  Claim7.holds_tied_plain_at .later [] Rows.tracePrintsCard.laidKinds Rows.tracePrintsCard.laidTests Rows.tracePrintsCard.stood.harness Rows.tracePrintsCard.stood.looks
    tracePrints_row (fun _ h => by cases h) (by kernel_rfl) (fun _ h => by cases h) tracePrints_row_tie rfl ⟨rfl, rfl⟩ (by kernel_rfl) rfl
    (fun f fn hf hfn => by
      obtain rfl : f = 3 := Option.some.inj ((show Tryd.prog.funcNamed "anchorhold/anchorholdlaw28.TracePrints" = some 3 by kernel_rfl).symm.trans hf) |>.symm
      obtain rfl : fn = Tryd.f3 := (Option.some.inj (Tryd.func3.symm.trans hfn)).symm
      exact ⟨by kernel_rfl, fun j t ht => params_stand (by kernel_rfl) ht⟩)
    (by kernel_rfl)
end Go.Proofs.YtgkhjgpgdfbdpaaDoor
