/- SetupPrints: the document prints and cuts lines as the program does: no condition. -/
import Derived.Test.YtgkhjgpgdfbdpaaGreatDoorWE
import Derived.Test.YtgkhjgpgdfbdpaaGreatDoorTU
namespace Go.Proofs.YtgkhjgpgdfbdpaaGreatDoor
open Go Go.Wk Go.ChangeShapes Go.WideShapes Go.ChangeAt Go.RowKit
set_option maxRecDepth 100000
theorem setupPrints_met (os : Os) (args : Array Value) : laidMet Tryz.prog Rows.setupPrintsRow.laid ((World.laidAll Tryz.prog os Rows.setupPrintsRow.laid).forCall (fun _ _ => 0) ⟨#[], args, []⟩).memory :=
  laidMet_laidAll args (by kernel_rfl) (by kernel_rfl)
theorem setupPrints_wit (os : Os) {H : Type} (enc : TypeId × Value → H) :
    (OpenSpec.ofChange Rows.setupPrintsSpec).preRow enc Tryz.prog Tryz.f3 Rows.setupPrintsRow.domain false Rows.setupPrintsRow.laid ((World.laidAll Tryz.prog os Rows.setupPrintsRow.laid).forCall (fun _ _ => 0) ⟨#[], #[.agg #[.slice none 0 0, .slice none 0 0, .slice none 0 0, .slice none 0 0, .slice none 0 0, .int .i64 0, .int .i64 0, .int .i64 0, .int .i64 0, .int .i64 0, .int .i64 0, .slice none 0 0, .slice none 0 0], .string ⟨#[]⟩], []⟩).memory #[.agg #[.slice none 0 0, .slice none 0 0, .slice none 0 0, .slice none 0 0, .slice none 0 0, .int .i64 0, .int .i64 0, .int .i64 0, .int .i64 0, .int .i64 0, .int .i64 0, .slice none 0 0, .slice none 0 0], .string ⟨#[]⟩] := by
  have hw : ∃ x, DataW.whole enc Tryz.prog ((World.laidAll Tryz.prog os Rows.setupPrintsRow.laid).forCall (fun _ _ => 0) ⟨#[], #[.agg #[.slice none 0 0, .slice none 0 0, .slice none 0 0, .slice none 0 0, .slice none 0 0, .int .i64 0, .int .i64 0, .int .i64 0, .int .i64 0, .int .i64 0, .int .i64 0, .slice none 0 0, .slice none 0 0], .string ⟨#[]⟩], []⟩).memory Tryz.f3.params.toList (OpenSpec.ofChange Rows.setupPrintsSpec).vars false #[.agg #[.slice none 0 0, .slice none 0 0, .slice none 0 0, .slice none 0 0, .slice none 0 0, .int .i64 0, .int .i64 0, .int .i64 0, .int .i64 0, .int .i64 0, .int .i64 0, .slice none 0 0, .slice none 0 0], .string ⟨#[]⟩].toList 8 = some x :=
    Option.isSome_iff_exists.1 (by kernel_rfl)
  obtain ⟨x, hx⟩ := hw
  exact OpenSpec.preRow_of_cond 8 hx (by rfl) (fun k hk => by cases hk) (by kernel_rfl) (setupPrints_met os _)
theorem setupPrints_lifted (os : Os) (started : os.Started) (H : Type) (enc : TypeId × Value → H) (F0 : Stop.Interp) :
    ReturnsInHanded {} Tryz.checked os 3 .any ((OpenSpec.ofChange Rows.setupPrintsSpec).preRow enc Tryz.prog Tryz.f3 Rows.setupPrintsRow.domain false Rows.setupPrintsRow.laid) (((OpenSpec.ofChange Rows.setupPrintsSpec).at F0).post enc Tryz.prog Tryz.f3 false true false false) := by
  refine returnsInHanded_of_row (C := Tryz.checked) (s := OpenSpec.ofChange Rows.setupPrintsSpec) Tryz.own started (by kernel_rfl) Tryz.func3
    (witness_row_atRef (enc := enc) (C := Tryz.checked) false (World.laidAll Tryz.prog os Rows.setupPrintsRow.laid) #[.agg #[.slice none 0 0, .slice none 0 0, .slice none 0 0, .slice none 0 0, .slice none 0 0, .int .i64 0, .int .i64 0, .int .i64 0, .int .i64 0, .int .i64 0, .int .i64 0, .slice none 0 0, .slice none 0 0], .string ⟨#[]⟩] (World.laidAll_os _ _ _) (by kernel_rfl) (by kernel_rfl) (by kernel_rfl) (setupPrints_wit os enc)) ?_
  intro W base args ds gs before hval0 hW _ _ _ _ hsh _
  have hval : ∀ (j : Nat) t v, Tryz.f3.params[j]? = some t → args[j]? = some v → Value.okWide Tryz.prog W .any base t v := hval0
  have hpost := fun W' hb => law_post (s := Rows.setupPrintsSpec) (W' := W') (tb := 4) Tryz.laidOut (by kernel_rfl) rfl (by kernel_rfl) Tryz.underlying4 (fun ds hd => by
    match ds, hd with
    | [_, _], _ => exact ⟨rfl, rfl, rfl⟩) hW hb
  obtain ⟨p, q, hA0, hV, rfl, hfz, hnd⟩ := hW
  have hA : DataW.TrodAll enc Tryz.prog W 0 (fun _ => true) true Tryz.f3.params.toList args.toList ds p := hA0
  rw [Tryz.params3] at hA hval
  obtain ⟨m, hm⟩ := mx_of_shape hsh
  obtain ⟨v0, v1, d0, d1, p0, p1, rfl, rfl, rfl, h0, h1⟩ := trodAll_two hA
  obtain ⟨a, rfl, za⟩ := arg_agg (α := ConfI) (t := 33) Tryz.underlying33 (hval 0 _ v0 rfl rfl) (fun _ => rfl) h0
  obtain ⟨b, eb, zb⟩ := arg_one (α := Str) (t := 9) (by kernel_rfl) (hval 1 _ v1 rfl rfl) (fun _ => rfl) h1
  cases eb
  refine (calls_of (W := W) (prints34_ok (u0 := .agg (En.enc a.d).toArray) (c := a.d) (line := b.d) (m := m) (hd := ⟨rfl⟩) (conf_okD (conf_fz (za (fun _ => True) (fun _ _ => trivial))))) (r := .bool true) (fun v l' h => h.1) (fun A hA => ?_)).mono fun e W' ⟨he, hb⟩ => ⟨_, he, hpost W' hb⟩
  rcases List.mem_cons.1 hA with rfl | hA
  · exact mx_of_cell hm
  · simp only [List.mem_singleton] at hA
    subst hA
    exact fun R hR x hx => by
      rw [List.mem_singleton.1 hx]
      exact conf_fz (za R hR)
theorem setupPrints_row : Rows.SetupPrintsSaid :=
  OpenClaim.holds_of_cond 3 Tryz.f3 rfl rfl rfl rfl rfl rfl rfl ⟨rfl, rfl, rfl, rfl, rfl⟩ rfl rfl rfl rfl rfl (by kernel_rfl) Tryz.func3 (by kernel_rfl)
    (of_decide_eq_true (by kernel_rfl)) (by unfold Func.isWrapper; first | (rw [if_pos (by decide +kernel)]; kernel_rfl) | (rw [if_neg (by decide +kernel)]; exact ⟨rfl, rfl⟩))
    (fun os started H enc _ F0 => by rw [OpenClaim.pre_eq_preRow]; exact setupPrints_lifted os started H enc F0)
theorem setupPrints_holds : Rows.SetupPrintsCardSaid :=
  Claim7.holds_tied_plain_at .later [] Rows.setupPrintsCard.laidKinds Rows.setupPrintsCard.laidTests Rows.setupPrintsCard.stood.harness Rows.setupPrintsCard.stood.looks
    setupPrints_row (fun _ h => by cases h) (by kernel_rfl) (fun _ h => by cases h) setupPrints_row_tie rfl ⟨rfl, rfl⟩ (by kernel_rfl) rfl
    (fun f fn hf hfn => by
      obtain rfl : f = 3 := Option.some.inj ((show Tryz.prog.funcNamed "anchorhold/anchorholdlaw34.SetupPrints" = some 3 by kernel_rfl).symm.trans hf) |>.symm
      obtain rfl : fn = Tryz.f3 := (Option.some.inj (Tryz.func3.symm.trans hfn)).symm
      exact ⟨by kernel_rfl, fun j t ht => params_stand (by kernel_rfl) ht⟩)
    (by kernel_rfl)
end Go.Proofs.YtgkhjgpgdfbdpaaGreatDoor
