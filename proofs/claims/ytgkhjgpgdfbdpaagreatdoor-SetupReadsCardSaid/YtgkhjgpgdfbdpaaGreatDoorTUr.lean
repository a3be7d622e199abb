/- SetupReads: the configuration of any text, or the error and its line, are as the document says: no condition. -/
import Derived.Test.YtgkhjgpgdfbdpaaGreatDoorWM
import Derived.Test.YtgkhjgpgdfbdpaaGreatDoorTU
namespace Go.Proofs.YtgkhjgpgdfbdpaaGreatDoor
open Go Go.Wk Go.ChangeShapes Go.WideShapes Go.ChangeAt Go.RowKit
set_option maxRecDepth 100000
theorem setupReads_met (os : Os) (args : Array Value) : laidMet Tryz.prog Rows.setupReadsRow.laid ((World.laidAll Tryz.prog os Rows.setupReadsRow.laid).forCall (fun _ _ => 0) ⟨#[], args, []⟩).memory :=
  laidMet_laidAll args (by kernel_rfl) (by kernel_rfl)
theorem setupReads_wit (os : Os) {H : Type} (enc : TypeId × Value → H) :
    (OpenSpec.ofChange Rows.setupReadsSpec).preRow enc Tryz.prog Tryz.f4 Rows.setupReadsRow.domain false Rows.setupReadsRow.laid ((World.laidAll Tryz.prog os Rows.setupReadsRow.laid).forCall (fun _ _ => 0) ⟨#[], #[.string ⟨#[]⟩], []⟩).memory #[.string ⟨#[]⟩] := by
  have hw : ∃ x, DataW.whole enc Tryz.prog ((World.laidAll Tryz.prog os Rows.setupReadsRow.laid).forCall (fun _ _ => 0) ⟨#[], #[.string ⟨#[]⟩], []⟩).memory Tryz.f4.params.toList (OpenSpec.ofChange Rows.setupReadsSpec).vars false #[.string ⟨#[]⟩].toList 8 = some x :=
    Option.isSome_iff_exists.1 (by kernel_rfl)
  obtain ⟨x, hx⟩ := hw
  exact OpenSpec.preRow_of_cond 8 hx (by rfl) (fun k hk => by cases hk) (by kernel_rfl) (setupReads_met os _)
theorem setupReads_lifted (os : Os) (started : os.Started) (H : Type) (enc : TypeId × Value → H) (F0 : Stop.Interp) :
    ReturnsInHanded {} Tryz.checked os 4 .any ((OpenSpec.ofChange Rows.setupReadsSpec).preRow enc Tryz.prog Tryz.f4 Rows.setupReadsRow.domain false Rows.setupReadsRow.laid) (((OpenSpec.ofChange Rows.setupReadsSpec).at F0).post enc Tryz.prog Tryz.f4 false true false false) := by
  refine returnsInHanded_of_row (C := Tryz.checked) (s := OpenSpec.ofChange Rows.setupReadsSpec) Tryz.own started (by kernel_rfl) Tryz.func4
    (witness_row_atRef (enc := enc) (C := Tryz.checked) false (World.laidAll Tryz.prog os Rows.setupReadsRow.laid) #[.string ⟨#[]⟩] (World.laidAll_os _ _ _) (by kernel_rfl) (by kernel_rfl) (by kernel_rfl) (setupReads_wit os enc)) ?_
  intro W base args ds gs before hval0 hW _ _ _ _ hsh _
  have hval : ∀ (j : Nat) t v, Tryz.f4.params[j]? = some t → args[j]? = some v → Value.okWide Tryz.prog W .any base t v := hval0
  have hpost := fun W' hb => law_post (s := Rows.setupReadsSpec) (W' := W') (tb := 4) Tryz.laidOut (by kernel_rfl) rfl (by kernel_rfl) Tryz.underlying4 (fun ds hd => by
    match ds, hd with
    | [_], _ => exact ⟨rfl, rfl, rfl⟩) hW hb
  obtain ⟨p, q, hA0, hV, rfl, hfz, hnd⟩ := hW
  have hA : DataW.TrodAll enc Tryz.prog W 0 (fun _ => true) true Tryz.f4.params.toList args.toList ds p := hA0
  rw [Tryz.params4] at hA hval
  obtain ⟨m, hm⟩ := mx_of_shape hsh
  obtain ⟨v0, d0, rfl, rfl, h0⟩ := trodAll_one hA
  obtain ⟨c, ec, zc⟩ := arg_one (α := Str) (t := 9) (by kernel_rfl) (hval 0 _ v0 rfl rfl) (fun _ => rfl) h0
  cases ec
  refine (calls_of (W := W) (reads34_ok (s := c.d) (m := m)) (r := .bool true) (fun v l' h => h.1) (fun A hA => ?_)).mono fun e W' ⟨he, hb⟩ => ⟨_, he, hpost W' hb⟩
  simp only [List.mem_singleton] at hA
  subst hA
  exact mx_of_cell hm
theorem setupReads_row : Rows.SetupReadsSaid :=
  OpenClaim.holds_of_cond 4 Tryz.f4 rfl rfl rfl rfl rfl rfl rfl ⟨rfl, rfl, rfl, rfl, rfl⟩ rfl rfl rfl rfl rfl (by kernel_rfl) Tryz.func4 (by kernel_rfl)
    (of_decide_eq_true (by kernel_rfl)) (by unfold Func.isWrapper; first | (rw [if_pos (by decide +kernel)]; kernel_rfl) | (rw [if_neg (by decide +kernel)]; exact ⟨rfl, rfl⟩))
    (fun os started H enc _ F0 => by rw [OpenClaim.pre_eq_preRow]; exact setupReads_lifted os started H enc F0)
theorem setupReads_holds : Rows.SetupReadsCardSaid :=
  Claim7.holds_tied_plain_at .later [] Rows.setupReadsCard.laidKinds Rows.setupReadsCard.laidTests Rows.setupReadsCard.stood.harness Rows.setupReadsCard.stood.looks
    setupReads_row (fun _ h => by cases h) (by kernel_rfl) (fun _ h => by cases h) setupReads_row_tie rfl ⟨rfl, rfl⟩ (by kernel_rfl) rfl
    (fun f fn hf hfn => by
      obtain rfl : f = 4 := Option.some.inj ((show Tryz.prog.funcNamed "anchorhold/anchorholdlaw34.SetupReads" = some 4 by kernel_rfl).symm.trans hf) |>.symm
      obtain rfl : fn = Tryz.f4 := (Option.some.inj (Tryz.func4.symm.trans hfn)).symm
      exact ⟨by kernel_rfl, fun j t ht => params_stand (by kernel_rfl) ht⟩)
    (by kernel_rfl)
end Go.Proofs.YtgkhjgpgdfbdpaaGreatDoor
