/- TraceReads: the events of any text, or the error and its line, are as the document says; what is read is printed just so: of at most 4000 bytes: no condition. -/
import Derived.Test.YtgkhjgpgdfbdpaaDoorTC
namespace Go.Proofs.YtgkhjgpgdfbdpaaDoor
open Go Go.Wk Go.ChangeShapes Go.WideShapes Go.ChangeAt Go.RowKit
set_option maxRecDepth 100000
theorem traceReads_met (os : Os) (args : Array Value) : laidMet Tryd.prog Rows.traceReadsRow.laid ((World.laidAll Tryd.prog os Rows.traceReadsRow.laid).forCall (fun _ _ => 0) ⟨#[], args, []⟩).memory :=
  laidMet_laidAll args (by kernel_rfl) (by kernel_rfl)
theorem traceReads_wit (os : Os) {H : Type} (enc : TypeId × Value → H) :
    (OpenSpec.ofChange Rows.traceReadsSpec).preRow enc Tryd.prog Tryd.f4 Rows.traceReadsRow.domain false Rows.traceReadsRow.laid ((World.laidAll Tryd.prog os Rows.traceReadsRow.laid).forCall (fun _ _ => 0) ⟨#[], #[.string ⟨#[]⟩], []⟩).memory #[.string ⟨#[]⟩] := by
  have hw : ∃ x, DataW.whole enc Tryd.prog ((World.laidAll Tryd.prog os Rows.traceReadsRow.laid).forCall (fun _ _ => 0) ⟨#[], #[.string ⟨#[]⟩], []⟩).memory Tryd.f4.params.toList (OpenSpec.ofChange Rows.traceReadsSpec).vars false #[.string ⟨#[]⟩].toList 8 = some x :=
    Option.isSome_iff_exists.1 (by kernel_rfl)
  obtain ⟨x, hx⟩ := hw
  exact OpenSpec.preRow_of_cond 8 hx (by rfl) (fun k hk => by cases hk) (by kernel_rfl) (traceReads_met os _)
theorem traceReads_lifted (os : Os) (started : os.Started) (H : Type) (enc : TypeId × Value → H) (F0 : Stop.Interp) :
    ReturnsInHanded {} Tryd.checked os 4 .any ((OpenSpec.ofChange Rows.traceReadsSpec).preRow enc Tryd.prog Tryd.f4 Rows.traceReadsRow.domain false Rows.traceReadsRow.laid) (((OpenSpec.ofChange Rows.traceReadsSpec).at F0).post enc Tryd.prog Tryd.f4 false true false false) := by
  refine returnsInHanded_of_row (C := Tryd.checked) (s := OpenSpec.ofChange Rows.traceReadsSpec) Tryd.own started (by kernel_rfl) Tryd.func4
    (witness_row_atRef (enc := enc) (C := Tryd.checked) false (World.laidAll Tryd.prog os Rows.traceReadsRow.laid) #[.string ⟨#[]⟩] (World.laidAll_os _ _ _) (by kernel_rfl) (by kernel_rfl) (by kernel_rfl) (traceReads_wit os enc)) ?_
  intro W base args ds gs before hval0 hW _ _ _ _ hsh _
  have hval : ∀ (j : Nat) t v, Tryd.f4.params[j]? = some t → args[j]? = some v → Value.okWide Tryd.prog W .any base t v := hval0
  have hpost := fun W' hb => law_post (s := Rows.traceReadsSpec) (W' := W') (tb := 4) Tryd.laidOut (by kernel_rfl) rfl (by kernel_rfl) Tryd.underlying4 (fun ds hd => by
    match ds, hd with
    | [_], _ => exact ⟨rfl, rfl, rfl⟩) hW hb
  obtain ⟨p, q, hA0, hV, rfl, hfz, hnd⟩ := hW
  have hA : DataW.TrodAll enc Tryd.prog W 0 (fun _ => true) true Tryd.f4.params.toList args.toList ds p := hA0
  rw [Tryd.params4] at hA hval
  obtain ⟨m, hm⟩ := mx_of_shape hsh
  obtain ⟨v0, d0, rfl, rfl, h0⟩ := trodAll_one hA
  obtain ⟨c, ec, zc⟩ := arg_one (α := Str) (t := 9) (by kernel_rfl) (hval 0 _ v0 rfl rfl) (fun _ => rfl) h0
  cases ec
  refine (calls_of (W := W) (reads28_ok (s := c.d) (m := m)) (r := .bool true) (fun v l' h => h.1) (fun A hA => ?_)).mono fun e W' ⟨he, hb⟩ => ⟨_, he, hpost W' hb⟩
  simp only [List.mem_singleton] at hA
  subst hA
  exact mx_of_cell hm
theorem traceReads_row : Rows.TraceReadsSaid :=
  OpenClaim.holds_of_cond 4 Tryd.f4 rfl rfl rfl rfl rfl rfl rfl ⟨rfl, rfl, rfl, rfl, rfl⟩ rfl rfl rfl rfl rfl (by kernel_rfl) Tryd.func4 (by kernel_rfl)
    (of_decide_eq_true (by kernel_rfl)) (by unfold Func.isWrapper; first | (rw [if_pos (by decide +kernel)]; kernel_rfl) | (rw [if_neg (by decide +kernel)]; exact ⟨rfl, rfl⟩))
    (fun os started H enc _ F0 => by rw [OpenClaim.pre_eq_preRow]; exact traceReads_lifted os started H enc F0)
theorem traceReads_holds : Rows.TraceReadsCardSaid :=
  Claim7.holds_tied_plain_at .later [] Rows.traceReadsCard.laidKinds Rows.traceReadsCard.laidTests Rows.traceReadsCard.stood.harness Rows.traceReadsCard.stood.looks
    traceReads_row (fun _ h => by cases h) (by kernel_rfl) (fun _ h => by cases h) traceReads_row_tie rfl ⟨rfl, rfl⟩ (by kernel_rfl) rfl
    (fun f fn hf hfn => by
      obtain rfl : f = 4 := Option.some.inj ((show Tryd.prog.funcNamed "anchorhold/anchorholdlaw28.TraceReads" = some 4 by kernel_rfl).symm.trans hf) |>.symm
      obtain rfl : fn = Tryd.f4 := (Option.some.inj (Tryd.func4.symm.trans hfn)).symm
      exact ⟨by kernel_rfl, fun j t ht => params_stand (by kernel_rfl) ht⟩)
    (by kernel_rfl)
end Go.Proofs.YtgkhjgpgdfbdpaaDoor
