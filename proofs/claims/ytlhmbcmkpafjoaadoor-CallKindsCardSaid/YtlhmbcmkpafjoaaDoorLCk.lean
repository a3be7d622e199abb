/- CallKinds: whether any number is a call, its name, of how many numbers it is, and whether it may wait, and any name's number, are as the document says: of at most 100 bytes: no condition. -/
import Derived.Test.YtlhmbcmkpafjoaaDoorLC
namespace Go.Proofs.YtlhmbcmkpafjoaaDoor
open Go Go.Wk Go.ChangeShapes Go.WideShapes Go.ChangeAt Go.RowKit
set_option maxRecDepth 100000
theorem callKinds_met (os : Os) (args : Array Value) : laidMet Tryd.prog Rows.callKindsRow.laid ((World.laidAll Tryd.prog os Rows.callKindsRow.laid).forCall (fun _ _ => 0) ⟨#[], args, []⟩).memory :=
  laidMet_laidAll args (by kernel_rfl) (by kernel_rfl)
theorem callKinds_wit (os : Os) {H : Type} (enc : TypeId × Value → H) :
    (OpenSpec.ofChange Rows.callKindsSpec).preRow enc Tryd.prog Tryd.f6 Rows.callKindsRow.domain false Rows.callKindsRow.laid ((World.laidAll Tryd.prog os Rows.callKindsRow.laid).forCall (fun _ _ => 0) ⟨#[], #[.int .i64 0, .string ⟨#[]⟩], []⟩).memory #[.int .i64 0, .string ⟨#[]⟩] := by
  have hw : ∃ x, DataW.whole enc Tryd.prog ((World.laidAll Tryd.prog os Rows.callKindsRow.laid).forCall (fun _ _ => 0) ⟨#[], #[.int .i64 0, .string ⟨#[]⟩], []⟩).memory Tryd.f6.params.toList (OpenSpec.ofChange Rows.callKindsSpec).vars false #[.int .i64 0, .string ⟨#[]⟩].toList 8 = some x :=
    Option.isSome_iff_exists.1 (by kernel_rfl)
  obtain ⟨x, hx⟩ := hw
  exact OpenSpec.preRow_of_cond 8 hx (by rfl) (fun k hk => by cases hk) (by kernel_rfl) (callKinds_met os _)
theorem callKinds_lifted (os : Os) (started : os.Started) (H : Type) (enc : TypeId × Value → H) (F0 : Stop.Interp) :
    ReturnsInHanded {} Tryd.checked os 6 .any ((OpenSpec.ofChange Rows.callKindsSpec).preRow enc Tryd.prog Tryd.f6 Rows.callKindsRow.domain false Rows.callKindsRow.laid) (((OpenSpec.ofChange Rows.callKindsSpec).at F0).post enc Tryd.prog Tryd.f6 false true false false) := by
  refine returnsInHanded_of_row (C := Tryd.checked) (s := OpenSpec.ofChange Rows.callKindsSpec) Tryd.own started (by kernel_rfl) Tryd.func6
    (witness_row_atRef (enc := enc) (C := Tryd.checked) false (World.laidAll Tryd.prog os Rows.callKindsRow.laid) #[.int .i64 0, .string ⟨#[]⟩] (World.laidAll_os _ _ _) (by kernel_rfl) (by kernel_rfl) (by kernel_rfl) (callKinds_wit os enc)) ?_
  intro W base args ds gs before hval0 hW _ _ _ _ hsh _
  have hval : ∀ (j : Nat) t v, Tryd.f6.params[j]? = some t → args[j]? = some v → Value.okWide Tryd.prog W .any base t v := hval0
  have hpost := fun W' hb => law_post (s := Rows.callKindsSpec) (W' := W') (tb := 4) Tryd.laidOut (by kernel_rfl) rfl (by kernel_rfl) Tryd.underlying4 (fun ds hd => by
    match ds, hd with
    | [_, _], _ => exact ⟨rfl, rfl, rfl⟩) hW hb
  obtain ⟨p, q, hA0, hV, rfl, hfz, hnd⟩ := hW
  have hA : DataW.TrodAll enc Tryd.prog W 0 (fun _ => true) true Tryd.f6.params.toList args.toList ds p := hA0
  rw [Tryd.params6] at hA hval
  obtain ⟨m, hm⟩ := mx_of_shape hsh
  obtain ⟨v0, v1, d0, d1, p0, p1, rfl, rfl, rfl, h0, h1⟩ := trodAll_two hA
  obtain ⟨a, ea, za⟩ := arg_one (α := Int) (t := 3) (by kernel_rfl) (hval 0 _ v0 rfl rfl) (fun _ => rfl) h0
  obtain ⟨b, eb, zb⟩ := arg_one (α := Str) (t := 9) (by kernel_rfl) (hval 1 _ v1 rfl rfl) (fun _ => rfl) h1
  cases ea
  cases eb
  refine (calls_of (W := W) (kinds22_ok (no := a) (name := b.d) (m := m)) (r := .bool true) (fun v l' h => h.1) (fun A hA => ?_)).mono fun e W' ⟨he, hb⟩ => ⟨_, he, hpost W' hb⟩
  simp only [List.mem_singleton] at hA
  subst hA
  exact mx_of_cell hm
theorem callKinds_row : Rows.CallKindsSaid :=
  OpenClaim.holds_of_cond 6 Tryd.f6 rfl rfl rfl rfl rfl rfl rfl ⟨rfl, rfl, rfl, rfl, rfl⟩ rfl rfl rfl rfl rfl (by kernel_rfl) Tryd.func6 (by kernel_rfl)
    (of_decide_eq_true (by kernel_rfl)) (by unfold Func.isWrapper; first | (rw [if_pos (by decide +kernel)]; kernel_rfl) | (rw [if_neg (by decide +kernel)]; exact ⟨rfl, rfl⟩))
    (fun os started H enc _ F0 => by rw [OpenClaim.pre_eq_preRow]; exact callKinds_lifted os started H enc F0)
theorem callKinds_holds : Rows.CallKindsCardSaid :=
  Claim7.holds_tied_plain_at .later [] Rows.callKindsCard.laidKinds Rows.callKindsCard.laidTests Rows.callKindsCard.stood.harness Rows.callKindsCard.stood.looks
    callKinds_row (fun _ h => by cases h) (by kernel_rfl) (fun _ h => by cases h) callKinds_row_tie rfl ⟨rfl, rfl⟩ (by kernel_rfl) rfl
    (fun f fn hf hfn => by
      obtain rfl : f = 6 := Option.some.inj ((show Tryd.prog.funcNamed "anchorhold/anchorholdlaw22.CallKinds" = some 6 by kernel_rfl).symm.trans hf) |>.symm
      obtain rfl : fn = Tryd.f6 := (Option.some.inj (Tryd.func6.symm.trans hfn)).symm
      exact ⟨by kernel_rfl, fun j t ht => params_stand (by kernel_rfl) ht⟩)
    (by kernel_rfl)
end Go.Proofs.YtlhmbcmkpafjoaaDoor
