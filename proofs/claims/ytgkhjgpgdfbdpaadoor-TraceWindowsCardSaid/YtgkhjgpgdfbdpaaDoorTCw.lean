/- TraceWindows: a partition's events by windows, and how many faults it has, are as the document says: of at most 300 events: no condition. -/
import Derived.Test.YtgkhjgpgdfbdpaaDoorYQ
import Derived.Test.YtgkhjgpgdfbdpaaDoorTC
namespace Go.Proofs.YtgkhjgpgdfbdpaaDoor
open Go Go.Wk Go.ChangeShapes Go.WideShapes Go.ChangeAt Go.RowKit
set_option maxRecDepth 100000
theorem traceWindows_met (os : Os) (args : Array Value) : laidMet Tryd.prog Rows.traceWindowsRow.laid ((World.laidAll Tryd.prog os Rows.traceWindowsRow.laid).forCall (fun _ _ => 0) ⟨#[], args, []⟩).memory :=
  laidMet_laidAll args (by kernel_rfl) (by kernel_rfl)
theorem traceWindows_wit (os : Os) {H : Type} (enc : TypeId × Value → H) :
    (OpenSpec.ofChange Rows.traceWindowsSpec).preRow enc Tryd.prog Tryd.f6 Rows.traceWindowsRow.domain false Rows.traceWindowsRow.laid ((World.laidAll Tryd.prog os Rows.traceWindowsRow.laid).forCall (fun _ _ => 0) ⟨#[], #[.slice none 0 0, .int .i64 0], []⟩).memory #[.slice none 0 0, .int .i64 0] := by
  have hw : ∃ x, DataW.whole enc Tryd.prog ((World.laidAll Tryd.prog os Rows.traceWindowsRow.laid).forCall (fun _ _ => 0) ⟨#[], #[.slice none 0 0, .int .i64 0], []⟩).memory Tryd.f6.params.toList (OpenSpec.ofChange Rows.traceWindowsSpec).vars false #[.slice none 0 0, .int .i64 0].toList 8 = some x :=
    Option.isSome_iff_exists.1 (by kernel_rfl)
  obtain ⟨x, hx⟩ := hw
  exact OpenSpec.preRow_of_cond 8 hx (by rfl) (fun k hk => by cases hk) (by kernel_rfl) (traceWindows_met os _)
theorem traceWindows_lifted (os : Os) (started : os.Started) (H : Type) (enc : TypeId × Value → H) (F0 : Stop.Interp) :
    ReturnsInHanded {} Tryd.checked os 6 .any ((OpenSpec.ofChange Rows.traceWindowsSpec).preRow enc Tryd.prog Tryd.f6 Rows.traceWindowsRow.domain false Rows.traceWindowsRow.laid) (((OpenSpec.ofChange Rows.traceWindowsSpec).at F0).post enc Tryd.prog Tryd.f6 false true false false) := by
  refine returnsInHanded_of_row (C := Tryd.checked) (s := OpenSpec.ofChange Rows.traceWindowsSpec) Tryd.own started (by kernel_rfl) Tryd.func6
    (witness_row_atRef (enc := enc) (C := Tryd.checked) false (World.laidAll Tryd.prog os Rows.traceWindowsRow.laid) #[.slice none 0 0, .int .i64 0] (World.laidAll_os _ _ _) (by kernel_rfl) (by kernel_rfl) (by kernel_rfl) (traceWindows_wit os enc)) ?_
  intro W base args ds gs before hval0 hW _ _ _ _ hsh _
  have hval : ∀ (j : Nat) t v, Tryd.f6.params[j]? = some t → args[j]? = some v → Value.okWide Tryd.prog W .any base t v := hval0
  have hpost := fun W' hb => law_post (s := Rows.traceWindowsSpec) (W' := W') (tb := 4) Tryd.laidOut (by kernel_rfl) rfl (by kernel_rfl) Tryd.underlying4 (fun ds hd => by
    match ds, hd with
    | [_, _], _ => exact ⟨rfl, rfl, rfl⟩) hW hb
  obtain ⟨p, q, hA0, hV, rfl, hfz, hnd⟩ := hW
  have hA : DataW.TrodAll enc Tryd.prog W 0 (fun _ => true) true Tryd.f6.params.toList args.toList ds p := hA0
  rw [Tryd.params6] at hA hval
  obtain ⟨m, hm⟩ := mx_of_shape hsh
  obtain ⟨v0, v1, d0, d1, p0, p1, rfl, rfl, rfl, h0, h1⟩ := trodAll_two hA
  obtain ⟨a, ea, za⟩ := arg_one (α := SL EvC) (t := 22) (by kernel_rfl) (hval 0 _ v0 rfl rfl) (fun _ => rfl) h0
  obtain ⟨b, eb, zb⟩ := arg_one (α := Int) (t := 3) (by kernel_rfl) (hval 1 _ v1 rfl rfl) (fun _ => rfl) h1
  cases ea
  cases eb
  refine (calls_of (W := W) (windows28_ok (v := a.s.v) (xs := a.d) (part := b) (m := m) (evs_ok_of (za (fun _ => True) (fun _ _ => trivial)))) (r := .bool true) (fun v l' h => h.1) (fun A hA => ?_)).mono fun e W' ⟨he, hb⟩ => ⟨_, he, hpost W' hb⟩
  rcases List.mem_cons.1 hA with rfl | hA
  · exact mx_of_cell hm
  · simp only [List.mem_singleton] at hA
    subst hA
    exact fun R hR => sl_of_fz (za R hR)
theorem traceWindows_row : Rows.TraceWindowsSaid :=
  OpenClaim.holds_of_cond 6 Tryd.f6 rfl rfl rfl rfl rfl rfl rfl ⟨rfl, rfl, rfl, rfl, rfl⟩ rfl rfl rfl rfl rfl (by kernel_rfl) Tryd.func6 (by kernel_rfl)
    (of_decide_eq_true (by kernel_rfl)) (by unfold Func.isWrapper; first | (rw [if_pos (by decide +kernel)]; kernel_rfl) | (rw [if_neg (by decide +kernel)]; exact ⟨rfl, rfl⟩))
    (fun os started H enc _ F0 => by rw [OpenClaim.pre_eq_preRow]; exact traceWindows_lifted os started H enc F0)
theorem traceWindows_holds : Rows.TraceWindowsCardSaid :=
  Claim7.holds_tied_plain_at .later [] Rows.traceWindowsCard.laidKinds Rows.traceWindowsCard.laidTests Rows.traceWindowsCard.stood.harness Rows.traceWindowsCard.stood.looks
    traceWindows_row (fun _ h => by cases h) (by kernel_rfl) (fun _ h => by cases h) traceWindows_row_tie rfl ⟨rfl, rfl⟩ (by kernel_rfl) rfl
    (fun f fn hf hfn => by
      obtain rfl : f = 6 := Option.some.inj ((show Tryd.prog.funcNamed "anchorhold/anchorholdlaw28.TraceWindows" = some 6 by kernel_rfl).symm.trans hf) |>.symm
      obtain rfl : fn = Tryd.f6 := (Option.some.inj (Tryd.func6.symm.trans hfn)).symm
      exact ⟨by kernel_rfl, fun j t ht => params_stand (by kernel_rfl) ht⟩)
    (by kernel_rfl)
end Go.Proofs.YtgkhjgpgdfbdpaaDoor
