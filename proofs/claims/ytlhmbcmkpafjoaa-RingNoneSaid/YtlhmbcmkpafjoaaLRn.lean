/- RingNone: a ring that is not there has nothing, and takes nothing; what is moved to it is lost: of the first 100 numbers: no condition. -/
import Derived.Test.YtlhmbcmkpafjoaaRF
import Derived.Test.YtlhmbcmkpafjoaaLQ
namespace Go.Proofs.Ytlhmbcmkpafjoaa
open Go Go.Wk Go.ChangeShapes Go.WideShapes Go.ChangeAt Go.RowKit
set_option maxRecDepth 100000
theorem ringNone_lifted (os : Os) (started : os.Started) (H : Type) (enc : TypeId × Value → H) :
    ReturnsInHanded {} Try.checked os 6 .any (Rows.ringNoneSpec.pre6 enc Try.prog Try.f6 Rows.ringNoneRow.domain false) (Rows.ringNoneSpec.post enc Try.prog Try.f6 false true false false) := by
  refine returnsInHanded_of_change (C := Try.checked) Try.own started (by kernel_rfl) Try.func6
    (ChangeSpec.witness6 (enc := enc) (C := Try.checked) false ⟨#[], #[.slice none 0 0], []⟩ 12 (by kernel_rfl) (by kernel_rfl) (by kernel_rfl) (by kernel_rfl)) ?_
  intro W base args ds gs before hval0 hW _ _
  have hval : ∀ (j : Nat) t v, Try.f6.params[j]? = some t → args[j]? = some v → Value.okWide Try.prog W .any base t v := hval0
  have hpost := fun W' hb => law_post (W' := W') (tb := 4) Try.laidOut (by kernel_rfl) rfl (by kernel_rfl) Try.underlying4 (fun ds hd => by
    match ds, hd with
    | [_], _ => exact ⟨rfl, rfl, rfl⟩) hW hb
  obtain ⟨p, q, hA0, hV, rfl, hfz, hnd⟩ := hW
  have hA : DataW.TrodAll enc Try.prog W 0 (fun _ => true) true Try.f6.params.toList args.toList ds p := hA0
  rw [Try.params6] at hA hval
  obtain ⟨v0, d0, rfl, rfl, h0⟩ := trodAll_one hA
  obtain ⟨a, ea, za⟩ := arg_one (α := SL Int) (t := 22) (by kernel_rfl) (hval 0 _ v0 rfl rfl) (fun _ => rfl) h0
  cases ea
  refine (calls_of (W := W) (none04_ok (s := a.s) (l := a.d)) (r := .bool true) (fun v l' h => h.1) (fun A hA => ?_)).mono fun e W' ⟨he, hb⟩ => ⟨_, he, hpost W' hb⟩
  simp only [List.mem_singleton] at hA
  subst hA
  exact fun R hR => sl_of_fz (za R hR)
theorem ringNone_holds : Rows.RingNoneSaid :=
  OpenClaim.holds_of_wide 6 Try.f6 rfl rfl rfl rfl rfl rfl rfl ⟨rfl, rfl, rfl, rfl, rfl⟩ rfl rfl rfl rfl rfl (by kernel_rfl) Try.func6 (by kernel_rfl)
    (of_decide_eq_true (by kernel_rfl)) (by unfold Func.isWrapper; first | (rw [if_pos (by decide +kernel)]; kernel_rfl) | (rw [if_neg (by decide +kernel)]; exact ⟨rfl, rfl⟩))
    (fun os started H enc _ => ringNone_lifted os started H enc)
end Go.Proofs.Ytlhmbcmkpafjoaa
