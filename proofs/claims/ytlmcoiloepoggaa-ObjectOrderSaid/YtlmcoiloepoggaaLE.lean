/- ObjectOrder: what is put into a pool is got in that order, each once, as far as there was room; a slate tells what was shown last: for every depth and all messages: no condition. -/
import Derived.Test.YtlmcoiloepoggaaOH
import Derived.Test.YtlmcoiloepoggaaLJ
namespace Go.Proofs.Ytlmcoiloepoggaa
open Go Go.Wk Go.ChangeShapes Go.WideShapes Go.ChangeAt Go.RowKit
set_option maxRecDepth 100000
theorem objectOrder_lifted (os : Os) (started : os.Started) (H : Type) (enc : TypeId × Value → H) :
    ReturnsInHanded {} Try.checked os 6 .any (Rows.objectOrderSpec.pre6 enc Try.prog Try.f6 Rows.objectOrderRow.domain false) (Rows.objectOrderSpec.post enc Try.prog Try.f6 false true false false) := by
  refine returnsInHanded_of_change (C := Try.checked) Try.own started (by kernel_rfl) Try.func6
    (ChangeSpec.witness6 (enc := enc) (C := Try.checked) false ⟨#[], #[.int .u8 0, .slice none 0 0], []⟩ 12 (by kernel_rfl) (by kernel_rfl) (by kernel_rfl) (by kernel_rfl)) ?_
  intro W base args ds gs before hval0 hW _ _
  have hval : ∀ (j : Nat) t v, Try.f6.params[j]? = some t → args[j]? = some v → Value.okWide Try.prog W .any base t v := hval0
  have hpost := fun W' hb => law_post (W' := W') (tb := 4) Try.laidOut (by kernel_rfl) rfl (by kernel_rfl) Try.underlying4 (fun ds hd => by
    match ds, hd with
    | [_, _], _ => exact ⟨rfl, rfl, rfl⟩) hW hb
  obtain ⟨p, q, hA0, hV, rfl, hfz, hnd⟩ := hW
  have hA : DataW.TrodAll enc Try.prog W 0 (fun _ => true) true Try.f6.params.toList args.toList ds p := hA0
  rw [Try.params6] at hA hval
  obtain ⟨v0, v1, d0, d1, p0, p1, rfl, rfl, rfl, h0, h1⟩ := trodAll_two hA
  obtain ⟨a, ea, za⟩ := arg_one (α := UInt8) (t := 5) (by kernel_rfl) (hval 0 _ v0 rfl rfl) (fun _ => rfl) h0
  obtain ⟨b, eb, zb⟩ := arg_one (α := SL Msg) (t := 60) (by kernel_rfl) (hval 1 _ v1 rfl rfl) (fun _ => rfl) h1
  cases ea
  cases eb
  refine (calls_of (W := W) (order20_ok (dp := a) (s2 := b.s) (l := b.d)) (r := .bool true) (fun v l' h => h.1) (fun A hA => ?_)).mono fun e W' ⟨he, hb⟩ => ⟨_, he, hpost W' hb⟩
  rcases List.mem_cons.1 hA with rfl | hA
  · exact fun R hR => sl_of_fz (zb R hR)
  · simp only [List.mem_singleton] at hA
    subst hA
    exact fun R hR => fzl_of_fz (zb R hR)
theorem objectOrder_holds : Rows.ObjectOrderSaid :=
  OpenClaim.holds_of_wide 6 Try.f6 rfl rfl rfl rfl rfl rfl rfl ⟨rfl, rfl, rfl, rfl, rfl⟩ rfl rfl rfl rfl rfl (by kernel_rfl) Try.func6 (by kernel_rfl)
    (of_decide_eq_true (by kernel_rfl)) (by unfold Func.isWrapper; first | (rw [if_pos (by decide +kernel)]; kernel_rfl) | (rw [if_neg (by decide +kernel)]; exact ⟨rfl, rfl⟩))
    (fun os started H enc _ => objectOrder_lifted os started H enc)
end Go.Proofs.Ytlmcoiloepoggaa
