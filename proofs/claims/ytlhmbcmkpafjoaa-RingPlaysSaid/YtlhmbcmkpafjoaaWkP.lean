/- Regions with effects in no fixed order, by states: the slots that count, and what holds. -/
import Derived.Test.YtlhmbcmkpafjoaaWkN
namespace Go.Wk
open Go
/-- The operations of a region of a text. -/
def oelse (a b : Array Oper) : Array Oper := match a with
  | ⟨[]⟩ => b
  | ⟨x :: l⟩ => ⟨x :: l⟩
theorem oelse_nil {b : Array Oper} : oelse #[] b = b := nr rfl
theorem oelse_cons {x : Oper} {l : List Oper} {b : Array Oper} : oelse (List.toArray (x :: l)) b = List.toArray (x :: l) := nr rfl
def opsOf : Code → Nat → Array Oper
  | .region id ops _, n => if id = n then ops else #[]
  | .seq a b, n => oelse (opsOf a n) (opsOf b n)
  | .cond _ a b, n => oelse (opsOf a n) (opsOf b n)
  | .block _ b, n => opsOf b n
  | .loop b, n => opsOf b n
  | _, _ => #[]
theorem Tr.atD {P : Program} {ops : Array Oper} {pl : Plan} {k : Env → WP} {l : List Asrt} {ss : List Nat} {vs : List Value} {e : Env} (h : ∀ u, Tr l (WD P ops pl k (upds u ss vs))) (he : ss.map e = vs) : Tr l (WD P ops pl k e) := by
  subst he
  have := h e
  rwa [upds_self] at this
/-- A frozen slice that stands as a pair. -/
instance (priority := 900) hass_fzmk {α : Type} {iE : En α} [Fz α] {s : SV} {d : List α} {l : List Asrt} : HasS (Fz.fz (SL.mk s d : SL α) :: l) s.v true α iE d :=
  ⟨(Has.here (A := Fz.fz (SL.mk s d : SL α)) (l := l)).imp fun h => ⟨fun _ => False, sl_of_fz (Fz.dup (SL.mk s d : SL α) h)⟩⟩
end Go.Wk
