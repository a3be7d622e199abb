/- The steps of the walk, each with its own search as a default proof. -/
import Derived.Test.YtlhmbcmkpafjoaaDoorWkI
namespace Go.Wk
open Go
theorem G.tr {l : List Asrt} {X : WP} (h : Tr l X) : Tr l X := h
/-- A step with one goal. -/
theorem S.a {X X' : WP} {l l' : List Asrt} (hx : Tr l' X') (h : Tr l' X' → Tr l X := by
    intro h
    first
    | (refine G.load ?_; first | (refine A.ldW (by rfl) ?_; exact h) | (refine A.ld1 (by rfl) ?_; exact h) | (refine A.ldN (by rfl) (by rfl) ?_; exact h) | (refine A.lS0 (by assumption) (by rfl) ?_; exact h) | (refine A.lS1 (by assumption) (by rfl) ?_; exact h) | (refine A.lSW (by assumption) (by rfl) ?_; exact h) | (refine A.lSN (by assumption) (by rfl) (by rfl) ?_; exact h))
    | (refine Tr.drewK ?_; exact h)
    | (refine Tr.eqR rfl ?_; exact h)
    | (refine Tr.build rfl ?_; exact h)
    | (refine G.store ?_; first | (refine A.stW (by rfl) (by rfl) (by rfl) (by rfl) ?_; exact h) | (refine A.st (by rfl) (by rfl) (by rfl) (by first | exact Nat.le_of_ble_eq_true rfl | (simp only [WKl, setL_length, En.len]; omega)) ?_; exact h) | (refine A.stD (by first | omega | assumption | (simp only [WKl]; omega)) (by first | omega | assumption | (simp only [WKl]; omega)) ?_; exact h) | (refine A.stE (by rfl) (by first | omega | assumption | (simp only [WKl]; omega)) (by first | omega | assumption | (simp only [WKl]; omega)) ?_; exact h))
    | (refine G.cond ?_; first | (refine Tr.condT (by first | rfl | assumption | (simp only [WKs]; omega)) ?_; exact h) | (refine Tr.condF (by first | rfl | assumption | (simp only [WKs]; omega)) ?_; exact h))
    | (refine G.idx ?_; (refine Tr.indexArr (by omega) (by omega) ?_; exact h))
    | (refine G.len ?_; first | (refine A.len ?_; exact h) | (refine A.lenM ?_; exact h) | (refine Tr.lenMapNil ?_; exact h))
    | (refine G.conv ?_; (refine A.byStr ?_; exact h))
    | (refine G.convE ?_; (refine A.convB (by first | omega | assumption | (simp only [WKl]; omega)) ?_; exact h))
    | (refine G.look ?_; first | (refine A.look ?_; exact h) | (refine Tr.lookupNil ?_; exact h))
    | (refine G.mapu ?_; (refine A.mapu ?_; exact h))
    | (refine G.rem ?_; (refine Tr.rem (by omega) ?_; exact h))
    | fail) : Tr l X := h hx
/-- A step that gives something new. -/
theorem S.n {X : WP} {l : List Asrt} {β : Type} {G : β → Prop} (hx : ∀ x, G x) (h : (∀ x, G x) → Tr l X := by
    intro h
    first
    | (refine Tr.box rfl ?_; exact h)
    | (refine Tr.alloc rfl ?_; exact h)
    | (refine G.app ?_; first | (refine A.app0 (by rfl) (by decide) (by first | omega | assumption | (simp only [WKl]; omega)) ?_; exact h) | (refine A.app (by rfl) (by decide) (by first | omega | assumption | (simp only [WKl]; omega)) ?_; exact h))
    | (refine G.bs ?_; (refine A.buildL (by rfl) (by rfl) (by decide) ?_; exact h))
    | (refine G.cut ?_; first | (refine A.cutTo (by rfl) (by omega) (by omega) ?_; exact h) | (refine A.cutFrom (by rfl) (by omega) (by omega) ?_; exact h) | (refine A.cut (by rfl) (by omega) (by omega) (by omega) ?_; exact h))
    | (refine G.mks ?_; (refine A.mks (by rfl) (by first | omega | assumption | (simp only [WKl]; omega)) (by first | omega | assumption | (simp only [WKl]; omega)) (by first | omega | assumption | (simp only [WKl]; omega)) ?_; exact h))
    | (refine Tr.makeMap ?_; exact h)
    | fail) : Tr l X := h hx
/-- A step that gives a fact. -/
theorem S.i {X X' : WP} {l l' : List Asrt} {p : Prop} (hx : p → Tr l' X') (h : (p → Tr l' X') → Tr l X := by
    intro h
    first
    | (refine G.idx ?_; (refine A.idx (by rfl) (by first | omega | assumption | (simp only [WKl]; omega)) (by first | omega | assumption | (simp only [WKl]; omega)) ?_; exact h))
    | fail) : Tr l X := h hx
theorem S.g {X X' : WP} {l l' : List Asrt} {p : Prop} (hx : p → Tr l' X') (h : (p → Tr l' X') → Tr l X := by
    intro h
    first
    | (refine G.guard ?_; first | (refine Tr.guardTT (by first | rfl | assumption | (simp only [WKs]; omega)) ?_; exact h) | (refine Tr.guardFF (by first | rfl | assumption | (simp only [WKs]; omega)) ?_; exact h))
    | fail) : Tr l X := h hx
/-- A step with two ways. -/
theorem S.s {X X' Y' : WP} {l l' m' : List Asrt} {p q : Prop} (hx : p → Tr l' X') (hy : q → Tr m' Y') (h : (p → Tr l' X') → (q → Tr m' Y') → Tr l X := by
    intro h g
    first
    | (refine G.cond ?_; (refine Tr.condS ?_ ?_; exact h; exact g))
    | (refine G.guard ?_; (refine Tr.guardS ?_ ?_; exact h; exact g))
    | (refine G.guardC ?_; (refine Tr.guardCS ?_ ?_; exact h; exact g))
    | fail) : Tr l X := h hx hy
/-- A call by its contract. -/
theorem S.c {P : Program} {f : FuncId} {args : Array Value} {pre : List Asrt} {post : Value → List Asrt → Prop} {l F : List Asrt} {K : Value → WP} (hk : ∀ v l', post v l' → Tr (l' ++ F) (K v)) (hp : TakeL l pre F := by
    (repeat (first | with_reducible exact TakeL.nil | (apply TakeL.cons; focus ((first | exact TakeA.dupS | exact TakeA.dupF | ((repeat (first | with_reducible exact TakeA.here | exact TakeA.fam (by omega) (by omega) | with_reducible apply TakeA.next)); done) | ((repeat (first | exact TakeA.here | apply TakeA.next)); done) | exact TakeA.famNil | exact TakeA.nilS))) | fail)); done) (h : Trip P f args pre post) : Tr l (CallK P f args K) := Tr.callC hp h hk
/-- A condition. -/
theorem S.p {p : Prop} (h : p := by first | omega | assumption | exact Nat.le_of_ble_eq_true rfl) : p := h
theorem G.ent {d l m : List Asrt} (h : EntR d l m) : EntR d l m := h
/-- Entailment: what needs no unfolding. -/
theorem S.e {d l l' m m' : List Asrt} (hx : EntR d l' m') (h : EntR d l' m' → EntR d l m := by
    (refine fun h => G.ent ?_; (first | (refine G.ec ?_; first | (apply EntR.take; focus ((first | ((repeat (first | with_reducible exact TakeA.here | with_reducible apply TakeA.next)); done) | ((repeat (first | exact TakeA.here | apply TakeA.next)); done)))) | refine EntR.dupS ?_ | refine EntR.dupF ?_ | refine EntR.dupZ ?_ | with_reducible refine EntR.famNil ?_ | refine EntR.nilS ?_ | with_reducible refine EntR.sep ?_ | with_reducible refine EntR.fact (by first | rfl | assumption | omega | simp) ?_ | fail) | fail); (repeat (first | (refine G.ec ?_; first | (apply EntR.take; focus ((first | ((repeat (first | with_reducible exact TakeA.here | with_reducible apply TakeA.next)); done) | ((repeat (first | exact TakeA.here | apply TakeA.next)); done)))) | refine EntR.dupS ?_ | refine EntR.dupF ?_ | refine EntR.dupZ ?_ | with_reducible refine EntR.famNil ?_ | refine EntR.nilS ?_ | with_reducible refine EntR.sep ?_ | with_reducible refine EntR.fact (by first | rfl | assumption | omega | simp) ?_ | fail) | fail)); exact h)) : EntR d l m := h hx
theorem S.f {d l l' m m' : List Asrt} (hx : EntR d l' m') (h : EntR d l' m' → EntR d l m := by
    (refine fun h => G.ef ?_; first | (refine EntR.famSet (by (first | ((repeat (first | with_reducible exact TakeA.here | with_reducible apply TakeA.next)); done) | ((repeat (first | exact TakeA.here | apply TakeA.next)); done))) (by omega) ?_; exact h) | (refine EntR.famSame (by (first | ((repeat (first | with_reducible exact TakeA.here | with_reducible apply TakeA.next)); done) | ((repeat (first | exact TakeA.here | apply TakeA.next)); done))) (by omega) (by omega) ?_; exact h) | (refine EntR.famSnoc (by (first | ((repeat (first | with_reducible exact TakeA.here | with_reducible apply TakeA.next)); done) | ((repeat (first | exact TakeA.here | apply TakeA.next)); done))) ?_; exact h) | fail)) : EntR d l m := h hx
end Go.Wk
