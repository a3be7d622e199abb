/- Cuts whose result is told by the slice and the bounds alone: for regions that draw their order. -/
import Derived.Test.YtlhmbcmkpafjoaaDoorWkM
namespace Go.Wk
open Go
def cutS (sz : Nat) (s : SV) (lo hi : Nat) : SV := ⟨if s.c = lo then s.a else s.a.map (·.add (lo * sz)), hi - lo, s.c - lo⟩
theorem cutS_v {sz : Nat} {s : SV} {lo hi : Nat} : (cutS sz s lo hi).v = cutV sz s.v lo hi := rfl
section
variable {P : Program} {α : Type} [iE : En α] {s : SV} {xs : List α} {l : List Asrt} {K : Value → WP} {T n : Nat}
theorem cut_det {lo hi : Option Value} {ys : List α} {u : Value} (h1 : ∀ K : Value → WP, (∀ s : SV, Tr (sl true s.v ys :: l) (K s.v)) → Tr l (GenK P (Instr.sliceAt T s.v lo hi none) K))
    (h2 : ∀ K : Value → WP, Tr l (K u) → Tr l (GenK P (Instr.sliceAt T s.v lo hi none) K)) (hx : Tr (sl true u ys :: l) (K u)) : Tr l (GenK P (Instr.sliceAt T s.v lo hi none) K) := fun w hw => by
  obtain ⟨v, hr, hs⟩ := h1 (fun v w => Sat w (sl true v ys :: l)) (fun s w hw => hw) w hw
  obtain ⟨v', hr', hv⟩ := h2 (fun v _ => v = u) (fun _ _ => rfl) w hw
  rw [hr] at hr'
  obtain rfl : v = v' := by injection hr'
  subst hv
  exact ⟨v, hr, hx w hs⟩
theorem A.cutFromS {lo : Int} {k1 : IntKind} [hT : Slc P T n] [hs : HasS l s.v true α iE xs] (hne : n = En.sz α) (h0 : 0 ≤ lo) (h1 : lo ≤ xs.length)
    (hx : Tr (sl true (cutS (En.sz α) s lo.toNat xs.length).v (xs.drop lo.toNat) :: l) (K (cutS (En.sz α) s lo.toNat xs.length).v)) : Tr l (GenK P (Instr.sliceAt T s.v (some (.int k1 lo)) none none) K) :=
  cut_det (fun _ h => A.cutFrom hne h0 h1 h) (fun _ h => A.ccFrom hne h0 h1 h) hx
theorem A.cutToS {hi : Int} {k1 : IntKind} [hT : Slc P T n] [hs : HasS l s.v true α iE xs] (hne : n = En.sz α) (h0 : 0 ≤ hi) (h1 : hi ≤ xs.length)
    (hx : Tr (sl true (cutS (En.sz α) s 0 hi.toNat).v (xs.take hi.toNat) :: l) (K (cutS (En.sz α) s 0 hi.toNat).v)) : Tr l (GenK P (Instr.sliceAt T s.v none (some (.int k1 hi)) none) K) :=
  cut_det (fun _ h => A.cutTo hne h0 h1 h) (fun _ h => A.ccTo hne h0 h1 h) hx
end
theorem Trip.pre {P : Program} {f : FuncId} {args : Array Value} {pre pre' : List Asrt} {post : Value → List Asrt → Prop} (h : Trip P f args pre post) (hi : ∀ F, EntR [] (pre' ++ F) (pre ++ F)) : Trip P f args pre' post := fun F K hK w hw => h F K hK w ((hi F).sat hw)
/-- A cut, told. -/
theorem S.d {X X' : WP} {l l' : List Asrt} (hx : Tr l' X') (h : Tr l' X' → Tr l X := by
    intro h
    refine G.cut ?_
    first
    | (refine A.cutToS (by rfl) (by omega) (by omega) ?_; exact h)
    | (refine A.cutFromS (by rfl) (by omega) (by omega) ?_; exact h)
    | fail) : Tr l X := h hx
end Go.Wk
