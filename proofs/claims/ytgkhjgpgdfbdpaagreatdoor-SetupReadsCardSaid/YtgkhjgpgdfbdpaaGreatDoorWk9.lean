/- Calls by contracts, ends, splits: forms that a search serves. -/
import Derived.Test.YtgkhjgpgdfbdpaaGreatDoorWk8
namespace Go.Wk
open Go

def TakeL (l pre F : List Asrt) : Prop := Imp l (pre ++ F)
theorem TakeL.nil {l : List Asrt} : TakeL l [] l := Imp.refl
theorem TakeL.cons {A : Asrt} {l l' pre F : List Asrt} (h : TakeA l A l') (h2 : TakeL l' pre F) : TakeL l (A :: pre) F := Imp.trans h (Imp.cons h2)

theorem Tr.callT {P : Program} {f : FuncId} {args : Array Value} {pre : List Asrt} {post : Value → List Asrt → Prop} {l F : List Asrt} {K : Value → WP} (h : Trip P f args pre post) (hp : TakeL l pre F)
    (hk : ∀ v l', post v l' → Tr (l' ++ F) (K v)) : Tr l (CallK P f args K) := (h F K hk).imp hp

/-- What follows (d: nothing). -/
def EntR (_d l l2 : List Asrt) : Prop := Imp l l2
theorem EntR.done {d l : List Asrt} : EntR d l l := Imp.refl
theorem EntR.drop {d : List Asrt} {A : Asrt} {l F : List Asrt} (h : EntR d l F) : EntR d (A :: l) F := Imp.trans Imp.tail h
theorem EntR.take {d : List Asrt} {A : Asrt} {l l' l2 : List Asrt} (ht : TakeA l A l') (h : EntR d l' l2) : EntR d l (A :: l2) := Imp.trans ht (Imp.cons h)
theorem EntR.takeE {d : List Asrt} {A A' : Asrt} {l l' l2 : List Asrt} (ht : TakeA l A' l') (e : A' = A) (h : EntR d l' l2) : EntR d l (A :: l2) := by subst e; exact EntR.take ht h
theorem EntR.sep {d : List Asrt} {A B : Asrt} {l l2 : List Asrt} (h : EntR d l (A :: B :: l2)) : EntR d l (Wk.sep A B :: l2) := Imp.trans h Imp.sepI
theorem EntR.ex {d : List Asrt} {α : Type} {f : α → Asrt} {l l2 : List Asrt} (x : α) (h : EntR d l (f x :: l2)) : EntR d l (Wk.ex f :: l2) := Imp.trans h (Imp.exI x)
theorem EntR.fact {d : List Asrt} {p : Prop} {l l2 : List Asrt} (hp : p) (h : EntR d l l2) : EntR d l (Wk.fact p :: l2) := Imp.trans h (Imp.factI hp)
theorem Tr.ent2 {l l2 : List Asrt} {X : WP} (h : EntR [] l l2) (hx : Tr l2 X) : Tr l X := hx.imp h

theorem Tr.fin {post : Value → List Asrt → Prop} {F : List Asrt} {K : Value → WP} {v : Value} {l l' : List Asrt} (hK : ∀ v l', post v l' → Tr (l' ++ F) (K v)) (h : post v l') (he : EntR [] l (l' ++ F)) : Tr l (K v) := fun w hw => hK v l' h w (he.sat hw)
/-- The end of a round. -/
theorem Tr.againE {α : Type} {slots keep : List Nat} {V : α → List Value} {L : α → List Asrt} {I : α → Prop} {μ : α → Nat} {a : α} {kv : List Value} {e' : Env} {l F : List Asrt} (a' : α)
    (hk : keep.map e' = kv) (hV : slots.map e' = V a') (hI : I a') (hμ : μ a' < μ a) (hL : EntR [] l (L a' ++ F)) :
    Tr l (againK keep kv slots V I μ L F a e') := fun _w hw => ⟨hk, a', hI, hμ, hV, hL.sat hw⟩
theorem Tr.loopE {α : Type} (slots keep : List Nat) (V : α → List Value) (L : α → List Asrt) (I : α → Prop) (μ : α → Nat) {B : Post → Env → WP} {Q : Post} {e : Env} {l F : List Asrt} (a0 : α)
    (hL : TakeL l (L a0) F) (hV : slots.map e = V a0) (h0 : I a0)
    (hr : ∀ a u, I a → Tr (L a ++ F) (B (seqK (againK keep (keep.map e) slots V I μ L F a) Q) (upds (upds u keep (keep.map e)) slots (V a)))) :
    Tr l (LoopW B Q e) := Tr.loop slots keep V L I μ a0 h0 hV (fun _ hw => hL.sat hw) hr

/-- A loop that makes no round. -/
theorem Tr.loop0 {B : Post → Env → WP} {Q : Post} {e : Env} {l : List Asrt} (h : Tr l (B (seqK (fun _ _ => False) Q) e)) : Tr l (LoopW B Q e) := fun w hw =>
  ⟨fun n e' w' => n = 0 ∧ e' = e ∧ Sat w' l, ⟨0, rfl, rfl, hw⟩, fun n e1 w1 ⟨h0, he, hs⟩ => by
    subst h0; subst he
    have h1 := h w1 hs
    have h2 : (fun (e' : Env) w' => ∃ m, m < 0 ∧ (m = 0 ∧ e' = e1 ∧ Sat w' l)) = fun _ _ => False := by
      funext e' w'
      exact propext ⟨fun ⟨m, hm, _⟩ => by omega, fun h => h.elim⟩
    rw [h2]; exact h1⟩
section
variable {P : Program} {T : Nat → Plan} {b want : Bool} {l : List Asrt} {x y : Code} {Q : Post} {e : Env} {o : Op} {ty : TypeId} {K : Value → WP} {k : Env → WP} {d : Option Tmp} {ops : Array Oper} {cs : List Nat}
theorem Tr.condS (hA : b = true → Tr l (CondW P T (.bool true) x y Q e)) (hB : b = false → Tr l (CondW P T (.bool false) x y Q e)) : Tr l (CondW P T (.bool b) x y Q e) := by
  cases b
  · exact hB rfl
  · exact hA rfl
theorem Tr.guardS (hA : b = true → Tr l (GuardO P (.bool true) want o ty e K k d)) (hB : b = false → Tr l (GuardO P (.bool false) want o ty e K k d)) : Tr l (GuardO P (.bool b) want o ty e K k d) := by
  cases b
  · exact hB rfl
  · exact hA rfl
theorem Tr.guardTT (hb : b = true) (h : b = true → Tr l (GuardO P (.bool true) want o ty e K k d)) : Tr l (GuardO P (.bool b) want o ty e K k d) := by subst hb; exact h rfl
theorem Tr.guardFF (hb : b = false) (h : b = false → Tr l (GuardO P (.bool false) want o ty e K k d)) : Tr l (GuardO P (.bool b) want o ty e K k d) := by subst hb; exact h rfl
theorem Tr.guardCS (hA : b = true → Tr l (GuardC P (.bool true) want o ty e K ops cs k)) (hB : b = false → Tr l (GuardC P (.bool false) want o ty e K ops cs k)) : Tr l (GuardC P (.bool b) want o ty e K ops cs k) := by
  cases b
  · exact hB rfl
  · exact hA rfl
end

/-! ### the shape of a goal, looked at -/
section
variable {P : Program} {T : Nat → Plan} {l : List Asrt} {x y : Code} {Q : Post} {e : Env} {K : Value → WP}
theorem G.load {t : Nat} {a : Value} (h : Tr l (GenK P (Instr.loadAt t a) K)) : Tr l (GenK P (Instr.loadAt t a) K) := h
theorem G.store {t : Nat} {a v : Value} (h : Tr l (EUnitK P (Instr.storeAt t a v) K)) : Tr l (EUnitK P (Instr.storeAt t a v) K) := h
theorem G.idx {t : Nat} {a v : Value} (h : Tr l (GenK P (Instr.indexAt t a v) K)) : Tr l (GenK P (Instr.indexAt t a v) K) := h
theorem G.len {ts : Array Nat} {ty : Nat} {as : Array Value} (h : Tr l (GenK P (Builtin.len_ ts ty as) K)) : Tr l (GenK P (Builtin.len_ ts ty as) K) := h
theorem G.app {ts : Array Nat} {ty : Nat} {as : Array Value} (h : Tr l (EGenK P (Builtin.append_ ts ty as) K)) : Tr l (EGenK P (Builtin.append_ ts ty as) K) := h
theorem G.cut {t : Nat} {v : Value} {lo hi mx : Option Value} (h : Tr l (GenK P (Instr.sliceAt t v lo hi mx) K)) : Tr l (GenK P (Instr.sliceAt t v lo hi mx) K) := h
theorem G.look {t : Nat} {m k : Value} {ok : Bool} (h : Tr l (GenK P (Instr.lookup t m k ok) K)) : Tr l (GenK P (Instr.lookup t m k ok) K) := h
theorem G.mapu {t : Nat} {m k v : Value} (h : Tr l (EUnitK P (Instr.mapUpdate t m k v) K)) : Tr l (EUnitK P (Instr.mapUpdate t m k v) K) := h
theorem G.bs {t n : Nat} {ps : Array (Nat × Value)} (h : Tr l (EGenK P (Instr.buildSlice t n ps) K)) : Tr l (EGenK P (Instr.buildSlice t n ps) K) := h
theorem G.mks {t : Nat} {a b : Value} (h : Tr l (EGenK P (Instr.makeSlice t a b) K)) : Tr l (EGenK P (Instr.makeSlice t a b) K) := h
theorem G.cond {v : Value} (h : Tr l (CondW P T v x y Q e)) : Tr l (CondW P T v x y Q e) := h
theorem G.guard {v : Value} {w : Bool} {o : Op} {ty : Nat} {k : Env → WP} {d : Option Nat} (h : Tr l (GuardO P v w o ty e K k d)) : Tr l (GuardO P v w o ty e K k d) := h
theorem G.guardC {v : Value} {w : Bool} {o : Op} {ty : Nat} {k : Env → WP} {ops : Array Oper} {cs : List Nat} (h : Tr l (GuardC P v w o ty e K ops cs k)) : Tr l (GuardC P v w o ty e K ops cs k) := h
theorem G.call (f : Nat) {as : Array Value} (h : Tr l (CallK P f as K)) : Tr l (CallK P f as K) := h
end
/-- The element at a place. -/
def ix {α : Type} [Inhabited α] (xs : List α) (k : Int) : α := xs.getD k.toNat default
theorem ix_some {α : Type} [Inhabited α] {xs : List α} {k : Int} (h0 : 0 ≤ k) (h : k < xs.length) : xs[k.toNat]? = some (ix xs k) := by
  have h1 : k.toNat < xs.length := by omega
  simp [ix, h1]
instance : Inhabited Value := ⟨undef⟩
section
variable {P : Program} {α : Type} [En α] {ro : Bool} {v : Value} {xs : List α} {l F : List Asrt}
theorem Tr.indexI [Inhabited α] {T n : Nat} [hT0 : Slc P T n] {i : Int} {k : IntKind} {K : Value → WP} (hs : Has l (sl ro v xs)) (hne : n = En.sz α) (h0 : 0 ≤ i) (hi : i < xs.length)
    (hx : xs[i.toNat]? = some (ix xs i) → Tr l (K (.pointer (some ⟨(sb v).block, (sb v).off + i.toNat * En.sz α, none⟩)))) : Tr l (GenK P (Instr.indexAt T v (.int k i)) K) :=
  Tr.index hs hne h0 hi (hx (ix_some h0 hi))
/-- A store of a whole element, where the place is an Int. -/
theorem Tr.storeElI {T : Nat} {i : Int} {u : Value} {x : α} {K : Value → WP} [hT0 : Siz P T (En.sz α)] (ht : TakeA l (sl false v xs) F) (hu : u.cells = (En.enc x).toArray) (h0 : 0 ≤ i) (hi : i < xs.length) (hx : Tr (sl false v (xs.set i.toNat x) :: F) (K undef)) :
    Tr l (EUnitK P (Instr.storeAt T (.pointer (some ⟨(sb v).block, (sb v).off + i.toNat * En.sz α, none⟩)) u) K) :=
  Tr.storeEl (i := i.toNat) (by omega) hu ht hx
theorem setL_0 {cs : List Value} {i : Nat} : setL cs i [] = cs := rfl
theorem setL_1 {cs vs : List Value} {i : Nat} {v : Value} : setL cs i (v :: vs) = setL (cs.set i v) (i + 1) vs := rfl
theorem cons_eq {α : Type} {a b : α} {l l' : List α} (h1 : a = b) (h2 : l = l') : a :: l = b :: l' := by subst h1; subst h2; rfl
/-- Which kind of thing a slice type's elements are read as. -/
class ElT (T : Nat) (α : outParam Type) : Type where
theorem Tr.buildNil {T e bytes : Nat} {β : Type} [_hE : ElT T β] [En β] [Inhabited β] {z : List Value} [hT : SlcT P T e bytes (En.sz β) z] {K : Value → WP} (hz : z = En.enc (default : β))
    (hk : ∀ s : SV, Tr (sl false s.v ([] : List β) :: l) (K s.v)) : Tr l (EGenK P (Instr.buildSlice T 0 #[]) K) :=
  Tr.buildSlice (α := β) (xs := []) (d := default) hz rfl (by simp) rfl hk
theorem Tr.build1 {T e bytes : Nat} {β : Type} [_hE : ElT T β] [En β] [Inhabited β] {z : List Value} [hT : SlcT P T e bytes (En.sz β) z] {K : Value → WP} (x : β) {u : Value} (hz : z = En.enc (default : β)) (hu : u.cells = (En.enc x).toArray) (hsm : En.sz β ≤ 16777216)
    (hk : ∀ s : SV, Tr (sl false s.v [x] :: l) (K s.v)) : Tr l (EGenK P (Instr.buildSlice T 1 [(0, u)].toArray) K) := by
  refine Tr.buildSlice (α := β) (xs := [x]) (d := default) hz rfl (by omega) ?_ hk
  have h1 : (flat [(default : β)]).length = En.sz β := by rw [flat_length]; simp
  have h2 : (En.enc x).length = En.sz β := En.len x
  simp only [fillP, List.replicate, hu, Nat.zero_mul, List.size_toArray, h2, h1, Nat.zero_add, Nat.le_refl, and_self, if_true]
  have := setL_whole (En.enc x) (flat [(default : β)]) [] (by rw [h1, h2])
  simp only [List.nil_append, List.length_nil] at this
  rw [this]
  simp [flat]
theorem len_nilS {T ty n : Nat} [hT : Slc P T n] {K : Value → WP} : GenK P (Builtin.len_ #[T] ty #[.slice none 0 0]) K = K (.int .i64 0) := by
  refine GenK_of (fun w => ?_) K
  obtain ⟨e, i, hu, _, _⟩ := und_slc hT.h
  simp [Builtin.len_, run_underlying hu, goInt]
theorem Tr.appendE {T T2 ty e bytes : Nat} {z : List Value} {ro : Bool} {v x : Value} {β : Type} [_hE : ElT T β] [En β] {xs ys : List β} {F : List Asrt} {K : Value → WP} [hT : SlcT P T e bytes (En.sz β) z] [hT2 : Slc P T2 (En.sz β)]
    (ht : TakeA l (sl false v xs) F) (hx : Has F (sl ro x ys)) (hz : z.length = En.sz β) (hb : 0 < bytes) (hlen : (2 * (xs.length + ys.length) + 1000) * bytes ≤ 2 ^ 48)
    (hk : ∀ s : SV, Tr (sl false s.v (xs ++ ys) :: F) (K s.v)) : Tr l (EGenK P (Builtin.append_ #[T, T2] ty #[v, x]) K) := Tr.append hz ht hx hb hlen hk
theorem Tr.appendNil {T T2 ty e bytes : Nat} {z : List Value} {ro : Bool} {x : Value} {β : Type} [_hE : ElT T β] [En β] {ys : List β} {K : Value → WP} [hT : SlcT P T e bytes (En.sz β) z] [hT2 : Slc P T2 (En.sz β)]
    (hx : Has l (sl ro x ys)) (hz : z.length = En.sz β) (hb : 0 < bytes) (hlen : (2 * ys.length + 1000) * bytes ≤ 2 ^ 48)
    (hk : ∀ s : SV, Tr (sl false s.v ys :: l) (K s.v)) : Tr l (EGenK P (Builtin.append_ #[T, T2] ty #[.slice none 0 0, x]) K) :=
  Tr.nilSl (α := β) (Tr.append (α := β) (xs := []) (ys := ys) hz TakeA.here hx hb (by simpa using hlen) hk)
end
end Go.Wk
