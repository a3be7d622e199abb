import Derived.Test.YtkapfpliiaegfaaGreatZ00
namespace Go.Wk
open Go
abbrev Jd := Nat → Prop
def xeX (w w' : World) : Prop := w'.os = w.os ∧ w'.output = w.output ∧ w'.tape = w.tape
theorem xeX.refl (w : World) : xeX w w := ⟨rfl, rfl, rfl⟩
theorem xeX.trans {a b c : World} (h : xeX a b) (h' : xeX b c) : xeX a c := ⟨h'.1.trans h.1, h'.2.1.trans h.2.1, h'.2.2.trans h.2.2⟩
structure Xc where
  h : Jd → Jd → World → Prop
  loc : ∀ {R R' S S' : Jd} {w w' : World}, (∀ b, R b → R' b) → (∀ b, S b → S' b) → (∀ b, R b ∨ S b → w'.heap[b]? = w.heap[b]?) → xeX w w' → h R S w → h R' S' w'
def Z7 (R : Jd) (w : World) : Jd → List Xc → Prop
  | _, [] => True
  | U, A :: l => ∃ S : Jd, (∀ b, S b → b < w.heap.size ∧ ¬ U b) ∧ A.h R S w ∧ Z7 R w (fun b => U b ∨ S b) l
def Sat (w : World) (l : List Xc) : Prop := ∃ R : Jd, (∀ b, R b → b < w.heap.size) ∧ Z7 R w R l
theorem Z7.weaken {R : Jd} {w : World} : ∀ {l : List Xc} {U U' : Jd}, (∀ b, U' b → U b) → Z7 R w U l → Z7 R w U' l
  | [], _, _, _, _ => trivial
  | _ :: _, _, _, hu, ⟨S, h1, h2, h3⟩ => ⟨S, fun b hb => ⟨(h1 b hb).1, fun h => (h1 b hb).2 (hu b h)⟩, h2, h3.weaken fun b hb => hb.imp (hu b) id⟩
theorem Z7.frame {R R' : Jd} {w w' : World} (hR : ∀ b, R b → R' b) (hsz : w.heap.size ≤ w'.heap.size) (hs : xeX w w') (hRk : ∀ b, R b → w'.heap[b]? = w.heap[b]?) :
    ∀ {l : List Xc} {U U' : Jd}, (∀ b, ¬ U b → b < w.heap.size → w'.heap[b]? = w.heap[b]? ∧ ¬ U' b) → Z7 R w U l → Z7 R' w' U' l
  | [], _, _, _, _ => trivial
  | A :: _, _, _, hu, ⟨S, h1, h2, h3⟩ =>
    ⟨S, fun b hb => ⟨Nat.lt_of_lt_of_le (h1 b hb).1 hsz, (hu b (h1 b hb).2 (h1 b hb).1).2⟩,
      A.loc hR (fun _ h => h) (fun b hb => hb.elim (hRk b) (fun hb => (hu b (h1 b hb).2 (h1 b hb).1).1)) hs h2,
      h3.frame hR hsz hs hRk (fun b hn hl => ⟨(hu b (fun h => hn (.inl h)) hl).1, fun h => h.elim (hu b (fun h => hn (.inl h)) hl).2 (fun h => hn (.inr h))⟩)⟩
theorem Z7.swap {R : Jd} {w : World} {U : Jd} {A B : Xc} {l : List Xc} : Z7 R w U (A :: B :: l) → Z7 R w U (B :: A :: l)
  | ⟨S, h1, h2, S', h3, h4, h5⟩ =>
    ⟨S', fun b hb => ⟨(h3 b hb).1, fun h => (h3 b hb).2 (.inl h)⟩, h4, S, fun b hb => ⟨(h1 b hb).1, fun h => h.elim (h1 b hb).2 (fun h => (h3 b h).2 (.inr hb))⟩, h2,
      h5.weaken fun _b hb => hb.elim (fun h => h.elim (fun h => .inl (.inl h)) .inr) (fun h => .inl (.inr h))⟩
theorem Z7.perm {R : Jd} {w : World} {l l' : List Xc} (h : l.Perm l') : ∀ {U : Jd}, Z7 R w U l → Z7 R w U l' := by
  induction h with
  | nil => exact fun h => h
  | cons x _ ih => exact fun ⟨S, h1, h2, h3⟩ => ⟨S, h1, h2, ih h3⟩
  | swap x y l => exact fun h => Z7.swap h
  | trans _ _ ih1 ih2 => exact fun h => ih2 (ih1 h)
theorem Sat.perm {w : World} {l l' : List Xc} (h : l.Perm l') : Sat w l → Sat w l' := fun ⟨R, h1, h2⟩ => ⟨R, h1, h2.perm h⟩
theorem Sat.tail {w : World} {A : Xc} {l : List Xc} : Sat w (A :: l) → Sat w l := fun ⟨R, h1, _, _, _, h3⟩ => ⟨R, h1, h3.weaken fun _ hb => .inl hb⟩
def Imp (l l' : List Xc) : Prop := ∀ (w : World) (R U : Jd), (∀ b, R b → b < w.heap.size) → (∀ b, R b → U b) → Z7 R w U l → Z7 R w U l'
theorem Imp.refl {l : List Xc} : Imp l l := fun _ _ _ _ _ h => h
theorem Imp.trans {l l' l2 : List Xc} (h : Imp l l') (h2 : Imp l' l2) : Imp l l2 := fun w R U h1 hu hs => h2 w R U h1 hu (h w R U h1 hu hs)
theorem Imp.cons {A : Xc} {l l' : List Xc} (h : Imp l l') : Imp (A :: l) (A :: l') := fun w R _ h1 hu ⟨S, a, b, c⟩ => ⟨S, a, b, h w R _ h1 (fun x hx => .inl (hu x hx)) c⟩
theorem Imp.sat {l l' : List Xc} (h : Imp l l') {w : World} : Sat w l → Sat w l' := fun ⟨R, h1, h2⟩ => ⟨R, h1, h w R R h1 (fun _ h => h) h2⟩
theorem Imp.tail {A : Xc} {l : List Xc} : Imp (A :: l) l := fun _ _ _ _ _ ⟨_, _, _, h⟩ => h.weaken fun _ hb => .inl hb
theorem Imp.swap {A B : Xc} {l : List Xc} : Imp (A :: B :: l) (B :: A :: l) := fun _ _ _ _ _ h => h.swap
def sep (A B : Xc) : Xc where
  h R S w := ∃ S1 S2 : Jd, (∀ b, S1 b → S b) ∧ (∀ b, S2 b → S b) ∧ (∀ b, S1 b → ¬ S2 b) ∧ A.h R S1 w ∧ B.h R S2 w
  loc := fun hR hS hk hs ⟨S1, S2, h1, h2, h3, h4, h5⟩ => ⟨S1, S2, fun b h => hS b (h1 b h), fun b h => hS b (h2 b h), h3,
    A.loc hR (fun _ h => h) (fun b hb => hk b (hb.imp id (h1 b))) hs h4, B.loc hR (fun _ h => h) (fun b hb => hk b (hb.imp id (h2 b))) hs h5⟩
def ex {α : Type} (f : α → Xc) : Xc where
  h R S w := ∃ x, (f x).h R S w
  loc := fun hR hS hk hs ⟨x, h⟩ => ⟨x, (f x).loc hR hS hk hs h⟩
def fact (p : Prop) : Xc where
  h _ _ _ := p
  loc := fun _ _ _ _ h => h
def blk (b : Nat) (o : Obj) : Xc where
  h _ S w := S b ∧ w.heap[b]? = some o
  loc := fun _ hS hk _ h => ⟨hS b h.1, by rw [hk b (.inr h.1)]; exact h.2⟩
def rob (b : Nat) (o : Obj) : Xc where
  h R _ w := R b ∧ w.heap[b]? = some o
  loc := fun hR _ hk _ h => ⟨hR b h.1, by rw [hk b (.inl h.1)]; exact h.2⟩
def old (W : World) : Xc where
  h R _ w := xeX W w ∧ W.heap.size ≤ w.heap.size ∧ ∀ b, b < W.heap.size → R b ∧ w.heap[b]? = W.heap[b]?
  loc := by
    intro R R' S S' w w' hR _ hk hs h
    refine ⟨h.1.trans hs, ?_, fun b hb => ⟨hR b (h.2.2 b hb).1, by rw [hk b (.inl (h.2.2 b hb).1)]; exact (h.2.2 b hb).2⟩⟩
    rcases Nat.lt_or_ge w'.heap.size W.heap.size with hlt | hge
    · have := hk w'.heap.size (.inl (h.2.2 _ hlt).1)
      have h2 := (h.2.2 _ hlt).2
      rw [this.symm] at h2
      have hx : W.heap[w'.heap.size]? = some (W.heap[w'.heap.size]) := by simp [hlt]
      have hy : w'.heap[w'.heap.size]? = none := by simp
      rw [hx, hy] at h2; cases h2
    · exact hge
theorem Z7.sep_iff {R U : Jd} {w : World} {A B : Xc} {l : List Xc} : Z7 R w U (sep A B :: l) ↔ Z7 R w U (A :: B :: l) := by
  constructor
  · rintro ⟨S, h2, ⟨S1, S2, a, b, c, d, e⟩, h3⟩
    refine ⟨S1, fun x hx => h2 x (a x hx), d, S2, fun x hx => ⟨(h2 x (b x hx)).1, fun h => h.elim (h2 x (b x hx)).2 (fun h => c x h hx)⟩, e, h3.weaken fun x hx => ?_⟩
    rcases hx with (h | h) | h
    · exact .inl h
    · exact .inr (a x h)
    · exact .inr (b x h)
  · rintro ⟨S1, h2, d, S2, h3, e, h4⟩
    exact ⟨fun b => S1 b ∨ S2 b, fun b hb => hb.elim (h2 b) (fun h => ⟨(h3 b h).1, fun h' => (h3 b h).2 (.inl h')⟩), ⟨S1, S2, fun _ => .inl, fun _ => .inr, fun b h h' => (h3 b h').2 (.inr h), d, e⟩,
      h4.weaken fun b hb => hb.elim (fun h => .inl (.inl h)) (fun h => h.elim (fun h => .inl (.inr h)) .inr)⟩
theorem Imp.sep {A B : Xc} {l : List Xc} : Imp (Wk.sep A B :: l) (A :: B :: l) := fun _ _ _ _ _ => Z7.sep_iff.1
theorem Imp.sepI {A B : Xc} {l : List Xc} : Imp (A :: B :: l) (Wk.sep A B :: l) := fun _ _ _ _ _ => Z7.sep_iff.2
theorem Imp.exI {α : Type} {f : α → Xc} {l : List Xc} (x : α) : Imp (f x :: l) (ex f :: l) := fun _ _ _ _ _ ⟨S, h1, h2, h3⟩ => ⟨S, h1, ⟨x, h2⟩, h3⟩
theorem Imp.factI {p : Prop} {l : List Xc} (hp : p) : Imp l (fact p :: l) := fun _ _ _ _ _ h => ⟨fun _ => False, fun _ h => h.elim, hp, h.weaken fun _ hb => hb.elim id False.elim⟩
theorem Sat.sep_iff {w : World} {A B : Xc} {l : List Xc} : Sat w (sep A B :: l) ↔ Sat w (A :: B :: l) := by
  constructor
  · rintro ⟨R, h1, S, h2, ⟨S1, S2, a, b, c, d, e⟩, h3⟩
    refine ⟨R, h1, S1, fun x hx => h2 x (a x hx), d, S2, fun x hx => ⟨(h2 x (b x hx)).1, fun h => h.elim (h2 x (b x hx)).2 (fun h => c x h hx)⟩, e, h3.weaken fun x hx => ?_⟩
    rcases hx with (h | h) | h
    · exact .inl h
    · exact .inr (a x h)
    · exact .inr (b x h)
  · rintro ⟨R, h1, S1, h2, d, S2, h3, e, h4⟩
    exact ⟨R, h1, fun b => S1 b ∨ S2 b, fun b hb => hb.elim (h2 b) (fun h => ⟨(h3 b h).1, fun h' => (h3 b h).2 (.inl h')⟩), ⟨S1, S2, fun _ => .inl, fun _ => .inr, fun b h h' => (h3 b h').2 (.inr h), d, e⟩,
      h4.weaken fun b hb => hb.elim (fun h => .inl (.inl h)) (fun h => h.elim (fun h => .inl (.inr h)) .inr)⟩
theorem Sat.ex_iff {w : World} {α : Type} {f : α → Xc} {l : List Xc} : Sat w (ex f :: l) ↔ ∃ x, Sat w (f x :: l) :=
  ⟨fun ⟨R, h1, S, h2, ⟨x, h⟩, h3⟩ => ⟨x, R, h1, S, h2, h, h3⟩, fun ⟨x, R, h1, S, h2, h, h3⟩ => ⟨R, h1, S, h2, ⟨x, h⟩, h3⟩⟩
theorem Sat.fact_iff {w : World} {p : Prop} {l : List Xc} : Sat w (fact p :: l) ↔ p ∧ Sat w l :=
  ⟨fun h => ⟨let ⟨_, _, _, _, h, _⟩ := h; h, h.tail⟩, fun ⟨hp, R, h1, h2⟩ => ⟨R, h1, fun _ => False, fun _ h => h.elim, hp, h2.weaken fun _ hb => hb.elim id False.elim⟩⟩
def Dup (A : Xc) : Prop := ∀ {R S w}, A.h R S w → A.h R (fun _ => False) w
theorem xBP (p : Prop) : Dup (fact p) := fun h => h
theorem xb9 {w : World} {o : Obj} {b : Nat} (h : b < w.heap.size) : (w.alloc o).heap[b]? = w.heap[b]? := by
  show (w.heap.push o)[b]? = _
  rw [Array.getElem?_push, if_neg (Nat.ne_of_lt h)]
theorem Sat.lt {w : World} {b : Nat} {o : Obj} {l : List Xc} : Sat w (blk b o :: l) → b < w.heap.size := fun ⟨_, _, _, h2, h, _⟩ => (h2 b h.1).1
theorem Sat.get {w : World} {b : Nat} {o : Obj} {l : List Xc} : Sat w (blk b o :: l) → w.heap[b]? = some o := fun ⟨_, _, _, _, h, _⟩ => h.2
theorem Sat.alloc {w : World} {l : List Xc} (o : Obj) : Sat w l → Sat (w.alloc o) (blk w.heap.size o :: l) := fun ⟨R, h1, h2⟩ => by
  refine ⟨R, fun b hb => by simp; have := h1 b hb; omega, fun b => b = w.heap.size, fun b hb => ?_, ⟨rfl, by show (w.heap.push o)[w.heap.size]? = _; simp⟩, ?_⟩
  · subst hb; exact ⟨by simp, fun h => absurd (h1 _ h) (by omega)⟩
  · refine Z7.frame (w := w) (w' := w.alloc o) (fun _ h => h) (by simp) ⟨rfl, rfl, rfl⟩ (fun b hb => xb9 (h1 b hb)) (fun b hn hl => ⟨xb9 hl, fun h => ?_⟩) h2
    rcases h with h | h
    · exact hn h
    · omega
theorem Sat.drew {w : World} {l : List Xc} : Sat w l → Sat w.drew l := fun ⟨R, h1, h2⟩ =>
  ⟨R, h1, Z7.frame (w := w) (w' := w.drew) (fun _ h => h) (Nat.le_refl _) ⟨rfl, rfl, rfl⟩ (fun _ _ => rfl) (fun _ hn _ => ⟨rfl, hn⟩) h2⟩
theorem Sat.put {w w' : World} {b : Nat} {o o' : Obj} {l : List Xc} (hw : w'.heap = w.heap.setIfInBounds b o') (hs : xeX w w') : Sat w (blk b o :: l) → Sat w' (blk b o' :: l) := fun ⟨R, h1, S, h2, h, h3⟩ => by
  have hsz : w'.heap.size = w.heap.size := by rw [hw]; simp
  have hne : ∀ x, x ≠ b → w'.heap[x]? = w.heap[x]? := fun x hx => by rw [hw, Array.getElem?_setIfInBounds_ne (Ne.symm hx)]
  refine ⟨R, fun x hx => by rw [hsz]; exact h1 x hx, S, fun x hx => by rw [hsz]; exact h2 x hx, ⟨h.1, ?_⟩, ?_⟩
  · rw [hw]
    have := (h2 b h.1).1
    simp [this]
  · refine h3.frame (fun _ h => h) (by omega) hs (fun x hx => hne x fun e => ?_) (fun x hn hl => ⟨hne x fun e => ?_, hn⟩)
    · subst e; exact (h2 x h.1).2 hx
    · subst e; exact hn (.inr h.1)
theorem Sat.freeze {w : World} {b : Nat} {o : Obj} {l : List Xc} : Sat w (blk b o :: l) → Sat w (rob b o :: l) := fun ⟨R, h1, S, h2, h, h3⟩ => by
  refine ⟨fun x => R x ∨ x = b, fun x hx => hx.elim (h1 x) (fun e => e ▸ (h2 b h.1).1), fun _ => False, fun _ h => h.elim, ⟨.inr rfl, h.2⟩, ?_⟩
  refine h3.frame (fun _ => .inl) (Nat.le_refl _) (xeX.refl w) (fun _ _ => rfl) (fun x hn _ => ⟨rfl, fun hx => ?_⟩)
  rcases hx with (hx | hx) | hx
  · exact hn (.inl hx)
  · exact hn (.inr (hx ▸ h.1))
  · exact hx
def Tr (l : List Xc) (X : WP) : Prop := ∀ w, Sat w l → X w
theorem Tr.imp {l l' : List Xc} {X : WP} (h : Imp l l') (hx : Tr l' X) : Tr l X := fun w hw => hx w (h.sat hw)
theorem Tr.perm {l l' : List Xc} {X : WP} (h : l.Perm l') (hx : Tr l' X) : Tr l X := fun w hw => hx w (hw.perm h)
theorem Tr.sep_iff {A B : Xc} {l : List Xc} {X : WP} : Tr (sep A B :: l) X ↔ Tr (A :: B :: l) X := ⟨fun h w hw => h w (Sat.sep_iff.2 hw), fun h w hw => h w (Sat.sep_iff.1 hw)⟩
theorem Tr.ex_iff {α : Type} {f : α → Xc} {l : List Xc} {X : WP} : Tr (ex f :: l) X ↔ ∀ x, Tr (f x :: l) X :=
  ⟨fun h x w hw => h w (Sat.ex_iff.2 ⟨x, hw⟩), fun h w hw => let ⟨x, hw⟩ := Sat.ex_iff.1 hw; h x w hw⟩
theorem Tr.fact_iff {p : Prop} {l : List Xc} {X : WP} : Tr (fact p :: l) X ↔ (p → Tr l X) :=
  ⟨fun h hp w hw => h w (Sat.fact_iff.2 ⟨hp, hw⟩), fun h w hw => let ⟨hp, hw⟩ := Sat.fact_iff.1 hw; h hp w hw⟩
def Xb (P : Program) (f : FuncId) (args : Array Value) (pre : List Xc) (post : Value → List Xc → Prop) : Prop :=
  ∀ (F : List Xc) (K : Value → WP), (∀ v l', post v l' → Tr (l' ++ F) (K v)) → Tr (pre ++ F) (XI P f args K)
theorem Tr.enter {P : Program} (hm : P.follows .mixedOrders = true) {f : FuncId} {fn : Func} {c : Code} {T : Nat → Xj} (F : xsB P f fn c T) {args : List Value} {rs : List ResultVar} {K : Value → WP} {l : List Xc} (hrs : fn.results = rs.toArray) (ha : args.length ≤ fn.ntmps)
    (h : ∀ u, Tr l (W P T c (Ys P rs K) (xc3 u 0 args))) : Tr l (XI P f args.toArray K) := fun w hw => xiA hm F hrs ha fun u => h u w hw
theorem Tr.drewK {l : List Xc} {X : WP} (h : Tr l X) : Tr l (drewK X) := fun _w hw => h _ hw.drew
theorem Tr.brK {l : List Xc} {X Y : WP} (h1 : Tr l X) (h2 : Tr l Y) : Tr l (BrK X Y) := fun _w hw => ⟨h1 _ hw, h2 _ hw⟩
section
variable {P : Program} {T : Nat → Xj} {b want : Bool} {l : List Xc} {x y : Code} {Q : Jh} {e : Env} {o : Op} {ty : TypeId} {K : Value → WP} {k : Env → WP} {d : Option Tmp} {ops : Array Oper} {cs : List Nat}
theorem Tr.condT (hb : b = true) (h : Tr l (W P T x Q e)) : Tr l (XV P T (.bool b) x y Q e) := by subst hb; exact h
theorem Tr.condF (hb : b = false) (h : Tr l (W P T y Q e)) : Tr l (XV P T (.bool b) x y Q e) := by subst hb; exact h
theorem Tr.eqR {v u : Value} (h : v = u) (hx : Tr l (Yk P ops cs k e)) : Tr l (eqR P ops cs k e u v) := fun w hw => ⟨h, hx w hw⟩
end
def xa9 (e : Env) : List Nat → List Value → Env
  | s :: ss, v :: vs => xa9 (upd e s v) ss vs
  | _, _ => e
theorem xaA (e : Env) : ∀ (ss : List Nat), xa9 e ss (ss.map e) = e
  | [] => rfl
  | s :: ss => by
    simp only [List.map_cons, xa9]
    have : upd e s (e s) = e := by funext j; simp [upd]; intro h; rw [h]
    rw [this]; exact xaA e ss
theorem xfm {e : Env} {s : Nat} {v : Value} {ss : List Nat} {vs : List Value} : xa9 e (s :: ss) (v :: vs) = xa9 (upd e s v) ss vs := nr rfl
theorem xih {e : Env} {vs : List Value} : xa9 e [] vs = e := nr rfl
def xcg {α : Type} (keep : List Nat) (kv : List Value) (slots : List Nat) (V : α → List Value) (I : α → Prop) (μ : α → Nat) (L : α → List Xc) (F : List Xc) (a : α) (e' : Env) : WP :=
  fun w' => keep.map e' = kv ∧ ∃ a', I a' ∧ μ a' < μ a ∧ slots.map e' = V a' ∧ Sat w' (L a' ++ F)
theorem Tr.loop {α : Type} (slots keep : List Nat) (V : α → List Value) (L : α → List Xc) (I : α → Prop) (μ : α → Nat) {B : Jh → Env → WP} {Q : Jh} {e : Env} {l F : List Xc} (a0 : α)
    (h0 : I a0) (hV : slots.map e = V a0) (hL : ∀ w, Sat w l → Sat w (L a0 ++ F))
    (hr : ∀ a u, I a → Tr (L a ++ F) (B (Yj (xcg keep (keep.map e) slots V I μ L F a) Q) (xa9 (xa9 u keep (keep.map e)) slots (V a)))) :
    Tr l (X3 B Q e) := by
  intro w hw
  refine ⟨fun n e' w' => ∃ a, μ a = n ∧ keep.map e' = keep.map e ∧ I a ∧ slots.map e' = V a ∧ Sat w' (L a ++ F), ⟨_, a0, rfl, rfl, h0, hV, hL w hw⟩, fun n e1 w1 h1 => ?_⟩
  obtain ⟨a, rfl, hk, hi, hv, hs⟩ := h1
  have henv : e1 = xa9 (xa9 e1 keep (keep.map e)) slots (V a) := by
    rw [← hk, xaA, ← hv, xaA]
  have := hr a e1 hi w1 hs
  rw [← henv] at this
  have hfun : (fun (e' : Env) w' => ∃ m, m < μ a ∧ ∃ a', μ a' = m ∧ keep.map e' = keep.map e ∧ I a' ∧ slots.map e' = V a' ∧ Sat w' (L a' ++ F)) = xcg keep (keep.map e) slots V I μ L F a := by
    funext e' w'
    apply propext
    constructor
    · rintro ⟨m, hm, a', rfl, h1, h2, h3, h4⟩; exact ⟨h1, a', h2, hm, h3, h4⟩
    · rintro ⟨h1, a', h2, hm, h3, h4⟩; exact ⟨_, hm, a', rfl, h1, h2, h3, h4⟩
  rw [hfun]
  exact this
def xrx (P : Program) (T f : Nat) : Option Nat := match P.underlying T with
  | some (.struct fs) => match fs[f]? with
    | some fd => match P.info? fd.type with
      | some i => if i.size = 0 then none else some fd.offset
      | none => none
    | none => none
  | _ => none
def xlt (P : Program) (T : Nat) : Bool := (match P.underlying T with
  | some (.struct _) | some (.array _ _) | none => false
  | _ => true) && (match P.info? T with
  | some i => i.size == 1
  | none => false)
def xsJ (P : Program) (T : Nat) : Option Nat := match P.underlying T with
  | some (.struct _) | some (.array _ _) => (P.info? T).map (·.size)
  | _ => none
def xsw (P : Program) (T : Nat) : Option Nat := match P.underlying T with
  | some (.slice e) => (P.info? e).map (·.size)
  | _ => none
def xby (P : Program) (T : Nat) : Option Value := (P.info? T).bind (·.zero)
class Fld (P : Program) (T f : Nat) (off : outParam Nat) : Prop where
  h : xrx P T f = some off
class YO (P : Program) (T : Nat) : Prop where
  h : xlt P T = true
class Agg (P : Program) (T : Nat) (n : outParam Nat) : Prop where
  h : xsJ P T = some n
class Siz (P : Program) (T : Nat) (n : outParam Nat) : Prop where
  h : (P.info? T).map (·.size) = some n
class Slc (P : Program) (T : Nat) (n : outParam Nat) : Prop where
  h : xsw P T = some n
class Zer (P : Program) (T : Nat) (v : outParam Value) : Prop where
  h : xby P T = some v
class WK (P : Program) (T : Nat) : Prop where
  h : ∃ e, P.underlying T = some (.pointer e)
class xoe (P : Program) (T : Nat) : Prop where
  h : P.underlying T = some .bool
class xqo (P : Program) (f : Nat) : Prop where
  h : xa1 P f = true
instance {P : Program} {f : FuncId} {F : Func} {T : Nat → Xj} [h : FnI P f F T] : xqo P f := ⟨h.n⟩
class xc2 (P : Program) (T : Nat) (ze : outParam Value) : Prop where
  h : ∃ key elem, P.underlying T = some (.map key elem) ∧ P.underlying key = some (.int .i64) ∧ (P.info? elem).bind (·.zero) = some ze
def xt8 (P : Program) (T : Nat) : Option Value := match P.underlying T with
  | some (.map key elem) => match P.underlying key with
    | some (.int .i64) => (P.info? elem).bind (·.zero)
    | _ => none
  | _ => none
theorem xnn {P : Program} {T : Nat} {ze : Value} (h : xt8 P T = some ze) : xc2 P T ze := ⟨by
  unfold xt8 at h
  split at h
  · rename_i key elem hu
    split at h
    · rename_i hk; exact ⟨key, elem, hu, hk, h⟩
    · cases h
  · cases h⟩
def xg9 (P : Program) (T : Nat) : Option (List (Nat × Nat)) := match P.underlying T with
  | some (.struct fs) => fs.toList.mapM fun f => (P.info? f.type).map fun i => (f.offset, i.size)
  | _ => none
class Yp (P : Program) (T : Nat) (pl : outParam (List (Nat × Nat))) (z : outParam (List Value)) : Prop where
  h : xg9 P T = some pl ∧ xby P T = some (.agg z.toArray)
section
variable {P : Program}
class ZY (P : Program) (T : Nat) (e bytes : outParam Nat) (n : outParam Nat) (z : outParam (List Value)) : Prop where
  h : P.underlying T = some (.slice e) ∧ ∃ i, P.info? e = some i ∧ i.size = n ∧ i.bytes = bytes ∧ i.zero.map Value.cells = some z.toArray
def xn0 (P : Program) (T : Nat) : Option (Nat × Nat × Nat × List Value) := match P.underlying T with
  | some (.slice e) => match P.info? e with
    | some i => match i.zero with
      | some z => some (e, i.bytes, i.size, z.cells.toList)
      | none => none
    | none => none
  | _ => none
theorem xkh {T e bytes n : Nat} {z : List Value} (h : xn0 P T = some (e, bytes, n, z)) : ZY P T e bytes n z := ⟨by
  unfold xn0 at h
  split at h
  · rename_i e' hu
    split at h
    · rename_i i hi
      split at h
      · rename_i z' hz
        simp only [Option.some.injEq, Prod.mk.injEq] at h
        obtain ⟨rfl, rfl, rfl, rfl⟩ := h
        exact ⟨hu, i, hi, rfl, rfl, by rw [hz]; simp⟩
      · cases h
    · cases h
  · cases h⟩
end
section
variable {P : Program} {T f n e b : Nat} {v : Value} {z : List Value} {l : List (Nat × Nat)}
theorem Fld.k (h : xrx P T f = some n := by kernel_rfl) : Fld P T f n := ⟨h⟩
theorem YO.k (h : xlt P T = true := by kernel_rfl) : YO P T := ⟨h⟩
theorem Agg.k (h : xsJ P T = some n := by kernel_rfl) : Agg P T n := ⟨h⟩
theorem Siz.k (h : (P.info? T).map (·.size) = some n := by kernel_rfl) : Siz P T n := ⟨h⟩
theorem Slc.k (h : xsw P T = some n := by kernel_rfl) : Slc P T n := ⟨h⟩
theorem Zer.k (h : xby P T = some v := by kernel_rfl) : Zer P T v := ⟨h⟩
theorem Yp.k (h : xg9 P T = some l := by kernel_rfl) (h2 : xby P T = some (.agg z.toArray) := by kernel_rfl) : Yp P T l z := ⟨h, h2⟩
theorem ZY.k (h : xn0 P T = some (e, b, n, z) := by kernel_rfl) : ZY P T e b n z := xkh h
end
section
variable {P : Program}
theorem xnb {T f : Nat} {off : Nat} (h : xrx P T f = some off) (a : Addr) (w : World) : (Instr.fieldAt T (.pointer (some a)) f).run P w = .ok (.pointer (some (a.add off))) w := by
  unfold xrx at h
  split at h
  · rename_i fs hu
    split at h
    · rename_i fd hf
      split at h
      · rename_i i hi
        split at h
        · cases h
        · rename_i hz
          cases h
          simp [Instr.fieldAt, run_underlying hu, hf, Instr.sureAddr, fieldPlace, sizeOf, typeInfo, hi, hz]
      · cases h
    · cases h
  · cases h
theorem xkg {T : Nat} (h : xlt P T = true) : (∀ w, (isAgg T).run P w = .ok false w) ∧ ∀ w, (sizeOf T).run P w = .ok 1 w := by
  unfold xlt at h
  simp only [Bool.and_eq_true] at h
  obtain ⟨h1, h2⟩ := h
  constructor
  · intro w
    split at h1
    · cases h1
    · cases h1
    · cases h1
    · rename_i d hd1 hd2 hd3
      cases hu : P.underlying T with
      | none => exact absurd hu hd3
      | some d =>
        cases d <;> simp [isAgg, run_underlying hu] <;> first
          | exact absurd hu (hd1 _)
          | exact absurd hu (hd2 _ _)
  · intro w
    split at h2
    · rename_i i hi
      simp only [beq_iff_eq] at h2
      simp [sizeOf, typeInfo, hi, h2]
    · cases h2
theorem xfu {T n : Nat} (h : xsJ P T = some n) : (∀ w, (isAgg T).run P w = .ok true w) ∧ ∀ w, (sizeOf T).run P w = .ok n w := by
  unfold xsJ at h
  split at h
  · rename_i fs hu
    cases hi : P.info? T with
    | none => rw [hi] at h; cases h
    | some i =>
      rw [hi] at h
      simp only [Option.map_some, Option.some.injEq] at h
      exact ⟨fun w => by simp [isAgg, run_underlying hu], fun w => by simp [sizeOf, typeInfo, hi, h]⟩
  · rename_i len el hu
    cases hi : P.info? T with
    | none => rw [hi] at h; cases h
    | some i =>
      rw [hi] at h
      simp only [Option.map_some, Option.some.injEq] at h
      exact ⟨fun w => by simp [isAgg, run_underlying hu], fun w => by simp [sizeOf, typeInfo, hi, h]⟩
  · cases h
theorem Zm {s : Sem Value} {v : Value} (h : ∀ w, s.run P w = .ok v w) (K : Value → WP) : Xq P s K = K v := by
  funext w
  unfold Xq
  rw [h w]
  apply propext
  constructor
  · rintro ⟨v', h1, h2⟩; cases h1; exact h2
  · intro h; exact ⟨v, rfl, h⟩
theorem ZG (b o n : Nat) : (⟨b, o, none⟩ : Addr).add n = ⟨b, o + n, none⟩ := by
  unfold Addr.add
  split
  · rename_i h; subst h; rfl
  · rfl
theorem xth {f : FuncId} [h : xqo P f] {args : Array Value} {K : Value → WP} : FnK P f args K = XI P f args K := xuz h.h
theorem xbr {T f off : Nat} [h : Fld P T f off] {b o : Nat} {K : Value → WP} : Xq P (Instr.fieldAt T (.pointer (some ⟨b, o, none⟩)) f) K = K (.pointer (some ⟨b, o + off, none⟩)) := by
  rw [← ZG]; exact Zm (fun w => xnb h.h _ w) K
theorem Jw {T : Nat} {a b : Value} {w : World} {r : Bool} (h : ∀ d, (Op.equalIn (d + 1) T a b).run P w = .ok r w) : (Op.equal T a b).run P w = .ok r w := h 9999
theorem xhf {T : Nat} [hT : WK P T] {x y : Operand} {a b : Option Addr} {K : Value → WP} (hab : a = none ∨ b = none) : XO P .eql T x y (.pointer a) (.pointer b) K = K (.bool (a.isNone && b.isNone)) := by
  obtain ⟨e, he⟩ := hT.h
  refine Zm (fun w => ?_) K
  have : (Op.equal T (.pointer a) (.pointer b)).run P w = .ok (a.isNone && b.isNone) w := Jw fun d => by
    rcases hab with rfl | rfl
    · simp [Op.equalIn, run_underlying he]
    · cases a <;> simp [Op.equalIn, run_underlying he]
  simp [eqGuard, binOp, this]
theorem xfc {T : Nat} [hT : WK P T] {x y : Operand} {a : Addr} {K : Value → WP} : XO P .eql T x y (.pointer (some a)) (.pointer none) K = K (.bool false) := xhf (.inr rfl)
theorem xfX {T : Nat} [hT : WK P T] {x y : Operand} {K : Value → WP} : XO P .eql T x y (.pointer none) (.pointer none) K = K (.bool true) := xhf (.inr rfl)
theorem xfp {T : Nat} [hT : WK P T] {x y : Operand} {a b : Option Addr} {K : Value → WP} (hab : a = none ∨ b = none) : XO P .neq T x y (.pointer a) (.pointer b) K = K (.bool (!(a.isNone && b.isNone))) := by
  obtain ⟨e, he⟩ := hT.h
  refine Zm (fun w => ?_) K
  have : (Op.equal T (.pointer a) (.pointer b)).run P w = .ok (a.isNone && b.isNone) w := Jw fun d => by
    rcases hab with rfl | rfl
    · simp [Op.equalIn, run_underlying he]
    · cases a <;> simp [Op.equalIn, run_underlying he]
  simp [eqGuard, binOp, this]
theorem xdI {T : Nat} [hT : WK P T] {x y : Operand} {a : Addr} {K : Value → WP} : XO P .neq T x y (.pointer (some a)) (.pointer none) K = K (.bool true) := xfp (.inr rfl)
theorem xeg {T : Nat} [hT : WK P T] {x y : Operand} {K : Value → WP} : XO P .neq T x y (.pointer none) (.pointer none) K = K (.bool false) := xfp (.inr rfl)
theorem xiI {T : Nat} [hT : xoe P T] {x y : Operand} {a b : Bool} {K : Value → WP} : XO P .eql T x y (.bool a) (.bool b) K = K (.bool (a == b)) := by
  refine Zm (fun w => ?_) K
  have : (Op.equal T (.bool a) (.bool b)).run P w = .ok (a == b) w := Jw fun d => by simp [Op.equalIn, run_underlying hT.h]
  simp [eqGuard, binOp, this]
theorem xjf {T : Nat} [hT : xoe P T] {x y : Operand} {a b : Bool} {K : Value → WP} : XO P .neq T x y (.bool a) (.bool b) K = K (.bool (!(a == b))) := by
  refine Zm (fun w => ?_) K
  have : (Op.equal T (.bool a) (.bool b)).run P w = .ok (a == b) w := Jw fun d => by simp [Op.equalIn, run_underlying hT.h]
  simp [eqGuard, binOp, this]
def X9 (l : List Xc) (a : Addr) (v : Value) : Prop := ∀ w, Sat w l → w.cell? a = some v
theorem X9.next {A : Xc} {l : List Xc} {a : Addr} {v : Value} (h : X9 l a v) : X9 (A :: l) a v := fun w hw => h w hw.tail
theorem X9.blk {b off : Nat} {cs : List Value} {T : Nat} {fr : Nat × Nat} {l : List Xc} {v : Value} (h : cs[off]? = some v) : X9 (blk b (.cells cs.toArray T fr) :: l) ⟨b, off, none⟩ v := fun w hw => by
  simp [World.cell?, hw.get, h]
theorem Tr.load1 {T : Nat} {a : Addr} {v : Value} {l : List Xc} {K : Value → WP} [hT : YO P T] (hc : X9 l a v) (hx : Tr l (K v)) : Tr l (Xq P (Instr.loadAt T (.pointer (some a))) K) := fun w hw => by
  refine ⟨v, ?_, hx w hw⟩
  simp [Instr.loadAt, Instr.sureAddr, loadVar, (xkg hT.h).1, hc w hw]
def XP (l : List Xc) (a : Addr) (n : Nat) (vs : List Value) : Prop := vs.length = n ∧ ∀ w, Sat w l → ∀ i, (h : i < vs.length) → w.cell? (a.add i) = some vs[i]
theorem XP.blk {b off : Nat} {cs : List Value} {T : Nat} {fr : Nat × Nat} {l : List Xc} {vs : List Value} {n : Nat} (h : (cs.drop off).take n = vs) (hl : vs.length = n) : XP (blk b (.cells cs.toArray T fr) :: l) ⟨b, off, none⟩ n vs := ⟨hl, fun w hw i hi => by
  subst h
  rw [ZG]
  have h2 : off + i < cs.length := by simp at hi; omega
  simp [World.cell?, hw.get, h2]⟩
theorem JN {w : World} {a : Addr} : ∀ (vs : List Value) (i : Nat) (acc : Array Value), (∀ j, (h : j < vs.length) → w.cell? (a.add (i + j)) = some vs[j]) →
    (loadCellsFrom a i vs.length acc).run P w = .ok (acc ++ vs.toArray) w
  | [], i, acc, _ => by simp [loadCellsFrom]
  | v :: vs, i, acc, h => by
    have h0 := h 0 (by simp)
    simp only [Nat.add_zero, List.getElem_cons_zero] at h0
    have ih := JN (w := w) (a := a) vs (i + 1) (acc.push v) (fun j hj => by
      have := h (j + 1) (by simp; omega)
      simp only [List.getElem_cons_succ] at this
      rw [show i + 1 + j = i + (j + 1) by omega]; exact this)
    simp only [List.length_cons, loadCellsFrom, Sem.run_bind, run_load, h0, Result.andThen_ok, ih]
    simp
theorem Tr.loadN {T n : Nat} {a : Addr} {vs : List Value} {l : List Xc} {K : Value → WP} [hT : Agg P T n] (hc0 : XP l a n vs) (hx : Tr l (K (.agg vs.toArray))) : Tr l (Xq P (Instr.loadAt T (.pointer (some a))) K) := fun w hw => by
  obtain ⟨hn, hc⟩ := hc0
  refine ⟨.agg vs.toArray, ?_, hx w hw⟩
  have := JN (P := P) (w := w) (a := a) vs 0 #[] (fun j hj => by rw [Nat.zero_add]; exact hc w hw j hj)
  rw [hn] at this
  simp [Instr.loadAt, Instr.sureAddr, loadVar, (xfu hT.h).1, (xfu hT.h).2, loadCells, this]
def Upd (l : List Xc) (b : Nat) (o o' : Obj) (l' : List Xc) : Prop := ∃ F : List Xc, l.Perm (blk b o :: F) ∧ l'.Perm (blk b o' :: F)
theorem Upd.here {b : Nat} {o o' : Obj} {l : List Xc} : Upd (Wk.blk b o :: l) b o o' (Wk.blk b o' :: l) := ⟨l, .refl _, .refl _⟩
theorem Upd.get {l l' : List Xc} {b : Nat} {o o' : Obj} (h : Upd l b o o' l') {w : World} (hw : Sat w l) : w.heap[b]? = some o := by
  obtain ⟨F, h1, _⟩ := h
  exact (hw.perm h1).get
theorem Upd.put {l l' : List Xc} {b : Nat} {o o' : Obj} (h : Upd l b o o' l') {w w' : World} (hw : Sat w l) (hh : w'.heap = w.heap.setIfInBounds b o') (hs : xeX w w') : Sat w' l' := by
  obtain ⟨F, h1, h2⟩ := h
  exact ((hw.perm h1).put hh hs).perm h2.symm
theorem xgt {w : World} {b off : Nat} {v : Value} {cs : Array Value} {T : Nat} {fr : Nat × Nat} (h : w.heap[b]? = some (.cells cs T fr)) :
    (w.setCell ⟨b, off, none⟩ v).heap = w.heap.setIfInBounds b (.cells (cs.setIfInBounds off v) T fr) := by
  have hb : b < w.heap.size := (Array.getElem?_eq_some_iff.1 h).1
  have hg : w.heap[b] = .cells cs T fr := (Array.getElem?_eq_some_iff.1 h).2
  apply Array.ext
  · simp [World.setCell]
  · intro i h1 h2
    simp only [World.setCell, Array.getElem_modify, Option.isSome_none, Bool.false_eq_true, if_false]
    rw [Array.getElem_setIfInBounds]
    · split
      · rename_i he; subst he; rw [hg]
      · rfl
def ZM : List Value → Nat → List Value → List Value
  | l, _, [] => l
  | l, off, v :: vs => ZM (l.set off v) (off + 1) vs
theorem Zz : ∀ (l : List Value) (off : Nat) (vs : List Value), (ZM l off vs).length = l.length
  | _, _, [] => rfl
  | l, off, v :: vs => by simp [ZM, Zz]
theorem Zo {T : Nat} : ∀ (vs : List Value) (cs : List Value) (b off i : Nat) (l l' : List Xc) (w : World), (∀ v ∈ vs, v.oneCell' = true) → off + i + vs.length ≤ cs.length →
    Sat w l → Upd l b (.cells cs.toArray T (0, 0)) (.cells (ZM cs (off + i) vs).toArray T (0, 0)) l' → ∃ w', (storeCells ⟨b, off, none⟩ vs i).run P w = .ok () w' ∧ Sat w' l'
  | [], cs, b, off, i, l, l', w, _, _, hw, hu => by
    refine ⟨w, by simp [storeCells], ?_⟩
    simp only [ZM] at hu
    obtain ⟨F, h1, h2⟩ := hu
    exact hw.perm (h1.trans h2.symm)
  | v :: vs, cs, b, off, i, l, l', w, hv, hl, hw, hu => by
    simp only [List.length_cons] at hl
    have hg := hu.get hw
    have hlt : off + i < cs.length := by omega
    have hcell : w.cell? ⟨b, off + i, none⟩ = some (cs[off + i]) := by simp [World.cell?, hg, hlt]
    have hfr : w.frozen? ⟨b, off + i, none⟩ = false := by simp [World.frozen?, hg]
    obtain ⟨F, h1, h2⟩ := hu
    have hu1 : Upd l b (.cells cs.toArray T (0, 0)) (.cells (cs.set (off + i) v).toArray T (0, 0)) (blk b (.cells (cs.set (off + i) v).toArray T (0, 0)) :: F) := ⟨F, h1, .refl _⟩
    have hsat : Sat (w.setCell ⟨b, off + i, none⟩ v) (blk b (.cells (cs.set (off + i) v).toArray T (0, 0)) :: F) := hu1.put hw (by rw [xgt hg]; simp) ⟨rfl, rfl, rfl⟩
    have ih := Zo vs (cs.set (off + i) v) b off (i + 1) _ l' _ (fun u hu => hv u (by simp [hu])) (by simp; omega) hsat ⟨F, .refl _, by
      simp only [ZM] at h2
      rw [show off + (i + 1) = off + i + 1 by omega]; exact h2⟩
    obtain ⟨w', hr, hs⟩ := ih
    refine ⟨w', ?_, hs⟩
    simp only [storeCells, Sem.run_bind, ZG, run_store P w _ v _ (hv v (by simp)), hcell, hfr, Bool.false_eq_true, if_false, Result.andThen_ok, hr]
theorem Tr.store {T T' n : Nat} {b off : Nat} {cs : List Value} {v : Value} {vs : List Value} {l l' : List Xc} {K : Value → WP} [hT0 : Siz P T n] (hvs : v.cells = vs.toArray) (hn : vs.length = n) (h1 : vs.all Value.oneCell' = true)
    (hu : Upd l b (.cells cs.toArray T' (0, 0)) (.cells (ZM cs off vs).toArray T' (0, 0)) l') (hl : off + n ≤ cs.length) (hx : Tr l' (K undef)) : Tr l (Xv P (Instr.storeAt T (.pointer (some ⟨b, off, none⟩)) v) K) := fun w hw => by
  have hT := hT0.h
  obtain ⟨w', hr, hs⟩ := Zo (P := P) (T := T') vs cs b off 0 l l' w (fun v hv => by simpa using List.all_eq_true.1 h1 v hv) (by omega) hw hu
  refine ⟨w', ?_, hx w' hs⟩
  cases hi : P.info? T with
  | none => rw [hi] at hT; cases hT
  | some i =>
    rw [hi] at hT
    simp only [Option.map_some, Option.some.injEq] at hT
    simp [Instr.storeAt, Instr.sureAddr, storeVar, sizeOf, typeInfo, hi, hT, hvs, hn, hr]
theorem QL : ∀ (vs cs pre : List Value), vs.length = cs.length → ZM (pre ++ cs) pre.length vs = pre ++ vs
  | [], cs, pre, h => by
    have : cs = [] := List.eq_nil_of_length_eq_zero h.symm
    subst this; rfl
  | v :: vs, [], pre, h => by simp at h
  | v :: vs, c :: cs, pre, h => by
    have ih := QL vs cs (pre ++ [v]) (by simpa using h)
    simp only [ZM]
    rw [show (pre ++ c :: cs).set pre.length v = (pre ++ [v]) ++ cs by simp]
    rw [show pre.length + 1 = (pre ++ [v]).length by simp, ih]
    simp
theorem Tr.storeW {T T' n : Nat} {b : Nat} {cs : List Value} {v : Value} {vs : List Value} {l l' : List Xc} {K : Value → WP} [hT0 : Siz P T n] (hvs : v.cells = vs.toArray) (hn : vs.length = n) (h1 : vs.all Value.oneCell' = true)
    (hu : Upd l b (.cells cs.toArray T' (0, 0)) (.cells vs.toArray T' (0, 0)) l') (hl : cs.length = n) (hx : Tr l' (K undef)) : Tr l (Xv P (Instr.storeAt T (.pointer (some ⟨b, 0, none⟩)) v) K) :=
  Tr.store hvs hn h1 (by
    have := QL vs cs [] (by omega)
    simp only [List.nil_append, List.length_nil] at this
    rw [this]; exact hu) (by omega) hx
theorem Tr.box {T : Nat} {v : Value} {cs : List Value} {l : List Xc} {K : Value → WP} (hv : v.cells = cs.toArray) (hx : ∀ b, Tr (blk b (.cells cs.toArray T (0, 0)) :: l) (K (.pointer (some ⟨b, 0, none⟩)))) : Tr l (Xt P (Instr.box T v) K) := fun w hw =>
  ⟨_, w.alloc (.cells cs.toArray T (0, 0)), by simp [Instr.box, newVar, newRow, hv], hx w.heap.size _ (hw.alloc _)⟩
theorem Tr.alloc {T : Nat} {z : Value} [h : Zer P T z] {cs : List Value} {l : List Xc} {K : Value → WP} (hv : z.cells = cs.toArray) (hx : ∀ b, Tr (blk b (.cells cs.toArray T (0, 0)) :: l) (K (.pointer (some ⟨b, 0, none⟩)))) : Tr l (Xt P (Instr.alloc T true (.tuple #[])) K) := fun w hw => by
  refine ⟨_, w.alloc (.cells cs.toArray T (0, 0)), ?_, hx w.heap.size _ (hw.alloc _)⟩
  have hz := h.h
  unfold xby at hz
  cases hi : P.info? T with
  | none => rw [hi] at hz; cases hz
  | some i =>
    rw [hi] at hz
    have hz' : i.zero = some z := hz
    simp [Instr.alloc, zeroValue, typeInfo, hi, hz', newVar, newRow, hv]
end
class En (α : Type) where
  enc : α → List Value
  sz : Nat
  len : ∀ x, (enc x).length = sz
  one : ∀ x, (enc x).all Value.oneCell' = true
  pos : 0 < sz
instance : En Int := ⟨fun n => [.int .i64 n], 1, fun _ => rfl, fun _ => rfl, by decide⟩
instance : En Bool := ⟨fun b => [.bool b], 1, fun _ => rfl, fun _ => rfl, by decide⟩
instance : En UInt8 := ⟨fun b => [.int .u8 b.toNat], 1, fun _ => rfl, fun _ => rfl, by decide⟩
def XK {α : Type} [En α] (xs : List α) : List Value := xs.flatMap En.enc
theorem XD {α : Type} [En α] : ∀ (xs : List α), (XK xs).length = xs.length * En.sz α
  | [] => by simp [XK]
  | x :: xs => by
    have ih := XD xs
    simp only [XK] at ih
    simp only [XK, List.flatMap_cons, List.length_append, En.len, ih, List.length_cons, Nat.succ_mul]; omega
theorem ZS {α : Type} [En α] (xs ys : List α) : XK (xs ++ ys) = XK xs ++ XK ys := by simp [XK]
theorem xen {α : Type} [En α] : ∀ (xs : List α) (i j : Nat) (x : α), xs[i]? = some x → j < En.sz α → (XK xs)[i * En.sz α + j]? = (En.enc x)[j]?
  | [], _, _, _, h, _ => by simp at h
  | a :: xs, 0, j, x, h, hj => by
    simp only [List.getElem?_cons_zero, Option.some.injEq] at h
    subst h
    simp only [XK, List.flatMap_cons, Nat.zero_mul, Nat.zero_add]
    rw [List.getElem?_append_left (by rw [En.len]; exact hj)]
  | a :: xs, i + 1, j, x, h, hj => by
    simp only [List.getElem?_cons_succ] at h
    have ih := xen xs i j x h hj
    simp only [XK] at ih ⊢
    simp only [List.flatMap_cons]
    rw [List.getElem?_append_right (by rw [En.len, Nat.succ_mul]; omega), En.len, ← ih]
    congr 1
    rw [Nat.succ_mul]; omega
theorem xb8 {α : Type} [En α] (xs : List α) : (XK xs).all Value.oneCell' = true := by
  simp only [XK, List.all_flatMap]
  exact List.all_eq_true.2 fun x _ => En.one x
def xjB (ro : Bool) (v : Value) : Prop := v = .slice none 0 0 ∨ (ro = true ∧ ∃ a : Addr, v = .slice (some a) 0 0)
theorem xjB.slice {ro : Bool} {v : Value} (h : xjB ro v) : ∃ a, v = .slice a 0 0 := by
  rcases h with rfl | ⟨_, a, rfl⟩
  · exact ⟨none, rfl⟩
  · exact ⟨some a, rfl⟩
theorem xjB.own {v : Value} (h : xjB false v) : v = .slice none 0 0 := by
  rcases h with rfl | ⟨h, _⟩
  · rfl
  · cases h
def sl (ro : Bool) {α : Type} [En α] (v : Value) (xs : List α) : Xc where
  h R S w := (xjB ro v ∧ xs = []) ∨ ∃ (b off cap : Nat) (cs : List Value) (T : Nat) (fr : Nat × Nat), v = .slice (some ⟨b, off, none⟩) xs.length cap ∧ (xs.length ≤ cap ∧ xs.length ≤ 9223372036854775807) ∧
    (if ro then R b else S b ∧ fr = (0, 0) ∧ off + cap * En.sz α ≤ cs.length) ∧ w.heap[b]? = some (.cells cs.toArray T fr) ∧ (cs.drop off).take (xs.length * En.sz α) = XK xs
  loc := by
    intro R R' S S' w w' hR hS hk _ h
    rcases h with h | ⟨b, off, cap, cs, T, fr, h1, h2, h3, h4, h5⟩
    · exact .inl h
    · refine .inr ⟨b, off, cap, cs, T, fr, h1, h2, ?_, ?_, h5⟩
      · cases ro
        · exact ⟨hS b h3.1, h3.2⟩
        · exact hR b h3
      · cases ro
        · rw [hk b (.inr h3.1)]; exact h4
        · rw [hk b (.inl h3)]; exact h4
theorem xek {α : Type} [En α] (v : Value) (xs : List α) : Dup (sl true v xs) := fun h => h
def sb (v : Value) : Addr := match v with
  | .slice (some a) _ _ => a
  | _ => ⟨0, 0, none⟩
def Has (l : List Xc) (A : Xc) : Prop := ∀ (w : World) (R U : Jd), (∀ b, R b → b < w.heap.size) → (∀ b, R b → U b) → Z7 R w U l → ∃ S, A.h R S w
theorem Has.here {A : Xc} {l : List Xc} : Has (A :: l) A := fun _ _ _ _ _ ⟨S, _, h, _⟩ => ⟨S, h⟩
theorem Has.next {A B : Xc} {l : List Xc} (h : Has l A) : Has (B :: l) A := fun w R _ h1 h2 ⟨_, _, _, h3⟩ => h w R _ h1 (fun b hb => .inl (h2 b hb)) h3
theorem Has.sat {A : Xc} {l : List Xc} (h : Has l A) {w : World} (hw : Sat w l) : ∃ R S, A.h R S w := by
  obtain ⟨R, h1, h2⟩ := hw
  obtain ⟨S, hA⟩ := h w R R h1 (fun _ h => h) h2
  exact ⟨R, S, hA⟩
theorem Has.add {A : Xc} {l : List Xc} (h : Has l A) (hd : Dup A) {w : World} (hw : Sat w l) : Sat w (A :: l) := by
  obtain ⟨R, h1, h2⟩ := hw
  obtain ⟨S, hA⟩ := h w R R h1 (fun _ h => h) h2
  exact ⟨R, h1, fun _ => False, fun _ h => h.elim, hd hA, h2.weaken fun _ hb => hb.elim id False.elim⟩
theorem Has.imps {A : Xc} {l : List Xc} (h : Has l A) (hd : Dup A) : Imp l (A :: l) := fun w R U h1 hu h2 => let ⟨_, hA⟩ := h w R U h1 hu h2; ⟨fun _ => False, fun _ h => h.elim, hd hA, h2.weaken fun _ hb => hb.elim id False.elim⟩
theorem Has.imp {A B : Xc} {l : List Xc} (h : Has l A) (hi : ∀ {R S w}, A.h R S w → ∃ S', B.h R S' w) : Has l B := fun w R U h1 h2 h3 => let ⟨_, hA⟩ := h w R U h1 h2 h3; hi hA
section
variable {P : Program} {α : Type} [En α] {ro : Bool} {v : Value} {xs : List α} {l : List Xc}
theorem Wh {R S : Jd} {w : World} (h : (sl ro v xs).h R S w) : (xjB ro v ∧ xs = []) ∨ ∃ (b off cap : Nat) (cs : List Value) (T : Nat) (fr : Nat × Nat), v = .slice (some ⟨b, off, none⟩) xs.length cap ∧ xs.length ≤ cap ∧ w.heap[b]? = some (.cells cs.toArray T fr) ∧
    (cs.drop off).take (xs.length * En.sz α) = XK xs := by
  rcases h with h | ⟨b, off, cap, cs, T, fr, h1, h2, _, h4, h5⟩
  · exact .inl h
  · exact .inr ⟨b, off, cap, cs, T, fr, h1, h2.1, h4, h5⟩
theorem xpq (hs : Has l (sl ro v xs)) {w : World} (hw : Sat w l) : xs.length ≤ 9223372036854775807 := by
  obtain ⟨R, S, h⟩ := hs.sat hw
  rcases h with ⟨_, rfl⟩ | ⟨_, _, _, _, _, _, _, h2, _⟩
  · simp
  · exact h2.2
theorem Tr.bound {X : WP} (hs : Has l (sl ro v xs)) (h : xs.length ≤ 9223372036854775807 → Tr l X) : Tr l X := fun w hw => h (xpq hs hw) w hw
theorem xbw (hs : Has l (sl ro v xs)) {w : World} (hw : Sat w l) : ∃ a c, v = .slice a xs.length c := by
  obtain ⟨R, S, h⟩ := hs.sat hw
  rcases Wh h with ⟨hn, rfl⟩ | ⟨b, off, cap, cs, T0, fr, rfl, _⟩
  · obtain ⟨a, rfl⟩ := hn.slice
    exact ⟨a, 0, rfl⟩
  · exact ⟨_, _, rfl⟩
theorem Jk {T n : Nat} (h : xsw P T = some n) : ∃ e i, P.underlying T = some (.slice e) ∧ P.info? e = some i ∧ i.size = n := by
  unfold xsw at h
  split at h
  · rename_i e hu
    cases hi : P.info? e with
    | none => rw [hi] at h; cases h
    | some i => rw [hi] at h; simp at h; exact ⟨e, i, hu, hi, h⟩
  · cases h
theorem Tr.len {T ty : Nat} {n : Nat} [hT : Slc P T n] {K : Value → WP} (hs : Has l (sl ro v xs)) (hx : Tr l (K (.int .i64 xs.length))) : Tr l (Xq P (Builtin.len_ #[T] ty #[v]) K) := fun w hw => by
  obtain ⟨e, i, hu, _, _⟩ := Jk hT.h
  obtain ⟨a, c, hv⟩ := xbw hs hw
  refine ⟨_, ?_, hx w hw⟩
  simp [Builtin.len_, run_underlying hu, hv, goInt]
theorem Tr.index {T n : Nat} [hT0 : Slc P T n] {i : Int} {k : IntKind} {K : Value → WP} (hs : Has l (sl ro v xs)) (hne : n = En.sz α) (h0 : 0 ≤ i) (hi : i < xs.length)
    (hx : Tr l (K (.pointer (some ⟨(sb v).block, (sb v).off + i.toNat * En.sz α, none⟩)))) : Tr l (Xq P (Instr.indexAt T v (.int k i)) K) := fun w hw => by
  subst hne
  have hT := hT0
  obtain ⟨e, inf, hu, hin, hsz⟩ := Jk hT.h
  obtain ⟨R, S, h⟩ := hs.sat hw
  rcases Wh h with ⟨_, rfl⟩ | ⟨b, off, cap, cs, T0, fr, rfl, _⟩
  · simp at hi; omega
  · refine ⟨_, ?_, hx w hw⟩
    simp [Instr.indexAt, asIntOf, run_underlying hu, h0, hi, sizeOf, typeInfo, hin, hsz, sb, ZG]
theorem X9.slj {i j : Nat} {x : α} {u : Value} (hs : Has l (sl ro v xs)) (hi : xs[i]? = some x) (hj : (En.enc x)[j]? = some u) : X9 l ⟨(sb v).block, (sb v).off + i * En.sz α + j, none⟩ u := fun w hw => by
  obtain ⟨R, S, h⟩ := hs.sat hw
  have hil : i < xs.length := (List.getElem?_eq_some_iff.1 hi).1
  have hjl : j < En.sz α := by rw [← En.len x]; exact (List.getElem?_eq_some_iff.1 hj).1
  rcases Wh h with ⟨_, rfl⟩ | ⟨b, off, cap, cs, T0, fr, rfl, h2, h4, h5⟩
  · simp at hil
  · simp only [World.cell?, sb, h4, Option.isSome_none, Bool.false_eq_true, if_false, List.getElem?_toArray]
    have h6 := xen xs i j x hi hjl
    have h7 : i * En.sz α + j < xs.length * En.sz α := by
      have : (i + 1) * En.sz α ≤ xs.length * En.sz α := Nat.mul_le_mul_right _ hil
      rw [Nat.succ_mul] at this; omega
    rw [← h5, List.getElem?_take_of_lt h7, List.getElem?_drop, hj] at h6
    rw [Nat.add_assoc]; exact h6
theorem X9.sl0 {i : Nat} {x : α} {u : Value} (hs : Has l (sl ro v xs)) (hi : xs[i]? = some x) (hj : (En.enc x)[0]? = some u) : X9 l ⟨(sb v).block, (sb v).off + i * En.sz α, none⟩ u := X9.slj (j := 0) hs hi hj
theorem XP.slj {i j : Nat} {x : α} {us : List Value} {n : Nat} (hs : Has l (sl ro v xs)) (hi : xs[i]? = some x) (hj : ((En.enc x).drop j).take n = us) (hl : us.length = n) : XP l ⟨(sb v).block, (sb v).off + i * En.sz α + j, none⟩ n us := ⟨hl, fun w hw m hm => by
  subst hj
  have h2 : j + m < (En.enc x).length := by simp at hm; omega
  have := X9.slj (j := j + m) (u := (En.enc x)[j + m]) hs hi (by simp [h2]) w hw
  rw [ZG, Nat.add_assoc, this]
  simp⟩
theorem XP.sl0 {i : Nat} {x : α} {n : Nat} (hs : Has l (sl ro v xs)) (hi : xs[i]? = some x) (hl : (En.enc x).length = n) : XP l ⟨(sb v).block, (sb v).off + i * En.sz α, none⟩ n (En.enc x) :=
  XP.slj (j := 0) hs hi (by rw [List.drop_zero, ← hl, List.take_length]) hl
end
def xif (pl : List (Nat × Nat)) : List Value → List (Nat × Value) → Option (List Value)
  | cs, [] => some cs
  | cs, (i, v) :: r => match pl[i]? with
    | none => none
    | some (off, size) => if v.cells.size = size ∧ off + size ≤ cs.length then xif pl (ZM cs off v.cells.toList) r else none
theorem xbg (off : Nat) : ∀ (vs : List Value) (i : Nat) (cs : List Value), (vs.zipIdx i).foldl (fun (cs : Array Value) (x : Value × Nat) => cs.setIfInBounds (off + x.2) x.1) cs.toArray = (ZM cs (off + i) vs).toArray
  | [], _, _ => rfl
  | v :: vs, i, cs => by
    simp only [List.zipIdx_cons, List.foldl_cons, ZM]
    rw [show cs.toArray.setIfInBounds (off + i) v = (cs.set (off + i) v).toArray by simp, xbg off vs (i + 1) (cs.set (off + i) v)]
    rfl
theorem xkJ (pl : List (Nat × Nat)) : ∀ (parts : List (Nat × Value)) (cs cs' : List Value), xif pl cs parts = some cs' → Instr.fill (fun i => pl[i]?) cs.toArray parts = some cs'.toArray
  | [], cs, cs', h => by simp only [xif, Option.some.injEq] at h; subst h; rfl
  | (i, v) :: r, cs, cs', h => by
    simp only [xif] at h
    simp only [Instr.fill]
    cases hp : pl[i]? with
    | none => rw [hp] at h; cases h
    | some os =>
      obtain ⟨off, size⟩ := os
      rw [hp] at h
      simp only at h ⊢
      split at h
      · rename_i hc
        have hc2 : (decide (v.cells.size ≠ size) || decide (off + v.cells.size > cs.toArray.size)) = false := by
          simp [hc.1, hc.2]
        rw [hc2]
        simp only [Bool.false_eq_true, if_false]
        have := xkJ pl r _ cs' h
        rw [← this]
        congr 1
        rw [← Array.foldl_toList, Array.toList_zipIdx]
        have := xbg off v.cells.toList 0 cs
        rw [Nat.add_zero] at this
        exact this
      · cases h
section
variable {P : Program} {l : List Xc}
theorem Tr.build {T : Nat} {parts : Array (Nat × Value)} {pl : List (Nat × Nat)} {z cs : List Value} [hT : Yp P T pl z] {K : Value → WP} (h : xif pl z parts.toList = some cs) (hx : Tr l (K (.agg cs.toArray))) : Tr l (Xq P (Instr.build T parts) K) := fun w hw => by
  refine ⟨_, ?_, hx w hw⟩
  obtain ⟨h1, h2⟩ := hT.h
  unfold xg9 at h1
  split at h1
  · rename_i fs hu
    have hz : (zeroValue T).run P w = .ok (.agg z.toArray) w := by
      unfold xby at h2
      cases hi : P.info? T with
      | none => rw [hi] at h2; cases h2
      | some i =>
        rw [hi] at h2
        have hz' : i.zero = some (.agg z.toArray) := h2
        simp [zeroValue, typeInfo, hi, hz']
    have hm : ∀ (fl : List Field) (pl : List (Nat × Nat)), (fl.mapM fun f => (P.info? f.type).map fun i => (f.offset, i.size)) = some pl → (fl.mapM fun f => (do pure (f.offset, ← sizeOf f.type) : Sem (Nat × Nat))).run P w = .ok pl w := by
      intro fl
      induction fl with
      | nil => intro pl h; simp at h; subst h; simp
      | cons f fl ih =>
        intro pl h
        simp only [List.mapM_cons] at h ⊢
        cases hi : P.info? f.type with
        | none => rw [hi] at h; simp at h
        | some i =>
          rw [hi] at h
          simp only [Option.map_some, Option.bind_eq_bind, Option.bind_some] at h
          cases hr : fl.mapM (fun f => (P.info? f.type).map fun i => (f.offset, i.size)) with
          | none => rw [hr] at h; simp at h
          | some pl' =>
            rw [hr] at h
            simp at h
            subst h
            have := ih pl' hr
            have hsz : (sizeOf f.type).run P w = .ok i.size w := by simp [sizeOf, typeInfo, hi]
            generalize sizeOf f.type = sf at hsz
            generalize (fl.mapM fun f => (do pure (f.offset, ← sizeOf f.type) : Sem (Nat × Nat))) = sm at this
            simp [hsz, this]
    have hm' := hm fs.toList pl h1
    unfold Instr.build
    simp only [Sem.run_bind, hz, Result.andThen_ok, run_underlying hu, Value.cells]
    have hma : (fs.mapM fun f => (do pure (f.offset, ← sizeOf f.type) : Sem (Nat × Nat))).run P w = .ok pl.toArray w := by
      rw [← Array.toArray_toList (xs := fs), List.mapM_toArray]
      simp only [Sem.run_map, hm', Result.andThen_ok]
    generalize (fs.mapM fun f => (do pure (f.offset, ← sizeOf f.type) : Sem (Nat × Nat))) = sm at hma
    rw [hma]
    simp only [Result.andThen_ok]
    have hf := xkJ pl parts.toList z cs h
    have : (fun (x : Nat) => pl.toArray[x]?) = fun (i : Nat) => pl[i]? := by funext i; simp
    rw [this, hf]
    simp
  · cases h1
end
def xgy (kv : Int × Value) : Value × Value := (.int .i64 kv.1, kv.2)
def mp (m : Nat) (kvs : List (Int × Value)) : Xc where
  h _ S w := S m ∧ ∃ (es : List MapEntry) (clock : Nat), w.heap[m]? = some (.map es.toArray clock) ∧ es.map (fun e => (e.key, e.val)) = kvs.map xgy
  loc := fun _ hS hk _ ⟨h1, es, c, h2, h3⟩ => ⟨hS m h1, es, c, by rw [hk m (.inr h1)]; exact h2, h3⟩
def find (k : Int) : List (Int × Value) → Option Value
  | [] => none
  | kv :: r => if k = kv.1 then some kv.2 else find k r
def ZC (k : Int) (v : Value) : List (Int × Value) → List (Int × Value)
  | [] => [(k, v)]
  | kv :: r => if k = kv.1 then (k, v) :: r else kv :: ZC k v r
theorem QD (k : Int) : ∀ (es : List MapEntry) (kvs : List (Int × Value)) (i : Nat), es.map (fun e => (e.key, e.val)) = kvs.map xgy →
    match find k kvs with
    | none => Instr.findNow (.int .i64) (.int .i64 k) es i = some none
    | some v => ∃ j, Instr.findNow (.int .i64) (.int .i64 k) es i = some (some (i + j, v)) ∧ (∃ e, es[j]? = some e ∧ e.key = .int .i64 k) ∧
        ∀ u, (es.modify j fun e => { e with key := .int .i64 k, val := u }).map (fun e => (e.key, e.val)) = (ZC k u kvs).map xgy
  | [], [], i, _ => by simp [find, Instr.findNow]
  | [], _ :: _, _, h => by simp at h
  | _ :: _, [], _, h => by simp at h
  | e :: es, kv :: kvs, i, h => by
    simp only [List.map_cons, List.cons.injEq, Prod.mk.injEq, xgy] at h
    obtain ⟨⟨h1, h2⟩, h3⟩ := h
    simp only [find]
    by_cases hk : k = kv.1
    · rw [if_pos hk]
      refine ⟨0, ?_, ⟨e, by simp, by rw [h1, hk]⟩, fun u => ?_⟩
      · simp [Instr.findNow, Instr.sameNow, h1, hk, h2]
      · simp only [List.modify_zero_cons, List.map_cons, ZC, if_pos hk, xgy, h3]
    · rw [if_neg hk]
      have ih := QD k es kvs (i + 1) h3
      have hn : Instr.findNow (.int .i64) (.int .i64 k) (e :: es) i = Instr.findNow (.int .i64) (.int .i64 k) es (i + 1) := by
        simp only [Instr.findNow, Instr.sameNow, h1, if_true]
        have : (k == kv.1) = false := by simp [hk]
        rw [this]
      rw [hn]
      cases hf : find k kvs with
      | none => rw [hf] at ih; exact ih
      | some v =>
        rw [hf] at ih
        obtain ⟨j, hj, ⟨e', he, hek⟩, hu⟩ := ih
        refine ⟨j + 1, by rw [hj]; simp; omega, ⟨e', by simpa using he, hek⟩, fun u => ?_⟩
        simp only [List.modify_succ_cons, List.map_cons, ZC, if_neg hk, xgy, h1, h2, List.cons.injEq, true_and]
        exact hu u
section
variable {P : Program} {l : List Xc} {m : Nat} {kvs : List (Int × Value)}
theorem xjI {w : World} (hs : Has l (mp m kvs)) (hw : Sat w l) : ∃ (es : List MapEntry) (clock : Nat), w.heap[m]? = some (.map es.toArray clock) ∧ es.map (fun e => (e.key, e.val)) = kvs.map xgy := by
  obtain ⟨R, S, h⟩ := hs.sat hw
  exact h.2
theorem JP {w : World} {es : Array MapEntry} {c : Nat} (h : w.heap[m]? = some (.map es c)) : (getObj m).run P w = .ok (.map es c) w := by
  simp [getObj, Sem.run, h]
theorem QV {w : World} {es es' : Array MapEntry} {c c' : Nat} (h : w.heap[m]? = some (.map es c)) : (setObj m (.map es' c')).run P w = .ok () { w with heap := w.heap.setIfInBounds m (.map es' c') } := by
  simp [setObj, Sem.run, h]
theorem VH {key : Nat} (hk : P.underlying key = some (.int .i64)) (b : Bool) (k : Int) (w : World) : (Instr.checkKey b 10000 key (.int .i64 k)).run P w = .ok () w := by
  show (Instr.checkKey b (9999 + 1) key (.int .i64 k)).run P w = .ok () w
  generalize 9999 = n
  simp [Instr.checkKey, run_underlying hk]
theorem Tr.lookup {T : Nat} {ze : Value} [hT : xc2 P T ze] {k : Int} {ok : Bool} {K : Value → WP} (hs : Has l (mp m kvs))
    (hx : Tr l (K (if ok then .tuple #[(find k kvs).getD ze, .bool (find k kvs).isSome] else (find k kvs).getD ze))) : Tr l (Xq P (Instr.lookup T (.map (some m)) (.int .i64 k) ok) K) := fun w hw => by
  obtain ⟨key, elem, hu, hk, hz⟩ := hT.h
  obtain ⟨es, c, hg, he⟩ := xjI hs hw
  refine ⟨_, ?_, hx w hw⟩
  have hf := QD k es kvs 0 he
  have hz' : (zeroValue elem).run P w = .ok ze w := by
    cases hi : P.info? elem with
    | none => rw [hi] at hz; cases hz
    | some i =>
      rw [hi] at hz
      have hz' : i.zero = some ze := hz
      simp [zeroValue, typeInfo, hi, hz']
  unfold Instr.lookup
  simp only [Sem.run_bind, run_underlying hu, Result.andThen_ok, JP hg, Sem.run_pure, VH hk, Instr.findKey, run_underlying hk]
  cases hfk : find k kvs with
  | none =>
    rw [hfk] at hf
    simp [hf, hz']
  | some v =>
    rw [hfk] at hf
    obtain ⟨j, hj, _⟩ := hf
    simp [hj]
theorem Tr.lookupNil {T : Nat} {ze : Value} [hT : xc2 P T ze] {k : Int} {ok : Bool} {K : Value → WP} (hx : Tr l (K (if ok then .tuple #[ze, .bool false] else ze))) : Tr l (Xq P (Instr.lookup T (.map none) (.int .i64 k) ok) K) := fun w hw => by
  obtain ⟨key, elem, hu, hk, hz⟩ := hT.h
  refine ⟨_, ?_, hx w hw⟩
  have hz' : (zeroValue elem).run P w = .ok ze w := by
    cases hi : P.info? elem with
    | none => rw [hi] at hz; cases hz
    | some i =>
      rw [hi] at hz
      have hz' : i.zero = some ze := hz
      simp [zeroValue, typeInfo, hi, hz']
  unfold Instr.lookup
  simp only [Sem.run_bind, run_underlying hu, Result.andThen_ok, Sem.run_pure, VH hk, Instr.findKey, run_underlying hk]
  simp [Instr.findNow, hz']
def V6 (l : List Xc) (A B : Xc) (l' : List Xc) : Prop := ∃ F : List Xc, l.Perm (A :: F) ∧ l'.Perm (B :: F)
theorem V6.here {A B : Xc} {l : List Xc} : V6 (A :: l) A B (B :: l) := ⟨l, .refl _, .refl _⟩
theorem xah {k : Int} {v : Value} : ∀ {kvs : List (Int × Value)}, find k kvs = none → ZC k v kvs = kvs ++ [(k, v)]
  | [], _ => rfl
  | kv :: r, h => by
    simp only [find] at h
    split at h
    · cases h
    · rename_i hk; simp only [ZC, if_neg hk, xah h, List.cons_append]
theorem Sat.putA {w w' : World} {A : Xc} {o' : Obj} {b : Nat} {l : List Xc} {B : Xc} (hA : ∀ {R S w}, A.h R S w → S b) (hB : ∀ {R S w w'}, A.h R S w → w'.heap[b]? = some o' → B.h R S w')
    (hw : w'.heap = w.heap.setIfInBounds b o') (hs : xeX w w') : Sat w (A :: l) → Sat w' (B :: l) := fun ⟨R, h1, S, h2, h, h3⟩ => by
  have hsz : w'.heap.size = w.heap.size := by rw [hw]; simp
  have hne : ∀ x, x ≠ b → w'.heap[x]? = w.heap[x]? := fun x hx => by rw [hw, Array.getElem?_setIfInBounds_ne (Ne.symm hx)]
  have hb := hA h
  refine ⟨R, fun x hx => by rw [hsz]; exact h1 x hx, S, fun x hx => by rw [hsz]; exact h2 x hx, hB h ?_, ?_⟩
  · rw [hw]
    have := (h2 b hb).1
    simp [this]
  · refine Z7.frame (w := w) (w' := w') (fun _ h => h) (by omega) hs (fun x hx => hne x fun e => ?_) (fun x hn hl => ⟨hne x fun e => ?_, hn⟩) h3
    · subst e; exact (h2 x hb).2 hx
    · subst e; exact hn (.inr hb)
theorem Tr.mapUpdate {T : Nat} {ze : Value} [hT : xc2 P T ze] {k : Int} {v : Value} {l' : List Xc} {K : Value → WP} (hu : V6 l (mp m kvs) (mp m (ZC k v kvs)) l') (hx : Tr l' (K undef)) :
    Tr l (Xv P (Instr.mapUpdate T (.map (some m)) (.int .i64 k) v) K) := fun w hw => by
  obtain ⟨key, elem, hun, hk, hz⟩ := hT.h
  obtain ⟨F, hp1, hp2⟩ := hu
  have hw1 := hw.perm hp1
  obtain ⟨es, c, hg, he⟩ := xjI (l := mp m kvs :: F) Has.here hw1
  have hf := QD k es kvs 0 he
  have fin : ∀ (es' : List MapEntry) (c' : Nat), es'.map (fun e => (e.key, e.val)) = (ZC k v kvs).map xgy → (Instr.mapUpdate T (.map (some m)) (.int .i64 k) v).run P w = .ok () { w with heap := w.heap.setIfInBounds m (.map es'.toArray c') } →
      ∃ w', (Instr.mapUpdate T (.map (some m)) (.int .i64 k) v).run P w = .ok () w' ∧ K undef w' := fun es' c' h1 h2 => by
    refine ⟨_, h2, hx _ (Sat.perm hp2.symm ?_)⟩
    exact Sat.putA (A := mp m kvs) (B := mp m (ZC k v kvs)) (b := m) (o' := .map es'.toArray c') (fun h => h.1) (fun h h' => ⟨h.1, es', c', h', h1⟩) rfl ⟨rfl, rfl, rfl⟩ hw1
  cases hfk : find k kvs with
  | none =>
    rw [hfk] at hf
    refine fin (es ++ [{ key := .int .i64 k, val := v, born := c }]) (c + 1) (by rw [xah hfk]; simp [he, xgy]) ?_
    unfold Instr.mapUpdate
    simp only [Sem.run_bind, run_underlying hun, Result.andThen_ok, JP hg, VH hk, Instr.findKey, run_underlying hk, hf, Sem.run_pure, QV hg]
    simp
  | some u =>
    rw [hfk] at hf
    obtain ⟨j, hj, ⟨e, hje, hek⟩, hup⟩ := hf
    refine fin _ c (hup v) ?_
    unfold Instr.mapUpdate
    simp only [Sem.run_bind, run_underlying hun, Result.andThen_ok, JP hg, VH hk, Instr.findKey, run_underlying hk, hj, Sem.run_pure, Nat.zero_add, List.getElem?_toArray, hje, Option.map_some, Option.getD_some, hek, Instr.keyThatStays, Instr.sameBits, beq_self_eq_true, Bool.and_self, if_true, QV hg]
    simp
theorem Tr.lenMap {T ty : Nat} {ze : Value} [hT : xc2 P T ze] {K : Value → WP} (hs : Has l (mp m kvs)) (hx : Tr l (K (.int .i64 kvs.length))) : Tr l (Xq P (Builtin.len_ #[T] ty #[.map (some m)]) K) := fun w hw => by
  obtain ⟨key, elem, hu, hk, hz⟩ := hT.h
  obtain ⟨es, c, hg, he⟩ := xjI hs hw
  refine ⟨_, ?_, hx w hw⟩
  have : es.length = kvs.length := by simpa using congrArg List.length he
  simp [Builtin.len_, run_underlying hu, JP hg, goInt, this]
theorem Tr.lenMapNil {T ty : Nat} {ze : Value} [hT : xc2 P T ze] {K : Value → WP} (hx : Tr l (K (.int .i64 0))) : Tr l (Xq P (Builtin.len_ #[T] ty #[.map none]) K) := fun w hw => by
  obtain ⟨key, elem, hu, hk, hz⟩ := hT.h
  refine ⟨_, ?_, hx w hw⟩
  simp [Builtin.len_, run_underlying hu, goInt]
theorem Tr.makeMap {T : Nat} {K : Value → WP} (hx : ∀ m, Tr (mp m [] :: l) (K (.map (some m)))) : Tr l (Xt P (Instr.makeMap T none) K) := fun w hw => by
  refine ⟨_, w.alloc (.map #[] 0), by simp [Instr.makeMap], hx w.heap.size _ ?_⟩
  have := hw.alloc (.map #[] 0)
  obtain ⟨R, h1, S, h2, h3, h4⟩ := this
  exact ⟨R, h1, S, h2, ⟨h3.1, [], 0, h3.2, rfl⟩, h4⟩
end
structure SV where
  a : Option Addr
  n : Nat
  c : Nat
def SV.v (s : SV) : Value := .slice s.a s.n s.c
def Xm (l : List Xc) (A : Xc) (F : List Xc) : Prop := Imp l (A :: F)
theorem Xm.here {A : Xc} {l : List Xc} : Xm (A :: l) A l := Imp.refl
theorem Xm.next {A B : Xc} {l F : List Xc} (h : Xm l A F) : Xm (B :: l) A (B :: F) := Imp.trans (Imp.cons h) Imp.swap
theorem Z7.mapHead {R : Jd} {w : World} {U : Jd} {A B : Xc} {l : List Xc} (h : ∀ S, A.h R S w → B.h R S w) : Z7 R w U (A :: l) → Z7 R w U (B :: l)
  | ⟨S, h1, h2, h3⟩ => ⟨S, h1, h S h2, h3⟩
theorem Sat.mapHead {w : World} {A B : Xc} {l : List Xc} (h : ∀ R S, A.h R S w → B.h R S w) : Sat w (A :: l) → Sat w (B :: l) := fun ⟨R, h1, h2⟩ => ⟨R, h1, h2.mapHead (h R)⟩
section
variable {P : Program} {α : Type} [En α] {v : Value} {xs : List α} {l F : List Xc}
theorem WA {w : World} (h : Sat w (sl false v xs :: F)) : (v = .slice none 0 0 ∧ xs = [] ∧ Sat w F) ∨ ∃ (b off cap : Nat) (cs : List Value) (T : Nat), v = .slice (some ⟨b, off, none⟩) xs.length cap ∧ (xs.length ≤ cap ∧ xs.length ≤ 9223372036854775807) ∧ off + cap * En.sz α ≤ cs.length ∧
    (cs.drop off).take (xs.length * En.sz α) = XK xs ∧ Sat w (blk b (.cells cs.toArray T (0, 0)) :: F) := by
  obtain ⟨R, h1, S, h2, hA, h3⟩ := h
  rcases hA with ⟨e1, e2⟩ | ⟨b, off, cap, cs, T, fr, e1, e2, ⟨e3, e4, e5⟩, e6, e7⟩
  · exact .inl ⟨e1.own, e2, R, h1, h3.weaken fun _ h => .inl h⟩
  · subst e4
    exact .inr ⟨b, off, cap, cs, T, e1, e2, e5, e7, R, h1, S, h2, ⟨e3, e6⟩, h3⟩
theorem Vt {w : World} {b off cap : Nat} {cs : List Value} {T : Nat} (e1 : v = .slice (some ⟨b, off, none⟩) xs.length cap) (e2 : xs.length ≤ cap ∧ xs.length ≤ 9223372036854775807) (e5 : off + cap * En.sz α ≤ cs.length)
    (e7 : (cs.drop off).take (xs.length * En.sz α) = XK xs) (h : Sat w (blk b (.cells cs.toArray T (0, 0)) :: F)) : Sat w (sl false v xs :: F) :=
  Sat.mapHead (A := blk b (.cells cs.toArray T (0, 0))) (fun _ _ (hb : _ ∧ _) => .inr ⟨b, off, cap, cs, T, (0, 0), e1, e2, ⟨hb.1, rfl, e5⟩, hb.2, e7⟩) h
theorem xpM {w : World} (h : Sat w F) : Sat w (sl false (.slice none 0 0) ([] : List α) :: F) := by
  obtain ⟨R, h1, h2⟩ := h
  exact ⟨R, h1, fun _ => False, fun _ h => h.elim, .inl ⟨.inl rfl, rfl⟩, Z7.weaken (fun _ hb => hb.elim id False.elim) h2⟩
theorem Tr.nilSl {X : WP} (h : Tr (sl false (.slice none 0 0) ([] : List α) :: F) X) : Tr F X := fun w hw => h w (xpM hw)
theorem Tr.freezeSl {X : WP} (h : Tr (sl true v xs :: F) X) : Tr (sl false v xs :: F) X := fun w hw => h w (by
  rcases WA hw with ⟨rfl, rfl, hw'⟩ | ⟨b, off, cap, cs, T, e1, e2, e5, e7, hw'⟩
  · obtain ⟨R, h1, h2⟩ := hw'
    exact ⟨R, h1, fun _ => False, fun _ h => h.elim, .inl ⟨.inl rfl, rfl⟩, Z7.weaken (fun _ hb => hb.elim id False.elim) h2⟩
  · exact Sat.mapHead (A := rob b (.cells cs.toArray T (0, 0))) (fun _ _ (hb : _ ∧ _) => .inr ⟨b, off, cap, cs, T, (0, 0), e1, e2, hb.1, hb.2, e7⟩) hw'.freeze)
theorem V7 {ro : Bool} {w : World} {R S : Jd} (h : (sl ro v xs).h R S w) : (Builtin.firstCells (En.sz α) xs.length v).run P w = .ok (XK xs).toArray w := by
  rcases Wh h with ⟨hn, rfl⟩ | ⟨b, off, cap, cs, T, fr, rfl, h2, h4, h5⟩
  · obtain ⟨a, rfl⟩ := hn.slice
    cases a <;> simp [Builtin.firstCells, XK, loadCells, loadCellsFrom]
  · have hlen : (XK xs).length = xs.length * En.sz α := XD xs
    have := JN (P := P) (w := w) (a := ⟨b, off, none⟩) (XK xs) 0 #[] (fun j hj => by
      rw [Nat.zero_add, ZG]
      have h6 : (XK xs)[j]? = some (XK xs)[j] := by simp [hj]
      have h7 : ((cs.drop off).take (xs.length * En.sz α))[j]? = some (XK xs)[j] := by rw [h5]; exact h6
      rw [List.getElem?_take_of_lt (by omega), List.getElem?_drop] at h7
      simp only [World.cell?, h4, Option.isSome_none, Bool.false_eq_true, if_false, List.getElem?_toArray, h7])
    rw [hlen] at this
    simp only [Builtin.firstCells, loadCells, this]
    simp
theorem xkE (need c : Nat) (h : c < need) : Builtin.nextslicecap need c ≤ 2 * need + 1000 := by
  unfold Builtin.nextslicecap
  split
  · omega
  · split
    · omega
    · have grow : ∀ r c, c ≤ 2 * need + 1000 → Builtin.growBy need r c ≤ 2 * need + 1000 := by
        intro r
        induction r with
        | zero => intro c hc; exact hc
        | succ r ih =>
          intro c hc
          unfold Builtin.growBy
          split
          · exact hc
          · exact ih _ (by omega)
      exact grow 4 c (by omega)
theorem Wu (pre mid vs : List Value) (h : vs.length ≤ mid.length) : ZM (pre ++ mid) pre.length vs = pre ++ (vs ++ mid.drop vs.length) := by
  have := QL vs (mid.take vs.length) pre (by simp; omega)
  have gen : ∀ (vs a c : List Value) (off : Nat), off + vs.length ≤ a.length → ZM (a ++ c) off vs = ZM a off vs ++ c := by
    intro vs
    induction vs with
    | nil => intros; rfl
    | cons u us ih =>
      intro a c off hl
      simp only [List.length_cons] at hl
      simp only [ZM]
      rw [List.set_append_left _ _ (by omega), ih _ _ _ (by simp; omega)]
  have e : pre ++ mid = (pre ++ mid.take vs.length) ++ mid.drop vs.length := by simp
  rw [e, gen vs (pre ++ mid.take vs.length) (mid.drop vs.length) pre.length (by simp; omega), this]
  simp
theorem xeW {z : Array Value} (n : Nat) : (Builtin.zeroCells z n).size = n * z.size := by simp [Builtin.zeroCells]
theorem Tr.append {T T2 ty e bytes : Nat} {z : List Value} {ro : Bool} {x : Value} {ys : List α} {K : Value → WP} [hT : ZY P T e bytes (En.sz α) z] [hT2 : Slc P T2 (En.sz α)] (hz : z.length = En.sz α)
    (ht : Xm l (sl false v xs) F) (hx : Has F (sl ro x ys)) (hb : 0 < bytes) (hlen : (2 * (xs.length + ys.length) + 1000) * bytes ≤ 2 ^ 48)
    (hk : ∀ s : SV, Tr (sl false s.v (xs ++ ys) :: F) (K s.v)) : Tr l (Xt P (Builtin.append_ #[T, T2] ty #[v, x]) K) := fun w hw0 => by
  have hw := Imp.sat ht hw0
  obtain ⟨hu, inf, hin, hsz, hby, hzz⟩ := hT.h
  obtain ⟨e2, inf2, hu2, hin2, hsz2⟩ := Jk hT2.h
  obtain ⟨xa, xc, hxv⟩ := xbw hx hw.tail
  obtain ⟨Rx, Sx, hxh⟩ := hx.sat hw.tail
  have hfx := V7 (P := P) hxh
  have hvs : ∃ a c, v = .slice a xs.length c := xbw (l := sl false v xs :: F) Has.here hw
  obtain ⟨va, vc, hv⟩ := hvs
  obtain ⟨Rv, Sv, hvh⟩ := (Has.here (A := sl false v xs) (l := F)).sat hw
  have hfv := V7 (P := P) hvh
  have hpos := En.pos (α := α)
  have hbound : 2 * (xs.length + ys.length) + 1000 ≤ 2 ^ 48 := Nat.le_trans (Nat.le_mul_of_pos_right _ hb) hlen
  have hsize : ∀ w, (sizeOf e).run P w = .ok (En.sz α) w := fun w => by simp [sizeOf, typeInfo, hin, hsz]
  have hinfo : ∀ w, (typeInfo e).run P w = .ok inf w := fun w => by simp [typeInfo, hin]
  obtain ⟨z0, hz0, hz1⟩ : ∃ z0, inf.zero = some z0 ∧ z0.cells = z.toArray := by
    cases h : inf.zero with
    | none => rw [h] at hzz; cases hzz
    | some z0 => rw [h] at hzz; exact ⟨z0, rfl, by simpa using hzz⟩
  have hzv : ∀ w, (zeroValue e).run P w = .ok z0 w := fun w => by simp [zeroValue, typeInfo, hin, hz0]
  have hxlen : (Builtin.lenOf x).run P w = .ok ys.length w := by rw [hxv]; simp [Builtin.lenOf]
  by_cases hroom : xs.length + ys.length ≤ vc
  · -- in place
    rcases WA hw with ⟨rfl, rfl, hwF⟩ | ⟨b, off, cap, cs, T', e1, e3, e5, e7, hwb⟩
    · -- nil and nothing
      have hvc : vc = 0 := by simp only [Value.slice.injEq] at hv; exact hv.2.2.symm
      subst hvc
      have hys : ys = [] := List.eq_nil_of_length_eq_zero (by simp at hroom; rw [hroom]; rfl)
      subst hys
      refine ⟨.slice none 0 0, w, ?_, hk ⟨none, 0, 0⟩ w hw⟩
      simp only [Builtin.append_, Sem.run_bind, List.getElem?_toArray, List.getElem?_cons_zero, List.getElem?_cons_succ, run_underlying hu, Result.andThen_ok, hsize, run_underlying hu2, Sem.run_pure, Bool.false_eq_true, if_false, hxlen]
      have hfx0 : (Builtin.firstCells (En.sz α) 0 x).run P w = .ok #[] w := hfx
      simp [hfx0]
    · rw [hv] at e1
      simp only [Value.slice.injEq] at e1
      obtain ⟨rfl, _, rfl⟩ := e1
      have hfl : (XK ys).length = ys.length * En.sz α := XD ys
      have hfl1 : (XK xs).length = xs.length * En.sz α := XD xs
      have hmul : (xs.length + ys.length) * En.sz α ≤ vc * En.sz α := Nat.mul_le_mul_right _ hroom
      rw [Nat.add_mul] at hmul
      have hst := Zo (P := P) (T := T') (XK ys) cs b (off + xs.length * En.sz α) 0 (blk b (.cells cs.toArray T' (0, 0)) :: F) _ w
        (fun u hu => by have := xb8 ys; rw [List.all_eq_true] at this; exact this u hu) (by omega) hwb Upd.here
      obtain ⟨w', hr, hs⟩ := hst
      refine ⟨.slice (some ⟨b, off, none⟩) (xs.length + ys.length) vc, w', ?_, ?_⟩
      · simp only [Builtin.append_, Sem.run_bind, List.getElem?_toArray, List.getElem?_cons_zero, List.getElem?_cons_succ, run_underlying hu, Result.andThen_ok, hsize, run_underlying hu2, Sem.run_pure, Bool.false_eq_true, if_false, hxlen, hv, hroom, if_true, Bool.not_false, hfx]
        simp [ZG, hr]
      · refine hk ⟨some ⟨b, off, none⟩, xs.length + ys.length, vc⟩ w' ?_
        refine Vt (b := b) (off := off) (cap := vc) (by simp [SV.v]) ⟨by simpa using hroom, by simp; omega⟩ (by rw [Zz]; exact e5) ?_ hs
        have hpre : cs = cs.take (off + xs.length * En.sz α) ++ cs.drop (off + xs.length * En.sz α) := (List.take_append_drop _ _).symm
        have hpl : (cs.take (off + xs.length * En.sz α)).length = off + xs.length * En.sz α := by rw [List.length_take]; omega
        have hset : ZM cs (off + xs.length * En.sz α + 0) (XK ys) = cs.take (off + xs.length * En.sz α) ++ (XK ys ++ (cs.drop (off + xs.length * En.sz α)).drop (XK ys).length) := by
          have := Wu (cs.take (off + xs.length * En.sz α)) (cs.drop (off + xs.length * En.sz α)) (XK ys) (by rw [List.length_drop]; omega)
          rw [hpl, ← hpre] at this
          exact this
        rw [hset, ZS, List.length_append, Nat.add_mul]
        rw [List.drop_append_of_le_length (by omega)]
        have hd : (cs.take (off + xs.length * En.sz α)).drop off = XK xs := by
          rw [List.drop_take, show off + xs.length * En.sz α - off = xs.length * En.sz α by omega, e7]
        rw [hd, ← List.append_assoc]
        rw [List.take_append_of_le_length (by rw [List.length_append]; omega), List.take_of_length_le (by rw [List.length_append]; omega)]
  · -- a new array
    have hnext := xkE (xs.length + ys.length) vc (by omega)
    have hnb : Builtin.nextslicecap (xs.length + ys.length) vc * inf.bytes ≤ 2 ^ 48 := by
      rw [hby]; exact Nat.le_trans (Nat.mul_le_mul_right _ hnext) hlen
    let q := Question.appendCap (xs.length + ys.length) vc e
    let newCap := q.cut (w.tape w.drawn q)
    have hcap : xs.length + ys.length ≤ newCap := by show _ ≤ Question.cut _ _; simp only [q, Question.cut]; omega
    let rest := Builtin.zeroCells z0.cells (newCap - (xs.length + ys.length))
    let cells := (XK xs).toArray ++ (XK ys).toArray ++ rest
    have hcells : cells = (XK xs ++ XK ys ++ rest.toList).toArray := by simp [cells]
    refine ⟨.slice (some ⟨w.heap.size, 0, none⟩) (xs.length + ys.length) newCap, w.drew.alloc (.cells cells e (0, 0)), ?_, ?_⟩
    · have hfx' : (Builtin.firstCells (En.sz α) ys.length x).run P w.drew = .ok (XK ys).toArray w.drew := V7 (P := P) (R := Rx) (S := Sx) ((sl ro x ys).loc (fun _ h => h) (fun _ h => h) (fun _ _ => rfl) ⟨rfl, rfl, rfl⟩ hxh)
      have hfv' : (Builtin.firstCells (En.sz α) xs.length v).run P w.drew = .ok (XK xs).toArray w.drew := V7 (P := P) (R := Rv) (S := Sv) ((sl false v xs).loc (fun _ h => h) (fun _ h => h) (fun _ _ => rfl) ⟨rfl, rfl, rfl⟩ hvh)
      have hnz : inf.bytes ≠ 0 := by rw [hby]; omega
      have hnb : ¬ (Builtin.nextslicecap (xs.length + ys.length) vc * inf.bytes > 2 ^ 48) := by omega
      rw [hv] at hfv' ⊢
      simp only [Builtin.append_, Sem.run_bind, List.getElem?_toArray, List.getElem?_cons_zero, List.getElem?_cons_succ, run_underlying hu, Result.andThen_ok, hsize, run_underlying hu2, Sem.run_pure, Bool.false_eq_true, if_false, hxlen, hroom, hinfo, Bool.not_false, if_true]
      rw [if_neg (by simp [hnz])]
      simp only [Sem.run_bind, hinfo, Result.andThen_ok]
      rw [if_neg hnb]
      have hchoose : (choose (Question.appendCap (xs.length + ys.length) vc e)).run P w = .ok newCap w.drew := by
        rw [run_choose]; rfl
      simp only [Sem.run_bind, hchoose, hinfo, Result.andThen_ok, run_askRoom, hfx', hfv', hzv, newRow, run_newObj, Sem.run_pure]
      rfl
    · refine hk ⟨some ⟨w.heap.size, 0, none⟩, xs.length + ys.length, newCap⟩ _ ?_
      have hsat := (hw.tail.drew).alloc (.cells cells e (0, 0))
      rw [hcells] at hsat ⊢
      have hsz' : w.drew.heap.size = w.heap.size := rfl
      rw [hsz'] at hsat
      refine Vt (b := w.heap.size) (off := 0) (cap := newCap) (by simp [SV.v]) (⟨by simpa using hcap, by simp; omega⟩) ?_ ?_ hsat
      · simp only [List.length_append, XD, rest, Array.length_toList, xeW, hz1, List.size_toArray, hz]
        rw [← Nat.add_mul, ← Nat.add_mul]
        have : xs.length + ys.length + (newCap - (xs.length + ys.length)) = newCap := by omega
        rw [this]; omega
      · rw [List.drop_zero, ZS, List.take_append_of_le_length (by rw [List.length_append, List.length_append, XD, XD, Nat.add_mul]; omega), List.take_of_length_le (by rw [List.length_append, List.length_append, XD, XD, Nat.add_mul]; omega)]
end
section
variable {P : Program} {α : Type} [En α] {v : Value} {xs : List α} {l F : List Xc} {ro : Bool}
theorem Tr.cut {T : Nat} [hT : Slc P T (En.sz α)] {lo hi : Int} {k1 k2 : IntKind} {K : Value → WP} (hs : Has l (sl true v xs)) (h0 : 0 ≤ lo) (h1 : lo ≤ hi) (h2 : hi ≤ xs.length)
    (hx : ∀ s : SV, Tr (sl true s.v ((xs.take hi.toNat).drop lo.toNat) :: l) (K s.v)) : Tr l (Xq P (Instr.sliceAt T v (some (.int k1 lo)) (some (.int k2 hi)) none) K) := fun w hw => by
  obtain ⟨e, inf, hu, hin, hsz⟩ := Jk hT.h
  have hsize : (sizeOf e).run P w = .ok (En.sz α) w := by simp [sizeOf, typeInfo, hin, hsz]
  have hw1 := hs.add (xek v xs) hw
  obtain ⟨R, S, hA⟩ := hs.sat hw
  have hlen : ((xs.take hi.toNat).drop lo.toNat).length = hi.toNat - lo.toNat := by
    rw [List.length_drop, List.length_take]; omega
  obtain ⟨s, hr, hmap⟩ : ∃ s : SV, (Instr.sliceAt T v (some (.int k1 lo)) (some (.int k2 hi)) none).run P w = .ok s.v w ∧ ∀ R S, (sl true v xs).h R S w → (sl true s.v ((xs.take hi.toNat).drop lo.toNat)).h R S w := by
    rcases hA with ⟨e1, e2⟩ | ⟨b, off, cap, cs, T', fr, e1, e2, e3, e4, e5⟩
    · obtain ⟨a0, e1⟩ := e1.slice
      subst e1; subst e2
      have : hi = 0 := by simp at h2; omega
      subst this
      have : lo = 0 := by omega
      subst this
      refine ⟨⟨a0, 0, 0⟩, ?_, fun R S _ => .inl ⟨(by cases a0 <;> simp [xjB, SV.v]), by simp⟩⟩
      cases a0 <;> simp [Instr.sliceAt, run_underlying hu, Instr.slice, Instr.sliceBounds, Instr.sliceBound, asIntOf, hsize, SV.v]
    · subst e1
      have hc : hi.toNat ≤ cap := by omega
      refine ⟨⟨if cap = lo.toNat then some ⟨b, off, none⟩ else some ⟨b, off + lo.toNat * En.sz α, none⟩, hi.toNat - lo.toNat, cap - lo.toNat⟩, ?_, fun R S hA => ?_⟩
      · have a1 : 0 ≤ hi := by omega
        have a2 : hi ≤ cap := by omega
        have a3 : lo ≤ (hi.toNat : Int) := by omega
        simp only [Instr.sliceAt, Sem.run_bind, run_underlying hu, Result.andThen_ok, Instr.slice, Instr.sliceBounds, Instr.sliceBound, asIntOf, Sem.run_pure, a1, a2, and_self, if_true, h0, a3, hsize, Option.isSome_none, Bool.false_eq_true, if_false, Sem.run_ite, Option.map_some, ZG, SV.v]
      · rcases hA with ⟨e1', _⟩ | ⟨b', off', cap', cs', T'', fr', e1', _, e3', e4', e5'⟩
        · obtain ⟨a1, e1''⟩ := e1'.slice
          simp only [Value.slice.injEq] at e1''
          obtain ⟨e1, e2'', e3''⟩ := e1''
          have hl0 : lo.toNat = 0 := by omega
          have hh0 : hi.toNat = 0 := by omega
          exact .inl ⟨.inr ⟨rfl, ⟨b, off, none⟩, by simp [SV.v, hl0, hh0, e3'']⟩, List.eq_nil_of_length_eq_zero (by omega)⟩
        · simp only [Value.slice.injEq, Option.some.injEq, Addr.mk.injEq, and_true] at e1'
          obtain ⟨⟨rfl, rfl⟩, _, rfl⟩ := e1'
          by_cases hcl : cap = lo.toNat
          · -- nothing is left
            have hhi : hi.toNat = lo.toNat := by omega
            refine .inr ⟨b, off, cap - lo.toNat, cs', T'', fr', ?_, by omega, e3', e4', ?_⟩
            · simp [SV.v, hcl, hlen]
            · rw [hlen, hhi]
              have : (xs.take lo.toNat).drop lo.toNat = [] := by
                apply List.eq_nil_of_length_eq_zero; rw [List.length_drop, List.length_take]; omega
              rw [this]; simp [XK]
          · refine .inr ⟨b, off + lo.toNat * En.sz α, cap - lo.toNat, cs', T'', fr', ?_, by omega, e3', e4', ?_⟩
            · simp [SV.v, hcl, hlen]
            · rw [hlen]
              have hx : xs = xs.take lo.toNat ++ ((xs.take hi.toNat).drop lo.toNat ++ xs.drop hi.toNat) := by
                have e1 : xs.take lo.toNat = (xs.take hi.toNat).take lo.toNat := by rw [List.take_take, Nat.min_eq_left (by omega)]
                rw [e1, ← List.append_assoc, List.take_append_drop, List.take_append_drop]
              have hf : XK xs = XK (xs.take lo.toNat) ++ (XK ((xs.take hi.toNat).drop lo.toNat) ++ XK (xs.drop hi.toNat)) := by
                rw [← ZS, ← ZS, ← hx]
              have hl1 : (XK (xs.take lo.toNat)).length = lo.toNat * En.sz α := by rw [XD, List.length_take]; congr 1; omega
              have hl2 : (XK ((xs.take hi.toNat).drop lo.toNat)).length = (hi.toNat - lo.toNat) * En.sz α := by rw [XD, hlen]
              have hd : (cs'.drop (off + lo.toNat * En.sz α)).take ((hi.toNat - lo.toNat) * En.sz α) = (((cs'.drop off).take (xs.length * En.sz α)).drop (lo.toNat * En.sz α)).take ((hi.toNat - lo.toNat) * En.sz α) := by
                rw [List.drop_take, List.drop_drop, List.take_take]
                congr 1
                have : (hi.toNat - lo.toNat) * En.sz α ≤ xs.length * En.sz α - lo.toNat * En.sz α := by rw [← Nat.sub_mul]; exact Nat.mul_le_mul_right _ (by omega)
                omega
              rw [hd, e5', hf, List.drop_append_of_le_length (by omega), ← hl1, List.drop_length, List.nil_append, ← hl2, List.take_left']
              rfl
  refine ⟨s.v, hr, hx s w ?_⟩
  exact Sat.mapHead (hmap) hw1
theorem xhw {w : World} {cs : List Value} {e : Nat} (hc : cs = XK xs) (hb : xs.length ≤ 9223372036854775807) (h : Sat w F) : Sat (w.alloc (.cells cs.toArray e (0, 0))) (sl false (.slice (some ⟨w.heap.size, 0, none⟩) xs.length xs.length) xs :: F) := by
  have hl : cs.length = xs.length * En.sz α := by rw [hc, XD]
  refine Vt (b := w.heap.size) (off := 0) (cap := xs.length) (cs := cs) (T := e) rfl ⟨Nat.le_refl _, hb⟩ (by omega) ?_ (h.alloc _)
  rw [List.drop_zero, ← hl, List.take_length, hc]
theorem Tr.cutTo {T n : Nat} [hT0 : Slc P T n] {hi : Int} {k2 : IntKind} {K : Value → WP} (hs : Has l (sl true v xs)) (hne : n = En.sz α) (h1 : 0 ≤ hi) (h2 : hi ≤ xs.length)
    (hx : ∀ s : SV, Tr (sl true s.v (xs.take hi.toNat) :: l) (K s.v)) : Tr l (Xq P (Instr.sliceAt T v none (some (.int k2 hi)) none) K) := fun w hw => by
  subst hne
  have hT := hT0
  obtain ⟨e, inf, hu, hin, hsz⟩ := Jk hT.h
  have key : (Instr.sliceAt T v none (some (.int k2 hi)) none).run P w = (Instr.sliceAt T v (some (.int .i64 0)) (some (.int k2 hi)) none).run P w := by
    obtain ⟨a, c, hv⟩ := xbw hs hw
    rw [hv]
    simp only [Instr.sliceAt, Sem.run_bind, run_underlying hu, Result.andThen_ok, Instr.slice, Instr.sliceBounds, Instr.sliceBound, asIntOf, Sem.run_pure]
    by_cases hc : 0 ≤ hi ∧ hi ≤ (c : Int)
    · simp [hc]
    · simp [hc, boundsPanic, runtimePanic]
  have := Tr.cut (P := P) (T := T) (lo := 0) (hi := hi) (k1 := .i64) (k2 := k2) (K := K) hs (Int.le_refl 0) h1 h2 (fun s => by simpa using hx s) w hw
  obtain ⟨v', hr, hk⟩ := this
  exact ⟨v', by rw [key]; exact hr, hk⟩
theorem xer {β : Type} (f : Nat → β) : (Array.range 0).map f = #[] := by
  apply Array.ext
  · simp
  · intro i h1 h2; simp at h2
theorem xbk (z : Array Value) (d : α) (hz : z = (En.enc d).toArray) : ∀ n, ((Array.range (n * En.sz α)).map (z[· % z.size]!)) = (XK (List.replicate n d)).toArray := by
  intro n
  have hzs : z.size = En.sz α := by rw [hz]; simp [En.len]
  apply Array.ext
  · simp [XD]
  · intro i h1 h2
    have hi : i < n * En.sz α := by simpa using h1
    simp only [Array.getElem_map, Array.getElem_range]
    have hp := En.pos (α := α)
    have hq : i / En.sz α < n := by rw [Nat.div_lt_iff_lt_mul hp]; exact hi
    have hm : i % En.sz α < En.sz α := Nat.mod_lt _ hp
    have h3 := xen (List.replicate n d) (i / En.sz α) (i % En.sz α) d (by simp [hq]) hm
    rw [show i / En.sz α * En.sz α + i % En.sz α = i by rw [Nat.mul_comm]; exact Nat.div_add_mod i _] at h3
    have h4 : (XK (List.replicate n d))[i]? = some (XK (List.replicate n d))[i] := by simp [XD, hi]
    rw [h4] at h3
    have h5 : z[i % z.size]! = z[i % z.size]?.getD default := by rw [Array.getElem!_eq_getD, Array.getD_eq_getD_getElem?]
    rw [h5, hzs, hz, List.getElem?_toArray, ← h3]
    simp
theorem Tr.makeSlice {T e bytes : Nat} {z : List Value} {d : α} [hT : ZY P T e bytes (En.sz α) z] {n : Int} {k1 k2 : IntKind} {K : Value → WP} (hz : z = En.enc d) (h0 : 0 ≤ n) (h1 : n ≤ 9223372036854775807) (hn : bytes * n ≤ 281474976710656)
    (hk : ∀ s : SV, Tr (sl false s.v (List.replicate n.toNat d) :: l) (K s.v)) : Tr l (Xt P (Instr.makeSlice T (.int k1 n) (.int k2 n)) K) := fun w hw => by
  obtain ⟨hu, inf, hin, hsz, hby, hzz⟩ := hT.h
  obtain ⟨z0, hz0, hz1⟩ : ∃ z0, inf.zero = some z0 ∧ z0.cells = z.toArray := by
    cases h : inf.zero with
    | none => rw [h] at hzz; cases hzz
    | some z0 => rw [h] at hzz; exact ⟨z0, rfl, by simpa using hzz⟩
  have hwr : IntKind.i64.wrap n = n := by apply Go.IntWalk.i64_in <;> omega
  have hcs := xbk (α := α) z0.cells d (by rw [hz1, hz]) n.toNat
  refine ⟨.slice (some ⟨w.heap.size, 0, none⟩) n.toNat n.toNat, w.alloc (.cells (XK (List.replicate n.toNat d)).toArray e (0, 0)), ?_, ?_⟩
  · have hzv : ∀ w, (zeroValue e).run P w = .ok z0 w := fun w => by simp [zeroValue, typeInfo, hin, hz0]
    have hsize : ∀ w, (sizeOf e).run P w = .ok (En.sz α) w := fun w => by simp [sizeOf, typeInfo, hin, hsz]
    have hinfo : ∀ w, (typeInfo e).run P w = .ok inf w := fun w => by simp [typeInfo, hin]
    simp only [Instr.makeSlice, Sem.run_bind, run_underlying hu, Result.andThen_ok, asInt, asIntOf, Sem.run_pure, hinfo, hwr]
    have hbig : (n < 0 || (inf.bytes : Int) * n > 2 ^ 48) = false := by
      rw [hby]
      simp only [Bool.or_eq_false_iff, decide_eq_false_iff_not]
      omega
    have hneg : ¬ (n < 0) := by omega
    have hcond : ((n < 0 || (inf.bytes : Int) * n > 2 ^ 48) || decide (n < 0) || decide (n > n)) = false := by
      rw [hbig]; simp [hneg]
    simp only [hcond, Bool.false_eq_true, if_false, Sem.run_bind, run_askRoom, Result.andThen_ok, hsize]
    by_cases hn0 : n.toNat * En.sz α = 0
    · have hn1 : n.toNat = 0 := by
        rcases Nat.mul_eq_zero.1 hn0 with h | h
        · exact h
        · have := En.pos (α := α); omega
      simp only [hn0, if_true]
      simp [hn1, newRow, XK, xer]
    · simp only [hn0, if_false, Sem.run_bind, hzv, Result.andThen_ok, Sem.run_pure]
      rw [hcs]
      simp [newRow]
  · have := xhw (α := α) (xs := List.replicate n.toNat d) (e := e) rfl (by simp; omega) hw
    simp only [List.length_replicate] at this
    exact hk ⟨some ⟨w.heap.size, 0, none⟩, n.toNat, n.toNat⟩ _ this
def xaS (place : Nat → Option (Nat × Nat)) : List Value → List (Nat × Value) → Option (List Value)
  | cs, [] => some cs
  | cs, (i, v) :: r => match place i with
    | none => none
    | some (off, size) => if v.cells.size = size ∧ off + size ≤ cs.length then xaS place (ZM cs off v.cells.toList) r else none
theorem xeh (place : Nat → Option (Nat × Nat)) : ∀ (parts : List (Nat × Value)) (cs cs' : List Value), xaS place cs parts = some cs' → Instr.fill place cs.toArray parts = some cs'.toArray
  | [], cs, cs', h => by simp only [xaS, Option.some.injEq] at h; subst h; rfl
  | (i, v) :: r, cs, cs', h => by
    simp only [xaS] at h
    simp only [Instr.fill]
    cases hp : place i with
    | none => rw [hp] at h; cases h
    | some os =>
      obtain ⟨off, size⟩ := os
      rw [hp] at h
      simp only at h ⊢
      split at h
      · rename_i hc
        have hc2 : (decide (v.cells.size ≠ size) || decide (off + v.cells.size > cs.toArray.size)) = false := by
          simp [hc.1, hc.2]
        rw [hc2]
        simp only [Bool.false_eq_true, if_false]
        have := xeh place r _ cs' h
        rw [← this]
        congr 1
        rw [← Array.foldl_toList, Array.toList_zipIdx]
        have := xbg off v.cells.toList 0 cs
        rw [Nat.add_zero] at this
        exact this
      · cases h
theorem Tr.buildSlice {T e bytes n : Nat} {z : List Value} (xs : List α) {d : α} [hT : ZY P T e bytes (En.sz α) z] {parts : Array (Nat × Value)} {K : Value → WP} (hz : z = En.enc d) (hn : xs.length = n) (hsm : n * En.sz α ≤ 16777216)
    (hf : xaS (fun i => some (i * En.sz α, En.sz α)) (XK (List.replicate n d)) parts.toList = some (XK xs)) (hk : ∀ s : SV, Tr (sl false s.v xs :: l) (K s.v)) : Tr l (Xt P (Instr.buildSlice T n parts) K) := fun w hw => by
  obtain ⟨hu, inf, hin, hsz, hby, hzz⟩ := hT.h
  obtain ⟨z0, hz0, hz1⟩ : ∃ z0, inf.zero = some z0 ∧ z0.cells = z.toArray := by
    cases h : inf.zero with
    | none => rw [h] at hzz; cases hzz
    | some z0 => rw [h] at hzz; exact ⟨z0, rfl, by simpa using hzz⟩
  have hcs := xbk (α := α) z0.cells d (by rw [hz1, hz]) n
  have hzv : (zeroValue e).run P w = .ok z0 w := by simp [zeroValue, typeInfo, hin, hz0]
  have hsize : (sizeOf e).run P w = .ok (En.sz α) w := by simp [sizeOf, typeInfo, hin, hsz]
  have hfill := xeh _ parts.toList _ _ hf
  refine ⟨.slice (some ⟨w.heap.size, 0, none⟩) n n, w.alloc (.cells (XK xs).toArray e (0, 0)), ?_, ?_⟩
  · simp only [Instr.buildSlice, Sem.run_bind, run_underlying hu, Result.andThen_ok, hsize]
    rw [if_neg (by omega)]
    by_cases hn0 : n * En.sz α = 0
    · simp only [hn0, if_true, Sem.run_bind, Sem.run_pure, Result.andThen_ok]
      have h1 : ((Array.range 0).map ((#[] : Array Value)[· % (#[] : Array Value).size]!)) = (XK (List.replicate n d)).toArray := by
        have : XK (List.replicate n d) = [] := List.eq_nil_of_length_eq_zero (by rw [XD, List.length_replicate]; exact hn0)
        rw [this, xer]
      rw [h1, hfill]
      simp [newRow]
    · simp only [hn0, if_false, Sem.run_bind, hzv, Result.andThen_ok, Sem.run_pure]
      rw [hcs, hfill]
      simp [newRow]
  · have := xhw (α := α) (xs := xs) (e := e) rfl (by have := En.pos (α := α); have := Nat.le_mul_of_pos_right n this; omega) hw
    rw [hn] at this
    exact hk ⟨some ⟨w.heap.size, 0, none⟩, n, n⟩ _ this
theorem xiC : ∀ (xs : List α) (i : Nat) (x : α), i < xs.length → ZM (XK xs) (i * En.sz α) (En.enc x) = XK (xs.set i x)
  | [], _, _, h => by simp at h
  | y :: xs, 0, x, _ => by
    have := Wu [] (XK (y :: xs)) (En.enc x) (by rw [XD, En.len, List.length_cons, Nat.succ_mul]; omega)
    simp only [List.nil_append, List.length_nil] at this
    simp only [Nat.zero_mul, this, List.set_cons_zero]
    simp only [XK, List.flatMap_cons]
    rw [En.len, ← En.len y, List.drop_left']
    rfl
  | y :: xs, i + 1, x, h => by
    have ih := xiC xs i x (by simpa using h)
    have gen : ∀ (vs a c : List Value) (off : Nat), ZM (a ++ c) (a.length + off) vs = a ++ ZM c off vs := by
      intro vs
      induction vs with
      | nil => intros; rfl
      | cons u us ihv =>
        intro a c off
        simp only [ZM]
        rw [List.set_append_right _ _ (by omega), show a.length + off - a.length = off by omega, show a.length + off + 1 = a.length + (off + 1) by omega, ihv]
    have e : (i + 1) * En.sz α = (En.enc y).length + i * En.sz α := by rw [En.len, Nat.succ_mul]; omega
    simp only [List.set_cons_succ]
    simp only [XK, List.flatMap_cons] at ih ⊢
    rw [e, gen, ih]
theorem Tr.storeEl {T i : Nat} {u : Value} {x : α} {K : Value → WP} [hT0 : Siz P T (En.sz α)] (hi : i < xs.length) (hu : u.cells = (En.enc x).toArray) (ht : Xm l (sl false v xs) F) (hx : Tr (sl false v (xs.set i x) :: F) (K undef)) :
    Tr l (Xv P (Instr.storeAt T (.pointer (some ⟨(sb v).block, (sb v).off + i * En.sz α, none⟩)) u) K) := fun w hw0 => by
  have hw := Imp.sat ht hw0
  rcases WA hw with ⟨rfl, rfl, hwF⟩ | ⟨b, off, cap, cs, T', rfl, e3, e5, e7, hwb⟩
  · simp at hi
  · have hle : (i + 1) * En.sz α ≤ xs.length * En.sz α := Nat.mul_le_mul_right _ hi
    have hle2 : xs.length * En.sz α ≤ cap * En.sz α := Nat.mul_le_mul_right _ e3.1
    rw [Nat.succ_mul] at hle
    have hlen : (En.enc x).length = En.sz α := En.len x
    refine Tr.store (P := P) (T := T) (T' := T') (n := En.sz α) (b := b) (off := off + i * En.sz α) (cs := cs) (v := u) (vs := En.enc x) (K := K) hu hlen (En.one x) (Upd.here (l := F)) (by omega) ?_ w hwb
    intro w' hw'
    refine hx w' ?_
    refine Vt (b := b) (off := off) (cap := cap) (cs := ZM cs (off + i * En.sz α) (En.enc x)) (T := T') (by simp) (by simpa using e3) (by rw [Zz]; exact e5) ?_ hw'
    rw [List.length_set, ← xiC xs i x hi, ← e7]
    have key : ∀ (vs cs : List Value) (k : Nat), k + vs.length ≤ xs.length * En.sz α → ((ZM cs (off + k) vs).drop off).take (xs.length * En.sz α) = ZM ((cs.drop off).take (xs.length * En.sz α)) k vs := by
      intro vs
      induction vs with
      | nil => intros; rfl
      | cons a as ih =>
        intro cs k hk
        simp only [List.length_cons] at hk
        simp only [ZM]
        rw [show off + k + 1 = off + (k + 1) by omega, ih _ _ (by omega), List.drop_set, if_neg (by omega), show off + k - off = k by omega, List.take_set]
    exact key _ _ _ (by omega)
theorem xkW {ty T : Nat} {k k' : IntKind} {a b : Int} {K : Value → WP} : Xq P (Builtin.min_ #[T, T] ty #[.int k a, .int k' b]) K = K (.int k (if b < a then b else a)) := by
  refine Zm (fun w => ?_) K
  simp [Builtin.min_, Builtin.min2]
end
def YK (l pre F : List Xc) : Prop := Imp l (pre ++ F)
theorem YK.nil {l : List Xc} : YK l [] l := Imp.refl
theorem YK.cons {A : Xc} {l l' pre F : List Xc} (h : Xm l A l') (h2 : YK l' pre F) : YK l (A :: pre) F := Imp.trans h (Imp.cons h2)
theorem Tr.callT {P : Program} {f : FuncId} {args : Array Value} {pre : List Xc} {post : Value → List Xc → Prop} {l F : List Xc} {K : Value → WP} (h : Xb P f args pre post) (hp : YK l pre F)
    (hk : ∀ v l', post v l' → Tr (l' ++ F) (K v)) : Tr l (XI P f args K) := (h F K hk).imp hp
def Xd (_d l l2 : List Xc) : Prop := Imp l l2
theorem Xd.done {d l : List Xc} : Xd d l l := Imp.refl
theorem Xd.drop {d : List Xc} {A : Xc} {l F : List Xc} (h : Xd d l F) : Xd d (A :: l) F := Imp.trans Imp.tail h
theorem Xd.take {d : List Xc} {A : Xc} {l l' l2 : List Xc} (ht : Xm l A l') (h : Xd d l' l2) : Xd d l (A :: l2) := Imp.trans ht (Imp.cons h)
theorem Xd.sep {d : List Xc} {A B : Xc} {l l2 : List Xc} (h : Xd d l (A :: B :: l2)) : Xd d l (Wk.sep A B :: l2) := Imp.trans h Imp.sepI
theorem Xd.ex {d : List Xc} {α : Type} {f : α → Xc} {l l2 : List Xc} (x : α) (h : Xd d l (f x :: l2)) : Xd d l (Wk.ex f :: l2) := Imp.trans h (Imp.exI x)
theorem Xd.fact {d : List Xc} {p : Prop} {l l2 : List Xc} (hp : p) (h : Xd d l l2) : Xd d l (Wk.fact p :: l2) := Imp.trans h (Imp.factI hp)
theorem Tr.ent2 {l l2 : List Xc} {X : WP} (h : Xd [] l l2) (hx : Tr l2 X) : Tr l X := hx.imp h
theorem Tr.fin {post : Value → List Xc → Prop} {F : List Xc} {K : Value → WP} {v : Value} {l l' : List Xc} (hK : ∀ v l', post v l' → Tr (l' ++ F) (K v)) (h : post v l') (he : Xd [] l (l' ++ F)) : Tr l (K v) := fun w hw => hK v l' h w (he.sat hw)
theorem Tr.againE {α : Type} {slots keep : List Nat} {V : α → List Value} {L : α → List Xc} {I : α → Prop} {μ : α → Nat} {a : α} {kv : List Value} {e' : Env} {l F : List Xc} (a' : α)
    (hk : keep.map e' = kv) (hV : slots.map e' = V a') (hI : I a') (hμ : μ a' < μ a) (hL : Xd [] l (L a' ++ F)) :
    Tr l (xcg keep kv slots V I μ L F a e') := fun _w hw => ⟨hk, a', hI, hμ, hV, hL.sat hw⟩
theorem Tr.loopE {α : Type} (slots keep : List Nat) (V : α → List Value) (L : α → List Xc) (I : α → Prop) (μ : α → Nat) {B : Jh → Env → WP} {Q : Jh} {e : Env} {l F : List Xc} (a0 : α)
    (hL : YK l (L a0) F) (hV : slots.map e = V a0) (h0 : I a0)
    (hr : ∀ a u, I a → Tr (L a ++ F) (B (Yj (xcg keep (keep.map e) slots V I μ L F a) Q) (xa9 (xa9 u keep (keep.map e)) slots (V a)))) :
    Tr l (X3 B Q e) := Tr.loop slots keep V L I μ a0 h0 hV (fun _ hw => hL.sat hw) hr
section
variable {P : Program} {T : Nat → Xj} {b want : Bool} {l : List Xc} {x y : Code} {Q : Jh} {e : Env} {o : Op} {ty : TypeId} {K : Value → WP} {k : Env → WP} {d : Option Tmp} {ops : Array Oper} {cs : List Nat}
theorem Tr.condS (hA : b = true → Tr l (XV P T (.bool true) x y Q e)) (hB : b = false → Tr l (XV P T (.bool false) x y Q e)) : Tr l (XV P T (.bool b) x y Q e) := by
  cases b
  · exact hB rfl
  · exact hA rfl
theorem Tr.guardS (hA : b = true → Tr l (Xw P (.bool true) want o ty e K k d)) (hB : b = false → Tr l (Xw P (.bool false) want o ty e K k d)) : Tr l (Xw P (.bool b) want o ty e K k d) := by
  cases b
  · exact hB rfl
  · exact hA rfl
theorem Tr.guardTT (hb : b = true) (h : b = true → Tr l (Xw P (.bool true) want o ty e K k d)) : Tr l (Xw P (.bool b) want o ty e K k d) := by subst hb; exact h rfl
theorem Tr.guardFF (hb : b = false) (h : b = false → Tr l (Xw P (.bool false) want o ty e K k d)) : Tr l (Xw P (.bool b) want o ty e K k d) := by subst hb; exact h rfl
theorem Tr.guardCS (hA : b = true → Tr l (XC P (.bool true) want o ty e K ops cs k)) (hB : b = false → Tr l (XC P (.bool false) want o ty e K ops cs k)) : Tr l (XC P (.bool b) want o ty e K ops cs k) := by
  cases b
  · exact hB rfl
  · exact hA rfl
end
section
variable {P : Program} {T : Nat → Xj} {l : List Xc} {x y : Code} {Q : Jh} {e : Env} {K : Value → WP}
theorem G.load {t : Nat} {a : Value} (h : Tr l (Xq P (Instr.loadAt t a) K)) : Tr l (Xq P (Instr.loadAt t a) K) := h
theorem G.store {t : Nat} {a v : Value} (h : Tr l (Xv P (Instr.storeAt t a v) K)) : Tr l (Xv P (Instr.storeAt t a v) K) := h
theorem G.idx {t : Nat} {a v : Value} (h : Tr l (Xq P (Instr.indexAt t a v) K)) : Tr l (Xq P (Instr.indexAt t a v) K) := h
theorem G.len {ts : Array Nat} {ty : Nat} {as : Array Value} (h : Tr l (Xq P (Builtin.len_ ts ty as) K)) : Tr l (Xq P (Builtin.len_ ts ty as) K) := h
theorem G.app {ts : Array Nat} {ty : Nat} {as : Array Value} (h : Tr l (Xt P (Builtin.append_ ts ty as) K)) : Tr l (Xt P (Builtin.append_ ts ty as) K) := h
theorem G.cut {t : Nat} {v : Value} {lo hi mx : Option Value} (h : Tr l (Xq P (Instr.sliceAt t v lo hi mx) K)) : Tr l (Xq P (Instr.sliceAt t v lo hi mx) K) := h
theorem G.look {t : Nat} {m k : Value} {ok : Bool} (h : Tr l (Xq P (Instr.lookup t m k ok) K)) : Tr l (Xq P (Instr.lookup t m k ok) K) := h
theorem G.mapu {t : Nat} {m k v : Value} (h : Tr l (Xv P (Instr.mapUpdate t m k v) K)) : Tr l (Xv P (Instr.mapUpdate t m k v) K) := h
theorem G.bs {t n : Nat} {ps : Array (Nat × Value)} (h : Tr l (Xt P (Instr.buildSlice t n ps) K)) : Tr l (Xt P (Instr.buildSlice t n ps) K) := h
theorem G.mks {t : Nat} {a b : Value} (h : Tr l (Xt P (Instr.makeSlice t a b) K)) : Tr l (Xt P (Instr.makeSlice t a b) K) := h
theorem G.cond {v : Value} (h : Tr l (XV P T v x y Q e)) : Tr l (XV P T v x y Q e) := h
theorem G.guard {v : Value} {w : Bool} {o : Op} {ty : Nat} {k : Env → WP} {d : Option Nat} (h : Tr l (Xw P v w o ty e K k d)) : Tr l (Xw P v w o ty e K k d) := h
theorem G.guardC {v : Value} {w : Bool} {o : Op} {ty : Nat} {k : Env → WP} {ops : Array Oper} {cs : List Nat} (h : Tr l (XC P v w o ty e K ops cs k)) : Tr l (XC P v w o ty e K ops cs k) := h
theorem G.call (f : Nat) {as : Array Value} (h : Tr l (XI P f as K)) : Tr l (XI P f as K) := h
end
def ix {α : Type} [Inhabited α] (xs : List α) (k : Int) : α := xs.getD k.toNat default
theorem Yi {α : Type} [Inhabited α] {xs : List α} {k : Int} (h0 : 0 ≤ k) (h : k < xs.length) : xs[k.toNat]? = some (ix xs k) := by
  have h1 : k.toNat < xs.length := by omega
  simp [ix, h1]
instance : Inhabited Value := ⟨undef⟩
section
variable {P : Program} {α : Type} [En α] {ro : Bool} {v : Value} {xs : List α} {l F : List Xc}
theorem Tr.indexI [Inhabited α] {T n : Nat} [hT0 : Slc P T n] {i : Int} {k : IntKind} {K : Value → WP} (hs : Has l (sl ro v xs)) (hne : n = En.sz α) (h0 : 0 ≤ i) (hi : i < xs.length)
    (hx : xs[i.toNat]? = some (ix xs i) → Tr l (K (.pointer (some ⟨(sb v).block, (sb v).off + i.toNat * En.sz α, none⟩)))) : Tr l (Xq P (Instr.indexAt T v (.int k i)) K) :=
  Tr.index hs hne h0 hi (hx (Yi h0 hi))
theorem Tr.storeElI {T : Nat} {i : Int} {u : Value} {x : α} {K : Value → WP} [hT0 : Siz P T (En.sz α)] (ht : Xm l (sl false v xs) F) (hu : u.cells = (En.enc x).toArray) (h0 : 0 ≤ i) (hi : i < xs.length) (hx : Tr (sl false v (xs.set i.toNat x) :: F) (K undef)) :
    Tr l (Xv P (Instr.storeAt T (.pointer (some ⟨(sb v).block, (sb v).off + i.toNat * En.sz α, none⟩)) u) K) :=
  Tr.storeEl (i := i.toNat) (by omega) hu ht hx
theorem xo1 {cs : List Value} {i : Nat} : ZM cs i [] = cs := rfl
theorem xom {cs vs : List Value} {i : Nat} {v : Value} : ZM cs i (v :: vs) = ZM (cs.set i v) (i + 1) vs := rfl
theorem Jl {α : Type} {a b : α} {l l' : List α} (h1 : a = b) (h2 : l = l') : a :: l = b :: l' := by subst h1; subst h2; rfl
class ElT (T : Nat) (α : outParam Type) : Type where
theorem xiB {T ty n : Nat} [hT : Slc P T n] {K : Value → WP} : Xq P (Builtin.len_ #[T] ty #[.slice none 0 0]) K = K (.int .i64 0) := by
  refine Zm (fun w => ?_) K
  obtain ⟨e, i, hu, _, _⟩ := Jk hT.h
  simp [Builtin.len_, run_underlying hu, goInt]
