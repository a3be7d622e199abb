import Derived.Test.YtacmaamllpiloaaGreatWk2
namespace Go.Wk
open Go
abbrev Blks := Nat → Prop
def Same (w w' : World) : Prop := w'.os = w.os ∧ w'.output = w.output ∧ w'.tape = w.tape
theorem Same.refl (w : World) : Same w w := ⟨rfl, rfl, rfl⟩
theorem Same.trans {a b c : World} (h : Same a b) (h' : Same b c) : Same a c := ⟨h'.1.trans h.1, h'.2.1.trans h.2.1, h'.2.2.trans h.2.2⟩
structure Asrt where
  h : Blks → Blks → World → Prop
  loc : ∀ {R R' S S' : Blks} {w w' : World}, (∀ b, R b → R' b) → (∀ b, S b → S' b) → (∀ b, R b ∨ S b → w'.heap[b]? = w.heap[b]?) → Same w w' → h R S w → h R' S' w'
def SatR (R : Blks) (w : World) : Blks → List Asrt → Prop
  | _, [] => True
  | U, A :: l => ∃ S : Blks, (∀ b, S b → b < w.heap.size ∧ ¬ U b) ∧ A.h R S w ∧ SatR R w (fun b => U b ∨ S b) l
def Sat (w : World) (l : List Asrt) : Prop := ∃ R : Blks, (∀ b, R b → b < w.heap.size) ∧ SatR R w R l
theorem SatR.weaken {R : Blks} {w : World} : ∀ {l : List Asrt} {U U' : Blks}, (∀ b, U' b → U b) → SatR R w U l → SatR R w U' l
  | [], _, _, _, _ => trivial
  | _ :: _, _, _, hu, ⟨S, h1, h2, h3⟩ => ⟨S, fun b hb => ⟨(h1 b hb).1, fun h => (h1 b hb).2 (hu b h)⟩, h2, h3.weaken fun b hb => hb.imp (hu b) id⟩
theorem SatR.frame {R R' : Blks} {w w' : World} (hR : ∀ b, R b → R' b) (hsz : w.heap.size ≤ w'.heap.size) (hs : Same w w') (hRk : ∀ b, R b → w'.heap[b]? = w.heap[b]?) :
    ∀ {l : List Asrt} {U U' : Blks}, (∀ b, ¬ U b → b < w.heap.size → w'.heap[b]? = w.heap[b]? ∧ ¬ U' b) → SatR R w U l → SatR R' w' U' l
  | [], _, _, _, _ => trivial
  | A :: _, _, _, hu, ⟨S, h1, h2, h3⟩ =>
    ⟨S, fun b hb => ⟨Nat.lt_of_lt_of_le (h1 b hb).1 hsz, (hu b (h1 b hb).2 (h1 b hb).1).2⟩,
      A.loc hR (fun _ h => h) (fun b hb => hb.elim (hRk b) (fun hb => (hu b (h1 b hb).2 (h1 b hb).1).1)) hs h2,
      h3.frame hR hsz hs hRk (fun b hn hl => ⟨(hu b (fun h => hn (.inl h)) hl).1, fun h => h.elim (hu b (fun h => hn (.inl h)) hl).2 (fun h => hn (.inr h))⟩)⟩
theorem SatR.swap {R : Blks} {w : World} {U : Blks} {A B : Asrt} {l : List Asrt} : SatR R w U (A :: B :: l) → SatR R w U (B :: A :: l)
  | ⟨S, h1, h2, S', h3, h4, h5⟩ =>
    ⟨S', fun b hb => ⟨(h3 b hb).1, fun h => (h3 b hb).2 (.inl h)⟩, h4, S, fun b hb => ⟨(h1 b hb).1, fun h => h.elim (h1 b hb).2 (fun h => (h3 b h).2 (.inr hb))⟩, h2,
      h5.weaken fun _b hb => hb.elim (fun h => h.elim (fun h => .inl (.inl h)) .inr) (fun h => .inl (.inr h))⟩
theorem SatR.perm {R : Blks} {w : World} {l l' : List Asrt} (h : l.Perm l') : ∀ {U : Blks}, SatR R w U l → SatR R w U l' := by
  induction h with
  | nil => exact fun h => h
  | cons x _ ih => exact fun ⟨S, h1, h2, h3⟩ => ⟨S, h1, h2, ih h3⟩
  | swap x y l => exact fun h => SatR.swap h
  | trans _ _ ih1 ih2 => exact fun h => ih2 (ih1 h)
theorem Sat.perm {w : World} {l l' : List Asrt} (h : l.Perm l') : Sat w l → Sat w l' := fun ⟨R, h1, h2⟩ => ⟨R, h1, h2.perm h⟩
theorem Sat.tail {w : World} {A : Asrt} {l : List Asrt} : Sat w (A :: l) → Sat w l := fun ⟨R, h1, _, _, _, h3⟩ => ⟨R, h1, h3.weaken fun _ hb => .inl hb⟩
def Imp (l l' : List Asrt) : Prop := ∀ (w : World) (R U : Blks), (∀ b, R b → b < w.heap.size) → (∀ b, R b → U b) → SatR R w U l → SatR R w U l'
theorem Imp.refl {l : List Asrt} : Imp l l := fun _ _ _ _ _ h => h
theorem Imp.trans {l l' l2 : List Asrt} (h : Imp l l') (h2 : Imp l' l2) : Imp l l2 := fun w R U h1 hu hs => h2 w R U h1 hu (h w R U h1 hu hs)
theorem Imp.of_perm {l l' : List Asrt} (h : l.Perm l') : Imp l l' := fun _ _ _ _ _ hs => hs.perm h
theorem Imp.cons {A : Asrt} {l l' : List Asrt} (h : Imp l l') : Imp (A :: l) (A :: l') := fun w R _ h1 hu ⟨S, a, b, c⟩ => ⟨S, a, b, h w R _ h1 (fun x hx => .inl (hu x hx)) c⟩
theorem Imp.sat {l l' : List Asrt} (h : Imp l l') {w : World} : Sat w l → Sat w l' := fun ⟨R, h1, h2⟩ => ⟨R, h1, h w R R h1 (fun _ h => h) h2⟩
theorem Imp.tail {A : Asrt} {l : List Asrt} : Imp (A :: l) l := fun _ _ _ _ _ ⟨_, _, _, h⟩ => h.weaken fun _ hb => .inl hb
theorem Imp.swap {A B : Asrt} {l : List Asrt} : Imp (A :: B :: l) (B :: A :: l) := fun _ _ _ _ _ h => h.swap
def sep (A B : Asrt) : Asrt where
  h R S w := ∃ S1 S2 : Blks, (∀ b, S1 b → S b) ∧ (∀ b, S2 b → S b) ∧ (∀ b, S1 b → ¬ S2 b) ∧ A.h R S1 w ∧ B.h R S2 w
  loc := fun hR hS hk hs ⟨S1, S2, h1, h2, h3, h4, h5⟩ => ⟨S1, S2, fun b h => hS b (h1 b h), fun b h => hS b (h2 b h), h3,
    A.loc hR (fun _ h => h) (fun b hb => hk b (hb.imp id (h1 b))) hs h4, B.loc hR (fun _ h => h) (fun b hb => hk b (hb.imp id (h2 b))) hs h5⟩
def ex {α : Type} (f : α → Asrt) : Asrt where
  h R S w := ∃ x, (f x).h R S w
  loc := fun hR hS hk hs ⟨x, h⟩ => ⟨x, (f x).loc hR hS hk hs h⟩
def fact (p : Prop) : Asrt where
  h _ _ _ := p
  loc := fun _ _ _ _ h => h
def blk (b : Nat) (o : Obj) : Asrt where
  h _ S w := S b ∧ w.heap[b]? = some o
  loc := fun _ hS hk _ h => ⟨hS b h.1, by rw [hk b (.inr h.1)]; exact h.2⟩
def rob (b : Nat) (o : Obj) : Asrt where
  h R _ w := R b ∧ w.heap[b]? = some o
  loc := fun hR _ hk _ h => ⟨hR b h.1, by rw [hk b (.inl h.1)]; exact h.2⟩
def old (W : World) : Asrt where
  h R _ w := Same W w ∧ W.heap.size ≤ w.heap.size ∧ ∀ b, b < W.heap.size → R b ∧ w.heap[b]? = W.heap[b]?
  loc := by
    intro R R' S S' w w' hR _ hk hs h
    refine ⟨h.1.trans hs, ?_, fun b hb => ⟨hR b (h.2.2 b hb).1, by rw [hk b (.inl (h.2.2 b hb).1)]; exact (h.2.2 b hb).2⟩⟩
    rcases Nat.lt_or_ge w'.heap.size W.heap.size with hlt | hge
    · have := hk w'.heap.size (.inl (h.2.2 _ hlt).1)
      have h2 := (h.2.2 _ hlt).2
      rw [this.symm] at h2
      have hx : W.heap[w'.heap.size]? = some (W.heap[w'.heap.size]) := by simp [hlt]
      have hy : w'.heap[w'.heap.size]? = none := by simp
      rw [hx, hy] at h2; cases h2
    · exact hge
theorem SatR.sep_iff {R U : Blks} {w : World} {A B : Asrt} {l : List Asrt} : SatR R w U (sep A B :: l) ↔ SatR R w U (A :: B :: l) := by
  constructor
  · rintro ⟨S, h2, ⟨S1, S2, a, b, c, d, e⟩, h3⟩
    refine ⟨S1, fun x hx => h2 x (a x hx), d, S2, fun x hx => ⟨(h2 x (b x hx)).1, fun h => h.elim (h2 x (b x hx)).2 (fun h => c x h hx)⟩, e, h3.weaken fun x hx => ?_⟩
    rcases hx with (h | h) | h
    · exact .inl h
    · exact .inr (a x h)
    · exact .inr (b x h)
  · rintro ⟨S1, h2, d, S2, h3, e, h4⟩
    exact ⟨fun b => S1 b ∨ S2 b, fun b hb => hb.elim (h2 b) (fun h => ⟨(h3 b h).1, fun h' => (h3 b h).2 (.inl h')⟩), ⟨S1, S2, fun _ => .inl, fun _ => .inr, fun b h h' => (h3 b h').2 (.inr h), d, e⟩,
      h4.weaken fun b hb => hb.elim (fun h => .inl (.inl h)) (fun h => h.elim (fun h => .inl (.inr h)) .inr)⟩
theorem Imp.sep {A B : Asrt} {l : List Asrt} : Imp (Wk.sep A B :: l) (A :: B :: l) := fun _ _ _ _ _ => SatR.sep_iff.1
theorem Imp.sepI {A B : Asrt} {l : List Asrt} : Imp (A :: B :: l) (Wk.sep A B :: l) := fun _ _ _ _ _ => SatR.sep_iff.2
theorem Imp.exI {α : Type} {f : α → Asrt} {l : List Asrt} (x : α) : Imp (f x :: l) (ex f :: l) := fun _ _ _ _ _ ⟨S, h1, h2, h3⟩ => ⟨S, h1, ⟨x, h2⟩, h3⟩
theorem Imp.factI {p : Prop} {l : List Asrt} (hp : p) : Imp l (fact p :: l) := fun _ _ _ _ _ h => ⟨fun _ => False, fun _ h => h.elim, hp, h.weaken fun _ hb => hb.elim id False.elim⟩
theorem Sat.sep_iff {w : World} {A B : Asrt} {l : List Asrt} : Sat w (sep A B :: l) ↔ Sat w (A :: B :: l) := by
  constructor
  · rintro ⟨R, h1, S, h2, ⟨S1, S2, a, b, c, d, e⟩, h3⟩
    refine ⟨R, h1, S1, fun x hx => h2 x (a x hx), d, S2, fun x hx => ⟨(h2 x (b x hx)).1, fun h => h.elim (h2 x (b x hx)).2 (fun h => c x h hx)⟩, e, h3.weaken fun x hx => ?_⟩
    rcases hx with (h | h) | h
    · exact .inl h
    · exact .inr (a x h)
    · exact .inr (b x h)
  · rintro ⟨R, h1, S1, h2, d, S2, h3, e, h4⟩
    exact ⟨R, h1, fun b => S1 b ∨ S2 b, fun b hb => hb.elim (h2 b) (fun h => ⟨(h3 b h).1, fun h' => (h3 b h).2 (.inl h')⟩), ⟨S1, S2, fun _ => .inl, fun _ => .inr, fun b h h' => (h3 b h').2 (.inr h), d, e⟩,
      h4.weaken fun b hb => hb.elim (fun h => .inl (.inl h)) (fun h => h.elim (fun h => .inl (.inr h)) .inr)⟩
theorem Sat.ex_iff {w : World} {α : Type} {f : α → Asrt} {l : List Asrt} : Sat w (ex f :: l) ↔ ∃ x, Sat w (f x :: l) :=
  ⟨fun ⟨R, h1, S, h2, ⟨x, h⟩, h3⟩ => ⟨x, R, h1, S, h2, h, h3⟩, fun ⟨x, R, h1, S, h2, h, h3⟩ => ⟨R, h1, S, h2, ⟨x, h⟩, h3⟩⟩
theorem Sat.fact_iff {w : World} {p : Prop} {l : List Asrt} : Sat w (fact p :: l) ↔ p ∧ Sat w l :=
  ⟨fun h => ⟨let ⟨_, _, _, _, h, _⟩ := h; h, h.tail⟩, fun ⟨hp, R, h1, h2⟩ => ⟨R, h1, fun _ => False, fun _ h => h.elim, hp, h2.weaken fun _ hb => hb.elim id False.elim⟩⟩
def Dup (A : Asrt) : Prop := ∀ {R S w}, A.h R S w → A.h R (fun _ => False) w
theorem dup_fact (p : Prop) : Dup (fact p) := fun h => h
theorem heap_push_lt {w : World} {o : Obj} {b : Nat} (h : b < w.heap.size) : (w.alloc o).heap[b]? = w.heap[b]? := by
  show (w.heap.push o)[b]? = _
  rw [Array.getElem?_push, if_neg (Nat.ne_of_lt h)]
theorem Sat.lt {w : World} {b : Nat} {o : Obj} {l : List Asrt} : Sat w (blk b o :: l) → b < w.heap.size := fun ⟨_, _, _, h2, h, _⟩ => (h2 b h.1).1
theorem Sat.get {w : World} {b : Nat} {o : Obj} {l : List Asrt} : Sat w (blk b o :: l) → w.heap[b]? = some o := fun ⟨_, _, _, _, h, _⟩ => h.2
theorem Sat.alloc {w : World} {l : List Asrt} (o : Obj) : Sat w l → Sat (w.alloc o) (blk w.heap.size o :: l) := fun ⟨R, h1, h2⟩ => by
  refine ⟨R, fun b hb => by simp; have := h1 b hb; omega, fun b => b = w.heap.size, fun b hb => ?_, ⟨rfl, by show (w.heap.push o)[w.heap.size]? = _; simp⟩, ?_⟩
  · subst hb; exact ⟨by simp, fun h => absurd (h1 _ h) (by omega)⟩
  · refine SatR.frame (w := w) (w' := w.alloc o) (fun _ h => h) (by simp) ⟨rfl, rfl, rfl⟩ (fun b hb => heap_push_lt (h1 b hb)) (fun b hn hl => ⟨heap_push_lt hl, fun h => ?_⟩) h2
    rcases h with h | h
    · exact hn h
    · omega
theorem Sat.drew {w : World} {l : List Asrt} : Sat w l → Sat w.drew l := fun ⟨R, h1, h2⟩ =>
  ⟨R, h1, SatR.frame (w := w) (w' := w.drew) (fun _ h => h) (Nat.le_refl _) ⟨rfl, rfl, rfl⟩ (fun _ _ => rfl) (fun _ hn _ => ⟨rfl, hn⟩) h2⟩
theorem Sat.put {w w' : World} {b : Nat} {o o' : Obj} {l : List Asrt} (hw : w'.heap = w.heap.setIfInBounds b o') (hs : Same w w') : Sat w (blk b o :: l) → Sat w' (blk b o' :: l) := fun ⟨R, h1, S, h2, h, h3⟩ => by
  have hsz : w'.heap.size = w.heap.size := by rw [hw]; simp
  have hne : ∀ x, x ≠ b → w'.heap[x]? = w.heap[x]? := fun x hx => by rw [hw, Array.getElem?_setIfInBounds_ne (Ne.symm hx)]
  refine ⟨R, fun x hx => by rw [hsz]; exact h1 x hx, S, fun x hx => by rw [hsz]; exact h2 x hx, ⟨h.1, ?_⟩, ?_⟩
  · rw [hw]
    have := (h2 b h.1).1
    simp [this]
  · refine h3.frame (fun _ h => h) (by omega) hs (fun x hx => hne x fun e => ?_) (fun x hn hl => ⟨hne x fun e => ?_, hn⟩)
    · subst e; exact (h2 x h.1).2 hx
    · subst e; exact hn (.inr h.1)
theorem Sat.freeze {w : World} {b : Nat} {o : Obj} {l : List Asrt} : Sat w (blk b o :: l) → Sat w (rob b o :: l) := fun ⟨R, h1, S, h2, h, h3⟩ => by
  refine ⟨fun x => R x ∨ x = b, fun x hx => hx.elim (h1 x) (fun e => e ▸ (h2 b h.1).1), fun _ => False, fun _ h => h.elim, ⟨.inr rfl, h.2⟩, ?_⟩
  refine h3.frame (fun _ => .inl) (Nat.le_refl _) (Same.refl w) (fun _ _ => rfl) (fun x hn _ => ⟨rfl, fun hx => ?_⟩)
  rcases hx with (hx | hx) | hx
  · exact hn (.inl hx)
  · exact hn (.inr (hx ▸ h.1))
  · exact hx
def Tr (l : List Asrt) (X : WP) : Prop := ∀ w, Sat w l → X w
theorem Tr.imp {l l' : List Asrt} {X : WP} (h : Imp l l') (hx : Tr l' X) : Tr l X := fun w hw => hx w (h.sat hw)
theorem Tr.perm {l l' : List Asrt} {X : WP} (h : l.Perm l') (hx : Tr l' X) : Tr l X := fun w hw => hx w (hw.perm h)
def front : List Nat → List Asrt → List Asrt
  | [], l => l
  | i :: is, l => match l[i]? with
    | some A => A :: front is (l.eraseIdx i)
    | none => front is l
theorem perm_eraseIdx {α : Type} : ∀ (l : List α) (i : Nat) (A : α), l[i]? = some A → l.Perm (A :: l.eraseIdx i)
  | [], _, _, h => by simp at h
  | a :: l, 0, A, h => by simp at h; subst h; exact .refl _
  | a :: l, i + 1, A, h => by
    simp only [List.getElem?_cons_succ] at h
    simp only [List.eraseIdx_cons_succ]
    exact (List.Perm.cons a (perm_eraseIdx l i A h)).trans (List.Perm.swap A a _)
theorem front_perm : ∀ (is : List Nat) (l : List Asrt), l.Perm (front is l)
  | [], l => .refl l
  | i :: is, l => by
    unfold front
    cases h : l[i]? with
    | none => exact front_perm is l
    | some A => exact (perm_eraseIdx l i A h).trans ((front_perm is _).cons A)
theorem Tr.front (is : List Nat) {l : List Asrt} {X : WP} (hx : Tr (front is l) X) : Tr l X := hx.perm (front_perm is l)
theorem Tr.drop {A : Asrt} {l : List Asrt} {X : WP} (hx : Tr l X) : Tr (A :: l) X := fun w hw => hx w hw.tail
theorem Tr.sep_iff {A B : Asrt} {l : List Asrt} {X : WP} : Tr (sep A B :: l) X ↔ Tr (A :: B :: l) X := ⟨fun h w hw => h w (Sat.sep_iff.2 hw), fun h w hw => h w (Sat.sep_iff.1 hw)⟩
theorem Tr.ex_iff {α : Type} {f : α → Asrt} {l : List Asrt} {X : WP} : Tr (ex f :: l) X ↔ ∀ x, Tr (f x :: l) X :=
  ⟨fun h x w hw => h w (Sat.ex_iff.2 ⟨x, hw⟩), fun h w hw => let ⟨x, hw⟩ := Sat.ex_iff.1 hw; h x w hw⟩
theorem Tr.fact_iff {p : Prop} {l : List Asrt} {X : WP} : Tr (fact p :: l) X ↔ (p → Tr l X) :=
  ⟨fun h hp w hw => h w (Sat.fact_iff.2 ⟨hp, hw⟩), fun h w hw => let ⟨hp, hw⟩ := Sat.fact_iff.1 hw; h hp w hw⟩
def Trip (P : Program) (f : FuncId) (args : Array Value) (pre : List Asrt) (post : Value → List Asrt → Prop) : Prop :=
  ∀ (F : List Asrt) (K : Value → WP), (∀ v l', post v l' → Tr (l' ++ F) (K v)) → Tr (pre ++ F) (CallK P f args K)
theorem Tr.enter {P : Program} (hm : P.follows .mixedOrders = true) {f : FuncId} {fn : Func} {c : Code} {T : Nat → Plan} (F : FnOK P f fn c T) {args : List Value} {rs : List ResultVar} {K : Value → WP} {l : List Asrt} (hrs : fn.results = rs.toArray) (ha : args.length ≤ fn.ntmps)
    (h : ∀ u, Tr l (W P T c (endL P rs K) (argE u 0 args))) : Tr l (CallK P f args.toArray K) := fun w hw => CallK_enter hm F hrs ha fun u => h u w hw
theorem Tr.drewK {l : List Asrt} {X : WP} (h : Tr l X) : Tr l (drewK X) := fun _w hw => h _ hw.drew
theorem Tr.brK {l : List Asrt} {X Y : WP} (h1 : Tr l X) (h2 : Tr l Y) : Tr l (BrK X Y) := fun _w hw => ⟨h1 _ hw, h2 _ hw⟩
section
variable {P : Program} {T : Nat → Plan} {b want : Bool} {l : List Asrt} {x y : Code} {Q : Post} {e : Env} {o : Op} {ty : TypeId} {K : Value → WP} {k : Env → WP} {d : Option Tmp} {ops : Array Oper} {cs : List Nat}
theorem Tr.condT (hb : b = true) (h : Tr l (W P T x Q e)) : Tr l (CondW P T (.bool b) x y Q e) := by subst hb; exact h
theorem Tr.condF (hb : b = false) (h : Tr l (W P T y Q e)) : Tr l (CondW P T (.bool b) x y Q e) := by subst hb; exact h
theorem Tr.guardT (hA : b = true → Tr l (opX P o ty e K)) (hB : b = false → Tr l (k (put e d undef))) : Tr l (GuardO P (.bool b) true o ty e K k d) := by
  cases b
  · exact hB rfl
  · exact hA rfl
theorem Tr.eqR {v u : Value} (h : v = u) (hx : Tr l (chkR P ops cs k e)) : Tr l (eqR P ops cs k e u v) := fun w hw => ⟨h, hx w hw⟩
end
def upds (e : Env) : List Nat → List Value → Env
  | s :: ss, v :: vs => upds (upd e s v) ss vs
  | _, _ => e
theorem upds_self (e : Env) : ∀ (ss : List Nat), upds e ss (ss.map e) = e
  | [] => rfl
  | s :: ss => by
    simp only [List.map_cons, upds]
    have : upd e s (e s) = e := by funext j; simp [upd]; intro h; rw [h]
    rw [this]; exact upds_self e ss
theorem upds_cons {e : Env} {s : Nat} {v : Value} {ss : List Nat} {vs : List Value} : upds e (s :: ss) (v :: vs) = upds (upd e s v) ss vs := nr rfl
theorem upds_nil {e : Env} {vs : List Value} : upds e [] vs = e := nr rfl
def againK {α : Type} (keep : List Nat) (kv : List Value) (slots : List Nat) (V : α → List Value) (I : α → Prop) (μ : α → Nat) (L : α → List Asrt) (F : List Asrt) (a : α) (e' : Env) : WP :=
  fun w' => keep.map e' = kv ∧ ∃ a', I a' ∧ μ a' < μ a ∧ slots.map e' = V a' ∧ Sat w' (L a' ++ F)
theorem Tr.loop {α : Type} (slots keep : List Nat) (V : α → List Value) (L : α → List Asrt) (I : α → Prop) (μ : α → Nat) {B : Post → Env → WP} {Q : Post} {e : Env} {l F : List Asrt} (a0 : α)
    (h0 : I a0) (hV : slots.map e = V a0) (hL : ∀ w, Sat w l → Sat w (L a0 ++ F))
    (hr : ∀ a u, I a → Tr (L a ++ F) (B (seqK (againK keep (keep.map e) slots V I μ L F a) Q) (upds (upds u keep (keep.map e)) slots (V a)))) :
    Tr l (LoopW B Q e) := by
  intro w hw
  refine ⟨fun n e' w' => ∃ a, μ a = n ∧ keep.map e' = keep.map e ∧ I a ∧ slots.map e' = V a ∧ Sat w' (L a ++ F), ⟨_, a0, rfl, rfl, h0, hV, hL w hw⟩, fun n e1 w1 h1 => ?_⟩
  obtain ⟨a, rfl, hk, hi, hv, hs⟩ := h1
  have henv : e1 = upds (upds e1 keep (keep.map e)) slots (V a) := by
    rw [← hk, upds_self, ← hv, upds_self]
  have := hr a e1 hi w1 hs
  rw [← henv] at this
  have hfun : (fun (e' : Env) w' => ∃ m, m < μ a ∧ ∃ a', μ a' = m ∧ keep.map e' = keep.map e ∧ I a' ∧ slots.map e' = V a' ∧ Sat w' (L a' ++ F)) = againK keep (keep.map e) slots V I μ L F a := by
    funext e' w'
    apply propext
    constructor
    · rintro ⟨m, hm, a', rfl, h1, h2, h3, h4⟩; exact ⟨h1, a', h2, hm, h3, h4⟩
    · rintro ⟨h1, a', h2, hm, h3, h4⟩; exact ⟨_, hm, a', rfl, h1, h2, h3, h4⟩
  rw [hfun]
  exact this
theorem Tr.again {α : Type} {slots keep : List Nat} {V : α → List Value} {L : α → List Asrt} {I : α → Prop} {μ : α → Nat} {a : α} {kv : List Value} {e' : Env} {l F : List Asrt} (a' : α)
    (hk : keep.map e' = kv) (hV : slots.map e' = V a') (hI : I a') (hμ : μ a' < μ a) (hL : Tr l fun w => Sat w (L a' ++ F)) :
    Tr l (againK keep kv slots V I μ L F a e') := fun w hw => ⟨hk, a', hI, hμ, hV, hL w hw⟩
theorem Tr.mid {l1 C F : List Asrt} {X : WP} (h : Tr (C ++ (l1 ++ F)) X) : Tr (l1 ++ (C ++ F)) X := h.perm (by
  rw [← List.append_assoc, ← List.append_assoc]
  exact List.perm_append_comm.append_right F)
theorem Tr.back {l1 C F : List Asrt} {X : WP} (h : Tr (l1 ++ (C ++ F)) X) : Tr (C ++ (l1 ++ F)) X := Tr.mid (l1 := C) (C := l1) h
theorem Tr.sat_of {l l' : List Asrt} (h : ∀ w, Sat w l → Sat w l') : Tr l fun w => Sat w l' := h
theorem Tr.call {P : Program} {f : FuncId} {args : Array Value} {pre : List Asrt} {post : Value → List Asrt → Prop} (h : Trip P f args pre post) (is : List Nat) {l F : List Asrt} {K : Value → WP} (hp : Wk.front is l = pre ++ F)
    (hk : ∀ v l', post v l' → Tr (l' ++ F) (K v)) : Tr l (CallK P f args K) := by
  refine Tr.front is ?_
  rw [hp]
  exact h F K hk
end Go.Wk
namespace Go.Wk
open Go
def fldB (P : Program) (T f : Nat) : Option Nat := match P.underlying T with
  | some (.struct fs) => match fs[f]? with
    | some fd => match P.info? fd.type with
      | some i => if i.size = 0 then none else some fd.offset
      | none => none
    | none => none
  | _ => none
def scalB (P : Program) (T : Nat) : Bool := (match P.underlying T with
  | some (.struct _) | some (.array _ _) | none => false
  | _ => true) && (match P.info? T with
  | some i => i.size == 1
  | none => false)
def aggB (P : Program) (T : Nat) : Option Nat := match P.underlying T with
  | some (.struct _) | some (.array _ _) => (P.info? T).map (·.size)
  | _ => none
def slcB (P : Program) (T : Nat) : Option Nat := match P.underlying T with
  | some (.slice e) => (P.info? e).map (·.size)
  | _ => none
def zeroB (P : Program) (T : Nat) : Option Value := (P.info? T).bind (·.zero)
class Fld (P : Program) (T f : Nat) (off : outParam Nat) : Prop where
  h : fldB P T f = some off
class Scal (P : Program) (T : Nat) : Prop where
  h : scalB P T = true
class Agg (P : Program) (T : Nat) (n : outParam Nat) : Prop where
  h : aggB P T = some n
class Siz (P : Program) (T : Nat) (n : outParam Nat) : Prop where
  h : (P.info? T).map (·.size) = some n
class Slc (P : Program) (T : Nat) (n : outParam Nat) : Prop where
  h : slcB P T = some n
class Zer (P : Program) (T : Nat) (v : outParam Value) : Prop where
  h : zeroB P T = some v
class PtrT (P : Program) (T : Nat) : Prop where
  h : ∃ e, P.underlying T = some (.pointer e)
class BoolT (P : Program) (T : Nat) : Prop where
  h : P.underlying T = some .bool
class IsFn (P : Program) (f : Nat) : Prop where
  h : isFnB P f = true
class MapT (P : Program) (T : Nat) (ze : outParam Value) : Prop where
  h : ∃ key elem, P.underlying T = some (.map key elem) ∧ P.underlying key = some (.int .i64) ∧ (P.info? elem).bind (·.zero) = some ze
def mapB (P : Program) (T : Nat) : Option Value := match P.underlying T with
  | some (.map key elem) => match P.underlying key with
    | some (.int .i64) => (P.info? elem).bind (·.zero)
    | _ => none
  | _ => none
theorem mapB_spec {P : Program} {T : Nat} {ze : Value} (h : mapB P T = some ze) : MapT P T ze := ⟨by
  unfold mapB at h
  split at h
  · rename_i key elem hu
    split at h
    · rename_i hk; exact ⟨key, elem, hu, hk, h⟩
    · cases h
  · cases h⟩
def placesB (P : Program) (T : Nat) : Option (List (Nat × Nat)) := match P.underlying T with
  | some (.struct fs) => fs.toList.mapM fun f => (P.info? f.type).map fun i => (f.offset, i.size)
  | _ => none
class BuildT (P : Program) (T : Nat) (pl : outParam (List (Nat × Nat))) (z : outParam (List Value)) : Prop where
  h : placesB P T = some pl ∧ zeroB P T = some (.agg z.toArray)
section
variable {P : Program}
class SlcT (P : Program) (T : Nat) (e bytes : outParam Nat) (n : outParam Nat) (z : outParam (List Value)) : Prop where
  h : P.underlying T = some (.slice e) ∧ ∃ i, P.info? e = some i ∧ i.size = n ∧ i.bytes = bytes ∧ i.zero.map Value.cells = some z.toArray
def slcTB (P : Program) (T : Nat) : Option (Nat × Nat × Nat × List Value) := match P.underlying T with
  | some (.slice e) => match P.info? e with
    | some i => match i.zero with
      | some z => some (e, i.bytes, i.size, z.cells.toList)
      | none => none
    | none => none
  | _ => none
theorem slcTB_spec {T e bytes n : Nat} {z : List Value} (h : slcTB P T = some (e, bytes, n, z)) : SlcT P T e bytes n z := ⟨by
  unfold slcTB at h
  split at h
  · rename_i e' hu
    split at h
    · rename_i i hi
      split at h
      · rename_i z' hz
        simp only [Option.some.injEq, Prod.mk.injEq] at h
        obtain ⟨rfl, rfl, rfl, rfl⟩ := h
        exact ⟨hu, i, hi, rfl, rfl, by rw [hz]; simp⟩
      · cases h
    · cases h
  · cases h⟩
end
end Go.Wk
namespace Go.Wk
open Go
section
variable {P : Program}
theorem fldB_spec {T f : Nat} {off : Nat} (h : fldB P T f = some off) (a : Addr) (w : World) : (Instr.fieldAt T (.pointer (some a)) f).run P w = .ok (.pointer (some (a.add off))) w := by
  unfold fldB at h
  split at h
  · rename_i fs hu
    split at h
    · rename_i fd hf
      split at h
      · rename_i i hi
        split at h
        · cases h
        · rename_i hz
          cases h
          simp [Instr.fieldAt, run_underlying hu, hf, Instr.sureAddr, fieldPlace, sizeOf, typeInfo, hi, hz]
      · cases h
    · cases h
  · cases h
theorem scalB_spec {T : Nat} (h : scalB P T = true) : (∀ w, (isAgg T).run P w = .ok false w) ∧ ∀ w, (sizeOf T).run P w = .ok 1 w := by
  unfold scalB at h
  simp only [Bool.and_eq_true] at h
  obtain ⟨h1, h2⟩ := h
  constructor
  · intro w
    split at h1
    · cases h1
    · cases h1
    · cases h1
    · rename_i d hd1 hd2 hd3
      cases hu : P.underlying T with
      | none => exact absurd hu hd3
      | some d =>
        cases d <;> simp [isAgg, run_underlying hu] <;> first
          | exact absurd hu (hd1 _)
          | exact absurd hu (hd2 _ _)
  · intro w
    split at h2
    · rename_i i hi
      simp only [beq_iff_eq] at h2
      simp [sizeOf, typeInfo, hi, h2]
    · cases h2
theorem aggB_spec {T n : Nat} (h : aggB P T = some n) : (∀ w, (isAgg T).run P w = .ok true w) ∧ ∀ w, (sizeOf T).run P w = .ok n w := by
  unfold aggB at h
  split at h
  · rename_i fs hu
    cases hi : P.info? T with
    | none => rw [hi] at h; cases h
    | some i =>
      rw [hi] at h
      simp only [Option.map_some, Option.some.injEq] at h
      exact ⟨fun w => by simp [isAgg, run_underlying hu], fun w => by simp [sizeOf, typeInfo, hi, h]⟩
  · rename_i len el hu
    cases hi : P.info? T with
    | none => rw [hi] at h; cases h
    | some i =>
      rw [hi] at h
      simp only [Option.map_some, Option.some.injEq] at h
      exact ⟨fun w => by simp [isAgg, run_underlying hu], fun w => by simp [sizeOf, typeInfo, hi, h]⟩
  · cases h
theorem GenK_of {s : Sem Value} {v : Value} (h : ∀ w, s.run P w = .ok v w) (K : Value → WP) : GenK P s K = K v := by
  funext w
  unfold GenK
  rw [h w]
  apply propext
  constructor
  · rintro ⟨v', h1, h2⟩; cases h1; exact h2
  · intro h; exact ⟨v, rfl, h⟩
theorem add_mk (b o n : Nat) : (⟨b, o, none⟩ : Addr).add n = ⟨b, o + n, none⟩ := by
  unfold Addr.add
  split
  · rename_i h; subst h; rfl
  · rfl
theorem FnK_c {f : FuncId} [h : IsFn P f] {args : Array Value} {K : Value → WP} : FnK P f args K = CallK P f args K := FnK_eq h.h
theorem GenK_fieldAt {T f off : Nat} [h : Fld P T f off] {b o : Nat} {K : Value → WP} : GenK P (Instr.fieldAt T (.pointer (some ⟨b, o, none⟩)) f) K = K (.pointer (some ⟨b, o + off, none⟩)) := by
  rw [← add_mk]; exact GenK_of (fun w => fldB_spec h.h _ w) K
theorem run_equalIn {T : Nat} {a b : Value} {w : World} {r : Bool} (h : ∀ d, (Op.equalIn (d + 1) T a b).run P w = .ok r w) : (Op.equal T a b).run P w = .ok r w := h 9999
theorem BinK_ptr {T : Nat} [hT : PtrT P T] {x y : Operand} {a b : Option Addr} {K : Value → WP} (hab : a = none ∨ b = none) : BinK P .eql T x y (.pointer a) (.pointer b) K = K (.bool (a.isNone && b.isNone)) := by
  obtain ⟨e, he⟩ := hT.h
  refine GenK_of (fun w => ?_) K
  have : (Op.equal T (.pointer a) (.pointer b)).run P w = .ok (a.isNone && b.isNone) w := run_equalIn fun d => by
    rcases hab with rfl | rfl
    · simp [Op.equalIn, run_underlying he]
    · cases a <;> simp [Op.equalIn, run_underlying he]
  simp [eqGuard, binOp, this]
theorem BinK_ptr1 {T : Nat} [hT : PtrT P T] {x y : Operand} {a : Addr} {K : Value → WP} : BinK P .eql T x y (.pointer (some a)) (.pointer none) K = K (.bool false) := BinK_ptr (.inr rfl)
theorem BinK_ptr0 {T : Nat} [hT : PtrT P T] {x y : Operand} {K : Value → WP} : BinK P .eql T x y (.pointer none) (.pointer none) K = K (.bool true) := BinK_ptr (.inr rfl)
theorem BinK_nptr {T : Nat} [hT : PtrT P T] {x y : Operand} {a b : Option Addr} {K : Value → WP} (hab : a = none ∨ b = none) : BinK P .neq T x y (.pointer a) (.pointer b) K = K (.bool (!(a.isNone && b.isNone))) := by
  obtain ⟨e, he⟩ := hT.h
  refine GenK_of (fun w => ?_) K
  have : (Op.equal T (.pointer a) (.pointer b)).run P w = .ok (a.isNone && b.isNone) w := run_equalIn fun d => by
    rcases hab with rfl | rfl
    · simp [Op.equalIn, run_underlying he]
    · cases a <;> simp [Op.equalIn, run_underlying he]
  simp [eqGuard, binOp, this]
theorem BinK_nptr1 {T : Nat} [hT : PtrT P T] {x y : Operand} {a : Addr} {K : Value → WP} : BinK P .neq T x y (.pointer (some a)) (.pointer none) K = K (.bool true) := BinK_nptr (.inr rfl)
theorem BinK_nptr0 {T : Nat} [hT : PtrT P T] {x y : Operand} {K : Value → WP} : BinK P .neq T x y (.pointer none) (.pointer none) K = K (.bool false) := BinK_nptr (.inr rfl)
theorem BinK_beq {T : Nat} [hT : BoolT P T] {x y : Operand} {a b : Bool} {K : Value → WP} : BinK P .eql T x y (.bool a) (.bool b) K = K (.bool (a == b)) := by
  refine GenK_of (fun w => ?_) K
  have : (Op.equal T (.bool a) (.bool b)).run P w = .ok (a == b) w := run_equalIn fun d => by simp [Op.equalIn, run_underlying hT.h]
  simp [eqGuard, binOp, this]
theorem BinK_bne {T : Nat} [hT : BoolT P T] {x y : Operand} {a b : Bool} {K : Value → WP} : BinK P .neq T x y (.bool a) (.bool b) K = K (.bool (!(a == b))) := by
  refine GenK_of (fun w => ?_) K
  have : (Op.equal T (.bool a) (.bool b)).run P w = .ok (a == b) w := run_equalIn fun d => by simp [Op.equalIn, run_underlying hT.h]
  simp [eqGuard, binOp, this]
def Cell (l : List Asrt) (a : Addr) (v : Value) : Prop := ∀ w, Sat w l → w.cell? a = some v
theorem Cell.next {A : Asrt} {l : List Asrt} {a : Addr} {v : Value} (h : Cell l a v) : Cell (A :: l) a v := fun w hw => h w hw.tail
theorem Cell.blk {b off : Nat} {cs : List Value} {T : Nat} {fr : Nat × Nat} {l : List Asrt} {v : Value} (h : cs[off]? = some v) : Cell (blk b (.cells cs.toArray T fr) :: l) ⟨b, off, none⟩ v := fun w hw => by
  simp [World.cell?, hw.get, h]
theorem Tr.load1 {T : Nat} {a : Addr} {v : Value} {l : List Asrt} {K : Value → WP} [hT : Scal P T] (hc : Cell l a v) (hx : Tr l (K v)) : Tr l (GenK P (Instr.loadAt T (.pointer (some a))) K) := fun w hw => by
  refine ⟨v, ?_, hx w hw⟩
  simp [Instr.loadAt, Instr.sureAddr, loadVar, (scalB_spec hT.h).1, hc w hw]
def CellsAt (l : List Asrt) (a : Addr) (n : Nat) (vs : List Value) : Prop := vs.length = n ∧ ∀ w, Sat w l → ∀ i, (h : i < vs.length) → w.cell? (a.add i) = some vs[i]
theorem CellsAt.next {A : Asrt} {l : List Asrt} {a : Addr} {n : Nat} {vs : List Value} (h : CellsAt l a n vs) : CellsAt (A :: l) a n vs := ⟨h.1, fun w hw => h.2 w hw.tail⟩
theorem CellsAt.blk {b off : Nat} {cs : List Value} {T : Nat} {fr : Nat × Nat} {l : List Asrt} {vs : List Value} {n : Nat} (h : (cs.drop off).take n = vs) (hl : vs.length = n) : CellsAt (blk b (.cells cs.toArray T fr) :: l) ⟨b, off, none⟩ n vs := ⟨hl, fun w hw i hi => by
  subst h
  rw [add_mk]
  have h2 : off + i < cs.length := by simp at hi; omega
  simp [World.cell?, hw.get, h2]⟩
theorem CellsAt.blk0 {b : Nat} {cs : List Value} {T : Nat} {fr : Nat × Nat} {l : List Asrt} {n : Nat} (hl : cs.length = n) : CellsAt (Wk.blk b (.cells cs.toArray T fr) :: l) ⟨b, 0, none⟩ n cs := CellsAt.blk (by rw [List.drop_zero, ← hl, List.take_length]) hl
theorem run_loadCellsFrom {w : World} {a : Addr} : ∀ (vs : List Value) (i : Nat) (acc : Array Value), (∀ j, (h : j < vs.length) → w.cell? (a.add (i + j)) = some vs[j]) →
    (loadCellsFrom a i vs.length acc).run P w = .ok (acc ++ vs.toArray) w
  | [], i, acc, _ => by simp [loadCellsFrom]
  | v :: vs, i, acc, h => by
    have h0 := h 0 (by simp)
    simp only [Nat.add_zero, List.getElem_cons_zero] at h0
    have ih := run_loadCellsFrom (w := w) (a := a) vs (i + 1) (acc.push v) (fun j hj => by
      have := h (j + 1) (by simp; omega)
      simp only [List.getElem_cons_succ] at this
      rw [show i + 1 + j = i + (j + 1) by omega]; exact this)
    simp only [List.length_cons, loadCellsFrom, Sem.run_bind, run_load, h0, Result.andThen_ok, ih]
    simp
theorem Tr.loadN {T n : Nat} {a : Addr} {vs : List Value} {l : List Asrt} {K : Value → WP} [hT : Agg P T n] (hc0 : CellsAt l a n vs) (hx : Tr l (K (.agg vs.toArray))) : Tr l (GenK P (Instr.loadAt T (.pointer (some a))) K) := fun w hw => by
  obtain ⟨hn, hc⟩ := hc0
  refine ⟨.agg vs.toArray, ?_, hx w hw⟩
  have := run_loadCellsFrom (P := P) (w := w) (a := a) vs 0 #[] (fun j hj => by rw [Nat.zero_add]; exact hc w hw j hj)
  rw [hn] at this
  simp [Instr.loadAt, Instr.sureAddr, loadVar, (aggB_spec hT.h).1, (aggB_spec hT.h).2, loadCells, this]
def Upd (l : List Asrt) (b : Nat) (o o' : Obj) (l' : List Asrt) : Prop := ∃ F : List Asrt, l.Perm (blk b o :: F) ∧ l'.Perm (blk b o' :: F)
theorem Upd.here {b : Nat} {o o' : Obj} {l : List Asrt} : Upd (Wk.blk b o :: l) b o o' (Wk.blk b o' :: l) := ⟨l, .refl _, .refl _⟩
theorem Upd.next {A : Asrt} {b : Nat} {o o' : Obj} {l l' : List Asrt} (h : Upd l b o o' l') : Upd (A :: l) b o o' (A :: l') := by
  obtain ⟨F, h1, h2⟩ := h
  exact ⟨A :: F, (h1.cons A).trans (List.Perm.swap _ _ _), (h2.cons A).trans (List.Perm.swap _ _ _)⟩
theorem Upd.get {l l' : List Asrt} {b : Nat} {o o' : Obj} (h : Upd l b o o' l') {w : World} (hw : Sat w l) : w.heap[b]? = some o := by
  obtain ⟨F, h1, _⟩ := h
  exact (hw.perm h1).get
theorem Upd.put {l l' : List Asrt} {b : Nat} {o o' : Obj} (h : Upd l b o o' l') {w w' : World} (hw : Sat w l) (hh : w'.heap = w.heap.setIfInBounds b o') (hs : Same w w') : Sat w' l' := by
  obtain ⟨F, h1, h2⟩ := h
  exact ((hw.perm h1).put hh hs).perm h2.symm
theorem heap_setCell {w : World} {b off : Nat} {v : Value} {cs : Array Value} {T : Nat} {fr : Nat × Nat} (h : w.heap[b]? = some (.cells cs T fr)) :
    (w.setCell ⟨b, off, none⟩ v).heap = w.heap.setIfInBounds b (.cells (cs.setIfInBounds off v) T fr) := by
  have hb : b < w.heap.size := (Array.getElem?_eq_some_iff.1 h).1
  have hg : w.heap[b] = .cells cs T fr := (Array.getElem?_eq_some_iff.1 h).2
  apply Array.ext
  · simp [World.setCell]
  · intro i h1 h2
    simp only [World.setCell, Array.getElem_modify, Option.isSome_none, Bool.false_eq_true, if_false]
    rw [Array.getElem_setIfInBounds]
    · split
      · rename_i he; subst he; rw [hg]
      · rfl
def setL : List Value → Nat → List Value → List Value
  | l, _, [] => l
  | l, off, v :: vs => setL (l.set off v) (off + 1) vs
theorem setL_length : ∀ (l : List Value) (off : Nat) (vs : List Value), (setL l off vs).length = l.length
  | _, _, [] => rfl
  | l, off, v :: vs => by simp [setL, setL_length]
theorem run_storeCells {T : Nat} : ∀ (vs : List Value) (cs : List Value) (b off i : Nat) (l l' : List Asrt) (w : World), (∀ v ∈ vs, v.oneCell' = true) → off + i + vs.length ≤ cs.length →
    Sat w l → Upd l b (.cells cs.toArray T (0, 0)) (.cells (setL cs (off + i) vs).toArray T (0, 0)) l' → ∃ w', (storeCells ⟨b, off, none⟩ vs i).run P w = .ok () w' ∧ Sat w' l'
  | [], cs, b, off, i, l, l', w, _, _, hw, hu => by
    refine ⟨w, by simp [storeCells], ?_⟩
    simp only [setL] at hu
    obtain ⟨F, h1, h2⟩ := hu
    exact hw.perm (h1.trans h2.symm)
  | v :: vs, cs, b, off, i, l, l', w, hv, hl, hw, hu => by
    simp only [List.length_cons] at hl
    have hg := hu.get hw
    have hlt : off + i < cs.length := by omega
    have hcell : w.cell? ⟨b, off + i, none⟩ = some (cs[off + i]) := by simp [World.cell?, hg, hlt]
    have hfr : w.frozen? ⟨b, off + i, none⟩ = false := by simp [World.frozen?, hg]
    obtain ⟨F, h1, h2⟩ := hu
    have hu1 : Upd l b (.cells cs.toArray T (0, 0)) (.cells (cs.set (off + i) v).toArray T (0, 0)) (blk b (.cells (cs.set (off + i) v).toArray T (0, 0)) :: F) := ⟨F, h1, .refl _⟩
    have hsat : Sat (w.setCell ⟨b, off + i, none⟩ v) (blk b (.cells (cs.set (off + i) v).toArray T (0, 0)) :: F) := hu1.put hw (by rw [heap_setCell hg]; simp) ⟨rfl, rfl, rfl⟩
    have ih := run_storeCells vs (cs.set (off + i) v) b off (i + 1) _ l' _ (fun u hu => hv u (by simp [hu])) (by simp; omega) hsat ⟨F, .refl _, by
      simp only [setL] at h2
      rw [show off + (i + 1) = off + i + 1 by omega]; exact h2⟩
    obtain ⟨w', hr, hs⟩ := ih
    refine ⟨w', ?_, hs⟩
    simp only [storeCells, Sem.run_bind, add_mk, run_store P w _ v _ (hv v (by simp)), hcell, hfr, Bool.false_eq_true, if_false, Result.andThen_ok, hr]
theorem Tr.store {T T' n : Nat} {b off : Nat} {cs : List Value} {v : Value} {vs : List Value} {l l' : List Asrt} {K : Value → WP} [hT0 : Siz P T n] (hvs : v.cells = vs.toArray) (hn : vs.length = n) (h1 : vs.all Value.oneCell' = true)
    (hu : Upd l b (.cells cs.toArray T' (0, 0)) (.cells (setL cs off vs).toArray T' (0, 0)) l') (hl : off + n ≤ cs.length) (hx : Tr l' (K undef)) : Tr l (EUnitK P (Instr.storeAt T (.pointer (some ⟨b, off, none⟩)) v) K) := fun w hw => by
  have hT := hT0.h
  obtain ⟨w', hr, hs⟩ := run_storeCells (P := P) (T := T') vs cs b off 0 l l' w (fun v hv => by simpa using List.all_eq_true.1 h1 v hv) (by omega) hw hu
  refine ⟨w', ?_, hx w' hs⟩
  cases hi : P.info? T with
  | none => rw [hi] at hT; cases hT
  | some i =>
    rw [hi] at hT
    simp only [Option.map_some, Option.some.injEq] at hT
    simp [Instr.storeAt, Instr.sureAddr, storeVar, sizeOf, typeInfo, hi, hT, hvs, hn, hr]
theorem setL_whole : ∀ (vs cs pre : List Value), vs.length = cs.length → setL (pre ++ cs) pre.length vs = pre ++ vs
  | [], cs, pre, h => by
    have : cs = [] := List.eq_nil_of_length_eq_zero h.symm
    subst this; rfl
  | v :: vs, [], pre, h => by simp at h
  | v :: vs, c :: cs, pre, h => by
    have ih := setL_whole vs cs (pre ++ [v]) (by simpa using h)
    simp only [setL]
    rw [show (pre ++ c :: cs).set pre.length v = (pre ++ [v]) ++ cs by simp]
    rw [show pre.length + 1 = (pre ++ [v]).length by simp, ih]
    simp
theorem Tr.storeW {T T' n : Nat} {b : Nat} {cs : List Value} {v : Value} {vs : List Value} {l l' : List Asrt} {K : Value → WP} [hT0 : Siz P T n] (hvs : v.cells = vs.toArray) (hn : vs.length = n) (h1 : vs.all Value.oneCell' = true)
    (hu : Upd l b (.cells cs.toArray T' (0, 0)) (.cells vs.toArray T' (0, 0)) l') (hl : cs.length = n) (hx : Tr l' (K undef)) : Tr l (EUnitK P (Instr.storeAt T (.pointer (some ⟨b, 0, none⟩)) v) K) :=
  Tr.store hvs hn h1 (by
    have := setL_whole vs cs [] (by omega)
    simp only [List.nil_append, List.length_nil] at this
    rw [this]; exact hu) (by omega) hx
theorem Tr.box {T : Nat} {v : Value} {cs : List Value} {l : List Asrt} {K : Value → WP} (hv : v.cells = cs.toArray) (hx : ∀ b, Tr (blk b (.cells cs.toArray T (0, 0)) :: l) (K (.pointer (some ⟨b, 0, none⟩)))) : Tr l (EGenK P (Instr.box T v) K) := fun w hw =>
  ⟨_, w.alloc (.cells cs.toArray T (0, 0)), by simp [Instr.box, newVar, newRow, hv], hx w.heap.size _ (hw.alloc _)⟩
theorem Tr.alloc {T : Nat} {z : Value} [h : Zer P T z] {cs : List Value} {l : List Asrt} {K : Value → WP} (hv : z.cells = cs.toArray) (hx : ∀ b, Tr (blk b (.cells cs.toArray T (0, 0)) :: l) (K (.pointer (some ⟨b, 0, none⟩)))) : Tr l (EGenK P (Instr.alloc T true (.tuple #[])) K) := fun w hw => by
  refine ⟨_, w.alloc (.cells cs.toArray T (0, 0)), ?_, hx w.heap.size _ (hw.alloc _)⟩
  have hz := h.h
  unfold zeroB at hz
  cases hi : P.info? T with
  | none => rw [hi] at hz; cases hz
  | some i =>
    rw [hi] at hz
    have hz' : i.zero = some z := hz
    simp [Instr.alloc, zeroValue, typeInfo, hi, hz', newVar, newRow, hv]
end
end Go.Wk
namespace Go.Wk
open Go
class En (α : Type) where
  enc : α → List Value
  sz : Nat
  len : ∀ x, (enc x).length = sz
  one : ∀ x, (enc x).all Value.oneCell' = true
  pos : 0 < sz
instance : En Int := ⟨fun n => [.int .i64 n], 1, fun _ => rfl, fun _ => rfl, by decide⟩
instance : En Bool := ⟨fun b => [.bool b], 1, fun _ => rfl, fun _ => rfl, by decide⟩
instance : En UInt8 := ⟨fun b => [.int .u8 b.toNat], 1, fun _ => rfl, fun _ => rfl, by decide⟩
def flat {α : Type} [En α] (xs : List α) : List Value := xs.flatMap En.enc
theorem flat_length {α : Type} [En α] : ∀ (xs : List α), (flat xs).length = xs.length * En.sz α
  | [] => by simp [flat]
  | x :: xs => by
    have ih := flat_length xs
    simp only [flat] at ih
    simp only [flat, List.flatMap_cons, List.length_append, En.len, ih, List.length_cons, Nat.succ_mul]; omega
theorem flat_append {α : Type} [En α] (xs ys : List α) : flat (xs ++ ys) = flat xs ++ flat ys := by simp [flat]
theorem flat_get {α : Type} [En α] : ∀ (xs : List α) (i j : Nat) (x : α), xs[i]? = some x → j < En.sz α → (flat xs)[i * En.sz α + j]? = (En.enc x)[j]?
  | [], _, _, _, h, _ => by simp at h
  | a :: xs, 0, j, x, h, hj => by
    simp only [List.getElem?_cons_zero, Option.some.injEq] at h
    subst h
    simp only [flat, List.flatMap_cons, Nat.zero_mul, Nat.zero_add]
    rw [List.getElem?_append_left (by rw [En.len]; exact hj)]
  | a :: xs, i + 1, j, x, h, hj => by
    simp only [List.getElem?_cons_succ] at h
    have ih := flat_get xs i j x h hj
    simp only [flat] at ih ⊢
    simp only [List.flatMap_cons]
    rw [List.getElem?_append_right (by rw [En.len, Nat.succ_mul]; omega), En.len, ← ih]
    congr 1
    rw [Nat.succ_mul]; omega
theorem flat_one {α : Type} [En α] (xs : List α) : (flat xs).all Value.oneCell' = true := by
  simp only [flat, List.all_flatMap]
  exact List.all_eq_true.2 fun x _ => En.one x
def Nilv (ro : Bool) (v : Value) : Prop := v = .slice none 0 0 ∨ (ro = true ∧ ∃ a : Addr, v = .slice (some a) 0 0)
theorem Nilv.slice {ro : Bool} {v : Value} (h : Nilv ro v) : ∃ a, v = .slice a 0 0 := by
  rcases h with rfl | ⟨_, a, rfl⟩
  · exact ⟨none, rfl⟩
  · exact ⟨some a, rfl⟩
theorem Nilv.own {v : Value} (h : Nilv false v) : v = .slice none 0 0 := by
  rcases h with rfl | ⟨h, _⟩
  · rfl
  · cases h
def sl (ro : Bool) {α : Type} [En α] (v : Value) (xs : List α) : Asrt where
  h R S w := (Nilv ro v ∧ xs = []) ∨ ∃ (b off cap : Nat) (cs : List Value) (T : Nat) (fr : Nat × Nat), v = .slice (some ⟨b, off, none⟩) xs.length cap ∧ (xs.length ≤ cap ∧ xs.length ≤ 9223372036854775807) ∧
    (if ro then R b else S b ∧ fr = (0, 0) ∧ off + cap * En.sz α ≤ cs.length) ∧ w.heap[b]? = some (.cells cs.toArray T fr) ∧ (cs.drop off).take (xs.length * En.sz α) = flat xs
  loc := by
    intro R R' S S' w w' hR hS hk _ h
    rcases h with h | ⟨b, off, cap, cs, T, fr, h1, h2, h3, h4, h5⟩
    · exact .inl h
    · refine .inr ⟨b, off, cap, cs, T, fr, h1, h2, ?_, ?_, h5⟩
      · cases ro
        · exact ⟨hS b h3.1, h3.2⟩
        · exact hR b h3
      · cases ro
        · rw [hk b (.inr h3.1)]; exact h4
        · rw [hk b (.inl h3)]; exact h4
theorem dup_sl {α : Type} [En α] (v : Value) (xs : List α) : Dup (sl true v xs) := fun h => h
def sb (v : Value) : Addr := match v with
  | .slice (some a) _ _ => a
  | _ => ⟨0, 0, none⟩
def Has (l : List Asrt) (A : Asrt) : Prop := ∀ (w : World) (R U : Blks), (∀ b, R b → b < w.heap.size) → (∀ b, R b → U b) → SatR R w U l → ∃ S, A.h R S w
theorem Has.here {A : Asrt} {l : List Asrt} : Has (A :: l) A := fun _ _ _ _ _ ⟨S, _, h, _⟩ => ⟨S, h⟩
theorem Has.next {A B : Asrt} {l : List Asrt} (h : Has l A) : Has (B :: l) A := fun w R _ h1 h2 ⟨_, _, _, h3⟩ => h w R _ h1 (fun b hb => .inl (h2 b hb)) h3
theorem Has.sat {A : Asrt} {l : List Asrt} (h : Has l A) {w : World} (hw : Sat w l) : ∃ R S, A.h R S w := by
  obtain ⟨R, h1, h2⟩ := hw
  obtain ⟨S, hA⟩ := h w R R h1 (fun _ h => h) h2
  exact ⟨R, S, hA⟩
theorem Has.add {A : Asrt} {l : List Asrt} (h : Has l A) (hd : Dup A) {w : World} (hw : Sat w l) : Sat w (A :: l) := by
  obtain ⟨R, h1, h2⟩ := hw
  obtain ⟨S, hA⟩ := h w R R h1 (fun _ h => h) h2
  exact ⟨R, h1, fun _ => False, fun _ h => h.elim, hd hA, h2.weaken fun _ hb => hb.elim id False.elim⟩
theorem Has.imps {A : Asrt} {l : List Asrt} (h : Has l A) (hd : Dup A) : Imp l (A :: l) := fun w R U h1 hu h2 => let ⟨_, hA⟩ := h w R U h1 hu h2; ⟨fun _ => False, fun _ h => h.elim, hd hA, h2.weaken fun _ hb => hb.elim id False.elim⟩
theorem Has.imp {A B : Asrt} {l : List Asrt} (h : Has l A) (hi : ∀ {R S w}, A.h R S w → ∃ S', B.h R S' w) : Has l B := fun w R U h1 h2 h3 => let ⟨_, hA⟩ := h w R U h1 h2 h3; hi hA
section
variable {P : Program} {α : Type} [En α] {ro : Bool} {v : Value} {xs : List α} {l : List Asrt}
theorem sl_cases {R S : Blks} {w : World} (h : (sl ro v xs).h R S w) : (Nilv ro v ∧ xs = []) ∨ ∃ (b off cap : Nat) (cs : List Value) (T : Nat) (fr : Nat × Nat), v = .slice (some ⟨b, off, none⟩) xs.length cap ∧ xs.length ≤ cap ∧ w.heap[b]? = some (.cells cs.toArray T fr) ∧
    (cs.drop off).take (xs.length * En.sz α) = flat xs := by
  rcases h with h | ⟨b, off, cap, cs, T, fr, h1, h2, _, h4, h5⟩
  · exact .inl h
  · exact .inr ⟨b, off, cap, cs, T, fr, h1, h2.1, h4, h5⟩
theorem sl_bound (hs : Has l (sl ro v xs)) {w : World} (hw : Sat w l) : xs.length ≤ 9223372036854775807 := by
  obtain ⟨R, S, h⟩ := hs.sat hw
  rcases h with ⟨_, rfl⟩ | ⟨_, _, _, _, _, _, _, h2, _⟩
  · simp
  · exact h2.2
theorem Tr.bound {X : WP} (hs : Has l (sl ro v xs)) (h : xs.length ≤ 9223372036854775807 → Tr l X) : Tr l X := fun w hw => h (sl_bound hs hw) w hw
theorem sl_slen (hs : Has l (sl ro v xs)) {w : World} (hw : Sat w l) : ∃ a c, v = .slice a xs.length c := by
  obtain ⟨R, S, h⟩ := hs.sat hw
  rcases sl_cases h with ⟨hn, rfl⟩ | ⟨b, off, cap, cs, T0, fr, rfl, _⟩
  · obtain ⟨a, rfl⟩ := hn.slice
    exact ⟨a, 0, rfl⟩
  · exact ⟨_, _, rfl⟩
theorem und_slc {T n : Nat} (h : slcB P T = some n) : ∃ e i, P.underlying T = some (.slice e) ∧ P.info? e = some i ∧ i.size = n := by
  unfold slcB at h
  split at h
  · rename_i e hu
    cases hi : P.info? e with
    | none => rw [hi] at h; cases h
    | some i => rw [hi] at h; simp at h; exact ⟨e, i, hu, hi, h⟩
  · cases h
theorem Tr.len {T ty : Nat} {n : Nat} [hT : Slc P T n] {K : Value → WP} (hs : Has l (sl ro v xs)) (hx : Tr l (K (.int .i64 xs.length))) : Tr l (GenK P (Builtin.len_ #[T] ty #[v]) K) := fun w hw => by
  obtain ⟨e, i, hu, _, _⟩ := und_slc hT.h
  obtain ⟨a, c, hv⟩ := sl_slen hs hw
  refine ⟨_, ?_, hx w hw⟩
  simp [Builtin.len_, run_underlying hu, hv, goInt]
theorem Tr.index {T n : Nat} [hT0 : Slc P T n] {i : Int} {k : IntKind} {K : Value → WP} (hs : Has l (sl ro v xs)) (hne : n = En.sz α) (h0 : 0 ≤ i) (hi : i < xs.length)
    (hx : Tr l (K (.pointer (some ⟨(sb v).block, (sb v).off + i.toNat * En.sz α, none⟩)))) : Tr l (GenK P (Instr.indexAt T v (.int k i)) K) := fun w hw => by
  subst hne
  have hT := hT0
  obtain ⟨e, inf, hu, hin, hsz⟩ := und_slc hT.h
  obtain ⟨R, S, h⟩ := hs.sat hw
  rcases sl_cases h with ⟨_, rfl⟩ | ⟨b, off, cap, cs, T0, fr, rfl, _⟩
  · simp at hi; omega
  · refine ⟨_, ?_, hx w hw⟩
    simp [Instr.indexAt, asIntOf, run_underlying hu, h0, hi, sizeOf, typeInfo, hin, hsz, sb, add_mk]
theorem Cell.slj {i j : Nat} {x : α} {u : Value} (hs : Has l (sl ro v xs)) (hi : xs[i]? = some x) (hj : (En.enc x)[j]? = some u) : Cell l ⟨(sb v).block, (sb v).off + i * En.sz α + j, none⟩ u := fun w hw => by
  obtain ⟨R, S, h⟩ := hs.sat hw
  have hil : i < xs.length := (List.getElem?_eq_some_iff.1 hi).1
  have hjl : j < En.sz α := by rw [← En.len x]; exact (List.getElem?_eq_some_iff.1 hj).1
  rcases sl_cases h with ⟨_, rfl⟩ | ⟨b, off, cap, cs, T0, fr, rfl, h2, h4, h5⟩
  · simp at hil
  · simp only [World.cell?, sb, h4, Option.isSome_none, Bool.false_eq_true, if_false, List.getElem?_toArray]
    have h6 := flat_get xs i j x hi hjl
    have h7 : i * En.sz α + j < xs.length * En.sz α := by
      have : (i + 1) * En.sz α ≤ xs.length * En.sz α := Nat.mul_le_mul_right _ hil
      rw [Nat.succ_mul] at this; omega
    rw [← h5, List.getElem?_take_of_lt h7, List.getElem?_drop, hj] at h6
    rw [Nat.add_assoc]; exact h6
theorem Cell.sl0 {i : Nat} {x : α} {u : Value} (hs : Has l (sl ro v xs)) (hi : xs[i]? = some x) (hj : (En.enc x)[0]? = some u) : Cell l ⟨(sb v).block, (sb v).off + i * En.sz α, none⟩ u := Cell.slj (j := 0) hs hi hj
theorem CellsAt.slj {i j : Nat} {x : α} {us : List Value} {n : Nat} (hs : Has l (sl ro v xs)) (hi : xs[i]? = some x) (hj : ((En.enc x).drop j).take n = us) (hl : us.length = n) : CellsAt l ⟨(sb v).block, (sb v).off + i * En.sz α + j, none⟩ n us := ⟨hl, fun w hw m hm => by
  subst hj
  have h2 : j + m < (En.enc x).length := by simp at hm; omega
  have := Cell.slj (j := j + m) (u := (En.enc x)[j + m]) hs hi (by simp [h2]) w hw
  rw [add_mk, Nat.add_assoc, this]
  simp⟩
theorem CellsAt.sl0 {i : Nat} {x : α} {n : Nat} (hs : Has l (sl ro v xs)) (hi : xs[i]? = some x) (hl : (En.enc x).length = n) : CellsAt l ⟨(sb v).block, (sb v).off + i * En.sz α, none⟩ n (En.enc x) :=
  CellsAt.slj (j := 0) hs hi (by rw [List.drop_zero, ← hl, List.take_length]) hl
end
def fillL (pl : List (Nat × Nat)) : List Value → List (Nat × Value) → Option (List Value)
  | cs, [] => some cs
  | cs, (i, v) :: r => match pl[i]? with
    | none => none
    | some (off, size) => if v.cells.size = size ∧ off + size ≤ cs.length then fillL pl (setL cs off v.cells.toList) r else none
theorem foldl_setL (off : Nat) : ∀ (vs : List Value) (i : Nat) (cs : List Value), (vs.zipIdx i).foldl (fun (cs : Array Value) (x : Value × Nat) => cs.setIfInBounds (off + x.2) x.1) cs.toArray = (setL cs (off + i) vs).toArray
  | [], _, _ => rfl
  | v :: vs, i, cs => by
    simp only [List.zipIdx_cons, List.foldl_cons, setL]
    rw [show cs.toArray.setIfInBounds (off + i) v = (cs.set (off + i) v).toArray by simp, foldl_setL off vs (i + 1) (cs.set (off + i) v)]
    rfl
theorem fill_eq (pl : List (Nat × Nat)) : ∀ (parts : List (Nat × Value)) (cs cs' : List Value), fillL pl cs parts = some cs' → Instr.fill (fun i => pl[i]?) cs.toArray parts = some cs'.toArray
  | [], cs, cs', h => by simp only [fillL, Option.some.injEq] at h; subst h; rfl
  | (i, v) :: r, cs, cs', h => by
    simp only [fillL] at h
    simp only [Instr.fill]
    cases hp : pl[i]? with
    | none => rw [hp] at h; cases h
    | some os =>
      obtain ⟨off, size⟩ := os
      rw [hp] at h
      simp only at h ⊢
      split at h
      · rename_i hc
        have hc2 : (decide (v.cells.size ≠ size) || decide (off + v.cells.size > cs.toArray.size)) = false := by
          simp [hc.1, hc.2]
        rw [hc2]
        simp only [Bool.false_eq_true, if_false]
        have := fill_eq pl r _ cs' h
        rw [← this]
        congr 1
        rw [← Array.foldl_toList, Array.toList_zipIdx]
        have := foldl_setL off v.cells.toList 0 cs
        rw [Nat.add_zero] at this
        exact this
      · cases h
section
variable {P : Program} {l : List Asrt}
theorem Tr.build {T : Nat} {parts : Array (Nat × Value)} {pl : List (Nat × Nat)} {z cs : List Value} [hT : BuildT P T pl z] {K : Value → WP} (h : fillL pl z parts.toList = some cs) (hx : Tr l (K (.agg cs.toArray))) : Tr l (GenK P (Instr.build T parts) K) := fun w hw => by
  refine ⟨_, ?_, hx w hw⟩
  obtain ⟨h1, h2⟩ := hT.h
  unfold placesB at h1
  split at h1
  · rename_i fs hu
    have hz : (zeroValue T).run P w = .ok (.agg z.toArray) w := by
      unfold zeroB at h2
      cases hi : P.info? T with
      | none => rw [hi] at h2; cases h2
      | some i =>
        rw [hi] at h2
        have hz' : i.zero = some (.agg z.toArray) := h2
        simp [zeroValue, typeInfo, hi, hz']
    have hm : ∀ (fl : List Field) (pl : List (Nat × Nat)), (fl.mapM fun f => (P.info? f.type).map fun i => (f.offset, i.size)) = some pl → (fl.mapM fun f => (do pure (f.offset, ← sizeOf f.type) : Sem (Nat × Nat))).run P w = .ok pl w := by
      intro fl
      induction fl with
      | nil => intro pl h; simp at h; subst h; simp
      | cons f fl ih =>
        intro pl h
        simp only [List.mapM_cons] at h ⊢
        cases hi : P.info? f.type with
        | none => rw [hi] at h; simp at h
        | some i =>
          rw [hi] at h
          simp only [Option.map_some, Option.bind_eq_bind, Option.bind_some] at h
          cases hr : fl.mapM (fun f => (P.info? f.type).map fun i => (f.offset, i.size)) with
          | none => rw [hr] at h; simp at h
          | some pl' =>
            rw [hr] at h
            simp at h
            subst h
            have := ih pl' hr
            have hsz : (sizeOf f.type).run P w = .ok i.size w := by simp [sizeOf, typeInfo, hi]
            generalize sizeOf f.type = sf at hsz
            generalize (fl.mapM fun f => (do pure (f.offset, ← sizeOf f.type) : Sem (Nat × Nat))) = sm at this
            simp [hsz, this]
    have hm' := hm fs.toList pl h1
    unfold Instr.build
    simp only [Sem.run_bind, hz, Result.andThen_ok, run_underlying hu, Value.cells]
    have hma : (fs.mapM fun f => (do pure (f.offset, ← sizeOf f.type) : Sem (Nat × Nat))).run P w = .ok pl.toArray w := by
      rw [← Array.toArray_toList (xs := fs), List.mapM_toArray]
      simp only [Sem.run_map, hm', Result.andThen_ok]
    generalize (fs.mapM fun f => (do pure (f.offset, ← sizeOf f.type) : Sem (Nat × Nat))) = sm at hma
    rw [hma]
    simp only [Result.andThen_ok]
    have hf := fill_eq pl parts.toList z cs h
    have : (fun (x : Nat) => pl.toArray[x]?) = fun (i : Nat) => pl[i]? := by funext i; simp
    rw [this, hf]
    simp
  · cases h1
end
end Go.Wk
