/- Separation: what a list of assertions says of a world; triples; the walk's steps over them. -/
import Derived.Test.YtgkhjgpgdfbdpaaGreatDoorWk2
namespace Go.Wk
open Go

abbrev Blks := Nat → Prop
/-- The world but for the heap and the count of draws. -/
def Same (w w' : World) : Prop := w'.os = w.os ∧ w'.output = w.output ∧ w'.tape = w.tape
theorem Same.refl (w : World) : Same w w := ⟨rfl, rfl, rfl⟩
theorem Same.trans {a b c : World} (h : Same a b) (h' : Same b c) : Same a c := ⟨h'.1.trans h.1, h'.2.1.trans h.2.1, h'.2.2.trans h.2.2⟩

/-- An assertion: of the blocks that are for reading (R), of those that it owns (S), of a world. -/
structure Asrt where
  h : Blks → Blks → World → Prop
  loc : ∀ {R R' S S' : Blks} {w w' : World}, (∀ b, R b → R' b) → (∀ b, S b → S' b) → (∀ b, R b ∨ S b → w'.heap[b]? = w.heap[b]?) → Same w w' → h R S w → h R' S' w'

def SatR (R : Blks) (w : World) : Blks → List Asrt → Prop
  | _, [] => True
  | U, A :: l => ∃ S : Blks, (∀ b, S b → b < w.heap.size ∧ ¬ U b) ∧ A.h R S w ∧ SatR R w (fun b => U b ∨ S b) l
def Sat (w : World) (l : List Asrt) : Prop := ∃ R : Blks, (∀ b, R b → b < w.heap.size) ∧ SatR R w R l

theorem SatR.weaken {R : Blks} {w : World} : ∀ {l : List Asrt} {U U' : Blks}, (∀ b, U' b → U b) → SatR R w U l → SatR R w U' l
  | [], _, _, _, _ => trivial
  | _ :: _, _, _, hu, ⟨S, h1, h2, h3⟩ => ⟨S, fun b hb => ⟨(h1 b hb).1, fun h => (h1 b hb).2 (hu b h)⟩, h2, h3.weaken fun b hb => hb.imp (hu b) id⟩

/-- What a step of the world leaves alone. -/
theorem SatR.frame {R R' : Blks} {w w' : World} (hR : ∀ b, R b → R' b) (hsz : w.heap.size ≤ w'.heap.size) (hs : Same w w') (hRk : ∀ b, R b → w'.heap[b]? = w.heap[b]?) :
    ∀ {l : List Asrt} {U U' : Blks}, (∀ b, ¬ U b → b < w.heap.size → w'.heap[b]? = w.heap[b]? ∧ ¬ U' b) → SatR R w U l → SatR R' w' U' l
  | [], _, _, _, _ => trivial
  | A :: _, _, _, hu, ⟨S, h1, h2, h3⟩ =>
    ⟨S, fun b hb => ⟨Nat.lt_of_lt_of_le (h1 b hb).1 hsz, (hu b (h1 b hb).2 (h1 b hb).1).2⟩,
      A.loc hR (fun _ h => h) (fun b hb => hb.elim (hRk b) (fun hb => (hu b (h1 b hb).2 (h1 b hb).1).1)) hs h2,
      h3.frame hR hsz hs hRk (fun b hn hl => ⟨(hu b (fun h => hn (.inl h)) hl).1, fun h => h.elim (hu b (fun h => hn (.inl h)) hl).2 (fun h => hn (.inr h))⟩)⟩

theorem SatR.swap {R : Blks} {w : World} {U : Blks} {A B : Asrt} {l : List Asrt} : SatR R w U (A :: B :: l) → SatR R w U (B :: A :: l)
  | ⟨S, h1, h2, S', h3, h4, h5⟩ =>
    ⟨S', fun b hb => ⟨(h3 b hb).1, fun h => (h3 b hb).2 (.inl h)⟩, h4, S, fun b hb => ⟨(h1 b hb).1, fun h => h.elim (h1 b hb).2 (fun h => (h3 b h).2 (.inr hb))⟩, h2,
      h5.weaken fun _b hb => hb.elim (fun h => h.elim (fun h => .inl (.inl h)) .inr) (fun h => .inl (.inr h))⟩

theorem SatR.perm {R : Blks} {w : World} {l l' : List Asrt} (h : l.Perm l') : ∀ {U : Blks}, SatR R w U l → SatR R w U l' := by
  induction h with
  | nil => exact fun h => h
  | cons x _ ih => exact fun ⟨S, h1, h2, h3⟩ => ⟨S, h1, h2, ih h3⟩
  | swap x y l => exact fun h => SatR.swap h
  | trans _ _ ih1 ih2 => exact fun h => ih2 (ih1 h)
theorem Sat.perm {w : World} {l l' : List Asrt} (h : l.Perm l') : Sat w l → Sat w l' := fun ⟨R, h1, h2⟩ => ⟨R, h1, h2.perm h⟩
theorem Sat.tail {w : World} {A : Asrt} {l : List Asrt} : Sat w (A :: l) → Sat w l := fun ⟨R, h1, _, _, _, h3⟩ => ⟨R, h1, h3.weaken fun _ hb => .inl hb⟩

/-- What follows, whatever lies beside it. -/
def Imp (l l' : List Asrt) : Prop := ∀ (w : World) (R U : Blks), (∀ b, R b → b < w.heap.size) → (∀ b, R b → U b) → SatR R w U l → SatR R w U l'
theorem Imp.refl {l : List Asrt} : Imp l l := fun _ _ _ _ _ h => h
theorem Imp.trans {l l' l2 : List Asrt} (h : Imp l l') (h2 : Imp l' l2) : Imp l l2 := fun w R U h1 hu hs => h2 w R U h1 hu (h w R U h1 hu hs)
theorem Imp.of_perm {l l' : List Asrt} (h : l.Perm l') : Imp l l' := fun _ _ _ _ _ hs => hs.perm h
theorem Imp.cons {A : Asrt} {l l' : List Asrt} (h : Imp l l') : Imp (A :: l) (A :: l') := fun w R _ h1 hu ⟨S, a, b, c⟩ => ⟨S, a, b, h w R _ h1 (fun x hx => .inl (hu x hx)) c⟩
theorem Imp.sat {l l' : List Asrt} (h : Imp l l') {w : World} : Sat w l → Sat w l' := fun ⟨R, h1, h2⟩ => ⟨R, h1, h w R R h1 (fun _ h => h) h2⟩
theorem Imp.tail {A : Asrt} {l : List Asrt} : Imp (A :: l) l := fun _ _ _ _ _ ⟨_, _, _, h⟩ => h.weaken fun _ hb => .inl hb
theorem Imp.swap {A B : Asrt} {l : List Asrt} : Imp (A :: B :: l) (B :: A :: l) := fun _ _ _ _ _ h => h.swap

/-- Entailment at the head. -/
def Ent (A : Asrt) (l : List Asrt) : Prop := ∀ w F, Sat w (A :: F) → Sat w (l ++ F)

/-! ### connectives -/
def sep (A B : Asrt) : Asrt where
  h R S w := ∃ S1 S2 : Blks, (∀ b, S1 b → S b) ∧ (∀ b, S2 b → S b) ∧ (∀ b, S1 b → ¬ S2 b) ∧ A.h R S1 w ∧ B.h R S2 w
  loc := fun hR hS hk hs ⟨S1, S2, h1, h2, h3, h4, h5⟩ => ⟨S1, S2, fun b h => hS b (h1 b h), fun b h => hS b (h2 b h), h3,
    A.loc hR (fun _ h => h) (fun b hb => hk b (hb.imp id (h1 b))) hs h4, B.loc hR (fun _ h => h) (fun b hb => hk b (hb.imp id (h2 b))) hs h5⟩
def ex {α : Type} (f : α → Asrt) : Asrt where
  h R S w := ∃ x, (f x).h R S w
  loc := fun hR hS hk hs ⟨x, h⟩ => ⟨x, (f x).loc hR hS hk hs h⟩
def fact (p : Prop) : Asrt where
  h _ _ _ := p
  loc := fun _ _ _ _ h => h
/-- It owns the block, which holds this. -/
def blk (b : Nat) (o : Obj) : Asrt where
  h _ S w := S b ∧ w.heap[b]? = some o
  loc := fun _ hS hk _ h => ⟨hS b h.1, by rw [hk b (.inr h.1)]; exact h.2⟩
/-- The block is for reading, and holds this. -/
def rob (b : Nat) (o : Obj) : Asrt where
  h R _ w := R b ∧ w.heap[b]? = some o
  loc := fun hR _ hk _ h => ⟨hR b h.1, by rw [hk b (.inl h.1)]; exact h.2⟩
/-- All that was there at first is for reading; the outside is as it was. -/
def old (W : World) : Asrt where
  h R _ w := Same W w ∧ W.heap.size ≤ w.heap.size ∧ ∀ b, b < W.heap.size → R b ∧ w.heap[b]? = W.heap[b]?
  loc := by
    intro R R' S S' w w' hR _ hk hs h
    refine ⟨h.1.trans hs, ?_, fun b hb => ⟨hR b (h.2.2 b hb).1, by rw [hk b (.inl (h.2.2 b hb).1)]; exact (h.2.2 b hb).2⟩⟩
    rcases Nat.lt_or_ge w'.heap.size W.heap.size with hlt | hge
    · have := hk w'.heap.size (.inl (h.2.2 _ hlt).1)
      have h2 := (h.2.2 _ hlt).2
      rw [this.symm] at h2
      have hx : W.heap[w'.heap.size]? = some (W.heap[w'.heap.size]) := by simp [hlt]
      have hy : w'.heap[w'.heap.size]? = none := by simp
      rw [hx, hy] at h2; cases h2
    · exact hge

theorem SatR.sep_iff {R U : Blks} {w : World} {A B : Asrt} {l : List Asrt} : SatR R w U (sep A B :: l) ↔ SatR R w U (A :: B :: l) := by
  constructor
  · rintro ⟨S, h2, ⟨S1, S2, a, b, c, d, e⟩, h3⟩
    refine ⟨S1, fun x hx => h2 x (a x hx), d, S2, fun x hx => ⟨(h2 x (b x hx)).1, fun h => h.elim (h2 x (b x hx)).2 (fun h => c x h hx)⟩, e, h3.weaken fun x hx => ?_⟩
    rcases hx with (h | h) | h
    · exact .inl h
    · exact .inr (a x h)
    · exact .inr (b x h)
  · rintro ⟨S1, h2, d, S2, h3, e, h4⟩
    exact ⟨fun b => S1 b ∨ S2 b, fun b hb => hb.elim (h2 b) (fun h => ⟨(h3 b h).1, fun h' => (h3 b h).2 (.inl h')⟩), ⟨S1, S2, fun _ => .inl, fun _ => .inr, fun b h h' => (h3 b h').2 (.inr h), d, e⟩,
      h4.weaken fun b hb => hb.elim (fun h => .inl (.inl h)) (fun h => h.elim (fun h => .inl (.inr h)) .inr)⟩
theorem Imp.sep {A B : Asrt} {l : List Asrt} : Imp (Wk.sep A B :: l) (A :: B :: l) := fun _ _ _ _ _ => SatR.sep_iff.1
theorem Imp.sepI {A B : Asrt} {l : List Asrt} : Imp (A :: B :: l) (Wk.sep A B :: l) := fun _ _ _ _ _ => SatR.sep_iff.2
theorem Imp.exI {α : Type} {f : α → Asrt} {l : List Asrt} (x : α) : Imp (f x :: l) (ex f :: l) := fun _ _ _ _ _ ⟨S, h1, h2, h3⟩ => ⟨S, h1, ⟨x, h2⟩, h3⟩
theorem Imp.factI {p : Prop} {l : List Asrt} (hp : p) : Imp l (fact p :: l) := fun _ _ _ _ _ h => ⟨fun _ => False, fun _ h => h.elim, hp, h.weaken fun _ hb => hb.elim id False.elim⟩
theorem Sat.sep_iff {w : World} {A B : Asrt} {l : List Asrt} : Sat w (sep A B :: l) ↔ Sat w (A :: B :: l) := by
  constructor
  · rintro ⟨R, h1, S, h2, ⟨S1, S2, a, b, c, d, e⟩, h3⟩
    refine ⟨R, h1, S1, fun x hx => h2 x (a x hx), d, S2, fun x hx => ⟨(h2 x (b x hx)).1, fun h => h.elim (h2 x (b x hx)).2 (fun h => c x h hx)⟩, e, h3.weaken fun x hx => ?_⟩
    rcases hx with (h | h) | h
    · exact .inl h
    · exact .inr (a x h)
    · exact .inr (b x h)
  · rintro ⟨R, h1, S1, h2, d, S2, h3, e, h4⟩
    exact ⟨R, h1, fun b => S1 b ∨ S2 b, fun b hb => hb.elim (h2 b) (fun h => ⟨(h3 b h).1, fun h' => (h3 b h).2 (.inl h')⟩), ⟨S1, S2, fun _ => .inl, fun _ => .inr, fun b h h' => (h3 b h').2 (.inr h), d, e⟩,
      h4.weaken fun b hb => hb.elim (fun h => .inl (.inl h)) (fun h => h.elim (fun h => .inl (.inr h)) .inr)⟩
theorem Sat.ex_iff {w : World} {α : Type} {f : α → Asrt} {l : List Asrt} : Sat w (ex f :: l) ↔ ∃ x, Sat w (f x :: l) :=
  ⟨fun ⟨R, h1, S, h2, ⟨x, h⟩, h3⟩ => ⟨x, R, h1, S, h2, h, h3⟩, fun ⟨x, R, h1, S, h2, h, h3⟩ => ⟨R, h1, S, h2, ⟨x, h⟩, h3⟩⟩
theorem Sat.fact_iff {w : World} {p : Prop} {l : List Asrt} : Sat w (fact p :: l) ↔ p ∧ Sat w l :=
  ⟨fun h => ⟨let ⟨_, _, _, _, h, _⟩ := h; h, h.tail⟩, fun ⟨hp, R, h1, h2⟩ => ⟨R, h1, fun _ => False, fun _ h => h.elim, hp, h2.weaken fun _ hb => hb.elim id False.elim⟩⟩

/-- An assertion that owns nothing may be taken twice. -/
def Dup (A : Asrt) : Prop := ∀ {R S w}, A.h R S w → A.h R (fun _ => False) w
theorem Sat.dup {w : World} {A : Asrt} {l : List Asrt} (hd : Dup A) : Sat w (A :: l) → Sat w (A :: A :: l) := fun ⟨R, h1, S, h2, h, h3⟩ =>
  ⟨R, h1, S, h2, h, fun _ => False, fun _ h => h.elim, hd h, h3.weaken fun _ hb => hb.elim id False.elim⟩
theorem dup_rob (b : Nat) (o : Obj) : Dup (rob b o) := fun h => h
theorem dup_old (W : World) : Dup (old W) := fun h => h
theorem dup_fact (p : Prop) : Dup (fact p) := fun h => h

/-! ### the world's steps -/
theorem heap_push_lt {w : World} {o : Obj} {b : Nat} (h : b < w.heap.size) : (w.alloc o).heap[b]? = w.heap[b]? := by
  show (w.heap.push o)[b]? = _
  rw [Array.getElem?_push, if_neg (Nat.ne_of_lt h)]
theorem Sat.lt {w : World} {b : Nat} {o : Obj} {l : List Asrt} : Sat w (blk b o :: l) → b < w.heap.size := fun ⟨_, _, _, h2, h, _⟩ => (h2 b h.1).1
theorem Sat.get {w : World} {b : Nat} {o : Obj} {l : List Asrt} : Sat w (blk b o :: l) → w.heap[b]? = some o := fun ⟨_, _, _, _, h, _⟩ => h.2
theorem Sat.getro {w : World} {b : Nat} {o : Obj} {l : List Asrt} : Sat w (rob b o :: l) → w.heap[b]? = some o := fun ⟨_, _, _, _, h, _⟩ => h.2

theorem Sat.alloc {w : World} {l : List Asrt} (o : Obj) : Sat w l → Sat (w.alloc o) (blk w.heap.size o :: l) := fun ⟨R, h1, h2⟩ => by
  refine ⟨R, fun b hb => by simp; have := h1 b hb; omega, fun b => b = w.heap.size, fun b hb => ?_, ⟨rfl, by show (w.heap.push o)[w.heap.size]? = _; simp⟩, ?_⟩
  · subst hb; exact ⟨by simp, fun h => absurd (h1 _ h) (by omega)⟩
  · refine SatR.frame (w := w) (w' := w.alloc o) (fun _ h => h) (by simp) ⟨rfl, rfl, rfl⟩ (fun b hb => heap_push_lt (h1 b hb)) (fun b hn hl => ⟨heap_push_lt hl, fun h => ?_⟩) h2
    rcases h with h | h
    · exact hn h
    · omega
theorem Sat.drew {w : World} {l : List Asrt} : Sat w l → Sat w.drew l := fun ⟨R, h1, h2⟩ =>
  ⟨R, h1, SatR.frame (w := w) (w' := w.drew) (fun _ h => h) (Nat.le_refl _) ⟨rfl, rfl, rfl⟩ (fun _ _ => rfl) (fun _ hn _ => ⟨rfl, hn⟩) h2⟩
/-- The block holds something else. -/
theorem Sat.put {w w' : World} {b : Nat} {o o' : Obj} {l : List Asrt} (hw : w'.heap = w.heap.setIfInBounds b o') (hs : Same w w') : Sat w (blk b o :: l) → Sat w' (blk b o' :: l) := fun ⟨R, h1, S, h2, h, h3⟩ => by
  have hsz : w'.heap.size = w.heap.size := by rw [hw]; simp
  have hne : ∀ x, x ≠ b → w'.heap[x]? = w.heap[x]? := fun x hx => by rw [hw, Array.getElem?_setIfInBounds_ne (Ne.symm hx)]
  refine ⟨R, fun x hx => by rw [hsz]; exact h1 x hx, S, fun x hx => by rw [hsz]; exact h2 x hx, ⟨h.1, ?_⟩, ?_⟩
  · rw [hw]
    have := (h2 b h.1).1
    simp [this]
  · refine h3.frame (fun _ h => h) (by omega) hs (fun x hx => hne x fun e => ?_) (fun x hn hl => ⟨hne x fun e => ?_, hn⟩)
    · subst e; exact (h2 x h.1).2 hx
    · subst e; exact hn (.inr h.1)
/-- A block that is owned is from now on for reading. -/
theorem Sat.freeze {w : World} {b : Nat} {o : Obj} {l : List Asrt} : Sat w (blk b o :: l) → Sat w (rob b o :: l) := fun ⟨R, h1, S, h2, h, h3⟩ => by
  refine ⟨fun x => R x ∨ x = b, fun x hx => hx.elim (h1 x) (fun e => e ▸ (h2 b h.1).1), fun _ => False, fun _ h => h.elim, ⟨.inr rfl, h.2⟩, ?_⟩
  refine h3.frame (fun _ => .inl) (Nat.le_refl _) (Same.refl w) (fun _ _ => rfl) (fun x hn _ => ⟨rfl, fun hx => ?_⟩)
  rcases hx with (hx | hx) | hx
  · exact hn (.inl hx)
  · exact hn (.inr (hx ▸ h.1))
  · exact hx

/-! ### what the walk shows: in every world of which the list holds -/
def Tr (l : List Asrt) (X : WP) : Prop := ∀ w, Sat w l → X w

theorem Tr.imp {l l' : List Asrt} {X : WP} (h : Imp l l') (hx : Tr l' X) : Tr l X := fun w hw => hx w (h.sat hw)
theorem Tr.perm {l l' : List Asrt} {X : WP} (h : l.Perm l') (hx : Tr l' X) : Tr l X := fun w hw => hx w (hw.perm h)
def front : List Nat → List Asrt → List Asrt
  | [], l => l
  | i :: is, l => match l[i]? with
    | some A => A :: front is (l.eraseIdx i)
    | none => front is l
theorem perm_eraseIdx {α : Type} : ∀ (l : List α) (i : Nat) (A : α), l[i]? = some A → l.Perm (A :: l.eraseIdx i)
  | [], _, _, h => by simp at h
  | a :: l, 0, A, h => by simp at h; subst h; exact .refl _
  | a :: l, i + 1, A, h => by
    simp only [List.getElem?_cons_succ] at h
    simp only [List.eraseIdx_cons_succ]
    exact (List.Perm.cons a (perm_eraseIdx l i A h)).trans (List.Perm.swap A a _)
theorem front_perm : ∀ (is : List Nat) (l : List Asrt), l.Perm (front is l)
  | [], l => .refl l
  | i :: is, l => by
    unfold front
    cases h : l[i]? with
    | none => exact front_perm is l
    | some A => exact (perm_eraseIdx l i A h).trans ((front_perm is _).cons A)
/-- The elements with these numbers first (each number counted in what is left). -/
theorem Tr.front (is : List Nat) {l : List Asrt} {X : WP} (hx : Tr (front is l) X) : Tr l X := hx.perm (front_perm is l)
theorem Tr.drop {A : Asrt} {l : List Asrt} {X : WP} (hx : Tr l X) : Tr (A :: l) X := fun w hw => hx w hw.tail
theorem Tr.dup {A : Asrt} {l : List Asrt} {X : WP} (hd : Dup A) (hx : Tr (A :: A :: l) X) : Tr (A :: l) X := fun w hw => hx w (hw.dup hd)
theorem Tr.sep_iff {A B : Asrt} {l : List Asrt} {X : WP} : Tr (sep A B :: l) X ↔ Tr (A :: B :: l) X := ⟨fun h w hw => h w (Sat.sep_iff.2 hw), fun h w hw => h w (Sat.sep_iff.1 hw)⟩
theorem Tr.ex_iff {α : Type} {f : α → Asrt} {l : List Asrt} {X : WP} : Tr (ex f :: l) X ↔ ∀ x, Tr (f x :: l) X :=
  ⟨fun h x w hw => h w (Sat.ex_iff.2 ⟨x, hw⟩), fun h w hw => let ⟨x, hw⟩ := Sat.ex_iff.1 hw; h x w hw⟩
theorem Tr.fact_iff {p : Prop} {l : List Asrt} {X : WP} : Tr (fact p :: l) X ↔ (p → Tr l X) :=
  ⟨fun h hp w hw => h w (Sat.fact_iff.2 ⟨hp, hw⟩), fun h w hw => let ⟨hp, hw⟩ := Sat.fact_iff.1 hw; h hp w hw⟩
theorem Tr.ent {A : Asrt} {l' l : List Asrt} {X : WP} (h : Ent A l') (hx : Tr (l' ++ l) X) : Tr (A :: l) X := fun w hw => hx w (h w l hw)
theorem Tr.freeze {b : Nat} {o : Obj} {l : List Asrt} {X : WP} (hx : Tr (rob b o :: l) X) : Tr (blk b o :: l) X := fun w hw => hx w hw.freeze

/-! ### triples -/
/-- A call with these arguments: what it wants, what it gives. -/
def Trip (P : Program) (f : FuncId) (args : Array Value) (pre : List Asrt) (post : Value → List Asrt → Prop) : Prop :=
  ∀ (F : List Asrt) (K : Value → WP), (∀ v l', post v l' → Tr (l' ++ F) (K v)) → Tr (pre ++ F) (CallK P f args K)

theorem Tr.fn {P : Program} {f : FuncId} {args : Array Value} {l : List Asrt} {K : Value → WP} (hf : isFnB P f = true) (h : Tr l (CallK P f args K)) : Tr l (FnK P f args K) := fun w hw => ⟨hf, h w hw⟩
theorem Tr.enter {P : Program} (hm : P.follows .mixedOrders = true) {f : FuncId} {fn : Func} {c : Code} {T : Nat → Plan} (F : FnOK P f fn c T) {args : List Value} {rs : List ResultVar} {K : Value → WP} {l : List Asrt} (hrs : fn.results = rs.toArray) (ha : args.length ≤ fn.ntmps)
    (h : ∀ u, Tr l (W P T c (endL P rs K) (argE u 0 args))) : Tr l (CallK P f args.toArray K) := fun w hw => CallK_enter hm F hrs ha fun u => h u w hw
theorem Tr.drewK {l : List Asrt} {X : WP} (h : Tr l X) : Tr l (drewK X) := fun _w hw => h _ hw.drew
theorem Tr.brK {l : List Asrt} {X Y : WP} (h1 : Tr l X) (h2 : Tr l Y) : Tr l (BrK X Y) := fun _w hw => ⟨h1 _ hw, h2 _ hw⟩
section
variable {P : Program} {T : Nat → Plan} {b want : Bool} {l : List Asrt} {x y : Code} {Q : Post} {e : Env} {o : Op} {ty : TypeId} {K : Value → WP} {k : Env → WP} {d : Option Tmp} {ops : Array Oper} {cs : List Nat}
theorem Tr.condT (hb : b = true) (h : Tr l (W P T x Q e)) : Tr l (CondW P T (.bool b) x y Q e) := by subst hb; exact h
theorem Tr.condF (hb : b = false) (h : Tr l (W P T y Q e)) : Tr l (CondW P T (.bool b) x y Q e) := by subst hb; exact h
theorem Tr.cond (hA : b = true → Tr l (W P T x Q e)) (hB : b = false → Tr l (W P T y Q e)) : Tr l (CondW P T (.bool b) x y Q e) := by
  cases b
  · exact hB rfl
  · exact hA rfl
/-- A test, parted ahead: b becomes true or false wherever it stands. -/
theorem Tr.split (b : Bool) {X : Bool → WP} (hA : b = true → Tr l (X true)) (hB : b = false → Tr l (X false)) : Tr l (X b) := by
  cases b
  · exact hB rfl
  · exact hA rfl
theorem Tr.guardT (hA : b = true → Tr l (opX P o ty e K)) (hB : b = false → Tr l (k (put e d undef))) : Tr l (GuardO P (.bool b) true o ty e K k d) := by
  cases b
  · exact hB rfl
  · exact hA rfl
theorem Tr.guardF (hA : b = false → Tr l (opX P o ty e K)) (hB : b = true → Tr l (k (put e d undef))) : Tr l (GuardO P (.bool b) false o ty e K k d) := by
  cases b
  · exact hA rfl
  · exact hB rfl
theorem Tr.guardCT (hA : b = true → Tr l (opX P o ty e K)) (hB : b = false → Tr l (chkR P ops cs k e)) : Tr l (GuardC P (.bool b) true o ty e K ops cs k) := by
  cases b
  · exact hB rfl
  · exact hA rfl
theorem Tr.guardCF (hA : b = false → Tr l (opX P o ty e K)) (hB : b = true → Tr l (chkR P ops cs k e)) : Tr l (GuardC P (.bool b) false o ty e K ops cs k) := by
  cases b
  · exact hA rfl
  · exact hB rfl
theorem Tr.eqR {v u : Value} (h : v = u) (hx : Tr l (chkR P ops cs k e)) : Tr l (eqR P ops cs k e u v) := fun w hw => ⟨h, hx w hw⟩
end

/-- A loop, by a state of one's own: V: the slots' values; I: what is known; L: what holds. -/
def upds (e : Env) : List Nat → List Value → Env
  | s :: ss, v :: vs => upds (upd e s v) ss vs
  | _, _ => e
theorem upds_self (e : Env) : ∀ (ss : List Nat), upds e ss (ss.map e) = e
  | [] => rfl
  | s :: ss => by
    simp only [List.map_cons, upds]
    have : upd e s (e s) = e := by funext j; simp [upd]; intro h; rw [h]
    rw [this]; exact upds_self e ss
theorem upds_cons {e : Env} {s : Nat} {v : Value} {ss : List Nat} {vs : List Value} : upds e (s :: ss) (v :: vs) = upds (upd e s v) ss vs := nr rfl
theorem upds_nil {e : Env} {vs : List Value} : upds e [] vs = e := nr rfl
/-- What is asked at the end of a round. -/
def againK {α : Type} (keep : List Nat) (kv : List Value) (slots : List Nat) (V : α → List Value) (I : α → Prop) (μ : α → Nat) (L : α → List Asrt) (F : List Asrt) (a : α) (e' : Env) : WP :=
  fun w' => keep.map e' = kv ∧ ∃ a', I a' ∧ μ a' < μ a ∧ slots.map e' = V a' ∧ Sat w' (L a' ++ F)
theorem Tr.loop {α : Type} (slots keep : List Nat) (V : α → List Value) (L : α → List Asrt) (I : α → Prop) (μ : α → Nat) {B : Post → Env → WP} {Q : Post} {e : Env} {l F : List Asrt} (a0 : α)
    (h0 : I a0) (hV : slots.map e = V a0) (hL : ∀ w, Sat w l → Sat w (L a0 ++ F))
    (hr : ∀ a u, I a → Tr (L a ++ F) (B (seqK (againK keep (keep.map e) slots V I μ L F a) Q) (upds (upds u keep (keep.map e)) slots (V a)))) :
    Tr l (LoopW B Q e) := by
  intro w hw
  refine ⟨fun n e' w' => ∃ a, μ a = n ∧ keep.map e' = keep.map e ∧ I a ∧ slots.map e' = V a ∧ Sat w' (L a ++ F), ⟨_, a0, rfl, rfl, h0, hV, hL w hw⟩, fun n e1 w1 h1 => ?_⟩
  obtain ⟨a, rfl, hk, hi, hv, hs⟩ := h1
  have henv : e1 = upds (upds e1 keep (keep.map e)) slots (V a) := by
    rw [← hk, upds_self, ← hv, upds_self]
  have := hr a e1 hi w1 hs
  rw [← henv] at this
  have hfun : (fun (e' : Env) w' => ∃ m, m < μ a ∧ ∃ a', μ a' = m ∧ keep.map e' = keep.map e ∧ I a' ∧ slots.map e' = V a' ∧ Sat w' (L a' ++ F)) = againK keep (keep.map e) slots V I μ L F a := by
    funext e' w'
    apply propext
    constructor
    · rintro ⟨m, hm, a', rfl, h1, h2, h3, h4⟩; exact ⟨h1, a', h2, hm, h3, h4⟩
    · rintro ⟨h1, a', h2, hm, h3, h4⟩; exact ⟨_, hm, a', rfl, h1, h2, h3, h4⟩
  rw [hfun]
  exact this
/-- The end of a round. -/
theorem Tr.again {α : Type} {slots keep : List Nat} {V : α → List Value} {L : α → List Asrt} {I : α → Prop} {μ : α → Nat} {a : α} {kv : List Value} {e' : Env} {l F : List Asrt} (a' : α)
    (hk : keep.map e' = kv) (hV : slots.map e' = V a') (hI : I a') (hμ : μ a' < μ a) (hL : Tr l fun w => Sat w (L a' ++ F)) :
    Tr l (againK keep kv slots V I μ L F a e') := fun w hw => ⟨hk, a', hI, hμ, hV, hL w hw⟩
theorem Tr.mid {l1 C F : List Asrt} {X : WP} (h : Tr (C ++ (l1 ++ F)) X) : Tr (l1 ++ (C ++ F)) X := h.perm (by
  rw [← List.append_assoc, ← List.append_assoc]
  exact List.perm_append_comm.append_right F)
theorem Tr.back {l1 C F : List Asrt} {X : WP} (h : Tr (l1 ++ (C ++ F)) X) : Tr (C ++ (l1 ++ F)) X := Tr.mid (l1 := C) (C := l1) h
theorem Tr.sat_of {l l' : List Asrt} (h : ∀ w, Sat w l → Sat w l') : Tr l fun w => Sat w l' := h
theorem Tr.sat {l : List Asrt} : Tr l fun w => Sat w l := fun _ h => h
/-- A call by its contract; is: which of l its wants are (each counted in what is left). -/
theorem Tr.call {P : Program} {f : FuncId} {args : Array Value} {pre : List Asrt} {post : Value → List Asrt → Prop} (h : Trip P f args pre post) (is : List Nat) {l F : List Asrt} {K : Value → WP} (hp : Wk.front is l = pre ++ F)
    (hk : ∀ v l', post v l' → Tr (l' ++ F) (K v)) : Tr l (CallK P f args K) := by
  refine Tr.front is ?_
  rw [hp]
  exact h F K hk
end Go.Wk
