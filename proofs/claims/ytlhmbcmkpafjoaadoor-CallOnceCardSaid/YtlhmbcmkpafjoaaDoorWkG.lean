/- Families of owned things; what hangs on elements, for reading; searches for them. -/
import Derived.Test.YtlhmbcmkpafjoaaDoorWkT
import Derived.Test.YtlhmbcmkpafjoaaDoorWkD
namespace Go.Wk
open Go

/-! ### families -/
def fam {α : Type} (A : α → Asrt) : List α → Asrt
  | [] => fact True
  | x :: xs => sep (A x) (fam A xs)
section
variable {α : Type} {A : α → Asrt} {l : List Asrt}
theorem fam_nil : Imp l (fam A [] :: l) := Imp.factI trivial
theorem fam_cons {x : α} {xs : List α} : Imp (fam A (x :: xs) :: l) (A x :: fam A xs :: l) := Imp.sep
theorem fam_consI {x : α} {xs : List α} : Imp (A x :: fam A xs :: l) (fam A (x :: xs) :: l) := Imp.sepI
theorem fam_out : ∀ {xs : List α} {i : Nat} {x : α} {l : List Asrt}, xs[i]? = some x → Imp (fam A xs :: l) (A x :: fam A (xs.eraseIdx i) :: l)
  | [], _, _, _, h => by simp at h
  | y :: xs, 0, x, l, h => by
    simp only [List.getElem?_cons_zero, Option.some.injEq] at h
    subst h
    exact fam_cons
  | y :: xs, i + 1, x, l, h => by
    simp only [List.getElem?_cons_succ] at h
    simp only [List.eraseIdx_cons_succ]
    exact Imp.trans fam_cons (Imp.trans Imp.swap (Imp.trans (fam_out h) (Imp.cons (Imp.trans Imp.swap fam_consI))))
theorem fam_in : ∀ {xs : List α} {i : Nat} {x : α} {l : List Asrt}, i < xs.length → Imp (A x :: fam A (xs.eraseIdx i) :: l) (fam A (xs.set i x) :: l)
  | [], _, _, _, h => by simp at h
  | y :: xs, 0, x, l, _ => by
    simp only [List.eraseIdx_cons_zero, List.set_cons_zero]
    exact fam_consI
  | y :: xs, i + 1, x, l, h => by
    simp only [List.eraseIdx_cons_succ, List.set_cons_succ]
    refine Imp.trans (Imp.cons fam_cons) (Imp.trans Imp.swap (Imp.trans (Imp.cons (fam_in (by simpa using h))) fam_consI))
theorem fam_snoc : ∀ {xs : List α} {x : α} {l : List Asrt}, Imp (A x :: fam A xs :: l) (fam A (xs ++ [x]) :: l)
  | [], _, _ => Imp.trans (Imp.cons Imp.tail) (Imp.trans (Imp.trans fam_nil Imp.swap) fam_consI)
  | _ :: _, _, _ => Imp.trans (Imp.cons fam_cons) (Imp.trans Imp.swap (Imp.trans (Imp.cons fam_snoc) fam_consI))
theorem fam_append : ∀ {xs ys : List α} {l : List Asrt}, Imp (fam A xs :: fam A ys :: l) (fam A (xs ++ ys) :: l)
  | [], _, _ => Imp.tail
  | _ :: _, _, _ => Imp.trans fam_cons (Imp.trans (Imp.cons fam_append) fam_consI)
end
theorem TakeA.fam {α : Type} [Inhabited α] {A : α → Asrt} {xs : List α} {k : Int} {l : List Asrt} (h0 : 0 ≤ k) (h1 : k < xs.length) : TakeA (fam A xs :: l) (A (ix xs k)) (fam A (xs.eraseIdx k.toNat) :: l) := fam_out (ix_some h0 h1)
theorem EntR.famSame {α : Type} [Inhabited α] {A : α → Asrt} {xs : List α} {k : Int} {d l l' l2 : List Asrt} (ht : TakeA l (Wk.fam A (xs.eraseIdx k.toNat)) l') (h0 : 0 ≤ k) (h1 : k < xs.length) (h : EntR d l' (A (ix xs k) :: l2)) : EntR d l (Wk.fam A xs :: l2) := by
  have h3 := Imp.trans (Imp.trans ht (Imp.cons h)) Imp.swap
  have h4 := Imp.trans h3 (fam_in (by omega))
  have h5 : xs.set k.toNat (ix xs k) = xs := by
    have := ix_some (xs := xs) h0 h1
    obtain ⟨hlt, he⟩ := List.getElem?_eq_some_iff.1 this
    rw [← he]; simp
  rw [h5] at h4; exact h4
theorem EntR.famSet {α : Type} {A : α → Asrt} {xs : List α} {x : α} {k : Nat} {d l l' l2 : List Asrt} (ht : TakeA l (Wk.fam A (xs.eraseIdx k)) l') (h1 : k < xs.length) (h : EntR d l' (A x :: l2)) : EntR d l (Wk.fam A (xs.set k x) :: l2) :=
  Imp.trans (Imp.trans (Imp.trans ht (Imp.cons h)) Imp.swap) (fam_in h1)
theorem EntR.famSnoc {α : Type} {A : α → Asrt} {xs : List α} {x : α} {d l l' l2 : List Asrt} (ht : TakeA l (Wk.fam A xs) l') (h : EntR d l' (A x :: l2)) : EntR d l (Wk.fam A (xs ++ [x]) :: l2) :=
  Imp.trans (Imp.trans (Imp.trans ht (Imp.cons h)) Imp.swap) fam_snoc
theorem EntR.famNil {α : Type} {A : α → Asrt} {d l l2 : List Asrt} (h : EntR d l l2) : EntR d l (Wk.fam A [] :: l2) := Imp.trans h fam_nil
theorem G.ec {A : Asrt} {d l l2 : List Asrt} (h : EntR d l (A :: l2)) : EntR d l (A :: l2) := h
theorem G.ef {α : Type} {A : α → Asrt} {xs : List α} {d l l2 : List Asrt} (h : EntR d l (Wk.fam A xs :: l2)) : EntR d l (Wk.fam A xs :: l2) := h
theorem TakeA.famNil {α : Type} {A : α → Asrt} {l : List Asrt} : TakeA l (Wk.fam A []) l := fam_nil
theorem TakeA.nilS {α : Type} [En α] {ro : Bool} {l : List Asrt} : TakeA l (sl ro (.slice none 0 0) ([] : List α)) l := fun _ _ _ _ _ h => ⟨fun _ => False, fun _ h => h.elim, .inl ⟨.inl rfl, rfl⟩, h.weaken fun _ hb => hb.elim id False.elim⟩
theorem EntR.nilS {α : Type} [En α] {ro : Bool} {d l l2 : List Asrt} (h : EntR d l l2) : EntR d l (sl ro (.slice none 0 0) ([] : List α) :: l2) := Imp.trans TakeA.nilS (Imp.cons h)
theorem EntR.famApp {α : Type} {A : α → Asrt} {xs ys : List α} {d l l2 : List Asrt} (h : EntR d l (Wk.fam A xs :: Wk.fam A ys :: l2)) : EntR d l (Wk.fam A (xs ++ ys) :: l2) := Imp.trans h fam_append
/-- A thing of a family, taken out ahead of the walk. -/
theorem Tr.famAt {α : Type} [Inhabited α] {A : α → Asrt} {xs : List α} (k : Int) {l l' : List Asrt} {X : WP} (ht : TakeA l (Wk.fam A xs) l') (h0 : 0 ≤ k) (h1 : k < xs.length) (h : Tr (A (ix xs k) :: Wk.fam A (xs.eraseIdx k.toNat) :: l') X) : Tr l X :=
  h.imp (Imp.trans ht (TakeA.fam h0 h1))

/-! ### what hangs on things, for reading -/
/-- The thing that stands where nothing is. -/
class FzD (α : Type) [En α] [Fz α] [Inhabited α] : Prop where
  h : ∀ R w, (Fz.fz (default : α)).h R (fun _ => False) w
instance : FzD Int := ⟨fun _ _ => ⟨by decide, by decide⟩⟩
instance : Inhabited UInt8 := ⟨0⟩
instance : FzD UInt8 := ⟨fun _ _ => trivial⟩
instance : FzD Bool := ⟨fun _ _ => trivial⟩
instance {α : Type} [En α] [Fz α] : FzD (SL α) := ⟨fun _ _ => ⟨fun _ => False, fun _ => False, fun _ h => h, fun _ h => h, fun _ h _ => h, .inl ⟨.inl rfl, rfl⟩, fun x hx => by cases hx⟩⟩
class HasZ {α : Type} [En α] [Fz α] (l : List Asrt) (x : α) : Prop where
  h : Has l (Fz.fz x)
class HasF {α : Type} [En α] [Fz α] (l : List Asrt) (xs : List α) : Prop where
  h : Has l (fzl xs)
section
variable {α : Type} [iE : En α] [iF : Fz α] {l : List Asrt}
theorem hasf_mk {xs : List α} (h : ∀ (w : World) (R U : Blks), (∀ b, R b → b < w.heap.size) → (∀ b, R b → U b) → SatR R w U l → ∀ x ∈ xs, (Fz.fz x).h R (fun _ => False) w) : HasF l xs := ⟨fun w R U h1 h2 h3 => ⟨fun _ => False, h w R U h1 h2 h3⟩⟩
theorem hasf_get {xs : List α} (hf : HasF l xs) {w : World} {R U : Blks} (h1 : ∀ b, R b → b < w.heap.size) (h2 : ∀ b, R b → U b) (h3 : SatR R w U l) : ∀ x ∈ xs, (Fz.fz x).h R (fun _ => False) w := let ⟨_, h⟩ := hf.h w R U h1 h2 h3; h
theorem hasz_get {x : α} (hf : HasZ l x) {w : World} {R U : Blks} (h1 : ∀ b, R b → b < w.heap.size) (h2 : ∀ b, R b → U b) (h3 : SatR R w U l) : (Fz.fz x).h R (fun _ => False) w := let ⟨_, h⟩ := hf.h w R U h1 h2 h3; Fz.dup x h
instance hasz_here {x : α} : HasZ (Fz.fz x :: l) x := ⟨Has.here⟩
instance (priority := 500) hasz_next {x : α} {A : Asrt} [h : HasZ l x] : HasZ (A :: l) x := ⟨h.h.next⟩
instance hasf_here {xs : List α} : HasF (fzl xs :: l) xs := ⟨Has.here⟩
instance (priority := 500) hasf_next {xs : List α} {A : Asrt} [h : HasF l xs] : HasF (A :: l) xs := ⟨h.h.next⟩
instance (priority := 800) hasf_nil : HasF l ([] : List α) := hasf_mk fun _ _ _ _ _ _ x hx => by cases hx
instance (priority := 800) hasf_cons {x : α} {xs : List α} [hz : HasZ l x] [hf : HasF l xs] : HasF l (x :: xs) := hasf_mk fun w R U h1 h2 h3 y hy => by
  rcases List.mem_cons.1 hy with rfl | hy
  · exact hasz_get hz h1 h2 h3
  · exact hasf_get hf h1 h2 h3 y hy
instance (priority := 800) hasf_app {xs ys : List α} [hx : HasF l xs] [hy : HasF l ys] : HasF l (xs ++ ys) := hasf_mk fun w R U h1 h2 h3 y h => by
  rcases List.mem_append.1 h with h | h
  · exact hasf_get hx h1 h2 h3 y h
  · exact hasf_get hy h1 h2 h3 y h
instance (priority := 800) hasf_drop {xs : List α} {n : Nat} [hx : HasF l xs] : HasF l (xs.drop n) := hasf_mk fun _ _ _ h1 h2 h3 y h => hasf_get hx h1 h2 h3 y (List.mem_of_mem_drop h)
instance (priority := 800) hasf_take {xs : List α} {n : Nat} [hx : HasF l xs] : HasF l (xs.take n) := hasf_mk fun _ _ _ h1 h2 h3 y h => hasf_get hx h1 h2 h3 y (List.mem_of_mem_take h)
instance (priority := 800) hasf_tail {xs : List α} [hx : HasF l xs] : HasF l xs.tail := hasf_mk fun _ _ _ h1 h2 h3 y h => hasf_get hx h1 h2 h3 y (List.mem_of_mem_tail h)
instance (priority := 800) hasf_set {xs : List α} {n : Nat} {x : α} [hz : HasZ l x] [hx : HasF l xs] : HasF l (xs.set n x) := hasf_mk fun _ _ _ h1 h2 h3 y h => by
  rcases List.mem_or_eq_of_mem_set h with h | rfl
  · exact hasf_get hx h1 h2 h3 y h
  · exact hasz_get hz h1 h2 h3
instance (priority := 800) hasz_ix [Inhabited α] [hd : FzD α] {xs : List α} {k : Int} [hx : HasF l xs] : HasZ l (ix xs k) := ⟨fun w R U h1 h2 h3 => ⟨fun _ => False, by
  by_cases h : k.toNat < xs.length
  · have : ix xs k = xs[k.toNat] := by simp [ix, h]
    rw [this]; exact hasf_get hx h1 h2 h3 _ (List.getElem_mem h)
  · have : ix xs k = default := by simp [ix, Nat.le_of_not_lt h]
    rw [this]; exact hd.h R w⟩⟩
instance (priority := 800) hasz_def [Inhabited α] [hd : FzD α] : HasZ l (default : α) := ⟨fun w R _ _ _ _ => ⟨fun _ => False, hd.h R w⟩⟩
instance (priority := 800) hasf_rep [Inhabited α] [hd : FzD α] {n : Nat} : HasF l (List.replicate n (default : α)) := hasf_mk fun w R _ _ _ _ y h => by
  rw [(List.mem_replicate.1 h).2]; exact hd.h R w
instance (priority := 800) hasf_sl {x : SL α} [hz : HasZ l x] : HasF l (SL.d x) := hasf_mk fun _ _ _ h1 h2 h3 y hy => fzl_of_fz (hasz_get hz h1 h2 h3) y hy
instance (priority := 800) hass_sl {x : SL α} [hz : HasZ l x] : HasS l (SV.v (SL.s x)) true α iE (SL.d x) := ⟨hz.h.imp fun h => ⟨fun _ => False, sl_of_fz (Fz.dup x h)⟩⟩
theorem hasz_sl {s : SV} {d : List α} (hs : HasS l s.v true α iE d) (hf : HasF l d) : HasZ l (SL.mk s d) := ⟨fun w R U h1 h2 h3 => ⟨fun _ => False, by
  obtain ⟨S, h⟩ := hs.h w R U h1 h2 h3
  exact sepI (dup_sl _ _ h) (hasf_get hf h1 h2 h3)⟩⟩
instance (priority := 700) hasz_mk {s : SV} {d : List α} [hs : HasS l s.v true α iE d] [hf : HasF l d] : HasZ l (SL.mk s d) := hasz_sl hs hf
instance (priority := 400) hasz_eta {x : SL α} [hs : HasS l x.s.v true α iE x.d] [hf : HasF l x.d] : HasZ l x := hasz_sl hs hf
end
instance (priority := 900) hasf_u8 {l : List Asrt} {xs : List UInt8} : HasF l xs := hasf_mk fun _ _ _ _ _ _ _ _ => trivial
instance (priority := 900) hasf_bool {l : List Asrt} {xs : List Bool} : HasF l xs := hasf_mk fun _ _ _ _ _ _ _ _ => trivial
section
variable {α : Type} [iE : En α] {l F l2 : List Asrt} {d : List Asrt}
theorem TakeA.dupS {v : Value} {xs : List α} [hs : HasS l v true α iE xs] : TakeA l (sl true v xs) l := hs.h.imps (dup_sl v xs)
theorem TakeA.dupF [Fz α] {xs : List α} [hs : HasF l xs] : TakeA l (fzl xs) l := hs.h.imps (dup_fzl xs)
theorem TakeA.dupZ [Fz α] {x : α} [hs : HasZ l x] : TakeA l (Fz.fz x) l := hs.h.imps (Fz.dup x)
theorem EntR.dupS {v : Value} {xs : List α} [hs : HasS l v true α iE xs] (h : EntR d l l2) : EntR d l (sl true v xs :: l2) := Imp.trans (hs.h.imps (dup_sl v xs)) (Imp.cons h)
theorem EntR.dupF [Fz α] {xs : List α} [hs : HasF l xs] (h : EntR d l l2) : EntR d l (fzl xs :: l2) := Imp.trans (hs.h.imps (dup_fzl xs)) (Imp.cons h)
theorem EntR.dupZ [Fz α] {x : α} [hs : HasZ l x] (h : EntR d l l2) : EntR d l (Fz.fz x :: l2) := Imp.trans (hs.h.imps (Fz.dup x)) (Imp.cons h)
/-- A slice of one's own is from now on for reading. -/
theorem Tr.freezeAt {v : Value} {xs : List α} {X : WP} (ht : TakeA l (sl false v xs) F) (h : Tr (sl true v xs :: F) X) : Tr l X := (Tr.freezeSl h).imp ht
end
/-- A pointer to a whole block, as an element. -/
structure Pt where
  a : Option Nat
instance : Inhabited Pt := ⟨⟨none⟩⟩
def Pt.v (p : Pt) : Value := .pointer (p.a.map fun b => ⟨b, 0, none⟩)
instance : En Pt := ⟨fun p => [p.v], 1, fun _ => rfl, fun _ => rfl, by decide⟩
theorem Pt.v_some {b : Nat} : (Pt.mk (some b)).v = .pointer (some ⟨b, 0, none⟩) := rfl
theorem Pt.v_none : (Pt.mk none).v = .pointer none := rfl

/-! ### nil slices, strings -/
section
variable {P : Program} {l F : List Asrt} {K : Value → WP} {t : TypeId} {x y : Operand}
class SliceT (P : Program) (T : Nat) : Prop where
  h : ∃ e, P.underlying T = some (.slice e)
theorem und_sliceT {T n : Nat} [h : Slc P T n] : ∃ e, P.underlying T = some (.slice e) := by
  obtain ⟨e, _, hu, _⟩ := und_slc h.h
  exact ⟨e, hu⟩
theorem BinK_slnil {T n : Nat} [h : Slc P T n] {s : SV} : BinK P .eql T x y s.v (.slice none 0 0) K = K (.bool s.a.isNone) := by
  obtain ⟨e, he⟩ := und_sliceT (P := P) (T := T)
  obtain ⟨a, n, c⟩ := s
  refine GenK_of (fun w => ?_) K
  have : (Op.equal T (.slice a n c) (.slice none 0 0)).run P w = .ok a.isNone w := run_equalIn fun d => by
    cases a <;> simp [Op.equalIn, run_underlying he]
  simp [eqGuard, binOp, this, SV.v]
theorem BinK_slnnil {T n : Nat} [h : Slc P T n] {s : SV} : BinK P .neq T x y s.v (.slice none 0 0) K = K (.bool (!s.a.isNone)) := by
  obtain ⟨e, he⟩ := und_sliceT (P := P) (T := T)
  obtain ⟨a, n, c⟩ := s
  refine GenK_of (fun w => ?_) K
  have : (Op.equal T (.slice a n c) (.slice none 0 0)).run P w = .ok a.isNone w := run_equalIn fun d => by
    cases a <;> simp [Op.equalIn, run_underlying he]
  simp [eqGuard, binOp, this, SV.v]
theorem A.byStr {S D : Nat} [BytT P S] [StrT P D] {ro : Bool} {v : Value} {bs : List UInt8} [hs : HasS l v ro UInt8 inferInstance bs] (hx : Tr l (K (.string (bstr bs)))) : Tr l (GenK P (convert S D v) K) := Tr.bytesStr hs.h hx
end
end Go.Wk
