/- The operations' laws over lists of assertions. -/
import Derived.Test.YtgkhjgpgdfbdpaaGreatDoorWk3
import Derived.Test.YtgkhjgpgdfbdpaaGreatDoorWkF
namespace Go.Wk
open Go

section
variable {P : Program}

theorem fldB_spec {T f : Nat} {off : Nat} (h : fldB P T f = some off) (a : Addr) (w : World) : (Instr.fieldAt T (.pointer (some a)) f).run P w = .ok (.pointer (some (a.add off))) w := by
  unfold fldB at h
  split at h
  · rename_i fs hu
    split at h
    · rename_i fd hf
      split at h
      · rename_i i hi
        split at h
        · cases h
        · rename_i hz
          cases h
          simp [Instr.fieldAt, run_underlying hu, hf, Instr.sureAddr, fieldPlace, sizeOf, typeInfo, hi, hz]
      · cases h
    · cases h
  · cases h

theorem scalB_spec {T : Nat} (h : scalB P T = true) : (∀ w, (isAgg T).run P w = .ok false w) ∧ ∀ w, (sizeOf T).run P w = .ok 1 w := by
  unfold scalB at h
  simp only [Bool.and_eq_true] at h
  obtain ⟨h1, h2⟩ := h
  constructor
  · intro w
    split at h1
    · cases h1
    · cases h1
    · cases h1
    · rename_i d hd1 hd2 hd3
      cases hu : P.underlying T with
      | none => exact absurd hu hd3
      | some d =>
        cases d <;> simp [isAgg, run_underlying hu] <;> first
          | exact absurd hu (hd1 _)
          | exact absurd hu (hd2 _ _)
  · intro w
    split at h2
    · rename_i i hi
      simp only [beq_iff_eq] at h2
      simp [sizeOf, typeInfo, hi, h2]
    · cases h2
theorem aggB_spec {T n : Nat} (h : aggB P T = some n) : (∀ w, (isAgg T).run P w = .ok true w) ∧ ∀ w, (sizeOf T).run P w = .ok n w := by
  unfold aggB at h
  split at h
  · rename_i fs hu
    cases hi : P.info? T with
    | none => rw [hi] at h; cases h
    | some i =>
      rw [hi] at h
      simp only [Option.map_some, Option.some.injEq] at h
      exact ⟨fun w => by simp [isAgg, run_underlying hu], fun w => by simp [sizeOf, typeInfo, hi, h]⟩
  · rename_i len el hu
    cases hi : P.info? T with
    | none => rw [hi] at h; cases h
    | some i =>
      rw [hi] at h
      simp only [Option.map_some, Option.some.injEq] at h
      exact ⟨fun w => by simp [isAgg, run_underlying hu], fun w => by simp [sizeOf, typeInfo, hi, h]⟩
  · cases h

theorem GenK_of {s : Sem Value} {v : Value} (h : ∀ w, s.run P w = .ok v w) (K : Value → WP) : GenK P s K = K v := by
  funext w
  unfold GenK
  rw [h w]
  apply propext
  constructor
  · rintro ⟨v', h1, h2⟩; cases h1; exact h2
  · intro h; exact ⟨v, rfl, h⟩
theorem add_mk (b o n : Nat) : (⟨b, o, none⟩ : Addr).add n = ⟨b, o + n, none⟩ := by
  unfold Addr.add
  split
  · rename_i h; subst h; rfl
  · rfl

theorem FnK_c {f : FuncId} [h : IsFn P f] {args : Array Value} {K : Value → WP} : FnK P f args K = CallK P f args K := FnK_eq h.h
theorem GenK_fieldAt {T f off : Nat} [h : Fld P T f off] {b o : Nat} {K : Value → WP} : GenK P (Instr.fieldAt T (.pointer (some ⟨b, o, none⟩)) f) K = K (.pointer (some ⟨b, o + off, none⟩)) := by
  rw [← add_mk]; exact GenK_of (fun w => fldB_spec h.h _ w) K
theorem run_equalIn {T : Nat} {a b : Value} {w : World} {r : Bool} (h : ∀ d, (Op.equalIn (d + 1) T a b).run P w = .ok r w) : (Op.equal T a b).run P w = .ok r w := h 9999
theorem BinK_ptr {T : Nat} [hT : PtrT P T] {x y : Operand} {a b : Option Addr} {K : Value → WP} (hab : a = none ∨ b = none) : BinK P .eql T x y (.pointer a) (.pointer b) K = K (.bool (a.isNone && b.isNone)) := by
  obtain ⟨e, he⟩ := hT.h
  refine GenK_of (fun w => ?_) K
  have : (Op.equal T (.pointer a) (.pointer b)).run P w = .ok (a.isNone && b.isNone) w := run_equalIn fun d => by
    rcases hab with rfl | rfl
    · simp [Op.equalIn, run_underlying he]
    · cases a <;> simp [Op.equalIn, run_underlying he]
  simp [eqGuard, binOp, this]
theorem BinK_ptr1 {T : Nat} [hT : PtrT P T] {x y : Operand} {a : Addr} {K : Value → WP} : BinK P .eql T x y (.pointer (some a)) (.pointer none) K = K (.bool false) := BinK_ptr (.inr rfl)
theorem BinK_ptr0 {T : Nat} [hT : PtrT P T] {x y : Operand} {K : Value → WP} : BinK P .eql T x y (.pointer none) (.pointer none) K = K (.bool true) := BinK_ptr (.inr rfl)
theorem BinK_nptr {T : Nat} [hT : PtrT P T] {x y : Operand} {a b : Option Addr} {K : Value → WP} (hab : a = none ∨ b = none) : BinK P .neq T x y (.pointer a) (.pointer b) K = K (.bool (!(a.isNone && b.isNone))) := by
  obtain ⟨e, he⟩ := hT.h
  refine GenK_of (fun w => ?_) K
  have : (Op.equal T (.pointer a) (.pointer b)).run P w = .ok (a.isNone && b.isNone) w := run_equalIn fun d => by
    rcases hab with rfl | rfl
    · simp [Op.equalIn, run_underlying he]
    · cases a <;> simp [Op.equalIn, run_underlying he]
  simp [eqGuard, binOp, this]
theorem BinK_nptr1 {T : Nat} [hT : PtrT P T] {x y : Operand} {a : Addr} {K : Value → WP} : BinK P .neq T x y (.pointer (some a)) (.pointer none) K = K (.bool true) := BinK_nptr (.inr rfl)
theorem BinK_nptr0 {T : Nat} [hT : PtrT P T] {x y : Operand} {K : Value → WP} : BinK P .neq T x y (.pointer none) (.pointer none) K = K (.bool false) := BinK_nptr (.inr rfl)
theorem BinK_beq {T : Nat} [hT : BoolT P T] {x y : Operand} {a b : Bool} {K : Value → WP} : BinK P .eql T x y (.bool a) (.bool b) K = K (.bool (a == b)) := by
  refine GenK_of (fun w => ?_) K
  have : (Op.equal T (.bool a) (.bool b)).run P w = .ok (a == b) w := run_equalIn fun d => by simp [Op.equalIn, run_underlying hT.h]
  simp [eqGuard, binOp, this]
theorem BinK_bne {T : Nat} [hT : BoolT P T] {x y : Operand} {a b : Bool} {K : Value → WP} : BinK P .neq T x y (.bool a) (.bool b) K = K (.bool (!(a == b))) := by
  refine GenK_of (fun w => ?_) K
  have : (Op.equal T (.bool a) (.bool b)).run P w = .ok (a == b) w := run_equalIn fun d => by simp [Op.equalIn, run_underlying hT.h]
  simp [eqGuard, binOp, this]
/-! ### reading a cell -/
def Cell (l : List Asrt) (a : Addr) (v : Value) : Prop := ∀ w, Sat w l → w.cell? a = some v
theorem Cell.next {A : Asrt} {l : List Asrt} {a : Addr} {v : Value} (h : Cell l a v) : Cell (A :: l) a v := fun w hw => h w hw.tail
theorem Cell.blk {b off : Nat} {cs : List Value} {T : Nat} {fr : Nat × Nat} {l : List Asrt} {v : Value} (h : cs[off]? = some v) : Cell (blk b (.cells cs.toArray T fr) :: l) ⟨b, off, none⟩ v := fun w hw => by
  simp [World.cell?, hw.get, h]
theorem Cell.rob {b off : Nat} {cs : List Value} {T : Nat} {fr : Nat × Nat} {l : List Asrt} {v : Value} (h : cs[off]? = some v) : Cell (rob b (.cells cs.toArray T fr) :: l) ⟨b, off, none⟩ v := fun w hw => by
  simp [World.cell?, hw.getro, h]

theorem Tr.load1 {T : Nat} {a : Addr} {v : Value} {l : List Asrt} {K : Value → WP} [hT : Scal P T] (hc : Cell l a v) (hx : Tr l (K v)) : Tr l (GenK P (Instr.loadAt T (.pointer (some a))) K) := fun w hw => by
  refine ⟨v, ?_, hx w hw⟩
  simp [Instr.loadAt, Instr.sureAddr, loadVar, (scalB_spec hT.h).1, hc w hw]

def CellsAt (l : List Asrt) (a : Addr) (n : Nat) (vs : List Value) : Prop := vs.length = n ∧ ∀ w, Sat w l → ∀ i, (h : i < vs.length) → w.cell? (a.add i) = some vs[i]
theorem CellsAt.next {A : Asrt} {l : List Asrt} {a : Addr} {n : Nat} {vs : List Value} (h : CellsAt l a n vs) : CellsAt (A :: l) a n vs := ⟨h.1, fun w hw => h.2 w hw.tail⟩
theorem CellsAt.blk {b off : Nat} {cs : List Value} {T : Nat} {fr : Nat × Nat} {l : List Asrt} {vs : List Value} {n : Nat} (h : (cs.drop off).take n = vs) (hl : vs.length = n) : CellsAt (blk b (.cells cs.toArray T fr) :: l) ⟨b, off, none⟩ n vs := ⟨hl, fun w hw i hi => by
  subst h
  rw [add_mk]
  have h2 : off + i < cs.length := by simp at hi; omega
  simp [World.cell?, hw.get, h2]⟩
theorem CellsAt.rob {b off : Nat} {cs : List Value} {T : Nat} {fr : Nat × Nat} {l : List Asrt} {vs : List Value} {n : Nat} (h : (cs.drop off).take n = vs) (hl : vs.length = n) : CellsAt (rob b (.cells cs.toArray T fr) :: l) ⟨b, off, none⟩ n vs := ⟨hl, fun w hw i hi => by
  subst h
  rw [add_mk]
  have h2 : off + i < cs.length := by simp at hi; omega
  simp [World.cell?, hw.getro, h2]⟩
theorem CellsAt.blk0 {b : Nat} {cs : List Value} {T : Nat} {fr : Nat × Nat} {l : List Asrt} {n : Nat} (hl : cs.length = n) : CellsAt (Wk.blk b (.cells cs.toArray T fr) :: l) ⟨b, 0, none⟩ n cs := CellsAt.blk (by rw [List.drop_zero, ← hl, List.take_length]) hl
theorem CellsAt.rob0 {b : Nat} {cs : List Value} {T : Nat} {fr : Nat × Nat} {l : List Asrt} {n : Nat} (hl : cs.length = n) : CellsAt (Wk.rob b (.cells cs.toArray T fr) :: l) ⟨b, 0, none⟩ n cs := CellsAt.rob (by rw [List.drop_zero, ← hl, List.take_length]) hl
theorem run_loadCellsFrom {w : World} {a : Addr} : ∀ (vs : List Value) (i : Nat) (acc : Array Value), (∀ j, (h : j < vs.length) → w.cell? (a.add (i + j)) = some vs[j]) →
    (loadCellsFrom a i vs.length acc).run P w = .ok (acc ++ vs.toArray) w
  | [], i, acc, _ => by simp [loadCellsFrom]
  | v :: vs, i, acc, h => by
    have h0 := h 0 (by simp)
    simp only [Nat.add_zero, List.getElem_cons_zero] at h0
    have ih := run_loadCellsFrom (w := w) (a := a) vs (i + 1) (acc.push v) (fun j hj => by
      have := h (j + 1) (by simp; omega)
      simp only [List.getElem_cons_succ] at this
      rw [show i + 1 + j = i + (j + 1) by omega]; exact this)
    simp only [List.length_cons, loadCellsFrom, Sem.run_bind, run_load, h0, Result.andThen_ok, ih]
    simp
theorem Tr.loadN {T n : Nat} {a : Addr} {vs : List Value} {l : List Asrt} {K : Value → WP} [hT : Agg P T n] (hc0 : CellsAt l a n vs) (hx : Tr l (K (.agg vs.toArray))) : Tr l (GenK P (Instr.loadAt T (.pointer (some a))) K) := fun w hw => by
  obtain ⟨hn, hc⟩ := hc0
  refine ⟨.agg vs.toArray, ?_, hx w hw⟩
  have := run_loadCellsFrom (P := P) (w := w) (a := a) vs 0 #[] (fun j hj => by rw [Nat.zero_add]; exact hc w hw j hj)
  rw [hn] at this
  simp [Instr.loadAt, Instr.sureAddr, loadVar, (aggB_spec hT.h).1, (aggB_spec hT.h).2, loadCells, this]

/-! ### blocks of one's own -/
def Upd (l : List Asrt) (b : Nat) (o o' : Obj) (l' : List Asrt) : Prop := ∃ F : List Asrt, l.Perm (blk b o :: F) ∧ l'.Perm (blk b o' :: F)
theorem Upd.here {b : Nat} {o o' : Obj} {l : List Asrt} : Upd (Wk.blk b o :: l) b o o' (Wk.blk b o' :: l) := ⟨l, .refl _, .refl _⟩
theorem Upd.next {A : Asrt} {b : Nat} {o o' : Obj} {l l' : List Asrt} (h : Upd l b o o' l') : Upd (A :: l) b o o' (A :: l') := by
  obtain ⟨F, h1, h2⟩ := h
  exact ⟨A :: F, (h1.cons A).trans (List.Perm.swap _ _ _), (h2.cons A).trans (List.Perm.swap _ _ _)⟩
theorem Upd.get {l l' : List Asrt} {b : Nat} {o o' : Obj} (h : Upd l b o o' l') {w : World} (hw : Sat w l) : w.heap[b]? = some o := by
  obtain ⟨F, h1, _⟩ := h
  exact (hw.perm h1).get
theorem Upd.put {l l' : List Asrt} {b : Nat} {o o' : Obj} (h : Upd l b o o' l') {w w' : World} (hw : Sat w l) (hh : w'.heap = w.heap.setIfInBounds b o') (hs : Same w w') : Sat w' l' := by
  obtain ⟨F, h1, h2⟩ := h
  exact ((hw.perm h1).put hh hs).perm h2.symm

theorem heap_setCell {w : World} {b off : Nat} {v : Value} {cs : Array Value} {T : Nat} {fr : Nat × Nat} (h : w.heap[b]? = some (.cells cs T fr)) :
    (w.setCell ⟨b, off, none⟩ v).heap = w.heap.setIfInBounds b (.cells (cs.setIfInBounds off v) T fr) := by
  have hb : b < w.heap.size := (Array.getElem?_eq_some_iff.1 h).1
  have hg : w.heap[b] = .cells cs T fr := (Array.getElem?_eq_some_iff.1 h).2
  apply Array.ext
  · simp [World.setCell]
  · intro i h1 h2
    simp only [World.setCell, Array.getElem_modify, Option.isSome_none, Bool.false_eq_true, if_false]
    rw [Array.getElem_setIfInBounds]
    · split
      · rename_i he; subst he; rw [hg]
      · rfl

def setL : List Value → Nat → List Value → List Value
  | l, _, [] => l
  | l, off, v :: vs => setL (l.set off v) (off + 1) vs
theorem setL_length : ∀ (l : List Value) (off : Nat) (vs : List Value), (setL l off vs).length = l.length
  | _, _, [] => rfl
  | l, off, v :: vs => by simp [setL, setL_length]

theorem run_storeCells {T : Nat} : ∀ (vs : List Value) (cs : List Value) (b off i : Nat) (l l' : List Asrt) (w : World), (∀ v ∈ vs, v.oneCell' = true) → off + i + vs.length ≤ cs.length →
    Sat w l → Upd l b (.cells cs.toArray T (0, 0)) (.cells (setL cs (off + i) vs).toArray T (0, 0)) l' → ∃ w', (storeCells ⟨b, off, none⟩ vs i).run P w = .ok () w' ∧ Sat w' l'
  | [], cs, b, off, i, l, l', w, _, _, hw, hu => by
    refine ⟨w, by simp [storeCells], ?_⟩
    simp only [setL] at hu
    obtain ⟨F, h1, h2⟩ := hu
    exact hw.perm (h1.trans h2.symm)
  | v :: vs, cs, b, off, i, l, l', w, hv, hl, hw, hu => by
    simp only [List.length_cons] at hl
    have hg := hu.get hw
    have hlt : off + i < cs.length := by omega
    have hcell : w.cell? ⟨b, off + i, none⟩ = some (cs[off + i]) := by simp [World.cell?, hg, hlt]
    have hfr : w.frozen? ⟨b, off + i, none⟩ = false := by simp [World.frozen?, hg]
    obtain ⟨F, h1, h2⟩ := hu
    have hu1 : Upd l b (.cells cs.toArray T (0, 0)) (.cells (cs.set (off + i) v).toArray T (0, 0)) (blk b (.cells (cs.set (off + i) v).toArray T (0, 0)) :: F) := ⟨F, h1, .refl _⟩
    have hsat : Sat (w.setCell ⟨b, off + i, none⟩ v) (blk b (.cells (cs.set (off + i) v).toArray T (0, 0)) :: F) := hu1.put hw (by rw [heap_setCell hg]; simp) ⟨rfl, rfl, rfl⟩
    have ih := run_storeCells vs (cs.set (off + i) v) b off (i + 1) _ l' _ (fun u hu => hv u (by simp [hu])) (by simp; omega) hsat ⟨F, .refl _, by
      simp only [setL] at h2
      rw [show off + (i + 1) = off + i + 1 by omega]; exact h2⟩
    obtain ⟨w', hr, hs⟩ := ih
    refine ⟨w', ?_, hs⟩
    simp only [storeCells, Sem.run_bind, add_mk, run_store P w _ v _ (hv v (by simp)), hcell, hfr, Bool.false_eq_true, if_false, Result.andThen_ok, hr]

theorem Tr.store {T T' n : Nat} {b off : Nat} {cs : List Value} {v : Value} {vs : List Value} {l l' : List Asrt} {K : Value → WP} [hT0 : Siz P T n] (hvs : v.cells = vs.toArray) (hn : vs.length = n) (h1 : vs.all Value.oneCell' = true)
    (hu : Upd l b (.cells cs.toArray T' (0, 0)) (.cells (setL cs off vs).toArray T' (0, 0)) l') (hl : off + n ≤ cs.length) (hx : Tr l' (K undef)) : Tr l (EUnitK P (Instr.storeAt T (.pointer (some ⟨b, off, none⟩)) v) K) := fun w hw => by
  have hT := hT0.h
  obtain ⟨w', hr, hs⟩ := run_storeCells (P := P) (T := T') vs cs b off 0 l l' w (fun v hv => by simpa using List.all_eq_true.1 h1 v hv) (by omega) hw hu
  refine ⟨w', ?_, hx w' hs⟩
  cases hi : P.info? T with
  | none => rw [hi] at hT; cases hT
  | some i =>
    rw [hi] at hT
    simp only [Option.map_some, Option.some.injEq] at hT
    simp [Instr.storeAt, Instr.sureAddr, storeVar, sizeOf, typeInfo, hi, hT, hvs, hn, hr]

theorem setL_whole : ∀ (vs cs pre : List Value), vs.length = cs.length → setL (pre ++ cs) pre.length vs = pre ++ vs
  | [], cs, pre, h => by
    have : cs = [] := List.eq_nil_of_length_eq_zero h.symm
    subst this; rfl
  | v :: vs, [], pre, h => by simp at h
  | v :: vs, c :: cs, pre, h => by
    have ih := setL_whole vs cs (pre ++ [v]) (by simpa using h)
    simp only [setL]
    rw [show (pre ++ c :: cs).set pre.length v = (pre ++ [v]) ++ cs by simp]
    rw [show pre.length + 1 = (pre ++ [v]).length by simp, ih]
    simp
theorem Tr.storeW {T T' n : Nat} {b : Nat} {cs : List Value} {v : Value} {vs : List Value} {l l' : List Asrt} {K : Value → WP} [hT0 : Siz P T n] (hvs : v.cells = vs.toArray) (hn : vs.length = n) (h1 : vs.all Value.oneCell' = true)
    (hu : Upd l b (.cells cs.toArray T' (0, 0)) (.cells vs.toArray T' (0, 0)) l') (hl : cs.length = n) (hx : Tr l' (K undef)) : Tr l (EUnitK P (Instr.storeAt T (.pointer (some ⟨b, 0, none⟩)) v) K) :=
  Tr.store hvs hn h1 (by
    have := setL_whole vs cs [] (by omega)
    simp only [List.nil_append, List.length_nil] at this
    rw [this]; exact hu) (by omega) hx
theorem Tr.box {T : Nat} {v : Value} {cs : List Value} {l : List Asrt} {K : Value → WP} (hv : v.cells = cs.toArray) (hx : ∀ b, Tr (blk b (.cells cs.toArray T (0, 0)) :: l) (K (.pointer (some ⟨b, 0, none⟩)))) : Tr l (EGenK P (Instr.box T v) K) := fun w hw =>
  ⟨_, w.alloc (.cells cs.toArray T (0, 0)), by simp [Instr.box, newVar, newRow, hv], hx w.heap.size _ (hw.alloc _)⟩
theorem Tr.alloc {T : Nat} {z : Value} [h : Zer P T z] {cs : List Value} {l : List Asrt} {K : Value → WP} (hv : z.cells = cs.toArray) (hx : ∀ b, Tr (blk b (.cells cs.toArray T (0, 0)) :: l) (K (.pointer (some ⟨b, 0, none⟩)))) : Tr l (EGenK P (Instr.alloc T true (.tuple #[])) K) := fun w hw => by
  refine ⟨_, w.alloc (.cells cs.toArray T (0, 0)), ?_, hx w.heap.size _ (hw.alloc _)⟩
  have hz := h.h
  unfold zeroB at hz
  cases hi : P.info? T with
  | none => rw [hi] at hz; cases hz
  | some i =>
    rw [hi] at hz
    have hz' : i.zero = some z := hz
    simp [Instr.alloc, zeroValue, typeInfo, hi, hz', newVar, newRow, hv]
end
end Go.Wk
