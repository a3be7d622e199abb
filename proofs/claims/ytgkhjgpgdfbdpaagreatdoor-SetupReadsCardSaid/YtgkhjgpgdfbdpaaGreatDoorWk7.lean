/- Slices that grow: append, make, literals, cuts. -/
import Derived.Test.YtgkhjgpgdfbdpaaGreatDoorWk6
namespace Go.Wk
open Go

/-- A slice's words. -/
structure SV where
  a : Option Addr
  n : Nat
  c : Nat
def SV.v (s : SV) : Value := .slice s.a s.n s.c

/-- Taking one out. -/
def TakeA (l : List Asrt) (A : Asrt) (F : List Asrt) : Prop := Imp l (A :: F)
theorem TakeA.here {A : Asrt} {l : List Asrt} : TakeA (A :: l) A l := Imp.refl
theorem TakeA.next {A B : Asrt} {l F : List Asrt} (h : TakeA l A F) : TakeA (B :: l) A (B :: F) := Imp.trans (Imp.cons h) Imp.swap

theorem SatR.mapHead {R : Blks} {w : World} {U : Blks} {A B : Asrt} {l : List Asrt} (h : ∀ S, A.h R S w → B.h R S w) : SatR R w U (A :: l) → SatR R w U (B :: l)
  | ⟨S, h1, h2, h3⟩ => ⟨S, h1, h S h2, h3⟩
theorem Sat.mapHead {w : World} {A B : Asrt} {l : List Asrt} (h : ∀ R S, A.h R S w → B.h R S w) : Sat w (A :: l) → Sat w (B :: l) := fun ⟨R, h1, h2⟩ => ⟨R, h1, h2.mapHead (h R)⟩

section
variable {P : Program} {α : Type} [En α] {v : Value} {xs : List α} {l F : List Asrt}

theorem sl_open {w : World} (h : Sat w (sl false v xs :: F)) : (v = .slice none 0 0 ∧ xs = [] ∧ Sat w F) ∨ ∃ (b off cap : Nat) (cs : List Value) (T : Nat), v = .slice (some ⟨b, off, none⟩) xs.length cap ∧ (xs.length ≤ cap ∧ xs.length ≤ 9223372036854775807) ∧ off + cap * En.sz α ≤ cs.length ∧
    (cs.drop off).take (xs.length * En.sz α) = flat xs ∧ Sat w (blk b (.cells cs.toArray T (0, 0)) :: F) := by
  obtain ⟨R, h1, S, h2, hA, h3⟩ := h
  rcases hA with ⟨e1, e2⟩ | ⟨b, off, cap, cs, T, fr, e1, e2, ⟨e3, e4, e5⟩, e6, e7⟩
  · exact .inl ⟨e1.own, e2, R, h1, h3.weaken fun _ h => .inl h⟩
  · subst e4
    exact .inr ⟨b, off, cap, cs, T, e1, e2, e5, e7, R, h1, S, h2, ⟨e3, e6⟩, h3⟩
theorem sl_close {w : World} {b off cap : Nat} {cs : List Value} {T : Nat} (e1 : v = .slice (some ⟨b, off, none⟩) xs.length cap) (e2 : xs.length ≤ cap ∧ xs.length ≤ 9223372036854775807) (e5 : off + cap * En.sz α ≤ cs.length)
    (e7 : (cs.drop off).take (xs.length * En.sz α) = flat xs) (h : Sat w (blk b (.cells cs.toArray T (0, 0)) :: F)) : Sat w (sl false v xs :: F) :=
  Sat.mapHead (A := blk b (.cells cs.toArray T (0, 0))) (fun _ _ (hb : _ ∧ _) => .inr ⟨b, off, cap, cs, T, (0, 0), e1, e2, ⟨hb.1, rfl, e5⟩, hb.2, e7⟩) h
theorem sl_nil {w : World} (h : Sat w F) : Sat w (sl false (.slice none 0 0) ([] : List α) :: F) := by
  obtain ⟨R, h1, h2⟩ := h
  exact ⟨R, h1, fun _ => False, fun _ h => h.elim, .inl ⟨.inl rfl, rfl⟩, SatR.weaken (fun _ hb => hb.elim id False.elim) h2⟩
theorem Tr.nilSl {X : WP} (h : Tr (sl false (.slice none 0 0) ([] : List α) :: F) X) : Tr F X := fun w hw => h w (sl_nil hw)
theorem Tr.freezeSl {X : WP} (h : Tr (sl true v xs :: F) X) : Tr (sl false v xs :: F) X := fun w hw => h w (by
  rcases sl_open hw with ⟨rfl, rfl, hw'⟩ | ⟨b, off, cap, cs, T, e1, e2, e5, e7, hw'⟩
  · obtain ⟨R, h1, h2⟩ := hw'
    exact ⟨R, h1, fun _ => False, fun _ h => h.elim, .inl ⟨.inl rfl, rfl⟩, SatR.weaken (fun _ hb => hb.elim id False.elim) h2⟩
  · exact Sat.mapHead (A := rob b (.cells cs.toArray T (0, 0))) (fun _ _ (hb : _ ∧ _) => .inr ⟨b, off, cap, cs, T, (0, 0), e1, e2, hb.1, hb.2, e7⟩) hw'.freeze)

theorem cells_sl {ro : Bool} {w : World} {R S : Blks} (h : (sl ro v xs).h R S w) : (Builtin.firstCells (En.sz α) xs.length v).run P w = .ok (flat xs).toArray w := by
  rcases sl_cases h with ⟨hn, rfl⟩ | ⟨b, off, cap, cs, T, fr, rfl, h2, h4, h5⟩
  · obtain ⟨a, rfl⟩ := hn.slice
    cases a <;> simp [Builtin.firstCells, flat, loadCells, loadCellsFrom]
  · have hlen : (flat xs).length = xs.length * En.sz α := flat_length xs
    have := run_loadCellsFrom (P := P) (w := w) (a := ⟨b, off, none⟩) (flat xs) 0 #[] (fun j hj => by
      rw [Nat.zero_add, add_mk]
      have h6 : (flat xs)[j]? = some (flat xs)[j] := by simp [hj]
      have h7 : ((cs.drop off).take (xs.length * En.sz α))[j]? = some (flat xs)[j] := by rw [h5]; exact h6
      rw [List.getElem?_take_of_lt (by omega), List.getElem?_drop] at h7
      simp only [World.cell?, h4, Option.isSome_none, Bool.false_eq_true, if_false, List.getElem?_toArray, h7])
    rw [hlen] at this
    simp only [Builtin.firstCells, loadCells, this]
    simp

theorem nextcap_le (need c : Nat) (h : c < need) : Builtin.nextslicecap need c ≤ 2 * need + 1000 := by
  unfold Builtin.nextslicecap
  split
  · omega
  · split
    · omega
    · have grow : ∀ r c, c ≤ 2 * need + 1000 → Builtin.growBy need r c ≤ 2 * need + 1000 := by
        intro r
        induction r with
        | zero => intro c hc; exact hc
        | succ r ih =>
          intro c hc
          unfold Builtin.growBy
          split
          · exact hc
          · exact ih _ (by omega)
      exact grow 4 c (by omega)

theorem setL_append (pre mid vs : List Value) (h : vs.length ≤ mid.length) : setL (pre ++ mid) pre.length vs = pre ++ (vs ++ mid.drop vs.length) := by
  have := setL_whole vs (mid.take vs.length) pre (by simp; omega)
  have gen : ∀ (vs a c : List Value) (off : Nat), off + vs.length ≤ a.length → setL (a ++ c) off vs = setL a off vs ++ c := by
    intro vs
    induction vs with
    | nil => intros; rfl
    | cons u us ih =>
      intro a c off hl
      simp only [List.length_cons] at hl
      simp only [setL]
      rw [List.set_append_left _ _ (by omega), ih _ _ _ (by simp; omega)]
  have e : pre ++ mid = (pre ++ mid.take vs.length) ++ mid.drop vs.length := by simp
  rw [e, gen vs (pre ++ mid.take vs.length) (mid.drop vs.length) pre.length (by simp; omega), this]
  simp

theorem zeroCells_one {z : Array Value} (n : Nat) : (Builtin.zeroCells z n).size = n * z.size := by simp [Builtin.zeroCells]

/-- append of a slice onto one of one's own. -/
theorem Tr.append {T T2 ty e bytes : Nat} {z : List Value} {ro : Bool} {x : Value} {ys : List α} {K : Value → WP} [hT : SlcT P T e bytes (En.sz α) z] [hT2 : Slc P T2 (En.sz α)] (hz : z.length = En.sz α)
    (ht : TakeA l (sl false v xs) F) (hx : Has F (sl ro x ys)) (hb : 0 < bytes) (hlen : (2 * (xs.length + ys.length) + 1000) * bytes ≤ 2 ^ 48)
    (hk : ∀ s : SV, Tr (sl false s.v (xs ++ ys) :: F) (K s.v)) : Tr l (EGenK P (Builtin.append_ #[T, T2] ty #[v, x]) K) := fun w hw0 => by
  have hw := Imp.sat ht hw0
  obtain ⟨hu, inf, hin, hsz, hby, hzz⟩ := hT.h
  obtain ⟨e2, inf2, hu2, hin2, hsz2⟩ := und_slc hT2.h
  obtain ⟨xa, xc, hxv⟩ := sl_slen hx hw.tail
  obtain ⟨Rx, Sx, hxh⟩ := hx.sat hw.tail
  have hfx := cells_sl (P := P) hxh
  have hvs : ∃ a c, v = .slice a xs.length c := sl_slen (l := sl false v xs :: F) Has.here hw
  obtain ⟨va, vc, hv⟩ := hvs
  obtain ⟨Rv, Sv, hvh⟩ := (Has.here (A := sl false v xs) (l := F)).sat hw
  have hfv := cells_sl (P := P) hvh
  have hpos := En.pos (α := α)
  have hbound : 2 * (xs.length + ys.length) + 1000 ≤ 2 ^ 48 := Nat.le_trans (Nat.le_mul_of_pos_right _ hb) hlen
  have hsize : ∀ w, (sizeOf e).run P w = .ok (En.sz α) w := fun w => by simp [sizeOf, typeInfo, hin, hsz]
  have hinfo : ∀ w, (typeInfo e).run P w = .ok inf w := fun w => by simp [typeInfo, hin]
  obtain ⟨z0, hz0, hz1⟩ : ∃ z0, inf.zero = some z0 ∧ z0.cells = z.toArray := by
    cases h : inf.zero with
    | none => rw [h] at hzz; cases hzz
    | some z0 => rw [h] at hzz; exact ⟨z0, rfl, by simpa using hzz⟩
  have hzv : ∀ w, (zeroValue e).run P w = .ok z0 w := fun w => by simp [zeroValue, typeInfo, hin, hz0]
  have hxlen : (Builtin.lenOf x).run P w = .ok ys.length w := by rw [hxv]; simp [Builtin.lenOf]
  by_cases hroom : xs.length + ys.length ≤ vc
  · -- in place
    rcases sl_open hw with ⟨rfl, rfl, hwF⟩ | ⟨b, off, cap, cs, T', e1, e3, e5, e7, hwb⟩
    · -- nil and nothing
      have hvc : vc = 0 := by simp only [Value.slice.injEq] at hv; exact hv.2.2.symm
      subst hvc
      have hys : ys = [] := List.eq_nil_of_length_eq_zero (by simp at hroom; rw [hroom]; rfl)
      subst hys
      refine ⟨.slice none 0 0, w, ?_, hk ⟨none, 0, 0⟩ w hw⟩
      simp only [Builtin.append_, Sem.run_bind, List.getElem?_toArray, List.getElem?_cons_zero, List.getElem?_cons_succ, run_underlying hu, Result.andThen_ok, hsize, run_underlying hu2, Sem.run_pure, Bool.false_eq_true, if_false, hxlen]
      have hfx0 : (Builtin.firstCells (En.sz α) 0 x).run P w = .ok #[] w := hfx
      simp [hfx0]
    · rw [hv] at e1
      simp only [Value.slice.injEq] at e1
      obtain ⟨rfl, _, rfl⟩ := e1
      have hfl : (flat ys).length = ys.length * En.sz α := flat_length ys
      have hfl1 : (flat xs).length = xs.length * En.sz α := flat_length xs
      have hmul : (xs.length + ys.length) * En.sz α ≤ vc * En.sz α := Nat.mul_le_mul_right _ hroom
      rw [Nat.add_mul] at hmul
      have hst := run_storeCells (P := P) (T := T') (flat ys) cs b (off + xs.length * En.sz α) 0 (blk b (.cells cs.toArray T' (0, 0)) :: F) _ w
        (fun u hu => by have := flat_one ys; rw [List.all_eq_true] at this; exact this u hu) (by omega) hwb Upd.here
      obtain ⟨w', hr, hs⟩ := hst
      refine ⟨.slice (some ⟨b, off, none⟩) (xs.length + ys.length) vc, w', ?_, ?_⟩
      · simp only [Builtin.append_, Sem.run_bind, List.getElem?_toArray, List.getElem?_cons_zero, List.getElem?_cons_succ, run_underlying hu, Result.andThen_ok, hsize, run_underlying hu2, Sem.run_pure, Bool.false_eq_true, if_false, hxlen, hv, hroom, if_true, Bool.not_false, hfx]
        simp [add_mk, hr]
      · refine hk ⟨some ⟨b, off, none⟩, xs.length + ys.length, vc⟩ w' ?_
        refine sl_close (b := b) (off := off) (cap := vc) (by simp [SV.v]) ⟨by simpa using hroom, by simp; omega⟩ (by rw [setL_length]; exact e5) ?_ hs
        have hpre : cs = cs.take (off + xs.length * En.sz α) ++ cs.drop (off + xs.length * En.sz α) := (List.take_append_drop _ _).symm
        have hpl : (cs.take (off + xs.length * En.sz α)).length = off + xs.length * En.sz α := by rw [List.length_take]; omega
        have hset : setL cs (off + xs.length * En.sz α + 0) (flat ys) = cs.take (off + xs.length * En.sz α) ++ (flat ys ++ (cs.drop (off + xs.length * En.sz α)).drop (flat ys).length) := by
          have := setL_append (cs.take (off + xs.length * En.sz α)) (cs.drop (off + xs.length * En.sz α)) (flat ys) (by rw [List.length_drop]; omega)
          rw [hpl, ← hpre] at this
          exact this
        rw [hset, flat_append, List.length_append, Nat.add_mul]
        rw [List.drop_append_of_le_length (by omega)]
        have hd : (cs.take (off + xs.length * En.sz α)).drop off = flat xs := by
          rw [List.drop_take, show off + xs.length * En.sz α - off = xs.length * En.sz α by omega, e7]
        rw [hd, ← List.append_assoc]
        rw [List.take_append_of_le_length (by rw [List.length_append]; omega), List.take_of_length_le (by rw [List.length_append]; omega)]
  · -- a new array
    have hnext := nextcap_le (xs.length + ys.length) vc (by omega)
    have hnb : Builtin.nextslicecap (xs.length + ys.length) vc * inf.bytes ≤ 2 ^ 48 := by
      rw [hby]; exact Nat.le_trans (Nat.mul_le_mul_right _ hnext) hlen
    let q := Question.appendCap (xs.length + ys.length) vc e
    let newCap := q.cut (w.tape w.drawn q)
    have hcap : xs.length + ys.length ≤ newCap := by show _ ≤ Question.cut _ _; simp only [q, Question.cut]; omega
    let rest := Builtin.zeroCells z0.cells (newCap - (xs.length + ys.length))
    let cells := (flat xs).toArray ++ (flat ys).toArray ++ rest
    have hcells : cells = (flat xs ++ flat ys ++ rest.toList).toArray := by simp [cells]
    refine ⟨.slice (some ⟨w.heap.size, 0, none⟩) (xs.length + ys.length) newCap, w.drew.alloc (.cells cells e (0, 0)), ?_, ?_⟩
    · have hfx' : (Builtin.firstCells (En.sz α) ys.length x).run P w.drew = .ok (flat ys).toArray w.drew := cells_sl (P := P) (R := Rx) (S := Sx) ((sl ro x ys).loc (fun _ h => h) (fun _ h => h) (fun _ _ => rfl) ⟨rfl, rfl, rfl⟩ hxh)
      have hfv' : (Builtin.firstCells (En.sz α) xs.length v).run P w.drew = .ok (flat xs).toArray w.drew := cells_sl (P := P) (R := Rv) (S := Sv) ((sl false v xs).loc (fun _ h => h) (fun _ h => h) (fun _ _ => rfl) ⟨rfl, rfl, rfl⟩ hvh)
      have hnz : inf.bytes ≠ 0 := by rw [hby]; omega
      have hnb : ¬ (Builtin.nextslicecap (xs.length + ys.length) vc * inf.bytes > 2 ^ 48) := by omega
      rw [hv] at hfv' ⊢
      simp only [Builtin.append_, Sem.run_bind, List.getElem?_toArray, List.getElem?_cons_zero, List.getElem?_cons_succ, run_underlying hu, Result.andThen_ok, hsize, run_underlying hu2, Sem.run_pure, Bool.false_eq_true, if_false, hxlen, hroom, hinfo, Bool.not_false, if_true]
      rw [if_neg (by simp [hnz])]
      simp only [Sem.run_bind, hinfo, Result.andThen_ok]
      rw [if_neg hnb]
      have hchoose : (choose (Question.appendCap (xs.length + ys.length) vc e)).run P w = .ok newCap w.drew := by
        rw [run_choose]; rfl
      simp only [Sem.run_bind, hchoose, hinfo, Result.andThen_ok, run_askRoom, hfx', hfv', hzv, newRow, run_newObj, Sem.run_pure]
      rfl
    · refine hk ⟨some ⟨w.heap.size, 0, none⟩, xs.length + ys.length, newCap⟩ _ ?_
      have hsat := (hw.tail.drew).alloc (.cells cells e (0, 0))
      rw [hcells] at hsat ⊢
      have hsz' : w.drew.heap.size = w.heap.size := rfl
      rw [hsz'] at hsat
      refine sl_close (b := w.heap.size) (off := 0) (cap := newCap) (by simp [SV.v]) (⟨by simpa using hcap, by simp; omega⟩) ?_ ?_ hsat
      · simp only [List.length_append, flat_length, rest, Array.length_toList, zeroCells_one, hz1, List.size_toArray, hz]
        rw [← Nat.add_mul, ← Nat.add_mul]
        have : xs.length + ys.length + (newCap - (xs.length + ys.length)) = newCap := by omega
        rw [this]; omega
      · rw [List.drop_zero, flat_append, List.take_append_of_le_length (by rw [List.length_append, List.length_append, flat_length, flat_length, Nat.add_mul]; omega), List.take_of_length_le (by rw [List.length_append, List.length_append, flat_length, flat_length, Nat.add_mul]; omega)]
end
end Go.Wk
