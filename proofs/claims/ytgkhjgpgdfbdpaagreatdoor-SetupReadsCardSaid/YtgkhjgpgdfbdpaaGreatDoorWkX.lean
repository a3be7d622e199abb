/- Builders of strings. -/
import Derived.Test.YtgkhjgpgdfbdpaaGreatDoorWkU
import Derived.Lib.UnsafeStr
namespace Go.Wk
open Go Go.RowKit
/-- A row of bytes of one's own, of a type. -/
def bufT (T : Nat) (v : Value) (bs : List UInt8) : Asrt where
  h _ S w := (v = .slice none 0 0 ∧ bs = []) ∨ ∃ (g cap : Nat) (cs : List Value), v = .slice (some ⟨g, 0, none⟩) bs.length cap ∧ 0 < cap ∧ bs.length ≤ cap ∧ bs.length ≤ 9223372036854775807 ∧ cap ≤ cs.length ∧ S g ∧ w.heap[g]? = some (.cells cs.toArray T (0, 0)) ∧ cs.take bs.length = flat bs
  loc := by
    intro R R' S S' w w' _ hS hk _ h
    rcases h with h | ⟨g, cap, cs, h1, h0, h2, h3, h4, h5, h6, h7⟩
    · exact .inl h
    · exact .inr ⟨g, cap, cs, h1, h0, h2, h3, h4, hS g h5, by rw [hk g (.inr h5)]; exact h6, h7⟩
theorem buf_open {T : Nat} {v : Value} {bs : List UInt8} {w : World} {F : List Asrt} (h : Sat w (bufT T v bs :: F)) : (v = .slice none 0 0 ∧ bs = [] ∧ Sat w F) ∨ ∃ (g cap : Nat) (cs : List Value), v = .slice (some ⟨g, 0, none⟩) bs.length cap ∧ 0 < cap ∧ bs.length ≤ cap ∧ bs.length ≤ 9223372036854775807 ∧ cap ≤ cs.length ∧
    cs.take bs.length = flat bs ∧ Sat w (blk g (.cells cs.toArray T (0, 0)) :: F) := by
  obtain ⟨R, h1, S, h2, hA, h3⟩ := h
  rcases hA with ⟨e1, e2⟩ | ⟨g, cap, cs, e1, e0, e2, e3, e4, e5, e6, e7⟩
  · exact .inl ⟨e1, e2, R, h1, h3.weaken fun _ h => .inl h⟩
  · exact .inr ⟨g, cap, cs, e1, e0, e2, e3, e4, e7, R, h1, S, h2, ⟨e5, e6⟩, h3⟩
theorem buf_close {T : Nat} {v : Value} {bs : List UInt8} {w : World} {F : List Asrt} {g cap : Nat} {cs : List Value} (e1 : v = .slice (some ⟨g, 0, none⟩) bs.length cap) (e0 : 0 < cap) (e2 : bs.length ≤ cap) (e3 : bs.length ≤ 9223372036854775807) (e4 : cap ≤ cs.length) (e7 : cs.take bs.length = flat bs) (h : Sat w (blk g (.cells cs.toArray T (0, 0)) :: F)) : Sat w (bufT T v bs :: F) :=
  Sat.mapHead (A := blk g (.cells cs.toArray T (0, 0))) (fun _ _ (hb : _ ∧ _) => .inr ⟨g, cap, cs, e1, e0, e2, e3, e4, hb.1, hb.2, e7⟩) h
theorem buf_nil {T : Nat} {w : World} {F : List Asrt} (h : Sat w F) : Sat w (bufT T (.slice none 0 0) [] :: F) := by
  obtain ⟨R, h1, h2⟩ := h
  exact ⟨R, h1, fun _ => False, fun _ h => h.elim, .inl ⟨rfl, rfl⟩, SatR.weaken (fun _ hb => hb.elim id False.elim) h2⟩
section
variable {P : Program} {l F : List Asrt} {K : Value → WP}
theorem flat_len1 (bs : List UInt8) : (flat bs).length = bs.length := by rw [flat_length]; exact Nat.mul_one _
theorem buf_len {e : Nat} {v : Value} {bs : List UInt8} (hs : Has l (bufT e v bs)) {w : World} (hw : Sat w l) : ∃ a c, v = .slice a bs.length c := by
  obtain ⟨R, S, h⟩ := hs.sat hw
  rcases h with ⟨rfl, rfl⟩ | ⟨g, cap, cs, rfl, _⟩
  · exact ⟨none, 0, rfl⟩
  · exact ⟨_, _, rfl⟩
theorem Tr.bufLen {T ty e : Nat} {v : Value} {bs : List UInt8} [hT : Slc P T 1] (hs : Has l (bufT e v bs)) (hx : Tr l (K (.int .i64 bs.length))) : Tr l (GenK P (Builtin.len_ #[T] ty #[v]) K) := fun w hw => by
  obtain ⟨e', i, hu, _, _⟩ := und_slc hT.h
  refine ⟨_, ?_, hx w hw⟩
  obtain ⟨a, c, rfl⟩ := buf_len hs hw
  simp [Builtin.len_, run_underlying hu, goInt]
/-- append onto such a row. -/
theorem Tr.appBs {T T2 ty e bytes : Nat} {z : List Value} {v x : Value} {xs ys : List UInt8} [hT : SlcT P T e bytes 1 z] (hz : z.length = 1) (hd2 : P.underlying T2 = some .string)
    (ht : TakeA l (bufT e v xs) F) (hx : ∀ w, Sat w F → (Builtin.lenOf x).run P w = .ok ys.length w ∧ (Builtin.firstCells 1 ys.length x).run P w = .ok (flat ys).toArray w ∧ (Builtin.firstCells 1 ys.length x).run P w.drew = .ok (flat ys).toArray w.drew)
    (hb : 0 < bytes) (hlen : (2 * (xs.length + ys.length) + 1000) * bytes ≤ 2 ^ 48) (hk : ∀ s : SV, Tr (bufT e s.v (xs ++ ys) :: F) (K s.v)) : Tr l (EGenK P (Builtin.append_ #[T, T2] ty #[v, x]) K) := fun w hw0 => by
  have hw := Imp.sat ht hw0
  obtain ⟨hu, inf, hin, hsz, hby, hzz⟩ := hT.h
  obtain ⟨hxlen, hfx, hfxd⟩ := hx w hw.tail
  have hbound : 2 * (xs.length + ys.length) + 1000 ≤ 2 ^ 48 := Nat.le_trans (Nat.le_mul_of_pos_right _ hb) hlen
  have hsize : ∀ w, (sizeOf e).run P w = .ok 1 w := fun w => by simp [sizeOf, typeInfo, hin, hsz]
  have hinfo : ∀ w, (typeInfo e).run P w = .ok inf w := fun w => by simp [typeInfo, hin]
  obtain ⟨z0, hz0, hz1⟩ : ∃ z0, inf.zero = some z0 ∧ z0.cells = z.toArray := by
    cases h : inf.zero with
    | none => rw [h] at hzz; cases hzz
    | some z0 => rw [h] at hzz; exact ⟨z0, rfl, by simpa using hzz⟩
  have hzv : ∀ w, (zeroValue e).run P w = .ok z0 w := fun w => by simp [zeroValue, typeInfo, hin, hz0]
  obtain ⟨va, vc, hv, hvc0⟩ : ∃ a c, v = .slice a xs.length c ∧ (a = none → c = 0) := by
    rcases buf_open hw with ⟨rfl, rfl, _⟩ | ⟨g, cap, cs, rfl, _⟩
    · exact ⟨none, 0, rfl, fun _ => rfl⟩
    · exact ⟨_, _, rfl, fun h => by cases h⟩
  have hfv : ∀ W : World, W.heap = w.heap → (Builtin.firstCells 1 xs.length v).run P W = .ok (flat xs).toArray W := fun W hW => by
    rcases buf_open hw with ⟨rfl, rfl, _⟩ | ⟨g, cap, cs, rfl, h0, h2, h3, h4, h7, hwb⟩
    · simp [Builtin.firstCells, flat]
    · have hg : W.heap[g]? = some (.cells cs.toArray e (0, 0)) := by rw [hW]; exact hwb.get
      have := cells_sl (P := P) (α := UInt8) (v := .slice (some ⟨g, 0, none⟩) xs.length cap) (xs := xs) (ro := false) (w := W) (R := fun _ => False) (S := fun b => b = g)
        (.inr ⟨g, 0, cap, cs, e, (0, 0), rfl, ⟨h2, h3⟩, ⟨rfl, rfl, by rw [show En.sz UInt8 = 1 from rfl]; omega⟩, hg, by rw [List.drop_zero, show En.sz UInt8 = 1 from rfl, Nat.mul_one]; exact h7⟩)
      exact this
  by_cases hroom : xs.length + ys.length ≤ vc
  · rcases buf_open hw with ⟨rfl, rfl, hwF⟩ | ⟨g, cap, cs, e1, h0, h2, h3, h4, h7, hwb⟩
    · have hvc : vc = 0 := by simp only [Value.slice.injEq] at hv; exact hv.2.2.symm
      subst hvc
      have hys : ys = [] := List.eq_nil_of_length_eq_zero (by simp at hroom; rw [hroom]; rfl)
      subst hys
      refine ⟨.slice none 0 0, w, ?_, hk ⟨none, 0, 0⟩ w hw⟩
      have hfx0 : (Builtin.firstCells 1 0 x).run P w = .ok #[] w := hfx
      simp only [Builtin.append_, Sem.run_bind, List.getElem?_toArray, List.getElem?_cons_zero, List.getElem?_cons_succ, run_underlying hu, Result.andThen_ok, hsize, run_underlying hd2, Sem.run_pure, Bool.false_eq_true, if_false, hxlen]
      simp [hfx0]
    · rw [hv] at e1
      simp only [Value.slice.injEq] at e1
      obtain ⟨rfl, _, rfl⟩ := e1
      have hfl : (flat ys).length = ys.length := flat_len1 ys
      have hst := run_storeCells (P := P) (T := e) (flat ys) cs g xs.length 0 (blk g (.cells cs.toArray e (0, 0)) :: F) _ w
        (fun u hu => by have := flat_one ys; rw [List.all_eq_true] at this; exact this u hu) (by omega) hwb Upd.here
      obtain ⟨w', hr, hs⟩ := hst
      refine ⟨.slice (some ⟨g, 0, none⟩) (xs.length + ys.length) vc, w', ?_, ?_⟩
      · simp only [Builtin.append_, Sem.run_bind, List.getElem?_toArray, List.getElem?_cons_zero, List.getElem?_cons_succ, run_underlying hu, Result.andThen_ok, hsize, run_underlying hd2, Sem.run_pure, Bool.false_eq_true, if_false, hxlen, hv, hroom, if_true, Bool.not_false, hfx]
        simp [add_mk, hr]
      · refine hk ⟨some ⟨g, 0, none⟩, xs.length + ys.length, vc⟩ w' ?_
        refine buf_close (g := g) (cap := vc) (by simp [SV.v]) h0 (by simpa using hroom) (by simp; omega) (by rw [setL_length]; exact h4) ?_ hs
        have hpre : cs = cs.take xs.length ++ cs.drop xs.length := (List.take_append_drop _ _).symm
        have hpl : (cs.take xs.length).length = xs.length := by rw [List.length_take]; omega
        have hset : setL cs (xs.length + 0) (flat ys) = cs.take xs.length ++ (flat ys ++ (cs.drop xs.length).drop (flat ys).length) := by
          have := setL_append (cs.take xs.length) (cs.drop xs.length) (flat ys) (by rw [List.length_drop]; omega)
          rw [hpl, ← hpre] at this
          exact this
        rw [hset, flat_append, List.length_append, h7, ← List.append_assoc]
        rw [List.take_append_of_le_length (by rw [List.length_append, flat_len1, flat_len1]; omega), List.take_of_length_le (by rw [List.length_append, flat_len1, flat_len1]; omega)]
  · have hnext := nextcap_le (xs.length + ys.length) vc (by omega)
    have hnb : Builtin.nextslicecap (xs.length + ys.length) vc * inf.bytes ≤ 2 ^ 48 := by
      rw [hby]; exact Nat.le_trans (Nat.mul_le_mul_right _ hnext) hlen
    let q := Question.appendCap (xs.length + ys.length) vc e
    let newCap := q.cut (w.tape w.drawn q)
    have hcap : xs.length + ys.length ≤ newCap := by show _ ≤ Question.cut _ _; simp only [q, Question.cut]; omega
    let rest := Builtin.zeroCells z0.cells (newCap - (xs.length + ys.length))
    let cells := (flat xs).toArray ++ (flat ys).toArray ++ rest
    have hcells : cells = (flat xs ++ flat ys ++ rest.toList).toArray := by simp [cells]
    refine ⟨.slice (some ⟨w.heap.size, 0, none⟩) (xs.length + ys.length) newCap, w.drew.alloc (.cells cells e (0, 0)), ?_, ?_⟩
    · have hfv' := hfv w.drew rfl
      have hnz : inf.bytes ≠ 0 := by rw [hby]; omega
      have hnb : ¬ (Builtin.nextslicecap (xs.length + ys.length) vc * inf.bytes > 2 ^ 48) := by omega
      rw [hv] at hfv' ⊢
      simp only [Builtin.append_, Sem.run_bind, List.getElem?_toArray, List.getElem?_cons_zero, List.getElem?_cons_succ, run_underlying hu, Result.andThen_ok, hsize, run_underlying hd2, Sem.run_pure, Bool.false_eq_true, if_false, hxlen, hroom, hinfo, Bool.not_false, if_true]
      rw [if_neg (by simp [hnz])]
      simp only [Sem.run_bind, hinfo, Result.andThen_ok]
      rw [if_neg hnb]
      have hchoose : (choose (Question.appendCap (xs.length + ys.length) vc e)).run P w = .ok newCap w.drew := by
        rw [run_choose]; rfl
      simp only [Sem.run_bind, hchoose, hinfo, Result.andThen_ok, run_askRoom, hfxd, hfv', hzv, newRow, run_newObj, Sem.run_pure]
      rfl
    · refine hk ⟨some ⟨w.heap.size, 0, none⟩, xs.length + ys.length, newCap⟩ _ ?_
      have hsat := (hw.tail.drew).alloc (.cells cells e (0, 0))
      rw [hcells] at hsat ⊢
      have hsz' : w.drew.heap.size = w.heap.size := rfl
      rw [hsz'] at hsat
      have hc1 : 0 < newCap := by
        have : vc < xs.length + ys.length := by omega
        omega
      refine buf_close (g := w.heap.size) (cap := newCap) (by simp [SV.v]) hc1 (by simpa using hcap) (by simp; omega) ?_ ?_ hsat
      · simp only [List.length_append, flat_len1, rest, Array.length_toList, zeroCells_one, hz1, List.size_toArray, hz]
        omega
      · rw [flat_append, List.take_append_of_le_length (by simp [flat_len1]), List.take_of_length_le (by simp [flat_len1])]
/-- append onto such a row. -/
theorem Tr.appBy {T T2 ty e bytes : Nat} {z : List Value} {v x : Value} {xs ys : List UInt8} [hT : SlcT P T e bytes 1 z] (hz : z.length = 1) {e2 : TypeId} (hd2 : P.underlying T2 = some (.slice e2))
    (ht : TakeA l (bufT e v xs) F) (hx : ∀ w, Sat w F → (Builtin.lenOf x).run P w = .ok ys.length w ∧ (Builtin.firstCells 1 ys.length x).run P w = .ok (flat ys).toArray w ∧ (Builtin.firstCells 1 ys.length x).run P w.drew = .ok (flat ys).toArray w.drew)
    (hb : 0 < bytes) (hlen : (2 * (xs.length + ys.length) + 1000) * bytes ≤ 2 ^ 48) (hk : ∀ s : SV, Tr (bufT e s.v (xs ++ ys) :: F) (K s.v)) : Tr l (EGenK P (Builtin.append_ #[T, T2] ty #[v, x]) K) := fun w hw0 => by
  have hw := Imp.sat ht hw0
  obtain ⟨hu, inf, hin, hsz, hby, hzz⟩ := hT.h
  obtain ⟨hxlen, hfx, hfxd⟩ := hx w hw.tail
  have hbound : 2 * (xs.length + ys.length) + 1000 ≤ 2 ^ 48 := Nat.le_trans (Nat.le_mul_of_pos_right _ hb) hlen
  have hsize : ∀ w, (sizeOf e).run P w = .ok 1 w := fun w => by simp [sizeOf, typeInfo, hin, hsz]
  have hinfo : ∀ w, (typeInfo e).run P w = .ok inf w := fun w => by simp [typeInfo, hin]
  obtain ⟨z0, hz0, hz1⟩ : ∃ z0, inf.zero = some z0 ∧ z0.cells = z.toArray := by
    cases h : inf.zero with
    | none => rw [h] at hzz; cases hzz
    | some z0 => rw [h] at hzz; exact ⟨z0, rfl, by simpa using hzz⟩
  have hzv : ∀ w, (zeroValue e).run P w = .ok z0 w := fun w => by simp [zeroValue, typeInfo, hin, hz0]
  obtain ⟨va, vc, hv, hvc0⟩ : ∃ a c, v = .slice a xs.length c ∧ (a = none → c = 0) := by
    rcases buf_open hw with ⟨rfl, rfl, _⟩ | ⟨g, cap, cs, rfl, _⟩
    · exact ⟨none, 0, rfl, fun _ => rfl⟩
    · exact ⟨_, _, rfl, fun h => by cases h⟩
  have hfv : ∀ W : World, W.heap = w.heap → (Builtin.firstCells 1 xs.length v).run P W = .ok (flat xs).toArray W := fun W hW => by
    rcases buf_open hw with ⟨rfl, rfl, _⟩ | ⟨g, cap, cs, rfl, h0, h2, h3, h4, h7, hwb⟩
    · simp [Builtin.firstCells, flat]
    · have hg : W.heap[g]? = some (.cells cs.toArray e (0, 0)) := by rw [hW]; exact hwb.get
      have := cells_sl (P := P) (α := UInt8) (v := .slice (some ⟨g, 0, none⟩) xs.length cap) (xs := xs) (ro := false) (w := W) (R := fun _ => False) (S := fun b => b = g)
        (.inr ⟨g, 0, cap, cs, e, (0, 0), rfl, ⟨h2, h3⟩, ⟨rfl, rfl, by rw [show En.sz UInt8 = 1 from rfl]; omega⟩, hg, by rw [List.drop_zero, show En.sz UInt8 = 1 from rfl, Nat.mul_one]; exact h7⟩)
      exact this
  by_cases hroom : xs.length + ys.length ≤ vc
  · rcases buf_open hw with ⟨rfl, rfl, hwF⟩ | ⟨g, cap, cs, e1, h0, h2, h3, h4, h7, hwb⟩
    · have hvc : vc = 0 := by simp only [Value.slice.injEq] at hv; exact hv.2.2.symm
      subst hvc
      have hys : ys = [] := List.eq_nil_of_length_eq_zero (by simp at hroom; rw [hroom]; rfl)
      subst hys
      refine ⟨.slice none 0 0, w, ?_, hk ⟨none, 0, 0⟩ w hw⟩
      have hfx0 : (Builtin.firstCells 1 0 x).run P w = .ok #[] w := hfx
      simp only [Builtin.append_, Sem.run_bind, List.getElem?_toArray, List.getElem?_cons_zero, List.getElem?_cons_succ, run_underlying hu, Result.andThen_ok, hsize, run_underlying hd2, Sem.run_pure, Bool.false_eq_true, if_false, hxlen]
      simp [hfx0]
    · rw [hv] at e1
      simp only [Value.slice.injEq] at e1
      obtain ⟨rfl, _, rfl⟩ := e1
      have hfl : (flat ys).length = ys.length := flat_len1 ys
      have hst := run_storeCells (P := P) (T := e) (flat ys) cs g xs.length 0 (blk g (.cells cs.toArray e (0, 0)) :: F) _ w
        (fun u hu => by have := flat_one ys; rw [List.all_eq_true] at this; exact this u hu) (by omega) hwb Upd.here
      obtain ⟨w', hr, hs⟩ := hst
      refine ⟨.slice (some ⟨g, 0, none⟩) (xs.length + ys.length) vc, w', ?_, ?_⟩
      · simp only [Builtin.append_, Sem.run_bind, List.getElem?_toArray, List.getElem?_cons_zero, List.getElem?_cons_succ, run_underlying hu, Result.andThen_ok, hsize, run_underlying hd2, Sem.run_pure, Bool.false_eq_true, if_false, hxlen, hv, hroom, if_true, Bool.not_false, hfx]
        simp [add_mk, hr]
      · refine hk ⟨some ⟨g, 0, none⟩, xs.length + ys.length, vc⟩ w' ?_
        refine buf_close (g := g) (cap := vc) (by simp [SV.v]) h0 (by simpa using hroom) (by simp; omega) (by rw [setL_length]; exact h4) ?_ hs
        have hpre : cs = cs.take xs.length ++ cs.drop xs.length := (List.take_append_drop _ _).symm
        have hpl : (cs.take xs.length).length = xs.length := by rw [List.length_take]; omega
        have hset : setL cs (xs.length + 0) (flat ys) = cs.take xs.length ++ (flat ys ++ (cs.drop xs.length).drop (flat ys).length) := by
          have := setL_append (cs.take xs.length) (cs.drop xs.length) (flat ys) (by rw [List.length_drop]; omega)
          rw [hpl, ← hpre] at this
          exact this
        rw [hset, flat_append, List.length_append, h7, ← List.append_assoc]
        rw [List.take_append_of_le_length (by rw [List.length_append, flat_len1, flat_len1]; omega), List.take_of_length_le (by rw [List.length_append, flat_len1, flat_len1]; omega)]
  · have hnext := nextcap_le (xs.length + ys.length) vc (by omega)
    have hnb : Builtin.nextslicecap (xs.length + ys.length) vc * inf.bytes ≤ 2 ^ 48 := by
      rw [hby]; exact Nat.le_trans (Nat.mul_le_mul_right _ hnext) hlen
    let q := Question.appendCap (xs.length + ys.length) vc e
    let newCap := q.cut (w.tape w.drawn q)
    have hcap : xs.length + ys.length ≤ newCap := by show _ ≤ Question.cut _ _; simp only [q, Question.cut]; omega
    let rest := Builtin.zeroCells z0.cells (newCap - (xs.length + ys.length))
    let cells := (flat xs).toArray ++ (flat ys).toArray ++ rest
    have hcells : cells = (flat xs ++ flat ys ++ rest.toList).toArray := by simp [cells]
    refine ⟨.slice (some ⟨w.heap.size, 0, none⟩) (xs.length + ys.length) newCap, w.drew.alloc (.cells cells e (0, 0)), ?_, ?_⟩
    · have hfv' := hfv w.drew rfl
      have hnz : inf.bytes ≠ 0 := by rw [hby]; omega
      have hnb : ¬ (Builtin.nextslicecap (xs.length + ys.length) vc * inf.bytes > 2 ^ 48) := by omega
      rw [hv] at hfv' ⊢
      simp only [Builtin.append_, Sem.run_bind, List.getElem?_toArray, List.getElem?_cons_zero, List.getElem?_cons_succ, run_underlying hu, Result.andThen_ok, hsize, run_underlying hd2, Sem.run_pure, Bool.false_eq_true, if_false, hxlen, hroom, hinfo, Bool.not_false, if_true]
      rw [if_neg (by simp [hnz])]
      simp only [Sem.run_bind, hinfo, Result.andThen_ok]
      rw [if_neg hnb]
      have hchoose : (choose (Question.appendCap (xs.length + ys.length) vc e)).run P w = .ok newCap w.drew := by
        rw [run_choose]; rfl
      simp only [Sem.run_bind, hchoose, hinfo, Result.andThen_ok, run_askRoom, hfxd, hfv', hzv, newRow, run_newObj, Sem.run_pure]
      rfl
    · refine hk ⟨some ⟨w.heap.size, 0, none⟩, xs.length + ys.length, newCap⟩ _ ?_
      have hsat := (hw.tail.drew).alloc (.cells cells e (0, 0))
      rw [hcells] at hsat ⊢
      have hsz' : w.drew.heap.size = w.heap.size := rfl
      rw [hsz'] at hsat
      have hc1 : 0 < newCap := by
        have : vc < xs.length + ys.length := by omega
        omega
      refine buf_close (g := w.heap.size) (cap := newCap) (by simp [SV.v]) hc1 (by simpa using hcap) (by simp; omega) ?_ ?_ hsat
      · simp only [List.length_append, flat_len1, rest, Array.length_toList, zeroCells_one, hz1, List.size_toArray, hz]
        omega
      · rw [flat_append, List.take_append_of_le_length (by simp [flat_len1]), List.take_of_length_le (by simp [flat_len1])]
theorem str_first {x : List UInt8} {w : World} : (Builtin.firstCells 1 x.length (.string (bstr x))).run P w = .ok (flat x).toArray w := by
  have : ((bstr x).extract 0 x.length).data.map (fun b => Value.int .u8 (b.toNat : Int)) = (flat x).toArray := by
    rw [bstr_extract, List.take_length, List.drop_zero, flat_bytes]
    apply Array.toList_inj.1
    simp [bstr]
  simp only [Builtin.firstCells, Sem.run_pure]
  exact congrArg (fun a => Result.ok a w) this
theorem A.appS {T T2 ty e bytes : Nat} {z : List Value} {v : Value} {xs ys : List UInt8} [hT : SlcT P T e bytes 1 z] [h2 : StrT P T2] (hz : z.length = 1) (ht : TakeA l (bufT e v xs) F)
    (hb : 0 < bytes) (hlen : (2 * (xs.length + ys.length) + 1000) * bytes ≤ 2 ^ 48) (hk : ∀ s : SV, Tr (bufT e s.v (xs ++ ys) :: F) (K s.v)) : Tr l (EGenK P (Builtin.append_ #[T, T2] ty #[v, .string (bstr ys)]) K) :=
  Tr.appBs hz h2.h ht (fun w _ => ⟨by simp [Builtin.lenOf, bstr_size], str_first, str_first⟩) hb hlen hk
theorem A.appY {T T2 ty e bytes : Nat} {z : List Value} {ro : Bool} {v x : Value} {xs ys : List UInt8} [hT : SlcT P T e bytes 1 z] [h2 : Slc P T2 1] (hz : z.length = 1) (ht : TakeA l (bufT e v xs) F) (hs : Has F (sl ro x ys))
    (hb : 0 < bytes) (hlen : (2 * (xs.length + ys.length) + 1000) * bytes ≤ 2 ^ 48) (hk : ∀ s : SV, Tr (bufT e s.v (xs ++ ys) :: F) (K s.v)) : Tr l (EGenK P (Builtin.append_ #[T, T2] ty #[v, x]) K) := by
  obtain ⟨e2, inf2, hu2, hin2, hsz2⟩ := und_slc h2.h
  refine Tr.appBy (ys := ys) hz hu2 ht (fun w hw => ?_) hb hlen hk
  obtain ⟨xa, xc, hxv⟩ := sl_slen hs hw
  obtain ⟨Rx, Sx, hxh⟩ := hs.sat hw
  refine ⟨by rw [hxv]; simp [Builtin.lenOf], cells_sl (P := P) hxh, ?_⟩
  exact cells_sl (P := P) (R := Rx) (S := Sx) ((sl ro x ys).loc (fun _ h => h) (fun _ h => h) (fun _ _ => rfl) ⟨rfl, rfl, rfl⟩ hxh)
/-! ### a string over such a row -/
theorem egen_of {s : Sem Value} {o : Op} {ty : TypeId} {e : Env} (hs : execOp (ev e) (oper o ty) = (do let v ← s; pure (.value v))) (hn : isEff o = true) : opR P o ty e K = EGenK P s K := by
  funext w
  rw [opR_eff hn]
  unfold effR EGenK
  rw [hs]
  apply propext
  simp only [Sem.run_bind]
  cases hr : s.run P w with
  | ok v w' =>
    simp [upon]
    exact ⟨fun h => ⟨v, w', ⟨rfl, rfl⟩, h⟩, fun ⟨_, _, ⟨h1, h2⟩, h⟩ => by rw [h1, h2]; exact h⟩
  | halt x w' => simp [Result.andThen, upon]
theorem opX_usd {as : Array Operand} {ts : Array TypeId} {ty : TypeId} {e : Env} : opX P (.call ⟨.builtin .unsafeSliceData, as, ts⟩) ty e K = EGenK P (Builtin.unsafeSliceData_ ts ty (as.map (ev e))) K := by
  show opR P _ ty e K = _
  exact egen_of rfl rfl
theorem opX_ust {as : Array Operand} {ts : Array TypeId} {ty : TypeId} {e : Env} : opX P (.call ⟨.builtin .unsafeString, as, ts⟩) ty e K = EGenK P (Builtin.unsafeString_ ts ty (as.map (ev e))) K := by
  show opR P _ ty e K = _
  exact egen_of rfl rfl
/-- Where a slice's array begins. -/
def ptrOf (v : Value) : Value := match v with
  | .slice a _ _ => .pointer a
  | _ => .pointer none
theorem G.usd {ts : Array TypeId} {ty : TypeId} {as : Array Value} (h : Tr l (EGenK P (Builtin.unsafeSliceData_ ts ty as) K)) : Tr l (EGenK P (Builtin.unsafeSliceData_ ts ty as) K) := h
theorem G.ust {ts : Array TypeId} {ty : TypeId} {as : Array Value} (h : Tr l (EGenK P (Builtin.unsafeString_ ts ty as) K)) : Tr l (EGenK P (Builtin.unsafeString_ ts ty as) K) := h
theorem A.usd {ts : Array TypeId} {ty e : Nat} {v : Value} {bs : List UInt8} (hs : Has l (bufT e v bs)) (hx : Tr l (K (ptrOf v))) : Tr l (EGenK P (Builtin.unsafeSliceData_ ts ty #[v]) K) := fun w hw => by
  obtain ⟨R, S, h⟩ := hs.sat hw
  rcases h with ⟨rfl, rfl⟩ | ⟨g, cap, cs, rfl, h0, _⟩
  · exact ⟨_, w, rfl, hx w hw⟩
  · exact ⟨_, w, Lib.run_unsafeSliceData_row w ts ty _ _ _ (by omega), hx w hw⟩
theorem A.ust {pt it ty e : Nat} {v : Value} {bs : List UInt8} (hp : P.underlying pt = some (.pointer e)) (hc : P.cellsOf e = 1) (ht : TakeA l (bufT e v bs) F) (hx : Tr F (K (.string (bstr bs)))) : Tr l (EGenK P (Builtin.unsafeString_ #[pt, it] ty #[ptrOf v, .int .i64 (bs.length : Int)]) K) := Tr.imp ht fun w hw => by
  rcases buf_open hw with ⟨rfl, rfl, hwF⟩ | ⟨g, cap, cs, rfl, h0, h2, h3, h4, h7, hwb⟩
  · exact ⟨.string .empty, w, Lib.run_unsafeString_none w pt it ty none, hx w hwF⟩
  · by_cases hb : bs = []
    · subst hb
      exact ⟨.string .empty, w, Lib.run_unsafeString_none w pt it ty _, hx w hwb.tail⟩
    · have hg := hwb.get
      have hr := Lib.run_unsafeString_row (P := P) w pt it ty e hp hc g cs.length (by simp [World.shape?, hg]) bs hb (by omega) h3 (fun j x hj => by
        have hjl : j < bs.length := (List.getElem?_eq_some_iff.1 hj).1
        have h8 : (flat bs)[j]? = some (.int .u8 (x.toNat : Int)) := by
          rw [flat_bytes, List.getElem?_map, List.getElem?_map, hj]; rfl
        rw [← h7, List.getElem?_take_of_lt hjl] at h8
        rw [add_mk]
        simp [World.cell?, hg, h8])
      refine ⟨_, _, hr, hx _ ?_⟩
      have hh : (w.freeze ⟨g, 0, none⟩ bs.length).heap = w.heap.setIfInBounds g (match (Obj.cells cs.toArray e (0, 0)) with | o => ((w.freeze ⟨g, 0, none⟩ bs.length).heap[g]?).getD o) := by
        unfold World.freeze
        rw [if_neg (by simpa using hb)]
        dsimp only
        rw [modify_set hg]
        have hlt := hwb.lt
        simp [hlt]
      exact (hwb.put hh (by unfold World.freeze; split <;> exact ⟨rfl, rfl, rfl⟩)).tail
/-- A builder's own check of its place. -/
theorem trip_copy {f T : Nat} (hu : ∀ (b : Nat) (w : World), w.cell? ⟨b, 0, none⟩ = some (.pointer (some ⟨b, 0, none⟩)) → Calls P f #[.pointer (some ⟨b, 0, none⟩)] w fun e w' => e = .returned (.tuple #[]) ∧ w' = w)
    (hf : ∀ (b : Nat) (w : World), w.cell? ⟨b, 0, none⟩ = some (.pointer none) → w.shape? b = some (T, 2) → w.frozen? ⟨b, 0, none⟩ = false → Calls P f #[.pointer (some ⟨b, 0, none⟩)] w fun e w' => e = .returned (.tuple #[]) ∧ w' = w.setCell ⟨b, 0, none⟩ (.pointer (some ⟨b, 0, none⟩)))
    {b : Nat} {p : Option Addr} {v : Value} (hp : p = none ∨ p = some ⟨b, 0, none⟩) : Trip P f [.pointer (some ⟨b, 0, none⟩)].toArray [blk b (.cells [.pointer p, v].toArray T (0, 0))] fun u l' => u = .tuple #[] ∧ l' = [blk b (.cells [.pointer (some ⟨b, 0, none⟩), v].toArray T (0, 0))] := by
  intro F K hK
  refine Tr.ofCalls fun w hw => ?_
  have hg := hw.get
  have hlt := hw.lt
  rcases hp with rfl | rfl
  · refine (hf b w (by simp [World.cell?, hg]) (by simp [World.shape?, hg]) (by simp [World.frozen?, hg])).mono fun e w' ⟨he, hw'⟩ => ⟨_, he, hK _ _ ⟨rfl, rfl⟩ w' ?_⟩
    subst hw'
    show Sat _ (blk b (.cells [.pointer (some ⟨b, 0, none⟩), v].toArray T (0, 0)) :: F)
    have hh : (w.setCell ⟨b, 0, none⟩ (.pointer (some ⟨b, 0, none⟩))).heap = w.heap.setIfInBounds b (.cells [.pointer (some ⟨b, 0, none⟩), v].toArray T (0, 0)) := by
      unfold World.setCell
      dsimp only
      rw [modify_set hg]
      simp
    exact hw.put hh (by unfold World.setCell; exact ⟨rfl, rfl, rfl⟩)
  · refine (hu b w (by simp [World.cell?, hg])).mono fun e w' ⟨he, hw'⟩ => ⟨_, he, hK _ _ ⟨rfl, rfl⟩ w' ?_⟩
    subst hw'; exact hw
end
/-- A builder of strings that holds these bytes. -/
def bldB (T e b : Nat) (bs : List UInt8) : Asrt := ex fun x : Option Addr × SV => sep (fact (x.1 = none ∨ x.1 = some ⟨b, 0, none⟩)) (sep (blk b (.cells [.pointer x.1, x.2.v].toArray T (0, 0))) (bufT e x.2.v bs))
theorem bld_open {T e b : Nat} {bs : List UInt8} {l : List Asrt} {X : WP} (h : ∀ (p : Option Addr) (s : SV), (p = none ∨ p = some ⟨b, 0, none⟩) → Tr (blk b (.cells [.pointer p, s.v].toArray T (0, 0)) :: bufT e s.v bs :: l) X) : Tr (bldB T e b bs :: l) X := by
  unfold bldB
  refine Tr.ex_iff.2 fun x => Tr.sep_iff.2 (Tr.fact_iff.2 fun hp => Tr.sep_iff.2 (h x.1 x.2 hp))
theorem bld_mk {T e b : Nat} {bs : List UInt8} {d l l2 : List Asrt} (p : Option Addr) (s : SV) (hp : p = none ∨ p = some ⟨b, 0, none⟩) (h : EntR d l (blk b (.cells [.pointer p, s.v].toArray T (0, 0)) :: bufT e s.v bs :: l2)) : EntR d l (bldB T e b bs :: l2) :=
  EntR.ex (p, s) (EntR.sep (EntR.fact hp (EntR.sep h)))
theorem bld_init {T e b : Nat} {l : List Asrt} {X : WP} (h : Tr (bldB T e b [] :: l) X) : Tr (blk b (.cells [.pointer none, .slice none 0 0].toArray T (0, 0)) :: l) X := by
  refine Tr.ent2 (l2 := bldB T e b [] :: l) (bld_mk none ⟨none, 0, 0⟩ (.inl rfl) ?_) h
  refine EntR.take (TakeA.here (A := blk b (.cells [.pointer none, (SV.mk none 0 0).v].toArray T (0, 0)))) ?_
  intro w R U h1 hu hs
  exact ⟨fun _ => False, fun _ h => h.elim, .inl ⟨rfl, rfl⟩, SatR.weaken (fun _ hb => hb.elim id False.elim) hs⟩
end Go.Wk
