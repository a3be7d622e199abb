/- Slices: literals, make, cuts, stores; min and max. -/
import Derived.Test.YtgkhjgpgdfbdpaaGreatDoorWk7
namespace Go.Wk
open Go
section
variable {P : Program} {α : Type} [En α] {v : Value} {xs : List α} {l F : List Asrt} {ro : Bool}

/-- A cut of a slice, from lo up to hi, to be read. -/
theorem Tr.cut {T : Nat} [hT : Slc P T (En.sz α)] {lo hi : Int} {k1 k2 : IntKind} {K : Value → WP} (hs : Has l (sl true v xs)) (h0 : 0 ≤ lo) (h1 : lo ≤ hi) (h2 : hi ≤ xs.length)
    (hx : ∀ s : SV, Tr (sl true s.v ((xs.take hi.toNat).drop lo.toNat) :: l) (K s.v)) : Tr l (GenK P (Instr.sliceAt T v (some (.int k1 lo)) (some (.int k2 hi)) none) K) := fun w hw => by
  obtain ⟨e, inf, hu, hin, hsz⟩ := und_slc hT.h
  have hsize : (sizeOf e).run P w = .ok (En.sz α) w := by simp [sizeOf, typeInfo, hin, hsz]
  have hw1 := hs.add (dup_sl v xs) hw
  obtain ⟨R, S, hA⟩ := hs.sat hw
  have hlen : ((xs.take hi.toNat).drop lo.toNat).length = hi.toNat - lo.toNat := by
    rw [List.length_drop, List.length_take]; omega
  -- the cut's own words
  obtain ⟨s, hr, hmap⟩ : ∃ s : SV, (Instr.sliceAt T v (some (.int k1 lo)) (some (.int k2 hi)) none).run P w = .ok s.v w ∧ ∀ R S, (sl true v xs).h R S w → (sl true s.v ((xs.take hi.toNat).drop lo.toNat)).h R S w := by
    rcases hA with ⟨e1, e2⟩ | ⟨b, off, cap, cs, T', fr, e1, e2, e3, e4, e5⟩
    · obtain ⟨a0, e1⟩ := e1.slice
      subst e1; subst e2
      have : hi = 0 := by simp at h2; omega
      subst this
      have : lo = 0 := by omega
      subst this
      refine ⟨⟨a0, 0, 0⟩, ?_, fun R S _ => .inl ⟨(by cases a0 <;> simp [Nilv, SV.v]), by simp⟩⟩
      cases a0 <;> simp [Instr.sliceAt, run_underlying hu, Instr.slice, Instr.sliceBounds, Instr.sliceBound, asIntOf, hsize, SV.v]
    · subst e1
      have hc : hi.toNat ≤ cap := by omega
      refine ⟨⟨if cap = lo.toNat then some ⟨b, off, none⟩ else some ⟨b, off + lo.toNat * En.sz α, none⟩, hi.toNat - lo.toNat, cap - lo.toNat⟩, ?_, fun R S hA => ?_⟩
      · have a1 : 0 ≤ hi := by omega
        have a2 : hi ≤ cap := by omega
        have a3 : lo ≤ (hi.toNat : Int) := by omega
        simp only [Instr.sliceAt, Sem.run_bind, run_underlying hu, Result.andThen_ok, Instr.slice, Instr.sliceBounds, Instr.sliceBound, asIntOf, Sem.run_pure, a1, a2, and_self, if_true, h0, a3, hsize, Option.isSome_none, Bool.false_eq_true, if_false, Sem.run_ite, Option.map_some, add_mk, SV.v]
      · rcases hA with ⟨e1', _⟩ | ⟨b', off', cap', cs', T'', fr', e1', _, e3', e4', e5'⟩
        · obtain ⟨a1, e1''⟩ := e1'.slice
          simp only [Value.slice.injEq] at e1''
          obtain ⟨e1, e2'', e3''⟩ := e1''
          have hl0 : lo.toNat = 0 := by omega
          have hh0 : hi.toNat = 0 := by omega
          exact .inl ⟨.inr ⟨rfl, ⟨b, off, none⟩, by simp [SV.v, hl0, hh0, e3'']⟩, List.eq_nil_of_length_eq_zero (by omega)⟩
        · simp only [Value.slice.injEq, Option.some.injEq, Addr.mk.injEq, and_true] at e1'
          obtain ⟨⟨rfl, rfl⟩, _, rfl⟩ := e1'
          by_cases hcl : cap = lo.toNat
          · -- nothing is left
            have hhi : hi.toNat = lo.toNat := by omega
            refine .inr ⟨b, off, cap - lo.toNat, cs', T'', fr', ?_, by omega, e3', e4', ?_⟩
            · simp [SV.v, hcl, hlen]
            · rw [hlen, hhi]
              have : (xs.take lo.toNat).drop lo.toNat = [] := by
                apply List.eq_nil_of_length_eq_zero; rw [List.length_drop, List.length_take]; omega
              rw [this]; simp [flat]
          · refine .inr ⟨b, off + lo.toNat * En.sz α, cap - lo.toNat, cs', T'', fr', ?_, by omega, e3', e4', ?_⟩
            · simp [SV.v, hcl, hlen]
            · rw [hlen]
              have hx : xs = xs.take lo.toNat ++ ((xs.take hi.toNat).drop lo.toNat ++ xs.drop hi.toNat) := by
                have e1 : xs.take lo.toNat = (xs.take hi.toNat).take lo.toNat := by rw [List.take_take, Nat.min_eq_left (by omega)]
                rw [e1, ← List.append_assoc, List.take_append_drop, List.take_append_drop]
              have hf : flat xs = flat (xs.take lo.toNat) ++ (flat ((xs.take hi.toNat).drop lo.toNat) ++ flat (xs.drop hi.toNat)) := by
                rw [← flat_append, ← flat_append, ← hx]
              have hl1 : (flat (xs.take lo.toNat)).length = lo.toNat * En.sz α := by rw [flat_length, List.length_take]; congr 1; omega
              have hl2 : (flat ((xs.take hi.toNat).drop lo.toNat)).length = (hi.toNat - lo.toNat) * En.sz α := by rw [flat_length, hlen]
              have hd : (cs'.drop (off + lo.toNat * En.sz α)).take ((hi.toNat - lo.toNat) * En.sz α) = (((cs'.drop off).take (xs.length * En.sz α)).drop (lo.toNat * En.sz α)).take ((hi.toNat - lo.toNat) * En.sz α) := by
                rw [List.drop_take, List.drop_drop, List.take_take]
                congr 1
                have : (hi.toNat - lo.toNat) * En.sz α ≤ xs.length * En.sz α - lo.toNat * En.sz α := by rw [← Nat.sub_mul]; exact Nat.mul_le_mul_right _ (by omega)
                omega
              rw [hd, e5', hf, List.drop_append_of_le_length (by omega), ← hl1, List.drop_length, List.nil_append, ← hl2, List.take_left']
              rfl
  refine ⟨s.v, hr, hx s w ?_⟩
  exact Sat.mapHead (hmap) hw1

theorem fresh_sl {w : World} {cs : List Value} {e : Nat} (hc : cs = flat xs) (hb : xs.length ≤ 9223372036854775807) (h : Sat w F) : Sat (w.alloc (.cells cs.toArray e (0, 0))) (sl false (.slice (some ⟨w.heap.size, 0, none⟩) xs.length xs.length) xs :: F) := by
  have hl : cs.length = xs.length * En.sz α := by rw [hc, flat_length]
  refine sl_close (b := w.heap.size) (off := 0) (cap := xs.length) (cs := cs) (T := e) rfl ⟨Nat.le_refl _, hb⟩ (by omega) ?_ (h.alloc _)
  rw [List.drop_zero, ← hl, List.take_length, hc]

theorem Tr.cutTo {T n : Nat} [hT0 : Slc P T n] {hi : Int} {k2 : IntKind} {K : Value → WP} (hs : Has l (sl true v xs)) (hne : n = En.sz α) (h1 : 0 ≤ hi) (h2 : hi ≤ xs.length)
    (hx : ∀ s : SV, Tr (sl true s.v (xs.take hi.toNat) :: l) (K s.v)) : Tr l (GenK P (Instr.sliceAt T v none (some (.int k2 hi)) none) K) := fun w hw => by
  subst hne
  have hT := hT0
  obtain ⟨e, inf, hu, hin, hsz⟩ := und_slc hT.h
  have key : (Instr.sliceAt T v none (some (.int k2 hi)) none).run P w = (Instr.sliceAt T v (some (.int .i64 0)) (some (.int k2 hi)) none).run P w := by
    obtain ⟨a, c, hv⟩ := sl_slen hs hw
    rw [hv]
    simp only [Instr.sliceAt, Sem.run_bind, run_underlying hu, Result.andThen_ok, Instr.slice, Instr.sliceBounds, Instr.sliceBound, asIntOf, Sem.run_pure]
    by_cases hc : 0 ≤ hi ∧ hi ≤ (c : Int)
    · simp [hc]
    · simp [hc, boundsPanic, runtimePanic]
  have := Tr.cut (P := P) (T := T) (lo := 0) (hi := hi) (k1 := .i64) (k2 := k2) (K := K) hs (Int.le_refl 0) h1 h2 (fun s => by simpa using hx s) w hw
  obtain ⟨v', hr, hk⟩ := this
  exact ⟨v', by rw [key]; exact hr, hk⟩
theorem map_range0 {β : Type} (f : Nat → β) : (Array.range 0).map f = #[] := by
  apply Array.ext
  · simp
  · intro i h1 h2; simp at h2
theorem range_zero (z : Array Value) (d : α) (hz : z = (En.enc d).toArray) : ∀ n, ((Array.range (n * En.sz α)).map (z[· % z.size]!)) = (flat (List.replicate n d)).toArray := by
  intro n
  have hzs : z.size = En.sz α := by rw [hz]; simp [En.len]
  apply Array.ext
  · simp [flat_length]
  · intro i h1 h2
    have hi : i < n * En.sz α := by simpa using h1
    simp only [Array.getElem_map, Array.getElem_range]
    have hp := En.pos (α := α)
    have hq : i / En.sz α < n := by rw [Nat.div_lt_iff_lt_mul hp]; exact hi
    have hm : i % En.sz α < En.sz α := Nat.mod_lt _ hp
    have h3 := flat_get (List.replicate n d) (i / En.sz α) (i % En.sz α) d (by simp [hq]) hm
    rw [show i / En.sz α * En.sz α + i % En.sz α = i by rw [Nat.mul_comm]; exact Nat.div_add_mod i _] at h3
    have h4 : (flat (List.replicate n d))[i]? = some (flat (List.replicate n d))[i] := by simp [flat_length, hi]
    rw [h4] at h3
    have h5 : z[i % z.size]! = z[i % z.size]?.getD default := by rw [Array.getElem!_eq_getD, Array.getD_eq_getD_getElem?]
    rw [h5, hzs, hz, List.getElem?_toArray, ← h3]
    simp

theorem Tr.makeSlice {T e bytes : Nat} {z : List Value} {d : α} [hT : SlcT P T e bytes (En.sz α) z] {n : Int} {k1 k2 : IntKind} {K : Value → WP} (hz : z = En.enc d) (h0 : 0 ≤ n) (h1 : n ≤ 9223372036854775807) (hn : bytes * n ≤ 281474976710656)
    (hk : ∀ s : SV, Tr (sl false s.v (List.replicate n.toNat d) :: l) (K s.v)) : Tr l (EGenK P (Instr.makeSlice T (.int k1 n) (.int k2 n)) K) := fun w hw => by
  obtain ⟨hu, inf, hin, hsz, hby, hzz⟩ := hT.h
  obtain ⟨z0, hz0, hz1⟩ : ∃ z0, inf.zero = some z0 ∧ z0.cells = z.toArray := by
    cases h : inf.zero with
    | none => rw [h] at hzz; cases hzz
    | some z0 => rw [h] at hzz; exact ⟨z0, rfl, by simpa using hzz⟩
  have hwr : IntKind.i64.wrap n = n := by apply Go.IntWalk.i64_in <;> omega
  have hcs := range_zero (α := α) z0.cells d (by rw [hz1, hz]) n.toNat
  refine ⟨.slice (some ⟨w.heap.size, 0, none⟩) n.toNat n.toNat, w.alloc (.cells (flat (List.replicate n.toNat d)).toArray e (0, 0)), ?_, ?_⟩
  · have hzv : ∀ w, (zeroValue e).run P w = .ok z0 w := fun w => by simp [zeroValue, typeInfo, hin, hz0]
    have hsize : ∀ w, (sizeOf e).run P w = .ok (En.sz α) w := fun w => by simp [sizeOf, typeInfo, hin, hsz]
    have hinfo : ∀ w, (typeInfo e).run P w = .ok inf w := fun w => by simp [typeInfo, hin]
    simp only [Instr.makeSlice, Sem.run_bind, run_underlying hu, Result.andThen_ok, asInt, asIntOf, Sem.run_pure, hinfo, hwr]
    have hbig : (n < 0 || (inf.bytes : Int) * n > 2 ^ 48) = false := by
      rw [hby]
      simp only [Bool.or_eq_false_iff, decide_eq_false_iff_not]
      omega
    have hneg : ¬ (n < 0) := by omega
    have hcond : ((n < 0 || (inf.bytes : Int) * n > 2 ^ 48) || decide (n < 0) || decide (n > n)) = false := by
      rw [hbig]; simp [hneg]
    simp only [hcond, Bool.false_eq_true, if_false, Sem.run_bind, run_askRoom, Result.andThen_ok, hsize]
    by_cases hn0 : n.toNat * En.sz α = 0
    · have hn1 : n.toNat = 0 := by
        rcases Nat.mul_eq_zero.1 hn0 with h | h
        · exact h
        · have := En.pos (α := α); omega
      simp only [hn0, if_true]
      simp [hn1, newRow, flat, map_range0]
    · simp only [hn0, if_false, Sem.run_bind, hzv, Result.andThen_ok, Sem.run_pure]
      rw [hcs]
      simp [newRow]
  · have := fresh_sl (α := α) (xs := List.replicate n.toNat d) (e := e) rfl (by simp; omega) hw
    simp only [List.length_replicate] at this
    exact hk ⟨some ⟨w.heap.size, 0, none⟩, n.toNat, n.toNat⟩ _ this

def fillP (place : Nat → Option (Nat × Nat)) : List Value → List (Nat × Value) → Option (List Value)
  | cs, [] => some cs
  | cs, (i, v) :: r => match place i with
    | none => none
    | some (off, size) => if v.cells.size = size ∧ off + size ≤ cs.length then fillP place (setL cs off v.cells.toList) r else none
theorem fillP_eq (place : Nat → Option (Nat × Nat)) : ∀ (parts : List (Nat × Value)) (cs cs' : List Value), fillP place cs parts = some cs' → Instr.fill place cs.toArray parts = some cs'.toArray
  | [], cs, cs', h => by simp only [fillP, Option.some.injEq] at h; subst h; rfl
  | (i, v) :: r, cs, cs', h => by
    simp only [fillP] at h
    simp only [Instr.fill]
    cases hp : place i with
    | none => rw [hp] at h; cases h
    | some os =>
      obtain ⟨off, size⟩ := os
      rw [hp] at h
      simp only at h ⊢
      split at h
      · rename_i hc
        have hc2 : (decide (v.cells.size ≠ size) || decide (off + v.cells.size > cs.toArray.size)) = false := by
          simp [hc.1, hc.2]
        rw [hc2]
        simp only [Bool.false_eq_true, if_false]
        have := fillP_eq place r _ cs' h
        rw [← this]
        congr 1
        rw [← Array.foldl_toList, Array.toList_zipIdx]
        have := foldl_setL off v.cells.toList 0 cs
        rw [Nat.add_zero] at this
        exact this
      · cases h
/-- A slice's literal: xs is what it holds. -/
theorem Tr.buildSlice {T e bytes n : Nat} {z : List Value} (xs : List α) {d : α} [hT : SlcT P T e bytes (En.sz α) z] {parts : Array (Nat × Value)} {K : Value → WP} (hz : z = En.enc d) (hn : xs.length = n) (hsm : n * En.sz α ≤ 16777216)
    (hf : fillP (fun i => some (i * En.sz α, En.sz α)) (flat (List.replicate n d)) parts.toList = some (flat xs)) (hk : ∀ s : SV, Tr (sl false s.v xs :: l) (K s.v)) : Tr l (EGenK P (Instr.buildSlice T n parts) K) := fun w hw => by
  obtain ⟨hu, inf, hin, hsz, hby, hzz⟩ := hT.h
  obtain ⟨z0, hz0, hz1⟩ : ∃ z0, inf.zero = some z0 ∧ z0.cells = z.toArray := by
    cases h : inf.zero with
    | none => rw [h] at hzz; cases hzz
    | some z0 => rw [h] at hzz; exact ⟨z0, rfl, by simpa using hzz⟩
  have hcs := range_zero (α := α) z0.cells d (by rw [hz1, hz]) n
  have hzv : (zeroValue e).run P w = .ok z0 w := by simp [zeroValue, typeInfo, hin, hz0]
  have hsize : (sizeOf e).run P w = .ok (En.sz α) w := by simp [sizeOf, typeInfo, hin, hsz]
  have hfill := fillP_eq _ parts.toList _ _ hf
  refine ⟨.slice (some ⟨w.heap.size, 0, none⟩) n n, w.alloc (.cells (flat xs).toArray e (0, 0)), ?_, ?_⟩
  · simp only [Instr.buildSlice, Sem.run_bind, run_underlying hu, Result.andThen_ok, hsize]
    rw [if_neg (by omega)]
    by_cases hn0 : n * En.sz α = 0
    · simp only [hn0, if_true, Sem.run_bind, Sem.run_pure, Result.andThen_ok]
      have h1 : ((Array.range 0).map ((#[] : Array Value)[· % (#[] : Array Value).size]!)) = (flat (List.replicate n d)).toArray := by
        have : flat (List.replicate n d) = [] := List.eq_nil_of_length_eq_zero (by rw [flat_length, List.length_replicate]; exact hn0)
        rw [this, map_range0]
      rw [h1, hfill]
      simp [newRow]
    · simp only [hn0, if_false, Sem.run_bind, hzv, Result.andThen_ok, Sem.run_pure]
      rw [hcs, hfill]
      simp [newRow]
  · have := fresh_sl (α := α) (xs := xs) (e := e) rfl (by have := En.pos (α := α); have := Nat.le_mul_of_pos_right n this; omega) hw
    rw [hn] at this
    exact hk ⟨some ⟨w.heap.size, 0, none⟩, n, n⟩ _ this

theorem flat_set : ∀ (xs : List α) (i : Nat) (x : α), i < xs.length → setL (flat xs) (i * En.sz α) (En.enc x) = flat (xs.set i x)
  | [], _, _, h => by simp at h
  | y :: xs, 0, x, _ => by
    have := setL_append [] (flat (y :: xs)) (En.enc x) (by rw [flat_length, En.len, List.length_cons, Nat.succ_mul]; omega)
    simp only [List.nil_append, List.length_nil] at this
    simp only [Nat.zero_mul, this, List.set_cons_zero]
    simp only [flat, List.flatMap_cons]
    rw [En.len, ← En.len y, List.drop_left']
    rfl
  | y :: xs, i + 1, x, h => by
    have ih := flat_set xs i x (by simpa using h)
    have gen : ∀ (vs a c : List Value) (off : Nat), setL (a ++ c) (a.length + off) vs = a ++ setL c off vs := by
      intro vs
      induction vs with
      | nil => intros; rfl
      | cons u us ihv =>
        intro a c off
        simp only [setL]
        rw [List.set_append_right _ _ (by omega), show a.length + off - a.length = off by omega, show a.length + off + 1 = a.length + (off + 1) by omega, ihv]
    have e : (i + 1) * En.sz α = (En.enc y).length + i * En.sz α := by rw [En.len, Nat.succ_mul]; omega
    simp only [List.set_cons_succ]
    simp only [flat, List.flatMap_cons] at ih ⊢
    rw [e, gen, ih]

/-- A store of a whole element. -/
theorem Tr.storeEl {T i : Nat} {u : Value} {x : α} {K : Value → WP} [hT0 : Siz P T (En.sz α)] (hi : i < xs.length) (hu : u.cells = (En.enc x).toArray) (ht : TakeA l (sl false v xs) F) (hx : Tr (sl false v (xs.set i x) :: F) (K undef)) :
    Tr l (EUnitK P (Instr.storeAt T (.pointer (some ⟨(sb v).block, (sb v).off + i * En.sz α, none⟩)) u) K) := fun w hw0 => by
  have hw := Imp.sat ht hw0
  rcases sl_open hw with ⟨rfl, rfl, hwF⟩ | ⟨b, off, cap, cs, T', rfl, e3, e5, e7, hwb⟩
  · simp at hi
  · have hle : (i + 1) * En.sz α ≤ xs.length * En.sz α := Nat.mul_le_mul_right _ hi
    have hle2 : xs.length * En.sz α ≤ cap * En.sz α := Nat.mul_le_mul_right _ e3.1
    rw [Nat.succ_mul] at hle
    have hlen : (En.enc x).length = En.sz α := En.len x
    refine Tr.store (P := P) (T := T) (T' := T') (n := En.sz α) (b := b) (off := off + i * En.sz α) (cs := cs) (v := u) (vs := En.enc x) (K := K) hu hlen (En.one x) (Upd.here (l := F)) (by omega) ?_ w hwb
    intro w' hw'
    refine hx w' ?_
    refine sl_close (b := b) (off := off) (cap := cap) (cs := setL cs (off + i * En.sz α) (En.enc x)) (T := T') (by simp) (by simpa using e3) (by rw [setL_length]; exact e5) ?_ hw'
    rw [List.length_set, ← flat_set xs i x hi, ← e7]
    -- a store within what is read
    have key : ∀ (vs cs : List Value) (k : Nat), k + vs.length ≤ xs.length * En.sz α → ((setL cs (off + k) vs).drop off).take (xs.length * En.sz α) = setL ((cs.drop off).take (xs.length * En.sz α)) k vs := by
      intro vs
      induction vs with
      | nil => intros; rfl
      | cons a as ih =>
        intro cs k hk
        simp only [List.length_cons] at hk
        simp only [setL]
        rw [show off + k + 1 = off + (k + 1) by omega, ih _ _ (by omega), List.drop_set, if_neg (by omega), show off + k - off = k by omega, List.take_set]
    exact key _ _ _ (by omega)
theorem min_int {ty T : Nat} {k k' : IntKind} {a b : Int} {K : Value → WP} : GenK P (Builtin.min_ #[T, T] ty #[.int k a, .int k' b]) K = K (.int k (if b < a then b else a)) := by
  refine GenK_of (fun w => ?_) K
  simp [Builtin.min_, Builtin.min2]
end
end Go.Wk
