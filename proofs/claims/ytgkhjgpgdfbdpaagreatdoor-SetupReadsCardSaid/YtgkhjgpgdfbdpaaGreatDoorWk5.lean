/- Slices. -/
import Derived.Test.YtgkhjgpgdfbdpaaGreatDoorWk4
namespace Go.Wk
open Go

/-- How a thing lies in cells. -/
class En (α : Type) where
  enc : α → List Value
  sz : Nat
  len : ∀ x, (enc x).length = sz
  one : ∀ x, (enc x).all Value.oneCell' = true
  pos : 0 < sz
instance : En Int := ⟨fun n => [.int .i64 n], 1, fun _ => rfl, fun _ => rfl, by decide⟩
instance : En Bool := ⟨fun b => [.bool b], 1, fun _ => rfl, fun _ => rfl, by decide⟩
instance : En UInt8 := ⟨fun b => [.int .u8 b.toNat], 1, fun _ => rfl, fun _ => rfl, by decide⟩

/-- The cells of a row. -/
def flat {α : Type} [En α] (xs : List α) : List Value := xs.flatMap En.enc
theorem flat_length {α : Type} [En α] : ∀ (xs : List α), (flat xs).length = xs.length * En.sz α
  | [] => by simp [flat]
  | x :: xs => by
    have ih := flat_length xs
    simp only [flat] at ih
    simp only [flat, List.flatMap_cons, List.length_append, En.len, ih, List.length_cons, Nat.succ_mul]; omega
theorem flat_append {α : Type} [En α] (xs ys : List α) : flat (xs ++ ys) = flat xs ++ flat ys := by simp [flat]
theorem flat_get {α : Type} [En α] : ∀ (xs : List α) (i j : Nat) (x : α), xs[i]? = some x → j < En.sz α → (flat xs)[i * En.sz α + j]? = (En.enc x)[j]?
  | [], _, _, _, h, _ => by simp at h
  | a :: xs, 0, j, x, h, hj => by
    simp only [List.getElem?_cons_zero, Option.some.injEq] at h
    subst h
    simp only [flat, List.flatMap_cons, Nat.zero_mul, Nat.zero_add]
    rw [List.getElem?_append_left (by rw [En.len]; exact hj)]
  | a :: xs, i + 1, j, x, h, hj => by
    simp only [List.getElem?_cons_succ] at h
    have ih := flat_get xs i j x h hj
    simp only [flat] at ih ⊢
    simp only [List.flatMap_cons]
    rw [List.getElem?_append_right (by rw [En.len, Nat.succ_mul]; omega), En.len, ← ih]
    congr 1
    rw [Nat.succ_mul]; omega
theorem flat_one {α : Type} [En α] (xs : List α) : (flat xs).all Value.oneCell' = true := by
  simp only [flat, List.all_flatMap]
  exact List.all_eq_true.2 fun x _ => En.one x

/-- A slice that has nothing, and whose array (if it has one) nobody looks at. -/
def Nilv (ro : Bool) (v : Value) : Prop := v = .slice none 0 0 ∨ (ro = true ∧ ∃ a : Addr, v = .slice (some a) 0 0)
theorem Nilv.slice {ro : Bool} {v : Value} (h : Nilv ro v) : ∃ a, v = .slice a 0 0 := by
  rcases h with rfl | ⟨_, a, rfl⟩
  · exact ⟨none, rfl⟩
  · exact ⟨some a, rfl⟩
theorem Nilv.own {v : Value} (h : Nilv false v) : v = .slice none 0 0 := by
  rcases h with rfl | ⟨h, _⟩
  · rfl
  · cases h
/-- A slice that reads as xs; ro: for reading alone; else its array is one's own. -/
def sl (ro : Bool) {α : Type} [En α] (v : Value) (xs : List α) : Asrt where
  h R S w := (Nilv ro v ∧ xs = []) ∨ ∃ (b off cap : Nat) (cs : List Value) (T : Nat) (fr : Nat × Nat), v = .slice (some ⟨b, off, none⟩) xs.length cap ∧ (xs.length ≤ cap ∧ xs.length ≤ 9223372036854775807) ∧
    (if ro then R b else S b ∧ fr = (0, 0) ∧ off + cap * En.sz α ≤ cs.length) ∧ w.heap[b]? = some (.cells cs.toArray T fr) ∧ (cs.drop off).take (xs.length * En.sz α) = flat xs
  loc := by
    intro R R' S S' w w' hR hS hk _ h
    rcases h with h | ⟨b, off, cap, cs, T, fr, h1, h2, h3, h4, h5⟩
    · exact .inl h
    · refine .inr ⟨b, off, cap, cs, T, fr, h1, h2, ?_, ?_, h5⟩
      · cases ro
        · exact ⟨hS b h3.1, h3.2⟩
        · exact hR b h3
      · cases ro
        · rw [hk b (.inr h3.1)]; exact h4
        · rw [hk b (.inl h3)]; exact h4
theorem dup_sl {α : Type} [En α] (v : Value) (xs : List α) : Dup (sl true v xs) := fun h => h

/-- Where a slice's elements lie. -/
def sb (v : Value) : Addr := match v with
  | .slice (some a) _ _ => a
  | _ => ⟨0, 0, none⟩
def slen (v : Value) : Nat := match v with
  | .slice _ n _ => n
  | _ => 0

/-- It can be brought to the front. -/
def Has (l : List Asrt) (A : Asrt) : Prop := ∀ (w : World) (R U : Blks), (∀ b, R b → b < w.heap.size) → (∀ b, R b → U b) → SatR R w U l → ∃ S, A.h R S w
theorem Has.here {A : Asrt} {l : List Asrt} : Has (A :: l) A := fun _ _ _ _ _ ⟨S, _, h, _⟩ => ⟨S, h⟩
theorem Has.of_perm {A : Asrt} {l F : List Asrt} (h : l.Perm (A :: F)) : Has l A := fun _ _ _ _ _ hs => let ⟨S, _, h, _⟩ := hs.perm h; ⟨S, h⟩
theorem Has.next {A B : Asrt} {l : List Asrt} (h : Has l A) : Has (B :: l) A := fun w R _ h1 h2 ⟨_, _, _, h3⟩ => h w R _ h1 (fun b hb => .inl (h2 b hb)) h3
theorem Has.sat {A : Asrt} {l : List Asrt} (h : Has l A) {w : World} (hw : Sat w l) : ∃ R S, A.h R S w := by
  obtain ⟨R, h1, h2⟩ := hw
  obtain ⟨S, hA⟩ := h w R R h1 (fun _ h => h) h2
  exact ⟨R, S, hA⟩
theorem Has.add {A : Asrt} {l : List Asrt} (h : Has l A) (hd : Dup A) {w : World} (hw : Sat w l) : Sat w (A :: l) := by
  obtain ⟨R, h1, h2⟩ := hw
  obtain ⟨S, hA⟩ := h w R R h1 (fun _ h => h) h2
  exact ⟨R, h1, fun _ => False, fun _ h => h.elim, hd hA, h2.weaken fun _ hb => hb.elim id False.elim⟩
theorem Has.imps {A : Asrt} {l : List Asrt} (h : Has l A) (hd : Dup A) : Imp l (A :: l) := fun w R U h1 hu h2 => let ⟨_, hA⟩ := h w R U h1 hu h2; ⟨fun _ => False, fun _ h => h.elim, hd hA, h2.weaken fun _ hb => hb.elim id False.elim⟩
/-- What follows of one that is there. -/
theorem Has.imp {A B : Asrt} {l : List Asrt} (h : Has l A) (hi : ∀ {R S w}, A.h R S w → ∃ S', B.h R S' w) : Has l B := fun w R U h1 h2 h3 => let ⟨_, hA⟩ := h w R U h1 h2 h3; hi hA
/-- A fact that follows. -/
theorem Tr.know {l : List Asrt} {X : WP} {p : Prop} (h : ∀ w, Sat w l → p) (hx : p → Tr l X) : Tr l X := fun w hw => hx (h w hw) w hw

section
variable {P : Program} {α : Type} [En α] {ro : Bool} {v : Value} {xs : List α} {l : List Asrt}

theorem sl_cases {R S : Blks} {w : World} (h : (sl ro v xs).h R S w) : (Nilv ro v ∧ xs = []) ∨ ∃ (b off cap : Nat) (cs : List Value) (T : Nat) (fr : Nat × Nat), v = .slice (some ⟨b, off, none⟩) xs.length cap ∧ xs.length ≤ cap ∧ w.heap[b]? = some (.cells cs.toArray T fr) ∧
    (cs.drop off).take (xs.length * En.sz α) = flat xs := by
  rcases h with h | ⟨b, off, cap, cs, T, fr, h1, h2, _, h4, h5⟩
  · exact .inl h
  · exact .inr ⟨b, off, cap, cs, T, fr, h1, h2.1, h4, h5⟩
theorem sl_bound (hs : Has l (sl ro v xs)) {w : World} (hw : Sat w l) : xs.length ≤ 9223372036854775807 := by
  obtain ⟨R, S, h⟩ := hs.sat hw
  rcases h with ⟨_, rfl⟩ | ⟨_, _, _, _, _, _, _, h2, _⟩
  · simp
  · exact h2.2
theorem Tr.bound {X : WP} (hs : Has l (sl ro v xs)) (h : xs.length ≤ 9223372036854775807 → Tr l X) : Tr l X := fun w hw => h (sl_bound hs hw) w hw
theorem sl_slen (hs : Has l (sl ro v xs)) {w : World} (hw : Sat w l) : ∃ a c, v = .slice a xs.length c := by
  obtain ⟨R, S, h⟩ := hs.sat hw
  rcases sl_cases h with ⟨hn, rfl⟩ | ⟨b, off, cap, cs, T0, fr, rfl, _⟩
  · obtain ⟨a, rfl⟩ := hn.slice
    exact ⟨a, 0, rfl⟩
  · exact ⟨_, _, rfl⟩

theorem und_slc {T n : Nat} (h : slcB P T = some n) : ∃ e i, P.underlying T = some (.slice e) ∧ P.info? e = some i ∧ i.size = n := by
  unfold slcB at h
  split at h
  · rename_i e hu
    cases hi : P.info? e with
    | none => rw [hi] at h; cases h
    | some i => rw [hi] at h; simp at h; exact ⟨e, i, hu, hi, h⟩
  · cases h

theorem Tr.len {T ty : Nat} {n : Nat} [hT : Slc P T n] {K : Value → WP} (hs : Has l (sl ro v xs)) (hx : Tr l (K (.int .i64 xs.length))) : Tr l (GenK P (Builtin.len_ #[T] ty #[v]) K) := fun w hw => by
  obtain ⟨e, i, hu, _, _⟩ := und_slc hT.h
  obtain ⟨a, c, hv⟩ := sl_slen hs hw
  refine ⟨_, ?_, hx w hw⟩
  simp [Builtin.len_, run_underlying hu, hv, goInt]

theorem Tr.index {T n : Nat} [hT0 : Slc P T n] {i : Int} {k : IntKind} {K : Value → WP} (hs : Has l (sl ro v xs)) (hne : n = En.sz α) (h0 : 0 ≤ i) (hi : i < xs.length)
    (hx : Tr l (K (.pointer (some ⟨(sb v).block, (sb v).off + i.toNat * En.sz α, none⟩)))) : Tr l (GenK P (Instr.indexAt T v (.int k i)) K) := fun w hw => by
  subst hne
  have hT := hT0
  obtain ⟨e, inf, hu, hin, hsz⟩ := und_slc hT.h
  obtain ⟨R, S, h⟩ := hs.sat hw
  rcases sl_cases h with ⟨_, rfl⟩ | ⟨b, off, cap, cs, T0, fr, rfl, _⟩
  · simp at hi; omega
  · refine ⟨_, ?_, hx w hw⟩
    simp [Instr.indexAt, asIntOf, run_underlying hu, h0, hi, sizeOf, typeInfo, hin, hsz, sb, add_mk]

theorem Cell.slj {i j : Nat} {x : α} {u : Value} (hs : Has l (sl ro v xs)) (hi : xs[i]? = some x) (hj : (En.enc x)[j]? = some u) : Cell l ⟨(sb v).block, (sb v).off + i * En.sz α + j, none⟩ u := fun w hw => by
  obtain ⟨R, S, h⟩ := hs.sat hw
  have hil : i < xs.length := (List.getElem?_eq_some_iff.1 hi).1
  have hjl : j < En.sz α := by rw [← En.len x]; exact (List.getElem?_eq_some_iff.1 hj).1
  rcases sl_cases h with ⟨_, rfl⟩ | ⟨b, off, cap, cs, T0, fr, rfl, h2, h4, h5⟩
  · simp at hil
  · simp only [World.cell?, sb, h4, Option.isSome_none, Bool.false_eq_true, if_false, List.getElem?_toArray]
    have h6 := flat_get xs i j x hi hjl
    have h7 : i * En.sz α + j < xs.length * En.sz α := by
      have : (i + 1) * En.sz α ≤ xs.length * En.sz α := Nat.mul_le_mul_right _ hil
      rw [Nat.succ_mul] at this; omega
    rw [← h5, List.getElem?_take_of_lt h7, List.getElem?_drop, hj] at h6
    rw [Nat.add_assoc]; exact h6
theorem Cell.sl0 {i : Nat} {x : α} {u : Value} (hs : Has l (sl ro v xs)) (hi : xs[i]? = some x) (hj : (En.enc x)[0]? = some u) : Cell l ⟨(sb v).block, (sb v).off + i * En.sz α, none⟩ u := Cell.slj (j := 0) hs hi hj
theorem CellsAt.slj {i j : Nat} {x : α} {us : List Value} {n : Nat} (hs : Has l (sl ro v xs)) (hi : xs[i]? = some x) (hj : ((En.enc x).drop j).take n = us) (hl : us.length = n) : CellsAt l ⟨(sb v).block, (sb v).off + i * En.sz α + j, none⟩ n us := ⟨hl, fun w hw m hm => by
  subst hj
  have h2 : j + m < (En.enc x).length := by simp at hm; omega
  have := Cell.slj (j := j + m) (u := (En.enc x)[j + m]) hs hi (by simp [h2]) w hw
  rw [add_mk, Nat.add_assoc, this]
  simp⟩
theorem CellsAt.sl0 {i : Nat} {x : α} {n : Nat} (hs : Has l (sl ro v xs)) (hi : xs[i]? = some x) (hl : (En.enc x).length = n) : CellsAt l ⟨(sb v).block, (sb v).off + i * En.sz α, none⟩ n (En.enc x) :=
  CellsAt.slj (j := 0) hs hi (by rw [List.drop_zero, ← hl, List.take_length]) hl
end
/-! ### building a struct -/
def fillL (pl : List (Nat × Nat)) : List Value → List (Nat × Value) → Option (List Value)
  | cs, [] => some cs
  | cs, (i, v) :: r => match pl[i]? with
    | none => none
    | some (off, size) => if v.cells.size = size ∧ off + size ≤ cs.length then fillL pl (setL cs off v.cells.toList) r else none
theorem foldl_setL (off : Nat) : ∀ (vs : List Value) (i : Nat) (cs : List Value), (vs.zipIdx i).foldl (fun (cs : Array Value) (x : Value × Nat) => cs.setIfInBounds (off + x.2) x.1) cs.toArray = (setL cs (off + i) vs).toArray
  | [], _, _ => rfl
  | v :: vs, i, cs => by
    simp only [List.zipIdx_cons, List.foldl_cons, setL]
    rw [show cs.toArray.setIfInBounds (off + i) v = (cs.set (off + i) v).toArray by simp, foldl_setL off vs (i + 1) (cs.set (off + i) v)]
    rfl
theorem fill_eq (pl : List (Nat × Nat)) : ∀ (parts : List (Nat × Value)) (cs cs' : List Value), fillL pl cs parts = some cs' → Instr.fill (fun i => pl[i]?) cs.toArray parts = some cs'.toArray
  | [], cs, cs', h => by simp only [fillL, Option.some.injEq] at h; subst h; rfl
  | (i, v) :: r, cs, cs', h => by
    simp only [fillL] at h
    simp only [Instr.fill]
    cases hp : pl[i]? with
    | none => rw [hp] at h; cases h
    | some os =>
      obtain ⟨off, size⟩ := os
      rw [hp] at h
      simp only at h ⊢
      split at h
      · rename_i hc
        have hc2 : (decide (v.cells.size ≠ size) || decide (off + v.cells.size > cs.toArray.size)) = false := by
          simp [hc.1, hc.2]
        rw [hc2]
        simp only [Bool.false_eq_true, if_false]
        have := fill_eq pl r _ cs' h
        rw [← this]
        congr 1
        rw [← Array.foldl_toList, Array.toList_zipIdx]
        have := foldl_setL off v.cells.toList 0 cs
        rw [Nat.add_zero] at this
        exact this
      · cases h
section
variable {P : Program} {l : List Asrt}
theorem Tr.build {T : Nat} {parts : Array (Nat × Value)} {pl : List (Nat × Nat)} {z cs : List Value} [hT : BuildT P T pl z] {K : Value → WP} (h : fillL pl z parts.toList = some cs) (hx : Tr l (K (.agg cs.toArray))) : Tr l (GenK P (Instr.build T parts) K) := fun w hw => by
  refine ⟨_, ?_, hx w hw⟩
  obtain ⟨h1, h2⟩ := hT.h
  unfold placesB at h1
  split at h1
  · rename_i fs hu
    have hz : (zeroValue T).run P w = .ok (.agg z.toArray) w := by
      unfold zeroB at h2
      cases hi : P.info? T with
      | none => rw [hi] at h2; cases h2
      | some i =>
        rw [hi] at h2
        have hz' : i.zero = some (.agg z.toArray) := h2
        simp [zeroValue, typeInfo, hi, hz']
    have hm : ∀ (fl : List Field) (pl : List (Nat × Nat)), (fl.mapM fun f => (P.info? f.type).map fun i => (f.offset, i.size)) = some pl → (fl.mapM fun f => (do pure (f.offset, ← sizeOf f.type) : Sem (Nat × Nat))).run P w = .ok pl w := by
      intro fl
      induction fl with
      | nil => intro pl h; simp at h; subst h; simp
      | cons f fl ih =>
        intro pl h
        simp only [List.mapM_cons] at h ⊢
        cases hi : P.info? f.type with
        | none => rw [hi] at h; simp at h
        | some i =>
          rw [hi] at h
          simp only [Option.map_some, Option.bind_eq_bind, Option.bind_some] at h
          cases hr : fl.mapM (fun f => (P.info? f.type).map fun i => (f.offset, i.size)) with
          | none => rw [hr] at h; simp at h
          | some pl' =>
            rw [hr] at h
            simp at h
            subst h
            have := ih pl' hr
            have hsz : (sizeOf f.type).run P w = .ok i.size w := by simp [sizeOf, typeInfo, hi]
            generalize sizeOf f.type = sf at hsz
            generalize (fl.mapM fun f => (do pure (f.offset, ← sizeOf f.type) : Sem (Nat × Nat))) = sm at this
            simp [hsz, this]
    have hm' := hm fs.toList pl h1
    unfold Instr.build
    simp only [Sem.run_bind, hz, Result.andThen_ok, run_underlying hu, Value.cells]
    have hma : (fs.mapM fun f => (do pure (f.offset, ← sizeOf f.type) : Sem (Nat × Nat))).run P w = .ok pl.toArray w := by
      rw [← Array.toArray_toList (xs := fs), List.mapM_toArray]
      simp only [Sem.run_map, hm', Result.andThen_ok]
    generalize (fs.mapM fun f => (do pure (f.offset, ← sizeOf f.type) : Sem (Nat × Nat))) = sm at hma
    rw [hma]
    simp only [Result.andThen_ok]
    have hf := fill_eq pl parts.toList z cs h
    have : (fun (x : Nat) => pl.toArray[x]?) = fun (i : Nat) => pl[i]? := by funext i; simp
    rw [this, hf]
    simp
  · cases h1
end
end Go.Wk
