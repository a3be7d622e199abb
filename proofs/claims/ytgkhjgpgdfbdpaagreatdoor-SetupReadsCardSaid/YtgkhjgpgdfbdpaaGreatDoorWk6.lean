/- Maps with int keys. -/
import Derived.Test.YtgkhjgpgdfbdpaaGreatDoorWk5
namespace Go.Wk
open Go

def kvOf (kv : Int × Value) : Value × Value := (.int .i64 kv.1, kv.2)
/-- A map of one's own, as a list of its entries. -/
def mp (m : Nat) (kvs : List (Int × Value)) : Asrt where
  h _ S w := S m ∧ ∃ (es : List MapEntry) (clock : Nat), w.heap[m]? = some (.map es.toArray clock) ∧ es.map (fun e => (e.key, e.val)) = kvs.map kvOf
  loc := fun _ hS hk _ ⟨h1, es, c, h2, h3⟩ => ⟨hS m h1, es, c, by rw [hk m (.inr h1)]; exact h2, h3⟩

def find (k : Int) : List (Int × Value) → Option Value
  | [] => none
  | kv :: r => if k = kv.1 then some kv.2 else find k r
def upsert (k : Int) (v : Value) : List (Int × Value) → List (Int × Value)
  | [] => [(k, v)]
  | kv :: r => if k = kv.1 then (k, v) :: r else kv :: upsert k v r

theorem findNow_spec (k : Int) : ∀ (es : List MapEntry) (kvs : List (Int × Value)) (i : Nat), es.map (fun e => (e.key, e.val)) = kvs.map kvOf →
    match find k kvs with
    | none => Instr.findNow (.int .i64) (.int .i64 k) es i = some none
    | some v => ∃ j, Instr.findNow (.int .i64) (.int .i64 k) es i = some (some (i + j, v)) ∧ (∃ e, es[j]? = some e ∧ e.key = .int .i64 k) ∧
        ∀ u, (es.modify j fun e => { e with key := .int .i64 k, val := u }).map (fun e => (e.key, e.val)) = (upsert k u kvs).map kvOf
  | [], [], i, _ => by simp [find, Instr.findNow]
  | [], _ :: _, _, h => by simp at h
  | _ :: _, [], _, h => by simp at h
  | e :: es, kv :: kvs, i, h => by
    simp only [List.map_cons, List.cons.injEq, Prod.mk.injEq, kvOf] at h
    obtain ⟨⟨h1, h2⟩, h3⟩ := h
    simp only [find]
    by_cases hk : k = kv.1
    · rw [if_pos hk]
      refine ⟨0, ?_, ⟨e, by simp, by rw [h1, hk]⟩, fun u => ?_⟩
      · simp [Instr.findNow, Instr.sameNow, h1, hk, h2]
      · simp only [List.modify_zero_cons, List.map_cons, upsert, if_pos hk, kvOf, h3]
    · rw [if_neg hk]
      have ih := findNow_spec k es kvs (i + 1) h3
      have hn : Instr.findNow (.int .i64) (.int .i64 k) (e :: es) i = Instr.findNow (.int .i64) (.int .i64 k) es (i + 1) := by
        simp only [Instr.findNow, Instr.sameNow, h1, if_true]
        have : (k == kv.1) = false := by simp [hk]
        rw [this]
      rw [hn]
      cases hf : find k kvs with
      | none => rw [hf] at ih; exact ih
      | some v =>
        rw [hf] at ih
        obtain ⟨j, hj, ⟨e', he, hek⟩, hu⟩ := ih
        refine ⟨j + 1, by rw [hj]; simp; omega, ⟨e', by simpa using he, hek⟩, fun u => ?_⟩
        simp only [List.modify_succ_cons, List.map_cons, upsert, if_neg hk, kvOf, h1, h2, List.cons.injEq, true_and]
        exact hu u

section
variable {P : Program} {l : List Asrt} {m : Nat} {kvs : List (Int × Value)}
theorem mp_get {w : World} (hs : Has l (mp m kvs)) (hw : Sat w l) : ∃ (es : List MapEntry) (clock : Nat), w.heap[m]? = some (.map es.toArray clock) ∧ es.map (fun e => (e.key, e.val)) = kvs.map kvOf := by
  obtain ⟨R, S, h⟩ := hs.sat hw
  exact h.2
theorem run_getObj_map {w : World} {es : Array MapEntry} {c : Nat} (h : w.heap[m]? = some (.map es c)) : (getObj m).run P w = .ok (.map es c) w := by
  simp [getObj, Sem.run, h]
theorem run_setObj_map {w : World} {es es' : Array MapEntry} {c c' : Nat} (h : w.heap[m]? = some (.map es c)) : (setObj m (.map es' c')).run P w = .ok () { w with heap := w.heap.setIfInBounds m (.map es' c') } := by
  simp [setObj, Sem.run, h]
def zeroOr (ze : Value) (o : Option Value) : Value := o.getD ze
theorem run_checkKey {key : Nat} (hk : P.underlying key = some (.int .i64)) (b : Bool) (k : Int) (w : World) : (Instr.checkKey b 10000 key (.int .i64 k)).run P w = .ok () w := by
  show (Instr.checkKey b (9999 + 1) key (.int .i64 k)).run P w = .ok () w
  generalize 9999 = n
  simp [Instr.checkKey, run_underlying hk]
theorem Tr.lookup {T : Nat} {ze : Value} [hT : MapT P T ze] {k : Int} {ok : Bool} {K : Value → WP} (hs : Has l (mp m kvs))
    (hx : Tr l (K (if ok then .tuple #[(find k kvs).getD ze, .bool (find k kvs).isSome] else (find k kvs).getD ze))) : Tr l (GenK P (Instr.lookup T (.map (some m)) (.int .i64 k) ok) K) := fun w hw => by
  obtain ⟨key, elem, hu, hk, hz⟩ := hT.h
  obtain ⟨es, c, hg, he⟩ := mp_get hs hw
  refine ⟨_, ?_, hx w hw⟩
  have hf := findNow_spec k es kvs 0 he
  have hz' : (zeroValue elem).run P w = .ok ze w := by
    cases hi : P.info? elem with
    | none => rw [hi] at hz; cases hz
    | some i =>
      rw [hi] at hz
      have hz' : i.zero = some ze := hz
      simp [zeroValue, typeInfo, hi, hz']
  unfold Instr.lookup
  simp only [Sem.run_bind, run_underlying hu, Result.andThen_ok, run_getObj_map hg, Sem.run_pure, run_checkKey hk, Instr.findKey, run_underlying hk]
  cases hfk : find k kvs with
  | none =>
    rw [hfk] at hf
    simp [hf, hz']
  | some v =>
    rw [hfk] at hf
    obtain ⟨j, hj, _⟩ := hf
    simp [hj]
theorem Tr.lookupNil {T : Nat} {ze : Value} [hT : MapT P T ze] {k : Int} {ok : Bool} {K : Value → WP} (hx : Tr l (K (if ok then .tuple #[ze, .bool false] else ze))) : Tr l (GenK P (Instr.lookup T (.map none) (.int .i64 k) ok) K) := fun w hw => by
  obtain ⟨key, elem, hu, hk, hz⟩ := hT.h
  refine ⟨_, ?_, hx w hw⟩
  have hz' : (zeroValue elem).run P w = .ok ze w := by
    cases hi : P.info? elem with
    | none => rw [hi] at hz; cases hz
    | some i =>
      rw [hi] at hz
      have hz' : i.zero = some ze := hz
      simp [zeroValue, typeInfo, hi, hz']
  unfold Instr.lookup
  simp only [Sem.run_bind, run_underlying hu, Result.andThen_ok, Sem.run_pure, run_checkKey hk, Instr.findKey, run_underlying hk]
  simp [Instr.findNow, hz']
def UpdA (l : List Asrt) (A B : Asrt) (l' : List Asrt) : Prop := ∃ F : List Asrt, l.Perm (A :: F) ∧ l'.Perm (B :: F)
theorem UpdA.here {A B : Asrt} {l : List Asrt} : UpdA (A :: l) A B (B :: l) := ⟨l, .refl _, .refl _⟩
theorem UpdA.next {A B C : Asrt} {l l' : List Asrt} (h : UpdA l A B l') : UpdA (C :: l) A B (C :: l') := by
  obtain ⟨F, h1, h2⟩ := h
  exact ⟨C :: F, (h1.cons C).trans (List.Perm.swap _ _ _), (h2.cons C).trans (List.Perm.swap _ _ _)⟩
theorem upsert_none {k : Int} {v : Value} : ∀ {kvs : List (Int × Value)}, find k kvs = none → upsert k v kvs = kvs ++ [(k, v)]
  | [], _ => rfl
  | kv :: r, h => by
    simp only [find] at h
    split at h
    · cases h
    · rename_i hk; simp only [upsert, if_neg hk, upsert_none h, List.cons_append]
theorem Sat.putA {w w' : World} {A : Asrt} {o' : Obj} {b : Nat} {l : List Asrt} {B : Asrt} (hA : ∀ {R S w}, A.h R S w → S b) (hB : ∀ {R S w w'}, A.h R S w → w'.heap[b]? = some o' → B.h R S w')
    (hw : w'.heap = w.heap.setIfInBounds b o') (hs : Same w w') : Sat w (A :: l) → Sat w' (B :: l) := fun ⟨R, h1, S, h2, h, h3⟩ => by
  have hsz : w'.heap.size = w.heap.size := by rw [hw]; simp
  have hne : ∀ x, x ≠ b → w'.heap[x]? = w.heap[x]? := fun x hx => by rw [hw, Array.getElem?_setIfInBounds_ne (Ne.symm hx)]
  have hb := hA h
  refine ⟨R, fun x hx => by rw [hsz]; exact h1 x hx, S, fun x hx => by rw [hsz]; exact h2 x hx, hB h ?_, ?_⟩
  · rw [hw]
    have := (h2 b hb).1
    simp [this]
  · refine SatR.frame (w := w) (w' := w') (fun _ h => h) (by omega) hs (fun x hx => hne x fun e => ?_) (fun x hn hl => ⟨hne x fun e => ?_, hn⟩) h3
    · subst e; exact (h2 x hb).2 hx
    · subst e; exact hn (.inr hb)
theorem Tr.mapUpdate {T : Nat} {ze : Value} [hT : MapT P T ze] {k : Int} {v : Value} {l' : List Asrt} {K : Value → WP} (hu : UpdA l (mp m kvs) (mp m (upsert k v kvs)) l') (hx : Tr l' (K undef)) :
    Tr l (EUnitK P (Instr.mapUpdate T (.map (some m)) (.int .i64 k) v) K) := fun w hw => by
  obtain ⟨key, elem, hun, hk, hz⟩ := hT.h
  obtain ⟨F, hp1, hp2⟩ := hu
  have hw1 := hw.perm hp1
  obtain ⟨es, c, hg, he⟩ := mp_get (l := mp m kvs :: F) Has.here hw1
  have hf := findNow_spec k es kvs 0 he
  have fin : ∀ (es' : List MapEntry) (c' : Nat), es'.map (fun e => (e.key, e.val)) = (upsert k v kvs).map kvOf → (Instr.mapUpdate T (.map (some m)) (.int .i64 k) v).run P w = .ok () { w with heap := w.heap.setIfInBounds m (.map es'.toArray c') } →
      ∃ w', (Instr.mapUpdate T (.map (some m)) (.int .i64 k) v).run P w = .ok () w' ∧ K undef w' := fun es' c' h1 h2 => by
    refine ⟨_, h2, hx _ (Sat.perm hp2.symm ?_)⟩
    exact Sat.putA (A := mp m kvs) (B := mp m (upsert k v kvs)) (b := m) (o' := .map es'.toArray c') (fun h => h.1) (fun h h' => ⟨h.1, es', c', h', h1⟩) rfl ⟨rfl, rfl, rfl⟩ hw1
  cases hfk : find k kvs with
  | none =>
    rw [hfk] at hf
    refine fin (es ++ [{ key := .int .i64 k, val := v, born := c }]) (c + 1) (by rw [upsert_none hfk]; simp [he, kvOf]) ?_
    unfold Instr.mapUpdate
    simp only [Sem.run_bind, run_underlying hun, Result.andThen_ok, run_getObj_map hg, run_checkKey hk, Instr.findKey, run_underlying hk, hf, Sem.run_pure, run_setObj_map hg]
    simp
  | some u =>
    rw [hfk] at hf
    obtain ⟨j, hj, ⟨e, hje, hek⟩, hup⟩ := hf
    refine fin _ c (hup v) ?_
    unfold Instr.mapUpdate
    simp only [Sem.run_bind, run_underlying hun, Result.andThen_ok, run_getObj_map hg, run_checkKey hk, Instr.findKey, run_underlying hk, hj, Sem.run_pure, Nat.zero_add, List.getElem?_toArray, hje, Option.map_some, Option.getD_some, hek, Instr.keyThatStays, Instr.sameBits, beq_self_eq_true, Bool.and_self, if_true, run_setObj_map hg]
    simp
theorem Tr.lenMap {T ty : Nat} {ze : Value} [hT : MapT P T ze] {K : Value → WP} (hs : Has l (mp m kvs)) (hx : Tr l (K (.int .i64 kvs.length))) : Tr l (GenK P (Builtin.len_ #[T] ty #[.map (some m)]) K) := fun w hw => by
  obtain ⟨key, elem, hu, hk, hz⟩ := hT.h
  obtain ⟨es, c, hg, he⟩ := mp_get hs hw
  refine ⟨_, ?_, hx w hw⟩
  have : es.length = kvs.length := by simpa using congrArg List.length he
  simp [Builtin.len_, run_underlying hu, run_getObj_map hg, goInt, this]
theorem Tr.lenMapNil {T ty : Nat} {ze : Value} [hT : MapT P T ze] {K : Value → WP} (hx : Tr l (K (.int .i64 0))) : Tr l (GenK P (Builtin.len_ #[T] ty #[.map none]) K) := fun w hw => by
  obtain ⟨key, elem, hu, hk, hz⟩ := hT.h
  refine ⟨_, ?_, hx w hw⟩
  simp [Builtin.len_, run_underlying hu, goInt]
theorem Tr.makeMap {T : Nat} {K : Value → WP} (hx : ∀ m, Tr (mp m [] :: l) (K (.map (some m)))) : Tr l (EGenK P (Instr.makeMap T none) K) := fun w hw => by
  refine ⟨_, w.alloc (.map #[] 0), by simp [Instr.makeMap], hx w.heap.size _ ?_⟩
  have := hw.alloc (.map #[] 0)
  obtain ⟨R, h1, S, h2, h3, h4⟩ := this
  exact ⟨R, h1, S, h2, ⟨h3.1, [], 0, h3.2, rfl⟩, h4⟩
end
end Go.Wk
