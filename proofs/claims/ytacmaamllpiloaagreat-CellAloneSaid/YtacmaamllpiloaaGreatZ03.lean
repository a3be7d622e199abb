import Derived.Test.YtacmaamllpiloaaGreatZ02
namespace Go.Wk
open Go
def kvOf (kv : Int × Value) : Value × Value := (.int .i64 kv.1, kv.2)
def mp (m : Nat) (kvs : List (Int × Value)) : Asrt where
  h _ S w := S m ∧ ∃ (es : List MapEntry) (clock : Nat), w.heap[m]? = some (.map es.toArray clock) ∧ es.map (fun e => (e.key, e.val)) = kvs.map kvOf
  loc := fun _ hS hk _ ⟨h1, es, c, h2, h3⟩ => ⟨hS m h1, es, c, by rw [hk m (.inr h1)]; exact h2, h3⟩
def find (k : Int) : List (Int × Value) → Option Value
  | [] => none
  | kv :: r => if k = kv.1 then some kv.2 else find k r
def upsert (k : Int) (v : Value) : List (Int × Value) → List (Int × Value)
  | [] => [(k, v)]
  | kv :: r => if k = kv.1 then (k, v) :: r else kv :: upsert k v r
theorem findNow_spec (k : Int) : ∀ (es : List MapEntry) (kvs : List (Int × Value)) (i : Nat), es.map (fun e => (e.key, e.val)) = kvs.map kvOf →
    match find k kvs with
    | none => Instr.findNow (.int .i64) (.int .i64 k) es i = some none
    | some v => ∃ j, Instr.findNow (.int .i64) (.int .i64 k) es i = some (some (i + j, v)) ∧ (∃ e, es[j]? = some e ∧ e.key = .int .i64 k) ∧
        ∀ u, (es.modify j fun e => { e with key := .int .i64 k, val := u }).map (fun e => (e.key, e.val)) = (upsert k u kvs).map kvOf
  | [], [], i, _ => by simp [find, Instr.findNow]
  | [], _ :: _, _, h => by simp at h
  | _ :: _, [], _, h => by simp at h
  | e :: es, kv :: kvs, i, h => by
    simp only [List.map_cons, List.cons.injEq, Prod.mk.injEq, kvOf] at h
    obtain ⟨⟨h1, h2⟩, h3⟩ := h
    simp only [find]
    by_cases hk : k = kv.1
    · rw [if_pos hk]
      refine ⟨0, ?_, ⟨e, by simp, by rw [h1, hk]⟩, fun u => ?_⟩
      · simp [Instr.findNow, Instr.sameNow, h1, hk, h2]
      · simp only [List.modify_zero_cons, List.map_cons, upsert, if_pos hk, kvOf, h3]
    · rw [if_neg hk]
      have ih := findNow_spec k es kvs (i + 1) h3
      have hn : Instr.findNow (.int .i64) (.int .i64 k) (e :: es) i = Instr.findNow (.int .i64) (.int .i64 k) es (i + 1) := by
        simp only [Instr.findNow, Instr.sameNow, h1, if_true]
        have : (k == kv.1) = false := by simp [hk]
        rw [this]
      rw [hn]
      cases hf : find k kvs with
      | none => rw [hf] at ih; exact ih
      | some v =>
        rw [hf] at ih
        obtain ⟨j, hj, ⟨e', he, hek⟩, hu⟩ := ih
        refine ⟨j + 1, by rw [hj]; simp; omega, ⟨e', by simpa using he, hek⟩, fun u => ?_⟩
        simp only [List.modify_succ_cons, List.map_cons, upsert, if_neg hk, kvOf, h1, h2, List.cons.injEq, true_and]
        exact hu u
section
variable {P : Program} {l : List Asrt} {m : Nat} {kvs : List (Int × Value)}
theorem mp_get {w : World} (hs : Has l (mp m kvs)) (hw : Sat w l) : ∃ (es : List MapEntry) (clock : Nat), w.heap[m]? = some (.map es.toArray clock) ∧ es.map (fun e => (e.key, e.val)) = kvs.map kvOf := by
  obtain ⟨R, S, h⟩ := hs.sat hw
  exact h.2
theorem run_getObj_map {w : World} {es : Array MapEntry} {c : Nat} (h : w.heap[m]? = some (.map es c)) : (getObj m).run P w = .ok (.map es c) w := by
  simp [getObj, Sem.run, h]
theorem run_setObj_map {w : World} {es es' : Array MapEntry} {c c' : Nat} (h : w.heap[m]? = some (.map es c)) : (setObj m (.map es' c')).run P w = .ok () { w with heap := w.heap.setIfInBounds m (.map es' c') } := by
  simp [setObj, Sem.run, h]
theorem run_checkKey {key : Nat} (hk : P.underlying key = some (.int .i64)) (b : Bool) (k : Int) (w : World) : (Instr.checkKey b 10000 key (.int .i64 k)).run P w = .ok () w := by
  show (Instr.checkKey b (9999 + 1) key (.int .i64 k)).run P w = .ok () w
  generalize 9999 = n
  simp [Instr.checkKey, run_underlying hk]
theorem Tr.lookup {T : Nat} {ze : Value} [hT : MapT P T ze] {k : Int} {ok : Bool} {K : Value → WP} (hs : Has l (mp m kvs))
    (hx : Tr l (K (if ok then .tuple #[(find k kvs).getD ze, .bool (find k kvs).isSome] else (find k kvs).getD ze))) : Tr l (GenK P (Instr.lookup T (.map (some m)) (.int .i64 k) ok) K) := fun w hw => by
  obtain ⟨key, elem, hu, hk, hz⟩ := hT.h
  obtain ⟨es, c, hg, he⟩ := mp_get hs hw
  refine ⟨_, ?_, hx w hw⟩
  have hf := findNow_spec k es kvs 0 he
  have hz' : (zeroValue elem).run P w = .ok ze w := by
    cases hi : P.info? elem with
    | none => rw [hi] at hz; cases hz
    | some i =>
      rw [hi] at hz
      have hz' : i.zero = some ze := hz
      simp [zeroValue, typeInfo, hi, hz']
  unfold Instr.lookup
  simp only [Sem.run_bind, run_underlying hu, Result.andThen_ok, run_getObj_map hg, Sem.run_pure, run_checkKey hk, Instr.findKey, run_underlying hk]
  cases hfk : find k kvs with
  | none =>
    rw [hfk] at hf
    simp [hf, hz']
  | some v =>
    rw [hfk] at hf
    obtain ⟨j, hj, _⟩ := hf
    simp [hj]
theorem Tr.lookupNil {T : Nat} {ze : Value} [hT : MapT P T ze] {k : Int} {ok : Bool} {K : Value → WP} (hx : Tr l (K (if ok then .tuple #[ze, .bool false] else ze))) : Tr l (GenK P (Instr.lookup T (.map none) (.int .i64 k) ok) K) := fun w hw => by
  obtain ⟨key, elem, hu, hk, hz⟩ := hT.h
  refine ⟨_, ?_, hx w hw⟩
  have hz' : (zeroValue elem).run P w = .ok ze w := by
    cases hi : P.info? elem with
    | none => rw [hi] at hz; cases hz
    | some i =>
      rw [hi] at hz
      have hz' : i.zero = some ze := hz
      simp [zeroValue, typeInfo, hi, hz']
  unfold Instr.lookup
  simp only [Sem.run_bind, run_underlying hu, Result.andThen_ok, Sem.run_pure, run_checkKey hk, Instr.findKey, run_underlying hk]
  simp [Instr.findNow, hz']
def UpdA (l : List Asrt) (A B : Asrt) (l' : List Asrt) : Prop := ∃ F : List Asrt, l.Perm (A :: F) ∧ l'.Perm (B :: F)
theorem UpdA.here {A B : Asrt} {l : List Asrt} : UpdA (A :: l) A B (B :: l) := ⟨l, .refl _, .refl _⟩
theorem UpdA.next {A B C : Asrt} {l l' : List Asrt} (h : UpdA l A B l') : UpdA (C :: l) A B (C :: l') := by
  obtain ⟨F, h1, h2⟩ := h
  exact ⟨C :: F, (h1.cons C).trans (List.Perm.swap _ _ _), (h2.cons C).trans (List.Perm.swap _ _ _)⟩
theorem upsert_none {k : Int} {v : Value} : ∀ {kvs : List (Int × Value)}, find k kvs = none → upsert k v kvs = kvs ++ [(k, v)]
  | [], _ => rfl
  | kv :: r, h => by
    simp only [find] at h
    split at h
    · cases h
    · rename_i hk; simp only [upsert, if_neg hk, upsert_none h, List.cons_append]
theorem Sat.putA {w w' : World} {A : Asrt} {o' : Obj} {b : Nat} {l : List Asrt} {B : Asrt} (hA : ∀ {R S w}, A.h R S w → S b) (hB : ∀ {R S w w'}, A.h R S w → w'.heap[b]? = some o' → B.h R S w')
    (hw : w'.heap = w.heap.setIfInBounds b o') (hs : Same w w') : Sat w (A :: l) → Sat w' (B :: l) := fun ⟨R, h1, S, h2, h, h3⟩ => by
  have hsz : w'.heap.size = w.heap.size := by rw [hw]; simp
  have hne : ∀ x, x ≠ b → w'.heap[x]? = w.heap[x]? := fun x hx => by rw [hw, Array.getElem?_setIfInBounds_ne (Ne.symm hx)]
  have hb := hA h
  refine ⟨R, fun x hx => by rw [hsz]; exact h1 x hx, S, fun x hx => by rw [hsz]; exact h2 x hx, hB h ?_, ?_⟩
  · rw [hw]
    have := (h2 b hb).1
    simp [this]
  · refine SatR.frame (w := w) (w' := w') (fun _ h => h) (by omega) hs (fun x hx => hne x fun e => ?_) (fun x hn hl => ⟨hne x fun e => ?_, hn⟩) h3
    · subst e; exact (h2 x hb).2 hx
    · subst e; exact hn (.inr hb)
theorem Tr.mapUpdate {T : Nat} {ze : Value} [hT : MapT P T ze] {k : Int} {v : Value} {l' : List Asrt} {K : Value → WP} (hu : UpdA l (mp m kvs) (mp m (upsert k v kvs)) l') (hx : Tr l' (K undef)) :
    Tr l (EUnitK P (Instr.mapUpdate T (.map (some m)) (.int .i64 k) v) K) := fun w hw => by
  obtain ⟨key, elem, hun, hk, hz⟩ := hT.h
  obtain ⟨F, hp1, hp2⟩ := hu
  have hw1 := hw.perm hp1
  obtain ⟨es, c, hg, he⟩ := mp_get (l := mp m kvs :: F) Has.here hw1
  have hf := findNow_spec k es kvs 0 he
  have fin : ∀ (es' : List MapEntry) (c' : Nat), es'.map (fun e => (e.key, e.val)) = (upsert k v kvs).map kvOf → (Instr.mapUpdate T (.map (some m)) (.int .i64 k) v).run P w = .ok () { w with heap := w.heap.setIfInBounds m (.map es'.toArray c') } →
      ∃ w', (Instr.mapUpdate T (.map (some m)) (.int .i64 k) v).run P w = .ok () w' ∧ K undef w' := fun es' c' h1 h2 => by
    refine ⟨_, h2, hx _ (Sat.perm hp2.symm ?_)⟩
    exact Sat.putA (A := mp m kvs) (B := mp m (upsert k v kvs)) (b := m) (o' := .map es'.toArray c') (fun h => h.1) (fun h h' => ⟨h.1, es', c', h', h1⟩) rfl ⟨rfl, rfl, rfl⟩ hw1
  cases hfk : find k kvs with
  | none =>
    rw [hfk] at hf
    refine fin (es ++ [{ key := .int .i64 k, val := v, born := c }]) (c + 1) (by rw [upsert_none hfk]; simp [he, kvOf]) ?_
    unfold Instr.mapUpdate
    simp only [Sem.run_bind, run_underlying hun, Result.andThen_ok, run_getObj_map hg, run_checkKey hk, Instr.findKey, run_underlying hk, hf, Sem.run_pure, run_setObj_map hg]
    simp
  | some u =>
    rw [hfk] at hf
    obtain ⟨j, hj, ⟨e, hje, hek⟩, hup⟩ := hf
    refine fin _ c (hup v) ?_
    unfold Instr.mapUpdate
    simp only [Sem.run_bind, run_underlying hun, Result.andThen_ok, run_getObj_map hg, run_checkKey hk, Instr.findKey, run_underlying hk, hj, Sem.run_pure, Nat.zero_add, List.getElem?_toArray, hje, Option.map_some, Option.getD_some, hek, Instr.keyThatStays, Instr.sameBits, beq_self_eq_true, Bool.and_self, if_true, run_setObj_map hg]
    simp
theorem Tr.lenMap {T ty : Nat} {ze : Value} [hT : MapT P T ze] {K : Value → WP} (hs : Has l (mp m kvs)) (hx : Tr l (K (.int .i64 kvs.length))) : Tr l (GenK P (Builtin.len_ #[T] ty #[.map (some m)]) K) := fun w hw => by
  obtain ⟨key, elem, hu, hk, hz⟩ := hT.h
  obtain ⟨es, c, hg, he⟩ := mp_get hs hw
  refine ⟨_, ?_, hx w hw⟩
  have : es.length = kvs.length := by simpa using congrArg List.length he
  simp [Builtin.len_, run_underlying hu, run_getObj_map hg, goInt, this]
theorem Tr.lenMapNil {T ty : Nat} {ze : Value} [hT : MapT P T ze] {K : Value → WP} (hx : Tr l (K (.int .i64 0))) : Tr l (GenK P (Builtin.len_ #[T] ty #[.map none]) K) := fun w hw => by
  obtain ⟨key, elem, hu, hk, hz⟩ := hT.h
  refine ⟨_, ?_, hx w hw⟩
  simp [Builtin.len_, run_underlying hu, goInt]
theorem Tr.makeMap {T : Nat} {K : Value → WP} (hx : ∀ m, Tr (mp m [] :: l) (K (.map (some m)))) : Tr l (EGenK P (Instr.makeMap T none) K) := fun w hw => by
  refine ⟨_, w.alloc (.map #[] 0), by simp [Instr.makeMap], hx w.heap.size _ ?_⟩
  have := hw.alloc (.map #[] 0)
  obtain ⟨R, h1, S, h2, h3, h4⟩ := this
  exact ⟨R, h1, S, h2, ⟨h3.1, [], 0, h3.2, rfl⟩, h4⟩
end
end Go.Wk
namespace Go.Wk
open Go
structure SV where
  a : Option Addr
  n : Nat
  c : Nat
def SV.v (s : SV) : Value := .slice s.a s.n s.c
def TakeA (l : List Asrt) (A : Asrt) (F : List Asrt) : Prop := Imp l (A :: F)
theorem TakeA.here {A : Asrt} {l : List Asrt} : TakeA (A :: l) A l := Imp.refl
theorem TakeA.next {A B : Asrt} {l F : List Asrt} (h : TakeA l A F) : TakeA (B :: l) A (B :: F) := Imp.trans (Imp.cons h) Imp.swap
theorem SatR.mapHead {R : Blks} {w : World} {U : Blks} {A B : Asrt} {l : List Asrt} (h : ∀ S, A.h R S w → B.h R S w) : SatR R w U (A :: l) → SatR R w U (B :: l)
  | ⟨S, h1, h2, h3⟩ => ⟨S, h1, h S h2, h3⟩
theorem Sat.mapHead {w : World} {A B : Asrt} {l : List Asrt} (h : ∀ R S, A.h R S w → B.h R S w) : Sat w (A :: l) → Sat w (B :: l) := fun ⟨R, h1, h2⟩ => ⟨R, h1, h2.mapHead (h R)⟩
section
variable {P : Program} {α : Type} [En α] {v : Value} {xs : List α} {l F : List Asrt}
theorem sl_open {w : World} (h : Sat w (sl false v xs :: F)) : (v = .slice none 0 0 ∧ xs = [] ∧ Sat w F) ∨ ∃ (b off cap : Nat) (cs : List Value) (T : Nat), v = .slice (some ⟨b, off, none⟩) xs.length cap ∧ (xs.length ≤ cap ∧ xs.length ≤ 9223372036854775807) ∧ off + cap * En.sz α ≤ cs.length ∧
    (cs.drop off).take (xs.length * En.sz α) = flat xs ∧ Sat w (blk b (.cells cs.toArray T (0, 0)) :: F) := by
  obtain ⟨R, h1, S, h2, hA, h3⟩ := h
  rcases hA with ⟨e1, e2⟩ | ⟨b, off, cap, cs, T, fr, e1, e2, ⟨e3, e4, e5⟩, e6, e7⟩
  · exact .inl ⟨e1.own, e2, R, h1, h3.weaken fun _ h => .inl h⟩
  · subst e4
    exact .inr ⟨b, off, cap, cs, T, e1, e2, e5, e7, R, h1, S, h2, ⟨e3, e6⟩, h3⟩
theorem sl_close {w : World} {b off cap : Nat} {cs : List Value} {T : Nat} (e1 : v = .slice (some ⟨b, off, none⟩) xs.length cap) (e2 : xs.length ≤ cap ∧ xs.length ≤ 9223372036854775807) (e5 : off + cap * En.sz α ≤ cs.length)
    (e7 : (cs.drop off).take (xs.length * En.sz α) = flat xs) (h : Sat w (blk b (.cells cs.toArray T (0, 0)) :: F)) : Sat w (sl false v xs :: F) :=
  Sat.mapHead (A := blk b (.cells cs.toArray T (0, 0))) (fun _ _ (hb : _ ∧ _) => .inr ⟨b, off, cap, cs, T, (0, 0), e1, e2, ⟨hb.1, rfl, e5⟩, hb.2, e7⟩) h
theorem sl_nil {w : World} (h : Sat w F) : Sat w (sl false (.slice none 0 0) ([] : List α) :: F) := by
  obtain ⟨R, h1, h2⟩ := h
  exact ⟨R, h1, fun _ => False, fun _ h => h.elim, .inl ⟨.inl rfl, rfl⟩, SatR.weaken (fun _ hb => hb.elim id False.elim) h2⟩
theorem Tr.nilSl {X : WP} (h : Tr (sl false (.slice none 0 0) ([] : List α) :: F) X) : Tr F X := fun w hw => h w (sl_nil hw)
theorem Tr.freezeSl {X : WP} (h : Tr (sl true v xs :: F) X) : Tr (sl false v xs :: F) X := fun w hw => h w (by
  rcases sl_open hw with ⟨rfl, rfl, hw'⟩ | ⟨b, off, cap, cs, T, e1, e2, e5, e7, hw'⟩
  · obtain ⟨R, h1, h2⟩ := hw'
    exact ⟨R, h1, fun _ => False, fun _ h => h.elim, .inl ⟨.inl rfl, rfl⟩, SatR.weaken (fun _ hb => hb.elim id False.elim) h2⟩
  · exact Sat.mapHead (A := rob b (.cells cs.toArray T (0, 0))) (fun _ _ (hb : _ ∧ _) => .inr ⟨b, off, cap, cs, T, (0, 0), e1, e2, hb.1, hb.2, e7⟩) hw'.freeze)
theorem cells_sl {ro : Bool} {w : World} {R S : Blks} (h : (sl ro v xs).h R S w) : (Builtin.firstCells (En.sz α) xs.length v).run P w = .ok (flat xs).toArray w := by
  rcases sl_cases h with ⟨hn, rfl⟩ | ⟨b, off, cap, cs, T, fr, rfl, h2, h4, h5⟩
  · obtain ⟨a, rfl⟩ := hn.slice
    cases a <;> simp [Builtin.firstCells, flat, loadCells, loadCellsFrom]
  · have hlen : (flat xs).length = xs.length * En.sz α := flat_length xs
    have := run_loadCellsFrom (P := P) (w := w) (a := ⟨b, off, none⟩) (flat xs) 0 #[] (fun j hj => by
      rw [Nat.zero_add, add_mk]
      have h6 : (flat xs)[j]? = some (flat xs)[j] := by simp [hj]
      have h7 : ((cs.drop off).take (xs.length * En.sz α))[j]? = some (flat xs)[j] := by rw [h5]; exact h6
      rw [List.getElem?_take_of_lt (by omega), List.getElem?_drop] at h7
      simp only [World.cell?, h4, Option.isSome_none, Bool.false_eq_true, if_false, List.getElem?_toArray, h7])
    rw [hlen] at this
    simp only [Builtin.firstCells, loadCells, this]
    simp
theorem nextcap_le (need c : Nat) (h : c < need) : Builtin.nextslicecap need c ≤ 2 * need + 1000 := by
  unfold Builtin.nextslicecap
  split
  · omega
  · split
    · omega
    · have grow : ∀ r c, c ≤ 2 * need + 1000 → Builtin.growBy need r c ≤ 2 * need + 1000 := by
        intro r
        induction r with
        | zero => intro c hc; exact hc
        | succ r ih =>
          intro c hc
          unfold Builtin.growBy
          split
          · exact hc
          · exact ih _ (by omega)
      exact grow 4 c (by omega)
theorem setL_append (pre mid vs : List Value) (h : vs.length ≤ mid.length) : setL (pre ++ mid) pre.length vs = pre ++ (vs ++ mid.drop vs.length) := by
  have := setL_whole vs (mid.take vs.length) pre (by simp; omega)
  have gen : ∀ (vs a c : List Value) (off : Nat), off + vs.length ≤ a.length → setL (a ++ c) off vs = setL a off vs ++ c := by
    intro vs
    induction vs with
    | nil => intros; rfl
    | cons u us ih =>
      intro a c off hl
      simp only [List.length_cons] at hl
      simp only [setL]
      rw [List.set_append_left _ _ (by omega), ih _ _ _ (by simp; omega)]
  have e : pre ++ mid = (pre ++ mid.take vs.length) ++ mid.drop vs.length := by simp
  rw [e, gen vs (pre ++ mid.take vs.length) (mid.drop vs.length) pre.length (by simp; omega), this]
  simp
theorem zeroCells_one {z : Array Value} (n : Nat) : (Builtin.zeroCells z n).size = n * z.size := by simp [Builtin.zeroCells]
theorem Tr.append {T T2 ty e bytes : Nat} {z : List Value} {ro : Bool} {x : Value} {ys : List α} {K : Value → WP} [hT : SlcT P T e bytes (En.sz α) z] [hT2 : Slc P T2 (En.sz α)] (hz : z.length = En.sz α)
    (ht : TakeA l (sl false v xs) F) (hx : Has F (sl ro x ys)) (hb : 0 < bytes) (hlen : (2 * (xs.length + ys.length) + 1000) * bytes ≤ 2 ^ 48)
    (hk : ∀ s : SV, Tr (sl false s.v (xs ++ ys) :: F) (K s.v)) : Tr l (EGenK P (Builtin.append_ #[T, T2] ty #[v, x]) K) := fun w hw0 => by
  have hw := Imp.sat ht hw0
  obtain ⟨hu, inf, hin, hsz, hby, hzz⟩ := hT.h
  obtain ⟨e2, inf2, hu2, hin2, hsz2⟩ := und_slc hT2.h
  obtain ⟨xa, xc, hxv⟩ := sl_slen hx hw.tail
  obtain ⟨Rx, Sx, hxh⟩ := hx.sat hw.tail
  have hfx := cells_sl (P := P) hxh
  have hvs : ∃ a c, v = .slice a xs.length c := sl_slen (l := sl false v xs :: F) Has.here hw
  obtain ⟨va, vc, hv⟩ := hvs
  obtain ⟨Rv, Sv, hvh⟩ := (Has.here (A := sl false v xs) (l := F)).sat hw
  have hfv := cells_sl (P := P) hvh
  have hpos := En.pos (α := α)
  have hbound : 2 * (xs.length + ys.length) + 1000 ≤ 2 ^ 48 := Nat.le_trans (Nat.le_mul_of_pos_right _ hb) hlen
  have hsize : ∀ w, (sizeOf e).run P w = .ok (En.sz α) w := fun w => by simp [sizeOf, typeInfo, hin, hsz]
  have hinfo : ∀ w, (typeInfo e).run P w = .ok inf w := fun w => by simp [typeInfo, hin]
  obtain ⟨z0, hz0, hz1⟩ : ∃ z0, inf.zero = some z0 ∧ z0.cells = z.toArray := by
    cases h : inf.zero with
    | none => rw [h] at hzz; cases hzz
    | some z0 => rw [h] at hzz; exact ⟨z0, rfl, by simpa using hzz⟩
  have hzv : ∀ w, (zeroValue e).run P w = .ok z0 w := fun w => by simp [zeroValue, typeInfo, hin, hz0]
  have hxlen : (Builtin.lenOf x).run P w = .ok ys.length w := by rw [hxv]; simp [Builtin.lenOf]
  by_cases hroom : xs.length + ys.length ≤ vc
  · -- in place
    rcases sl_open hw with ⟨rfl, rfl, hwF⟩ | ⟨b, off, cap, cs, T', e1, e3, e5, e7, hwb⟩
    · -- nil and nothing
      have hvc : vc = 0 := by simp only [Value.slice.injEq] at hv; exact hv.2.2.symm
      subst hvc
      have hys : ys = [] := List.eq_nil_of_length_eq_zero (by simp at hroom; rw [hroom]; rfl)
      subst hys
      refine ⟨.slice none 0 0, w, ?_, hk ⟨none, 0, 0⟩ w hw⟩
      simp only [Builtin.append_, Sem.run_bind, List.getElem?_toArray, List.getElem?_cons_zero, List.getElem?_cons_succ, run_underlying hu, Result.andThen_ok, hsize, run_underlying hu2, Sem.run_pure, Bool.false_eq_true, if_false, hxlen]
      have hfx0 : (Builtin.firstCells (En.sz α) 0 x).run P w = .ok #[] w := hfx
      simp [hfx0]
    · rw [hv] at e1
      simp only [Value.slice.injEq] at e1
      obtain ⟨rfl, _, rfl⟩ := e1
      have hfl : (flat ys).length = ys.length * En.sz α := flat_length ys
      have hfl1 : (flat xs).length = xs.length * En.sz α := flat_length xs
      have hmul : (xs.length + ys.length) * En.sz α ≤ vc * En.sz α := Nat.mul_le_mul_right _ hroom
      rw [Nat.add_mul] at hmul
      have hst := run_storeCells (P := P) (T := T') (flat ys) cs b (off + xs.length * En.sz α) 0 (blk b (.cells cs.toArray T' (0, 0)) :: F) _ w
        (fun u hu => by have := flat_one ys; rw [List.all_eq_true] at this; exact this u hu) (by omega) hwb Upd.here
      obtain ⟨w', hr, hs⟩ := hst
      refine ⟨.slice (some ⟨b, off, none⟩) (xs.length + ys.length) vc, w', ?_, ?_⟩
      · simp only [Builtin.append_, Sem.run_bind, List.getElem?_toArray, List.getElem?_cons_zero, List.getElem?_cons_succ, run_underlying hu, Result.andThen_ok, hsize, run_underlying hu2, Sem.run_pure, Bool.false_eq_true, if_false, hxlen, hv, hroom, if_true, Bool.not_false, hfx]
        simp [add_mk, hr]
      · refine hk ⟨some ⟨b, off, none⟩, xs.length + ys.length, vc⟩ w' ?_
        refine sl_close (b := b) (off := off) (cap := vc) (by simp [SV.v]) ⟨by simpa using hroom, by simp; omega⟩ (by rw [setL_length]; exact e5) ?_ hs
        have hpre : cs = cs.take (off + xs.length * En.sz α) ++ cs.drop (off + xs.length * En.sz α) := (List.take_append_drop _ _).symm
        have hpl : (cs.take (off + xs.length * En.sz α)).length = off + xs.length * En.sz α := by rw [List.length_take]; omega
        have hset : setL cs (off + xs.length * En.sz α + 0) (flat ys) = cs.take (off + xs.length * En.sz α) ++ (flat ys ++ (cs.drop (off + xs.length * En.sz α)).drop (flat ys).length) := by
          have := setL_append (cs.take (off + xs.length * En.sz α)) (cs.drop (off + xs.length * En.sz α)) (flat ys) (by rw [List.length_drop]; omega)
          rw [hpl, ← hpre] at this
          exact this
        rw [hset, flat_append, List.length_append, Nat.add_mul]
        rw [List.drop_append_of_le_length (by omega)]
        have hd : (cs.take (off + xs.length * En.sz α)).drop off = flat xs := by
          rw [List.drop_take, show off + xs.length * En.sz α - off = xs.length * En.sz α by omega, e7]
        rw [hd, ← List.append_assoc]
        rw [List.take_append_of_le_length (by rw [List.length_append]; omega), List.take_of_length_le (by rw [List.length_append]; omega)]
  · -- a new array
    have hnext := nextcap_le (xs.length + ys.length) vc (by omega)
    have hnb : Builtin.nextslicecap (xs.length + ys.length) vc * inf.bytes ≤ 2 ^ 48 := by
      rw [hby]; exact Nat.le_trans (Nat.mul_le_mul_right _ hnext) hlen
    let q := Question.appendCap (xs.length + ys.length) vc e
    let newCap := q.cut (w.tape w.drawn q)
    have hcap : xs.length + ys.length ≤ newCap := by show _ ≤ Question.cut _ _; simp only [q, Question.cut]; omega
    let rest := Builtin.zeroCells z0.cells (newCap - (xs.length + ys.length))
    let cells := (flat xs).toArray ++ (flat ys).toArray ++ rest
    have hcells : cells = (flat xs ++ flat ys ++ rest.toList).toArray := by simp [cells]
    refine ⟨.slice (some ⟨w.heap.size, 0, none⟩) (xs.length + ys.length) newCap, w.drew.alloc (.cells cells e (0, 0)), ?_, ?_⟩
    · have hfx' : (Builtin.firstCells (En.sz α) ys.length x).run P w.drew = .ok (flat ys).toArray w.drew := cells_sl (P := P) (R := Rx) (S := Sx) ((sl ro x ys).loc (fun _ h => h) (fun _ h => h) (fun _ _ => rfl) ⟨rfl, rfl, rfl⟩ hxh)
      have hfv' : (Builtin.firstCells (En.sz α) xs.length v).run P w.drew = .ok (flat xs).toArray w.drew := cells_sl (P := P) (R := Rv) (S := Sv) ((sl false v xs).loc (fun _ h => h) (fun _ h => h) (fun _ _ => rfl) ⟨rfl, rfl, rfl⟩ hvh)
      have hnz : inf.bytes ≠ 0 := by rw [hby]; omega
      have hnb : ¬ (Builtin.nextslicecap (xs.length + ys.length) vc * inf.bytes > 2 ^ 48) := by omega
      rw [hv] at hfv' ⊢
      simp only [Builtin.append_, Sem.run_bind, List.getElem?_toArray, List.getElem?_cons_zero, List.getElem?_cons_succ, run_underlying hu, Result.andThen_ok, hsize, run_underlying hu2, Sem.run_pure, Bool.false_eq_true, if_false, hxlen, hroom, hinfo, Bool.not_false, if_true]
      rw [if_neg (by simp [hnz])]
      simp only [Sem.run_bind, hinfo, Result.andThen_ok]
      rw [if_neg hnb]
      have hchoose : (choose (Question.appendCap (xs.length + ys.length) vc e)).run P w = .ok newCap w.drew := by
        rw [run_choose]; rfl
      simp only [Sem.run_bind, hchoose, hinfo, Result.andThen_ok, run_askRoom, hfx', hfv', hzv, newRow, run_newObj, Sem.run_pure]
      rfl
    · refine hk ⟨some ⟨w.heap.size, 0, none⟩, xs.length + ys.length, newCap⟩ _ ?_
      have hsat := (hw.tail.drew).alloc (.cells cells e (0, 0))
      rw [hcells] at hsat ⊢
      have hsz' : w.drew.heap.size = w.heap.size := rfl
      rw [hsz'] at hsat
      refine sl_close (b := w.heap.size) (off := 0) (cap := newCap) (by simp [SV.v]) (⟨by simpa using hcap, by simp; omega⟩) ?_ ?_ hsat
      · simp only [List.length_append, flat_length, rest, Array.length_toList, zeroCells_one, hz1, List.size_toArray, hz]
        rw [← Nat.add_mul, ← Nat.add_mul]
        have : xs.length + ys.length + (newCap - (xs.length + ys.length)) = newCap := by omega
        rw [this]; omega
      · rw [List.drop_zero, flat_append, List.take_append_of_le_length (by rw [List.length_append, List.length_append, flat_length, flat_length, Nat.add_mul]; omega), List.take_of_length_le (by rw [List.length_append, List.length_append, flat_length, flat_length, Nat.add_mul]; omega)]
end
end Go.Wk
namespace Go.Wk
open Go
section
variable {P : Program} {α : Type} [En α] {v : Value} {xs : List α} {l F : List Asrt} {ro : Bool}
theorem Tr.cut {T : Nat} [hT : Slc P T (En.sz α)] {lo hi : Int} {k1 k2 : IntKind} {K : Value → WP} (hs : Has l (sl true v xs)) (h0 : 0 ≤ lo) (h1 : lo ≤ hi) (h2 : hi ≤ xs.length)
    (hx : ∀ s : SV, Tr (sl true s.v ((xs.take hi.toNat).drop lo.toNat) :: l) (K s.v)) : Tr l (GenK P (Instr.sliceAt T v (some (.int k1 lo)) (some (.int k2 hi)) none) K) := fun w hw => by
  obtain ⟨e, inf, hu, hin, hsz⟩ := und_slc hT.h
  have hsize : (sizeOf e).run P w = .ok (En.sz α) w := by simp [sizeOf, typeInfo, hin, hsz]
  have hw1 := hs.add (dup_sl v xs) hw
  obtain ⟨R, S, hA⟩ := hs.sat hw
  have hlen : ((xs.take hi.toNat).drop lo.toNat).length = hi.toNat - lo.toNat := by
    rw [List.length_drop, List.length_take]; omega
  obtain ⟨s, hr, hmap⟩ : ∃ s : SV, (Instr.sliceAt T v (some (.int k1 lo)) (some (.int k2 hi)) none).run P w = .ok s.v w ∧ ∀ R S, (sl true v xs).h R S w → (sl true s.v ((xs.take hi.toNat).drop lo.toNat)).h R S w := by
    rcases hA with ⟨e1, e2⟩ | ⟨b, off, cap, cs, T', fr, e1, e2, e3, e4, e5⟩
    · obtain ⟨a0, e1⟩ := e1.slice
      subst e1; subst e2
      have : hi = 0 := by simp at h2; omega
      subst this
      have : lo = 0 := by omega
      subst this
      refine ⟨⟨a0, 0, 0⟩, ?_, fun R S _ => .inl ⟨(by cases a0 <;> simp [Nilv, SV.v]), by simp⟩⟩
      cases a0 <;> simp [Instr.sliceAt, run_underlying hu, Instr.slice, Instr.sliceBounds, Instr.sliceBound, asIntOf, hsize, SV.v]
    · subst e1
      have hc : hi.toNat ≤ cap := by omega
      refine ⟨⟨if cap = lo.toNat then some ⟨b, off, none⟩ else some ⟨b, off + lo.toNat * En.sz α, none⟩, hi.toNat - lo.toNat, cap - lo.toNat⟩, ?_, fun R S hA => ?_⟩
      · have a1 : 0 ≤ hi := by omega
        have a2 : hi ≤ cap := by omega
        have a3 : lo ≤ (hi.toNat : Int) := by omega
        simp only [Instr.sliceAt, Sem.run_bind, run_underlying hu, Result.andThen_ok, Instr.slice, Instr.sliceBounds, Instr.sliceBound, asIntOf, Sem.run_pure, a1, a2, and_self, if_true, h0, a3, hsize, Option.isSome_none, Bool.false_eq_true, if_false, Sem.run_ite, Option.map_some, add_mk, SV.v]
      · rcases hA with ⟨e1', _⟩ | ⟨b', off', cap', cs', T'', fr', e1', _, e3', e4', e5'⟩
        · obtain ⟨a1, e1''⟩ := e1'.slice
          simp only [Value.slice.injEq] at e1''
          obtain ⟨e1, e2'', e3''⟩ := e1''
          have hl0 : lo.toNat = 0 := by omega
          have hh0 : hi.toNat = 0 := by omega
          exact .inl ⟨.inr ⟨rfl, ⟨b, off, none⟩, by simp [SV.v, hl0, hh0, e3'']⟩, List.eq_nil_of_length_eq_zero (by omega)⟩
        · simp only [Value.slice.injEq, Option.some.injEq, Addr.mk.injEq, and_true] at e1'
          obtain ⟨⟨rfl, rfl⟩, _, rfl⟩ := e1'
          by_cases hcl : cap = lo.toNat
          · -- nothing is left
            have hhi : hi.toNat = lo.toNat := by omega
            refine .inr ⟨b, off, cap - lo.toNat, cs', T'', fr', ?_, by omega, e3', e4', ?_⟩
            · simp [SV.v, hcl, hlen]
            · rw [hlen, hhi]
              have : (xs.take lo.toNat).drop lo.toNat = [] := by
                apply List.eq_nil_of_length_eq_zero; rw [List.length_drop, List.length_take]; omega
              rw [this]; simp [flat]
          · refine .inr ⟨b, off + lo.toNat * En.sz α, cap - lo.toNat, cs', T'', fr', ?_, by omega, e3', e4', ?_⟩
            · simp [SV.v, hcl, hlen]
            · rw [hlen]
              have hx : xs = xs.take lo.toNat ++ ((xs.take hi.toNat).drop lo.toNat ++ xs.drop hi.toNat) := by
                have e1 : xs.take lo.toNat = (xs.take hi.toNat).take lo.toNat := by rw [List.take_take, Nat.min_eq_left (by omega)]
                rw [e1, ← List.append_assoc, List.take_append_drop, List.take_append_drop]
              have hf : flat xs = flat (xs.take lo.toNat) ++ (flat ((xs.take hi.toNat).drop lo.toNat) ++ flat (xs.drop hi.toNat)) := by
                rw [← flat_append, ← flat_append, ← hx]
              have hl1 : (flat (xs.take lo.toNat)).length = lo.toNat * En.sz α := by rw [flat_length, List.length_take]; congr 1; omega
              have hl2 : (flat ((xs.take hi.toNat).drop lo.toNat)).length = (hi.toNat - lo.toNat) * En.sz α := by rw [flat_length, hlen]
              have hd : (cs'.drop (off + lo.toNat * En.sz α)).take ((hi.toNat - lo.toNat) * En.sz α) = (((cs'.drop off).take (xs.length * En.sz α)).drop (lo.toNat * En.sz α)).take ((hi.toNat - lo.toNat) * En.sz α) := by
                rw [List.drop_take, List.drop_drop, List.take_take]
                congr 1
                have : (hi.toNat - lo.toNat) * En.sz α ≤ xs.length * En.sz α - lo.toNat * En.sz α := by rw [← Nat.sub_mul]; exact Nat.mul_le_mul_right _ (by omega)
                omega
              rw [hd, e5', hf, List.drop_append_of_le_length (by omega), ← hl1, List.drop_length, List.nil_append, ← hl2, List.take_left']
              rfl
  refine ⟨s.v, hr, hx s w ?_⟩
  exact Sat.mapHead (hmap) hw1
theorem fresh_sl {w : World} {cs : List Value} {e : Nat} (hc : cs = flat xs) (hb : xs.length ≤ 9223372036854775807) (h : Sat w F) : Sat (w.alloc (.cells cs.toArray e (0, 0))) (sl false (.slice (some ⟨w.heap.size, 0, none⟩) xs.length xs.length) xs :: F) := by
  have hl : cs.length = xs.length * En.sz α := by rw [hc, flat_length]
  refine sl_close (b := w.heap.size) (off := 0) (cap := xs.length) (cs := cs) (T := e) rfl ⟨Nat.le_refl _, hb⟩ (by omega) ?_ (h.alloc _)
  rw [List.drop_zero, ← hl, List.take_length, hc]
theorem Tr.cutTo {T n : Nat} [hT0 : Slc P T n] {hi : Int} {k2 : IntKind} {K : Value → WP} (hs : Has l (sl true v xs)) (hne : n = En.sz α) (h1 : 0 ≤ hi) (h2 : hi ≤ xs.length)
    (hx : ∀ s : SV, Tr (sl true s.v (xs.take hi.toNat) :: l) (K s.v)) : Tr l (GenK P (Instr.sliceAt T v none (some (.int k2 hi)) none) K) := fun w hw => by
  subst hne
  have hT := hT0
  obtain ⟨e, inf, hu, hin, hsz⟩ := und_slc hT.h
  have key : (Instr.sliceAt T v none (some (.int k2 hi)) none).run P w = (Instr.sliceAt T v (some (.int .i64 0)) (some (.int k2 hi)) none).run P w := by
    obtain ⟨a, c, hv⟩ := sl_slen hs hw
    rw [hv]
    simp only [Instr.sliceAt, Sem.run_bind, run_underlying hu, Result.andThen_ok, Instr.slice, Instr.sliceBounds, Instr.sliceBound, asIntOf, Sem.run_pure]
    by_cases hc : 0 ≤ hi ∧ hi ≤ (c : Int)
    · simp [hc]
    · simp [hc, boundsPanic, runtimePanic]
  have := Tr.cut (P := P) (T := T) (lo := 0) (hi := hi) (k1 := .i64) (k2 := k2) (K := K) hs (Int.le_refl 0) h1 h2 (fun s => by simpa using hx s) w hw
  obtain ⟨v', hr, hk⟩ := this
  exact ⟨v', by rw [key]; exact hr, hk⟩
theorem map_range0 {β : Type} (f : Nat → β) : (Array.range 0).map f = #[] := by
  apply Array.ext
  · simp
  · intro i h1 h2; simp at h2
theorem range_zero (z : Array Value) (d : α) (hz : z = (En.enc d).toArray) : ∀ n, ((Array.range (n * En.sz α)).map (z[· % z.size]!)) = (flat (List.replicate n d)).toArray := by
  intro n
  have hzs : z.size = En.sz α := by rw [hz]; simp [En.len]
  apply Array.ext
  · simp [flat_length]
  · intro i h1 h2
    have hi : i < n * En.sz α := by simpa using h1
    simp only [Array.getElem_map, Array.getElem_range]
    have hp := En.pos (α := α)
    have hq : i / En.sz α < n := by rw [Nat.div_lt_iff_lt_mul hp]; exact hi
    have hm : i % En.sz α < En.sz α := Nat.mod_lt _ hp
    have h3 := flat_get (List.replicate n d) (i / En.sz α) (i % En.sz α) d (by simp [hq]) hm
    rw [show i / En.sz α * En.sz α + i % En.sz α = i by rw [Nat.mul_comm]; exact Nat.div_add_mod i _] at h3
    have h4 : (flat (List.replicate n d))[i]? = some (flat (List.replicate n d))[i] := by simp [flat_length, hi]
    rw [h4] at h3
    have h5 : z[i % z.size]! = z[i % z.size]?.getD default := by rw [Array.getElem!_eq_getD, Array.getD_eq_getD_getElem?]
    rw [h5, hzs, hz, List.getElem?_toArray, ← h3]
    simp
theorem Tr.makeSlice {T e bytes : Nat} {z : List Value} {d : α} [hT : SlcT P T e bytes (En.sz α) z] {n : Int} {k1 k2 : IntKind} {K : Value → WP} (hz : z = En.enc d) (h0 : 0 ≤ n) (h1 : n ≤ 9223372036854775807) (hn : bytes * n ≤ 281474976710656)
    (hk : ∀ s : SV, Tr (sl false s.v (List.replicate n.toNat d) :: l) (K s.v)) : Tr l (EGenK P (Instr.makeSlice T (.int k1 n) (.int k2 n)) K) := fun w hw => by
  obtain ⟨hu, inf, hin, hsz, hby, hzz⟩ := hT.h
  obtain ⟨z0, hz0, hz1⟩ : ∃ z0, inf.zero = some z0 ∧ z0.cells = z.toArray := by
    cases h : inf.zero with
    | none => rw [h] at hzz; cases hzz
    | some z0 => rw [h] at hzz; exact ⟨z0, rfl, by simpa using hzz⟩
  have hwr : IntKind.i64.wrap n = n := by apply Go.IntWalk.i64_in <;> omega
  have hcs := range_zero (α := α) z0.cells d (by rw [hz1, hz]) n.toNat
  refine ⟨.slice (some ⟨w.heap.size, 0, none⟩) n.toNat n.toNat, w.alloc (.cells (flat (List.replicate n.toNat d)).toArray e (0, 0)), ?_, ?_⟩
  · have hzv : ∀ w, (zeroValue e).run P w = .ok z0 w := fun w => by simp [zeroValue, typeInfo, hin, hz0]
    have hsize : ∀ w, (sizeOf e).run P w = .ok (En.sz α) w := fun w => by simp [sizeOf, typeInfo, hin, hsz]
    have hinfo : ∀ w, (typeInfo e).run P w = .ok inf w := fun w => by simp [typeInfo, hin]
    simp only [Instr.makeSlice, Sem.run_bind, run_underlying hu, Result.andThen_ok, asInt, asIntOf, Sem.run_pure, hinfo, hwr]
    have hbig : (n < 0 || (inf.bytes : Int) * n > 2 ^ 48) = false := by
      rw [hby]
      simp only [Bool.or_eq_false_iff, decide_eq_false_iff_not]
      omega
    have hneg : ¬ (n < 0) := by omega
    have hcond : ((n < 0 || (inf.bytes : Int) * n > 2 ^ 48) || decide (n < 0) || decide (n > n)) = false := by
      rw [hbig]; simp [hneg]
    simp only [hcond, Bool.false_eq_true, if_false, Sem.run_bind, run_askRoom, Result.andThen_ok, hsize]
    by_cases hn0 : n.toNat * En.sz α = 0
    · have hn1 : n.toNat = 0 := by
        rcases Nat.mul_eq_zero.1 hn0 with h | h
        · exact h
        · have := En.pos (α := α); omega
      simp only [hn0, if_true]
      simp [hn1, newRow, flat, map_range0]
    · simp only [hn0, if_false, Sem.run_bind, hzv, Result.andThen_ok, Sem.run_pure]
      rw [hcs]
      simp [newRow]
  · have := fresh_sl (α := α) (xs := List.replicate n.toNat d) (e := e) rfl (by simp; omega) hw
    simp only [List.length_replicate] at this
    exact hk ⟨some ⟨w.heap.size, 0, none⟩, n.toNat, n.toNat⟩ _ this
def fillP (place : Nat → Option (Nat × Nat)) : List Value → List (Nat × Value) → Option (List Value)
  | cs, [] => some cs
  | cs, (i, v) :: r => match place i with
    | none => none
    | some (off, size) => if v.cells.size = size ∧ off + size ≤ cs.length then fillP place (setL cs off v.cells.toList) r else none
theorem fillP_eq (place : Nat → Option (Nat × Nat)) : ∀ (parts : List (Nat × Value)) (cs cs' : List Value), fillP place cs parts = some cs' → Instr.fill place cs.toArray parts = some cs'.toArray
  | [], cs, cs', h => by simp only [fillP, Option.some.injEq] at h; subst h; rfl
  | (i, v) :: r, cs, cs', h => by
    simp only [fillP] at h
    simp only [Instr.fill]
    cases hp : place i with
    | none => rw [hp] at h; cases h
    | some os =>
      obtain ⟨off, size⟩ := os
      rw [hp] at h
      simp only at h ⊢
      split at h
      · rename_i hc
        have hc2 : (decide (v.cells.size ≠ size) || decide (off + v.cells.size > cs.toArray.size)) = false := by
          simp [hc.1, hc.2]
        rw [hc2]
        simp only [Bool.false_eq_true, if_false]
        have := fillP_eq place r _ cs' h
        rw [← this]
        congr 1
        rw [← Array.foldl_toList, Array.toList_zipIdx]
        have := foldl_setL off v.cells.toList 0 cs
        rw [Nat.add_zero] at this
        exact this
      · cases h
theorem Tr.buildSlice {T e bytes n : Nat} {z : List Value} (xs : List α) {d : α} [hT : SlcT P T e bytes (En.sz α) z] {parts : Array (Nat × Value)} {K : Value → WP} (hz : z = En.enc d) (hn : xs.length = n) (hsm : n * En.sz α ≤ 16777216)
    (hf : fillP (fun i => some (i * En.sz α, En.sz α)) (flat (List.replicate n d)) parts.toList = some (flat xs)) (hk : ∀ s : SV, Tr (sl false s.v xs :: l) (K s.v)) : Tr l (EGenK P (Instr.buildSlice T n parts) K) := fun w hw => by
  obtain ⟨hu, inf, hin, hsz, hby, hzz⟩ := hT.h
  obtain ⟨z0, hz0, hz1⟩ : ∃ z0, inf.zero = some z0 ∧ z0.cells = z.toArray := by
    cases h : inf.zero with
    | none => rw [h] at hzz; cases hzz
    | some z0 => rw [h] at hzz; exact ⟨z0, rfl, by simpa using hzz⟩
  have hcs := range_zero (α := α) z0.cells d (by rw [hz1, hz]) n
  have hzv : (zeroValue e).run P w = .ok z0 w := by simp [zeroValue, typeInfo, hin, hz0]
  have hsize : (sizeOf e).run P w = .ok (En.sz α) w := by simp [sizeOf, typeInfo, hin, hsz]
  have hfill := fillP_eq _ parts.toList _ _ hf
  refine ⟨.slice (some ⟨w.heap.size, 0, none⟩) n n, w.alloc (.cells (flat xs).toArray e (0, 0)), ?_, ?_⟩
  · simp only [Instr.buildSlice, Sem.run_bind, run_underlying hu, Result.andThen_ok, hsize]
    rw [if_neg (by omega)]
    by_cases hn0 : n * En.sz α = 0
    · simp only [hn0, if_true, Sem.run_bind, Sem.run_pure, Result.andThen_ok]
      have h1 : ((Array.range 0).map ((#[] : Array Value)[· % (#[] : Array Value).size]!)) = (flat (List.replicate n d)).toArray := by
        have : flat (List.replicate n d) = [] := List.eq_nil_of_length_eq_zero (by rw [flat_length, List.length_replicate]; exact hn0)
        rw [this, map_range0]
      rw [h1, hfill]
      simp [newRow]
    · simp only [hn0, if_false, Sem.run_bind, hzv, Result.andThen_ok, Sem.run_pure]
      rw [hcs, hfill]
      simp [newRow]
  · have := fresh_sl (α := α) (xs := xs) (e := e) rfl (by have := En.pos (α := α); have := Nat.le_mul_of_pos_right n this; omega) hw
    rw [hn] at this
    exact hk ⟨some ⟨w.heap.size, 0, none⟩, n, n⟩ _ this
theorem flat_set : ∀ (xs : List α) (i : Nat) (x : α), i < xs.length → setL (flat xs) (i * En.sz α) (En.enc x) = flat (xs.set i x)
  | [], _, _, h => by simp at h
  | y :: xs, 0, x, _ => by
    have := setL_append [] (flat (y :: xs)) (En.enc x) (by rw [flat_length, En.len, List.length_cons, Nat.succ_mul]; omega)
    simp only [List.nil_append, List.length_nil] at this
    simp only [Nat.zero_mul, this, List.set_cons_zero]
    simp only [flat, List.flatMap_cons]
    rw [En.len, ← En.len y, List.drop_left']
    rfl
  | y :: xs, i + 1, x, h => by
    have ih := flat_set xs i x (by simpa using h)
    have gen : ∀ (vs a c : List Value) (off : Nat), setL (a ++ c) (a.length + off) vs = a ++ setL c off vs := by
      intro vs
      induction vs with
      | nil => intros; rfl
      | cons u us ihv =>
        intro a c off
        simp only [setL]
        rw [List.set_append_right _ _ (by omega), show a.length + off - a.length = off by omega, show a.length + off + 1 = a.length + (off + 1) by omega, ihv]
    have e : (i + 1) * En.sz α = (En.enc y).length + i * En.sz α := by rw [En.len, Nat.succ_mul]; omega
    simp only [List.set_cons_succ]
    simp only [flat, List.flatMap_cons] at ih ⊢
    rw [e, gen, ih]
theorem Tr.storeEl {T i : Nat} {u : Value} {x : α} {K : Value → WP} [hT0 : Siz P T (En.sz α)] (hi : i < xs.length) (hu : u.cells = (En.enc x).toArray) (ht : TakeA l (sl false v xs) F) (hx : Tr (sl false v (xs.set i x) :: F) (K undef)) :
    Tr l (EUnitK P (Instr.storeAt T (.pointer (some ⟨(sb v).block, (sb v).off + i * En.sz α, none⟩)) u) K) := fun w hw0 => by
  have hw := Imp.sat ht hw0
  rcases sl_open hw with ⟨rfl, rfl, hwF⟩ | ⟨b, off, cap, cs, T', rfl, e3, e5, e7, hwb⟩
  · simp at hi
  · have hle : (i + 1) * En.sz α ≤ xs.length * En.sz α := Nat.mul_le_mul_right _ hi
    have hle2 : xs.length * En.sz α ≤ cap * En.sz α := Nat.mul_le_mul_right _ e3.1
    rw [Nat.succ_mul] at hle
    have hlen : (En.enc x).length = En.sz α := En.len x
    refine Tr.store (P := P) (T := T) (T' := T') (n := En.sz α) (b := b) (off := off + i * En.sz α) (cs := cs) (v := u) (vs := En.enc x) (K := K) hu hlen (En.one x) (Upd.here (l := F)) (by omega) ?_ w hwb
    intro w' hw'
    refine hx w' ?_
    refine sl_close (b := b) (off := off) (cap := cap) (cs := setL cs (off + i * En.sz α) (En.enc x)) (T := T') (by simp) (by simpa using e3) (by rw [setL_length]; exact e5) ?_ hw'
    rw [List.length_set, ← flat_set xs i x hi, ← e7]
    have key : ∀ (vs cs : List Value) (k : Nat), k + vs.length ≤ xs.length * En.sz α → ((setL cs (off + k) vs).drop off).take (xs.length * En.sz α) = setL ((cs.drop off).take (xs.length * En.sz α)) k vs := by
      intro vs
      induction vs with
      | nil => intros; rfl
      | cons a as ih =>
        intro cs k hk
        simp only [List.length_cons] at hk
        simp only [setL]
        rw [show off + k + 1 = off + (k + 1) by omega, ih _ _ (by omega), List.drop_set, if_neg (by omega), show off + k - off = k by omega, List.take_set]
    exact key _ _ _ (by omega)
theorem min_int {ty T : Nat} {k k' : IntKind} {a b : Int} {K : Value → WP} : GenK P (Builtin.min_ #[T, T] ty #[.int k a, .int k' b]) K = K (.int k (if b < a then b else a)) := by
  refine GenK_of (fun w => ?_) K
  simp [Builtin.min_, Builtin.min2]
end
end Go.Wk
namespace Go.Wk
open Go
def TakeL (l pre F : List Asrt) : Prop := Imp l (pre ++ F)
theorem TakeL.nil {l : List Asrt} : TakeL l [] l := Imp.refl
theorem TakeL.cons {A : Asrt} {l l' pre F : List Asrt} (h : TakeA l A l') (h2 : TakeL l' pre F) : TakeL l (A :: pre) F := Imp.trans h (Imp.cons h2)
theorem Tr.callT {P : Program} {f : FuncId} {args : Array Value} {pre : List Asrt} {post : Value → List Asrt → Prop} {l F : List Asrt} {K : Value → WP} (h : Trip P f args pre post) (hp : TakeL l pre F)
    (hk : ∀ v l', post v l' → Tr (l' ++ F) (K v)) : Tr l (CallK P f args K) := (h F K hk).imp hp
def EntR (_d l l2 : List Asrt) : Prop := Imp l l2
theorem EntR.done {d l : List Asrt} : EntR d l l := Imp.refl
theorem EntR.drop {d : List Asrt} {A : Asrt} {l F : List Asrt} (h : EntR d l F) : EntR d (A :: l) F := Imp.trans Imp.tail h
theorem EntR.take {d : List Asrt} {A : Asrt} {l l' l2 : List Asrt} (ht : TakeA l A l') (h : EntR d l' l2) : EntR d l (A :: l2) := Imp.trans ht (Imp.cons h)
theorem EntR.sep {d : List Asrt} {A B : Asrt} {l l2 : List Asrt} (h : EntR d l (A :: B :: l2)) : EntR d l (Wk.sep A B :: l2) := Imp.trans h Imp.sepI
theorem EntR.ex {d : List Asrt} {α : Type} {f : α → Asrt} {l l2 : List Asrt} (x : α) (h : EntR d l (f x :: l2)) : EntR d l (Wk.ex f :: l2) := Imp.trans h (Imp.exI x)
theorem EntR.fact {d : List Asrt} {p : Prop} {l l2 : List Asrt} (hp : p) (h : EntR d l l2) : EntR d l (Wk.fact p :: l2) := Imp.trans h (Imp.factI hp)
theorem Tr.ent2 {l l2 : List Asrt} {X : WP} (h : EntR [] l l2) (hx : Tr l2 X) : Tr l X := hx.imp h
theorem Tr.fin {post : Value → List Asrt → Prop} {F : List Asrt} {K : Value → WP} {v : Value} {l l' : List Asrt} (hK : ∀ v l', post v l' → Tr (l' ++ F) (K v)) (h : post v l') (he : EntR [] l (l' ++ F)) : Tr l (K v) := fun w hw => hK v l' h w (he.sat hw)
theorem Tr.againE {α : Type} {slots keep : List Nat} {V : α → List Value} {L : α → List Asrt} {I : α → Prop} {μ : α → Nat} {a : α} {kv : List Value} {e' : Env} {l F : List Asrt} (a' : α)
    (hk : keep.map e' = kv) (hV : slots.map e' = V a') (hI : I a') (hμ : μ a' < μ a) (hL : EntR [] l (L a' ++ F)) :
    Tr l (againK keep kv slots V I μ L F a e') := fun _w hw => ⟨hk, a', hI, hμ, hV, hL.sat hw⟩
theorem Tr.loopE {α : Type} (slots keep : List Nat) (V : α → List Value) (L : α → List Asrt) (I : α → Prop) (μ : α → Nat) {B : Post → Env → WP} {Q : Post} {e : Env} {l F : List Asrt} (a0 : α)
    (hL : TakeL l (L a0) F) (hV : slots.map e = V a0) (h0 : I a0)
    (hr : ∀ a u, I a → Tr (L a ++ F) (B (seqK (againK keep (keep.map e) slots V I μ L F a) Q) (upds (upds u keep (keep.map e)) slots (V a)))) :
    Tr l (LoopW B Q e) := Tr.loop slots keep V L I μ a0 h0 hV (fun _ hw => hL.sat hw) hr
section
variable {P : Program} {T : Nat → Plan} {b want : Bool} {l : List Asrt} {x y : Code} {Q : Post} {e : Env} {o : Op} {ty : TypeId} {K : Value → WP} {k : Env → WP} {d : Option Tmp} {ops : Array Oper} {cs : List Nat}
theorem Tr.condS (hA : b = true → Tr l (CondW P T (.bool true) x y Q e)) (hB : b = false → Tr l (CondW P T (.bool false) x y Q e)) : Tr l (CondW P T (.bool b) x y Q e) := by
  cases b
  · exact hB rfl
  · exact hA rfl
theorem Tr.guardS (hA : b = true → Tr l (GuardO P (.bool true) want o ty e K k d)) (hB : b = false → Tr l (GuardO P (.bool false) want o ty e K k d)) : Tr l (GuardO P (.bool b) want o ty e K k d) := by
  cases b
  · exact hB rfl
  · exact hA rfl
theorem Tr.guardTT (hb : b = true) (h : b = true → Tr l (GuardO P (.bool true) want o ty e K k d)) : Tr l (GuardO P (.bool b) want o ty e K k d) := by subst hb; exact h rfl
theorem Tr.guardFF (hb : b = false) (h : b = false → Tr l (GuardO P (.bool false) want o ty e K k d)) : Tr l (GuardO P (.bool b) want o ty e K k d) := by subst hb; exact h rfl
theorem Tr.guardCS (hA : b = true → Tr l (GuardC P (.bool true) want o ty e K ops cs k)) (hB : b = false → Tr l (GuardC P (.bool false) want o ty e K ops cs k)) : Tr l (GuardC P (.bool b) want o ty e K ops cs k) := by
  cases b
  · exact hB rfl
  · exact hA rfl
end
section
variable {P : Program} {T : Nat → Plan} {l : List Asrt} {x y : Code} {Q : Post} {e : Env} {K : Value → WP}
theorem G.load {t : Nat} {a : Value} (h : Tr l (GenK P (Instr.loadAt t a) K)) : Tr l (GenK P (Instr.loadAt t a) K) := h
theorem G.store {t : Nat} {a v : Value} (h : Tr l (EUnitK P (Instr.storeAt t a v) K)) : Tr l (EUnitK P (Instr.storeAt t a v) K) := h
theorem G.idx {t : Nat} {a v : Value} (h : Tr l (GenK P (Instr.indexAt t a v) K)) : Tr l (GenK P (Instr.indexAt t a v) K) := h
theorem G.len {ts : Array Nat} {ty : Nat} {as : Array Value} (h : Tr l (GenK P (Builtin.len_ ts ty as) K)) : Tr l (GenK P (Builtin.len_ ts ty as) K) := h
theorem G.app {ts : Array Nat} {ty : Nat} {as : Array Value} (h : Tr l (EGenK P (Builtin.append_ ts ty as) K)) : Tr l (EGenK P (Builtin.append_ ts ty as) K) := h
theorem G.cut {t : Nat} {v : Value} {lo hi mx : Option Value} (h : Tr l (GenK P (Instr.sliceAt t v lo hi mx) K)) : Tr l (GenK P (Instr.sliceAt t v lo hi mx) K) := h
theorem G.look {t : Nat} {m k : Value} {ok : Bool} (h : Tr l (GenK P (Instr.lookup t m k ok) K)) : Tr l (GenK P (Instr.lookup t m k ok) K) := h
theorem G.mapu {t : Nat} {m k v : Value} (h : Tr l (EUnitK P (Instr.mapUpdate t m k v) K)) : Tr l (EUnitK P (Instr.mapUpdate t m k v) K) := h
theorem G.bs {t n : Nat} {ps : Array (Nat × Value)} (h : Tr l (EGenK P (Instr.buildSlice t n ps) K)) : Tr l (EGenK P (Instr.buildSlice t n ps) K) := h
theorem G.mks {t : Nat} {a b : Value} (h : Tr l (EGenK P (Instr.makeSlice t a b) K)) : Tr l (EGenK P (Instr.makeSlice t a b) K) := h
theorem G.cond {v : Value} (h : Tr l (CondW P T v x y Q e)) : Tr l (CondW P T v x y Q e) := h
theorem G.guard {v : Value} {w : Bool} {o : Op} {ty : Nat} {k : Env → WP} {d : Option Nat} (h : Tr l (GuardO P v w o ty e K k d)) : Tr l (GuardO P v w o ty e K k d) := h
theorem G.guardC {v : Value} {w : Bool} {o : Op} {ty : Nat} {k : Env → WP} {ops : Array Oper} {cs : List Nat} (h : Tr l (GuardC P v w o ty e K ops cs k)) : Tr l (GuardC P v w o ty e K ops cs k) := h
theorem G.call (f : Nat) {as : Array Value} (h : Tr l (CallK P f as K)) : Tr l (CallK P f as K) := h
end
def ix {α : Type} [Inhabited α] (xs : List α) (k : Int) : α := xs.getD k.toNat default
theorem ix_some {α : Type} [Inhabited α] {xs : List α} {k : Int} (h0 : 0 ≤ k) (h : k < xs.length) : xs[k.toNat]? = some (ix xs k) := by
  have h1 : k.toNat < xs.length := by omega
  simp [ix, h1]
instance : Inhabited Value := ⟨undef⟩
section
variable {P : Program} {α : Type} [En α] {ro : Bool} {v : Value} {xs : List α} {l F : List Asrt}
theorem Tr.indexI [Inhabited α] {T n : Nat} [hT0 : Slc P T n] {i : Int} {k : IntKind} {K : Value → WP} (hs : Has l (sl ro v xs)) (hne : n = En.sz α) (h0 : 0 ≤ i) (hi : i < xs.length)
    (hx : xs[i.toNat]? = some (ix xs i) → Tr l (K (.pointer (some ⟨(sb v).block, (sb v).off + i.toNat * En.sz α, none⟩)))) : Tr l (GenK P (Instr.indexAt T v (.int k i)) K) :=
  Tr.index hs hne h0 hi (hx (ix_some h0 hi))
theorem Tr.storeElI {T : Nat} {i : Int} {u : Value} {x : α} {K : Value → WP} [hT0 : Siz P T (En.sz α)] (ht : TakeA l (sl false v xs) F) (hu : u.cells = (En.enc x).toArray) (h0 : 0 ≤ i) (hi : i < xs.length) (hx : Tr (sl false v (xs.set i.toNat x) :: F) (K undef)) :
    Tr l (EUnitK P (Instr.storeAt T (.pointer (some ⟨(sb v).block, (sb v).off + i.toNat * En.sz α, none⟩)) u) K) :=
  Tr.storeEl (i := i.toNat) (by omega) hu ht hx
theorem setL_0 {cs : List Value} {i : Nat} : setL cs i [] = cs := rfl
theorem setL_1 {cs vs : List Value} {i : Nat} {v : Value} : setL cs i (v :: vs) = setL (cs.set i v) (i + 1) vs := rfl
theorem cons_eq {α : Type} {a b : α} {l l' : List α} (h1 : a = b) (h2 : l = l') : a :: l = b :: l' := by subst h1; subst h2; rfl
class ElT (T : Nat) (α : outParam Type) : Type where
theorem Tr.build1 {T e bytes : Nat} {β : Type} [_hE : ElT T β] [En β] [Inhabited β] {z : List Value} [hT : SlcT P T e bytes (En.sz β) z] {K : Value → WP} (x : β) {u : Value} (hz : z = En.enc (default : β)) (hu : u.cells = (En.enc x).toArray) (hsm : En.sz β ≤ 16777216)
    (hk : ∀ s : SV, Tr (sl false s.v [x] :: l) (K s.v)) : Tr l (EGenK P (Instr.buildSlice T 1 [(0, u)].toArray) K) := by
  refine Tr.buildSlice (α := β) (xs := [x]) (d := default) hz rfl (by omega) ?_ hk
  have h1 : (flat [(default : β)]).length = En.sz β := by rw [flat_length]; simp
  have h2 : (En.enc x).length = En.sz β := En.len x
  simp only [fillP, List.replicate, hu, Nat.zero_mul, List.size_toArray, h2, h1, Nat.zero_add, Nat.le_refl, and_self, if_true]
  have := setL_whole (En.enc x) (flat [(default : β)]) [] (by rw [h1, h2])
  simp only [List.nil_append, List.length_nil] at this
  rw [this]
  simp [flat]
theorem len_nilS {T ty n : Nat} [hT : Slc P T n] {K : Value → WP} : GenK P (Builtin.len_ #[T] ty #[.slice none 0 0]) K = K (.int .i64 0) := by
  refine GenK_of (fun w => ?_) K
  obtain ⟨e, i, hu, _, _⟩ := und_slc hT.h
  simp [Builtin.len_, run_underlying hu, goInt]
end
end Go.Wk
