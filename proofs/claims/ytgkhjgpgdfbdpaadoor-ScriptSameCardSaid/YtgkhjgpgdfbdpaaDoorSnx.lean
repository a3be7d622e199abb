import Derived.Test.YtgkhjgpgdfbdpaaDoorSlx
namespace Go.Proofs.YtgkhjgpgdfbdpaaDoor
open Go Go.Wk
set_option maxHeartbeats 6400000
set_option maxRecDepth 100000
/-! ### a script's lines read one by one -/
abbrev StT := List (List (List StepC)) × List FrameC
def lastL {α : Type} (l : List (List α)) : List α := ix l ((l.length - 1 : Nat) : Int)
def putL {α : Type} (l : List (List α)) (x : List α) : List (List α) := l.set (l.length - 1) x
noncomputable def takeS (st : StT) (w : List UInt8) : Option StT := match frameA w with
  | some f => some (st.1, st.2 ++ [f])
  | none => if st.2 ≠ [] then none else if w = partB then some (st.1 ++ [[]], []) else if st.1 = [] then none
    else if w = procB then some (putL st.1 (lastL st.1 ++ [[]]), []) else match readA (wordsS w) with
      | none => none
      | some x => if lastL st.1 = [] then none else some (putL st.1 (putL (lastL st.1) (lastL (lastL st.1) ++ [x])), [])
/-- So many at most. -/
def lenT (n : Nat) (st : StT) : Prop := st.1.length ≤ n ∧ st.2.length ≤ n ∧ ∀ p ∈ st.1, p.length ≤ n ∧ ∀ q ∈ p, q.length ≤ n
theorem lastL_mem {α : Type} {l : List (List α)} (h : l ≠ []) : lastL l ∈ l := ix_mem (by have := List.length_pos_iff.2 h; omega)
theorem lastL_len {α : Type} {l : List (List α)} {n : Nat} (h : ∀ x ∈ l, x.length ≤ n) : (lastL l).length ≤ n := by
  by_cases hl : l = []
  · subst hl; exact Nat.zero_le _
  · exact h _ (lastL_mem hl)
theorem putL_mem {α : Type} {l : List (List α)} {x y : List α} (h : y ∈ putL l x) : y = x ∨ y ∈ l := (List.mem_or_eq_of_mem_set h).symm
theorem putL_len {α : Type} {l : List (List α)} {x : List α} : (putL l x).length = l.length := List.length_set
theorem lenT_mono {n m : Nat} {st : StT} (h : lenT n st) (hm : n ≤ m) : lenT m st := ⟨by have := h.1; omega, by have := h.2.1; omega, fun p hp => ⟨by have := (h.2.2 p hp).1; omega, fun q hq => by have := (h.2.2 p hp).2 q hq; omega⟩⟩
theorem lenT_take {n : Nat} {st st' : StT} {w : List UInt8} (h : lenT n st) (ht : takeS st w = some st') : lenT (n + 1) st' := by
  have h' := lenT_mono h (Nat.le_succ n)
  obtain ⟨h1, h2, h3⟩ := h
  have hll : (lastL st.1).length ≤ n := lastL_len fun x hx => (h3 x hx).1
  have hlq : ∀ q ∈ lastL st.1, q.length ≤ n := fun q hq => by
    by_cases hl : st.1 = []
    · rw [hl] at hq; cases hq
    · exact (h3 _ (lastL_mem hl)).2 q hq
  have hl2 : (lastL (lastL st.1)).length ≤ n := lastL_len hlq
  unfold takeS at ht
  split at ht
  · obtain rfl := Option.some.inj ht
    exact ⟨h'.1, by simp; omega, h'.2.2⟩
  · split at ht
    · cases ht
    · split at ht
      · obtain rfl := Option.some.inj ht
        refine ⟨by simp; omega, by simp, fun p hp => ?_⟩
        rcases List.mem_append.1 hp with hp | hp
        · exact h'.2.2 p hp
        · obtain rfl := List.mem_singleton.1 hp
          exact ⟨Nat.zero_le _, fun q hq => by cases hq⟩
      · split at ht
        · cases ht
        · split at ht
          · obtain rfl := Option.some.inj ht
            refine ⟨by rw [putL_len]; omega, by simp, fun p hp => ?_⟩
            rcases putL_mem hp with rfl | hp
            · refine ⟨by simp; omega, fun q hq => ?_⟩
              rcases List.mem_append.1 hq with hq | hq
              · have := hlq q hq; omega
              · obtain rfl := List.mem_singleton.1 hq; exact Nat.zero_le _
            · exact h'.2.2 p hp
          · split at ht
            · cases ht
            · split at ht
              · cases ht
              · obtain rfl := Option.some.inj ht
                refine ⟨by rw [putL_len]; omega, by simp, fun p hp => ?_⟩
                rcases putL_mem hp with rfl | hp
                · refine ⟨by rw [putL_len]; omega, fun q hq => ?_⟩
                  rcases putL_mem hq with rfl | hq
                  · simp; omega
                  · have := hlq q hq; omega
                · exact h'.2.2 p hp
/-- How far lines are read, and how many. -/
noncomputable def goS : StT → List (List UInt8) → StT × Nat
  | st, [] => (st, 0)
  | st, w :: ws => match takeS st w with
    | none => (st, 0)
    | some st' => ((goS st' ws).1, (goS st' ws).2 + 1)
theorem goS_none {st : StT} {w : List UInt8} {ws : List (List UInt8)} (h : takeS st w = none) : goS st (w :: ws) = (st, 0) := by
  unfold goS; rw [h]
theorem goS_some {st st' : StT} {w : List UInt8} {ws : List (List UInt8)} (h : takeS st w = some st') : goS st (w :: ws) = ((goS st' ws).1, (goS st' ws).2 + 1) := by
  rw [goS, h]
theorem goS_le : ∀ {ws : List (List UInt8)} {st : StT}, (goS st ws).2 ≤ ws.length
  | [], _ => Nat.le_refl _
  | w :: ws, st => by
    cases h : takeS st w with
    | none => rw [goS_none h]; exact Nat.zero_le _
    | some st' =>
      rw [goS_some h]
      have := @goS_le ws st'
      simp only [List.length_cons]; omega
theorem goS_app : ∀ {ws r : List (List UInt8)} {st st' : StT}, goS st ws = (st', ws.length) → goS st (ws ++ r) = ((goS st' r).1, ws.length + (goS st' r).2)
  | [], r, st, st', h => by
    obtain rfl : st = st' := congrArg Prod.fst h
    simp
  | w :: ws, r, st, st', h => by
    rw [List.cons_append]
    cases ht : takeS st w with
    | none =>
      rw [goS_none ht] at h
      have := congrArg Prod.snd h
      simp at this
    | some s1 =>
      rw [goS_some ht] at h ⊢
      have h1 : (goS s1 ws).1 = st' := congrArg Prod.fst h
      have h2 : (goS s1 ws).2 + 1 = ws.length + 1 := congrArg Prod.snd h
      have h3 : goS s1 ws = (st', ws.length) := Prod.ext h1 (by omega)
      rw [goS_app h3]
      simp only [List.length_cons]
      exact Prod.ext rfl (by simp only; omega)
/-- A text read: the script, the line of an error, the error. -/
noncomputable def readT (s : List UInt8) : StT × Int × Int := if 65536 < s.length then (([], []), 0, 3)
  else if (goS ([], []) (wordsA 10 s).dropLast).2 = (wordsA 10 s).dropLast.length ∧ (wordsA 10 s).getLast? = some [] then ((goS ([], []) (wordsA 10 s).dropLast).1, 0, 0)
  else (([], []), ((goS ([], []) (wordsA 10 s).dropLast).2 : Int) + 1, 13)
/-- So far are lines read, and the rest is behind them. -/
def rdT (s : List UInt8) (st : StT) (n : Nat) (r : List UInt8) : Prop := ∃ ws, wordsA 10 s = ws ++ wordsA 10 r ∧ goS ([], []) ws = (st, n) ∧ n = ws.length ∧ lenT n st
theorem rdT_init {s : List UInt8} : rdT s ([], []) 0 s := ⟨[], rfl, rfl, rfl, Nat.le_refl _, Nat.le_refl _, fun p hp => by cases hp⟩
theorem rdT_next {s : List UInt8} {st st' : StT} {n : Nat} {w r : List UInt8} (h : rdT s st n (w ++ 10 :: r)) (hw : (10 : UInt8) ∉ w) (ht : takeS st w = some st') : rdT s st' (n + 1) r := by
  obtain ⟨ws, h1, h2, h3, h4⟩ := h
  rw [wordsA_hit hw] at h1
  refine ⟨ws ++ [w], by rw [h1]; simp, ?_, by simp [h3], lenT_take h4 ht⟩
  rw [goS_app (by rw [h2, h3]), goS_some ht, h3]
  rfl
theorem readT_big {s : List UInt8} (h : 65536 < s.length) : readT s = (([], []), 0, 3) := by unfold readT; rw [if_pos h]
theorem rdT_end {s : List UInt8} {st : StT} {n : Nat} (hl : s.length ≤ 65536) (h : rdT s st n []) : readT s = (st, 0, 0) := by
  obtain ⟨ws, h1, h2, h3, h4⟩ := h
  have h1' : wordsA 10 s = ws ++ [[]] := h1
  unfold readT
  rw [if_neg (by omega), h1', List.dropLast_concat, List.getLast?_concat, h2, if_pos ⟨h3, rfl⟩]
theorem rdT_bad {s : List UInt8} {st : StT} {n : Nat} {w r : List UInt8} (hl : s.length ≤ 65536) (h : rdT s st n (w ++ 10 :: r)) (hw : (10 : UInt8) ∉ w) (he : takeS st w = none) : readT s = (([], []), (n : Int) + 1, 13) := by
  obtain ⟨ws, h1, h2, h3, h4⟩ := h
  rw [wordsA_hit hw] at h1
  have hd : (wordsA 10 s).dropLast = ws ++ w :: (wordsA 10 r).dropLast := by
    rw [h1, List.dropLast_append_of_ne_nil (by simp), List.dropLast_cons_of_ne_nil (wordsA_ne 10 r)]
  have hev : goS ([], []) (wordsA 10 s).dropLast = (st, n) := by
    rw [hd, goS_app (by rw [h2, h3]), goS_none he]
    exact Prod.ext rfl (by simp [h3])
  unfold readT
  rw [if_neg (by omega), hev, if_neg]
  intro ⟨hx, _⟩
  rw [hd] at hx
  simp at hx; omega
theorem rdT_open {s : List UInt8} {st : StT} {n : Nat} {w : List UInt8} (hl : s.length ≤ 65536) (h : rdT s st n w) (hw : (10 : UInt8) ∉ w) (he : w ≠ []) : readT s = (([], []), (n : Int) + 1, 13) := by
  obtain ⟨ws, h1, h2, h3, h4⟩ := h
  rw [wordsA_miss hw] at h1
  unfold readT
  rw [if_neg (by omega), h1, List.dropLast_concat, List.getLast?_concat, h2, if_neg]
  intro ⟨_, hx⟩
  exact he (Option.some.inj hx)
end Go.Proofs.YtgkhjgpgdfbdpaaDoor

namespace Go.Proofs.YtgkhjgpgdfbdpaaDoor
open Go Go.Wk
set_option maxHeartbeats 6400000
set_option maxRecDepth 100000

theorem takeS_frame {st : StT} {w : List UInt8} {f : FrameC} (h : frameA w = some f) : takeS st w = some (st.1, st.2 ++ [f]) := by unfold takeS; rw [h]
theorem takeS_late {st : StT} {w : List UInt8} (h : frameA w = none) (h2 : st.2 ≠ []) : takeS st w = none := by unfold takeS; rw [h]; exact if_pos h2
theorem takeS_part {P : List (List (List StepC))} {w : List UInt8} (h : frameA w = none) (hw : w = partB) : takeS (P, []) w = some (P ++ [[]], []) := by
  unfold takeS; rw [h]; simp only [ne_eq, not_true_eq_false, if_false]; rw [if_pos hw]
theorem takeS_first {w : List UInt8} (h : frameA w = none) (hw : w ≠ partB) : takeS ([], []) w = none := by
  unfold takeS; rw [h]; simp only [ne_eq, not_true_eq_false, if_false]; rw [if_neg hw, if_pos trivial]
theorem takeS_proc {P : List (List (List StepC))} {w : List UInt8} (h : frameA w = none) (hP : P ≠ []) (hw : w = procB) : takeS (P, []) w = some (putL P (lastL P ++ [[]]), []) := by
  unfold takeS; rw [h]; simp only [ne_eq, not_true_eq_false, if_false]; rw [if_neg (by rw [hw]; decide), if_neg hP, if_pos hw]
theorem takeS_say {P : List (List (List StepC))} {w : List UInt8} (h : frameA w = none) (hP : P ≠ []) (hp : w ≠ partB) (hw : w ≠ procB) (hr : readA (wordsS w) = none) : takeS (P, []) w = none := by
  unfold takeS; rw [h]; simp only [ne_eq, not_true_eq_false, if_false]; rw [if_neg hp, if_neg hP, if_neg hw, hr]
theorem takeS_lone {P : List (List (List StepC))} {w : List UInt8} (h : frameA w = none) (hP : P ≠ []) (hp : w ≠ partB) (hw : w ≠ procB) (hl : lastL P = []) : takeS (P, []) w = none := by
  unfold takeS; rw [h]; simp only [ne_eq, not_true_eq_false, if_false]; rw [if_neg hp, if_neg hP, if_neg hw]
  split
  · rfl
  · rw [if_pos hl]
theorem takeS_step {P : List (List (List StepC))} {w : List UInt8} {x : StepC} (h : frameA w = none) (hP : P ≠ []) (hp : w ≠ partB) (hw : w ≠ procB) (hl : lastL P ≠ []) (hr : readA (wordsS w) = some x) : takeS (P, []) w = some (putL P (putL (lastL P) (lastL (lastL P) ++ [x])), []) := by
  unfold takeS; rw [h]; simp only [ne_eq, not_true_eq_false, if_false]; rw [if_neg hp, if_neg hP, if_neg hw, hr]
  simp only; rw [if_neg hl]
theorem ix_map {α β : Type} [Inhabited α] [Inhabited β] {f : α → β} {xs : List α} {k : Nat} (h : k < xs.length) : ix (xs.map f) (k : Int) = f (ix xs (k : Int)) := by
  have h1 := ix_some (xs := xs) (k := (k : Int)) (by omega) (by omega)
  have h2 := ix_some (xs := xs.map f) (k := (k : Int)) (by omega) (by simp; omega)
  rw [List.getElem?_map, h1] at h2
  exact (Option.some.inj h2).symm
theorem lastL_map {α β : Type} [Inhabited α] {f : α → List β} {xs : List α} {k : Nat} (h : xs.length = k + 1) : lastL (xs.map f) = f (ix xs (k : Int)) := by
  unfold lastL
  rw [List.length_map, h, Nat.add_sub_cancel]
  exact ix_map (by omega)
theorem putL_map {α β : Type} {f : α → List β} {xs : List α} {k : Nat} {x : α} {y : List β} (h : xs.length = k + 1) (hx : f x = y) : putL (xs.map f) y = (xs.set k x).map f := by
  unfold putL
  rw [List.length_map, h, Nat.add_sub_cancel, List.map_set, hx]
attribute [local irreducible] BrK GenK EGenK EUnitK CallK FnK CallV GuardO GuardC CondW opX opK opKc chkR eqR seqK blkK endL WL WD W LoopW BinK Tr drewK resL PickK NotK NilK ExtrK getK Instr.storeAt Instr.loadAt Instr.fieldAt Instr.indexAt Instr.lookup Instr.mapUpdate Instr.box Instr.alloc Instr.build Instr.buildSlice Instr.makeSlice Instr.makeMap Instr.sliceAt Instr.field Instr.index Instr.makeInterface Instr.typeAssert Builtin.len_ Builtin.append_ Builtin.cap_ Builtin.min_ Builtin.max_ Builtin.copy_ Builtin.clear_ convert binOp mp blk rob sl sep ex fact old
attribute [local irreducible] NegK mxV bufT bldB nz stB stepsN
theorem procs_ok {rb : Nat} {p f : SV} {progs : List ProgS} (hl : progs.length ≤ 100000) : Trip Tryd.prog 106 [.pointer (some ⟨rb, 0, none⟩)].toArray [blk rb (.cells [p.v, f.v].toArray 113 (0, 0)), sl false p.v progs]
    fun v l' => v = (if progs = [] then .pointer none else .pointer (some ⟨(sb p.v).block, (sb p.v).off + ((progs.length : Int) - 1).toNat * En.sz ProgS, none⟩)) ∧ l' = [blk rb (.cells [p.v, f.v].toArray 113 (0, 0)), sl false p.v progs] := by
  intro F K hK
  simp only [List.cons_append, List.nil_append]
  (refine Tr.enter (rs := [.tmp 2]) mixed fn106 rfl (by simp +arith [Tryd.ntmps106]) fun u => ?_; simp only [cd106, Tryd.f106])
  by_cases hz : progs = []
  · subst hz
    ((try simp only [WKb, ↓reduceIte, Nat.reduceEqDiff]) <;> (repeat' ((first
    | (refine G.tr ?_; first | refine S.a ?_ | refine S.t ?_ | refine Tr.brK ?_ ?_ | refine S.n fun _ => ?_ | refine S.i fun hix => ?_ | (refine S.g fun hb => ?_; (try simp only [hb])) | (refine S.s (fun hb => ?_) (fun hb => ?_) <;> ((try simp only [hb]) <;> (try (have hp := hb; simp only [WKs] at hp; (try have hq := Int.not_le.2 hp); (try have hq := Int.not_lt.2 hp))))))
    | ((fail_if_success refine G.tr ?_); exact G.prop S.p)
    | fail) <;> (try simp only [WKb, ↓reduceIte]))))
    all_goals
      refine Tr.fin hK ⟨rfl, rfl⟩ ?_
      ((try clear hK) <;> (try simp only [WKe, *]) <;> repeat (first | with_reducible exact EntR.done | refine S.e ?_ | (refine S.f ?_ <;> (try simp only [WKe, ↓reduceIte, reduceCtorEq, Int.reduceEq, *])) | with_reducible apply EntR.ex | refine EntR.drop (F := F) ?_ | refine EntR.drop ?_))
  · have hp := List.length_pos_iff.2 hz
    have hw : IntKind.i64.wrap ((progs.length : Int) - 1) = (progs.length : Int) - 1 := wrapId (by omega) (by omega)
    ((try simp only [WKb, ↓reduceIte, Nat.reduceEqDiff]) <;> (repeat' ((first
    | (refine G.tr ?_; first | refine S.a ?_ | refine S.t ?_ | refine Tr.brK ?_ ?_ | refine S.n fun _ => ?_ | refine S.i fun hix => ?_ | (refine S.g fun hb => ?_; (try simp only [hb])) | (refine S.s (fun hb => ?_) (fun hb => ?_) <;> ((try simp only [hb]) <;> (try (have hp := hb; simp only [WKs] at hp; (try have hq := Int.not_le.2 hp); (try have hq := Int.not_lt.2 hp))))))
    | ((fail_if_success refine G.tr ?_); exact G.prop S.p)
    | fail) <;> (try simp only [WKb, ↓reduceIte, Nat.reduceEqDiff, hw]))))
    all_goals
      refine Tr.fin hK ⟨by rw [if_neg hz], rfl⟩ ?_
      ((try clear hK) <;> (try simp only [WKe, *]) <;> repeat (first | with_reducible exact EntR.done | refine S.e ?_ | (refine S.f ?_ <;> (try simp only [WKe, ↓reduceIte, reduceCtorEq, Int.reduceEq, *])) | with_reducible apply EntR.ex | refine EntR.drop (F := F) ?_ | refine EntR.drop ?_))

end Go.Proofs.YtgkhjgpgdfbdpaaDoor

namespace Go.Proofs.YtgkhjgpgdfbdpaaDoor
open Go Go.Wk
set_option maxHeartbeats 6400000
set_option maxRecDepth 100000

attribute [local irreducible] BrK GenK EGenK EUnitK CallK FnK CallV GuardO GuardC CondW opX opK opKc chkR eqR seqK blkK endL WL WD W LoopW BinK Tr drewK resL PickK NotK NilK ExtrK getK Instr.storeAt Instr.loadAt Instr.fieldAt Instr.indexAt Instr.lookup Instr.mapUpdate Instr.box Instr.alloc Instr.build Instr.buildSlice Instr.makeSlice Instr.makeMap Instr.sliceAt Instr.field Instr.index Instr.makeInterface Instr.typeAssert Builtin.len_ Builtin.append_ Builtin.cap_ Builtin.min_ Builtin.max_ Builtin.copy_ Builtin.clear_ convert binOp mp blk rob sl sep ex fact old
attribute [local irreducible] NegK mxV bufT bldB nz stB stepsN
theorem flat_enc {α : Type} [En α] : ∀ {xs ys : List α}, xs.map En.enc = ys.map En.enc → flat xs = flat ys
  | [], [], _ => rfl
  | [], _ :: _, h => by simp at h
  | _ :: _, [], h => by simp at h
  | x :: xs, y :: ys, h => by
    simp only [List.map_cons, List.cons.injEq] at h
    have := flat_enc h.2
    simp only [flat, List.flatMap_cons] at this ⊢
    rw [h.1, this]
theorem sl_enc {α : Type} [En α] {ro : Bool} {v : Value} {xs ys : List α} (h : xs.map En.enc = ys.map En.enc) : sl ro v xs = sl ro v ys := by
  have h1 : xs.length = ys.length := by have := congrArg List.length h; simpa using this
  have h2 := flat_enc h
  have h3 : (xs = []) = (ys = []) := by rw [← List.length_eq_zero_iff, ← List.length_eq_zero_iff, h1]
  unfold sl
  simp only [h1, h2, h3]
theorem sl_set {ro : Bool} {v : Value} {xs : List ProgS} {k : Nat} {d : List ProcS} (hk : k < xs.length) : sl ro v (xs.set (k : Int).toNat ⟨(ix xs (k : Int)).s, d⟩) = sl ro v xs := by
  refine sl_enc ?_
  rw [List.map_set]
  have h1 := ix_some (xs := xs) (k := (k : Int)) (by omega) (by omega)
  obtain ⟨hlt, he⟩ := List.getElem?_eq_some_iff.1 h1
  refine List.ext_getElem (by simp) fun i hi1 hi2 => ?_
  rw [List.getElem_set]
  split
  · rename_i hi
    subst hi
    rw [List.getElem_map, he]; rfl
  · rfl
theorem setProg {xs : List ProgS} {k : Nat} {s : SV} {d : List ProcS} {l l1 l2 l3 : List Asrt} {X : WP} (hk : k < xs.length) (h1 : TakeA l (sl false s.v d) l1) (h3 : TakeA l1 (famProc false d) l3) (h2 : TakeA l3 (fam (fun x : ProgS => sep (sl false x.s.v x.d) (famProc false x.d)) (xs.eraseIdx (k : Int).toNat)) l2) (h : Tr (famProg false (xs.set (k : Int).toNat ⟨s, d⟩) :: l2) X) : Tr l X :=
  h.imp (Imp.trans h1 (Imp.trans (Imp.cons h3) (Imp.trans Imp.sepI (Imp.trans (Imp.cons h2) (fam_in (A := fun x : ProgS => sep (sl false x.s.v x.d) (famProc false x.d)) (x := ⟨s, d⟩) (by rw [Int.toNat_natCast]; exact hk))))))
theorem setProc {xs : List ProcS} {k : Nat} {s : SV} {d : List StepC} {l l1 l2 : List Asrt} {X : WP} (hk : k < xs.length) (h1 : TakeA l (sl false s.v d) l1) (h2 : TakeA l1 (fam (fun x : ProcS => sl false x.s.v x.d) (xs.eraseIdx (k : Int).toNat)) l2) (h : Tr (famProc false (xs.set (k : Int).toNat ⟨s, d⟩) :: l2) X) : Tr l X :=
  h.imp (Imp.trans h1 (Imp.trans (Imp.cons h2) (fam_in (A := fun x : ProcS => sl false x.s.v x.d) (x := ⟨s, d⟩) (by rw [Int.toNat_natCast]; exact hk))))
theorem take_ok {w : List UInt8} {m : Int} {rb : Nat} {p f : SV} {progs : List ProgS} {frames : List FrameC} (hw : w.length ≤ 1000000) (hn : lenT 100000 (progsD progs, frames)) : Trip Tryd.prog 72 [.pointer (some ⟨rb, 0, none⟩), .string (bstr w)].toArray [blk rb (.cells [p.v, f.v].toArray 113 (0, 0)), sl false p.v progs, famProg false progs, sl false f.v frames, mxB m]
    fun v l' => ∃ (p' f' : SV) (progs' : List ProgS) (frames' : List FrameC), (∀ st, takeS (progsD progs, frames) w = some st → progsD progs' = st.1 ∧ frames' = st.2) ∧ v = .bool (takeS (progsD progs, frames) w).isSome ∧ l' = [blk rb (.cells [p'.v, f'.v].toArray 113 (0, 0)), sl false p'.v progs', famProg false progs', sl false f'.v frames'] := by
  intro F K hK
  simp only [List.cons_append, List.nil_append]
  have hnp : progs.length ≤ 100000 := by have := hn.1; simp only [progsD, List.length_map] at this; exact this
  have hnf : frames.length ≤ 100000 := hn.2.1
  have hni : ∀ q ∈ progs, q.d.length ≤ 100000 ∧ ∀ r ∈ q.d, r.d.length ≤ 100000 := fun q hq => by
    have := hn.2.2 (q.d.map SL.d) (List.mem_map_of_mem hq)
    rw [List.length_map] at this
    exact ⟨this.1, fun r hr => this.2 _ (List.mem_map_of_mem hr)⟩
  clear hn
  have fin0 : ∀ l : List Asrt, takeS (progsD progs, frames) w = none → EntR [] l (blk rb (.cells [p.v, f.v].toArray 113 (0, 0)) :: sl false p.v progs :: famProg false progs :: sl false f.v frames :: F) → Tr l (K (.bool false)) := fun l h he =>
    Tr.fin hK ⟨p, f, progs, frames, fun st hst => (by rw [h] at hst; cases hst), by rw [h]; rfl, rfl⟩ he
  have fin1 : ∀ (l : List Asrt) (st : StT) (p' f' : SV) (progs' : List ProgS) (frames' : List FrameC), takeS (progsD progs, frames) w = some st → progsD progs' = st.1 → frames' = st.2 → EntR [] l (blk rb (.cells [p'.v, f'.v].toArray 113 (0, 0)) :: sl false p'.v progs' :: famProg false progs' :: sl false f'.v frames' :: F) → Tr l (K (.bool true)) := fun l st p' f' progs' frames' h h1 h2 he =>
    Tr.fin hK ⟨p', f', progs', frames', fun st' hst => (by rw [h] at hst; cases hst; exact ⟨h1, h2⟩), by rw [h]; rfl, rfl⟩ he
  (refine Tr.enter (rs := [.tmp 4]) mixed fn72 rfl (by simp +arith [Tryd.ntmps72]) fun u => ?_; simp only [cd72, Tryd.f72])
  cases hfa : frameA w with
  | some fr =>
    have hos : (frameA w).isSome = true := by rw [hfa]; rfl
    ((try simp only [WKb, ↓reduceIte, Nat.reduceEqDiff, Nat.reduceAdd, WKt]) <;> (repeat' ((first
    | (refine G.tr ?_; first | refine S.a ?_ | refine S.t ?_ | refine Tr.brK ?_ ?_ | (refine G.call 105 ?_; refine S.c ?_ (h := framed_ok ?_)) | (refine G.call 106 ?_; refine S.c ?_ (h := procs_ok ?_)) | (refine G.call 107 ?_; refine S.c ?_ (h := read_ok ?_)) | refine S.n fun _ => ?_ | refine S.i fun hix => ?_ | (refine S.g fun hb => ?_; (try simp only [hb])) | (refine S.s (fun hb => ?_) (fun hb => ?_) <;> ((try simp only [hb]) <;> (try (have hp := hb; simp only [WKs] at hp; (try have hq := Int.not_le.2 hp); (try have hq := Int.not_lt.2 hp))))))
    | rintro _ _ ⟨rfl, rfl⟩
    | rintro _ _ ⟨_, hfrm, rfl, rfl⟩
    | ((fail_if_success refine G.tr ?_); exact G.prop S.p)
    | fail) <;> (try simp only [WKb, ↓reduceIte, Nat.reduceEqDiff, Nat.reduceAdd, pl72, hos]))))
    all_goals
      obtain rfl := hfrm _ hfa
      apply fin1 _ _ p _ progs _ (takeS_frame hfa) rfl rfl
      ((try clear hK) <;> (try simp only [*]) <;> repeat (first | with_reducible exact EntR.done | refine S.e ?_ | (refine S.f ?_ <;> (try simp only [WKe, ↓reduceIte, reduceCtorEq, Int.reduceEq, *])) | with_reducible apply EntR.ex | refine EntR.drop (F := F) ?_ | refine EntR.drop ?_))
  | none =>
    have hos : (frameA w).isSome = false := by rw [hfa]; rfl
    by_cases hF : frames = []
    · subst hF
      by_cases hpa : w = partB
      · have hd : decide (w = [112, 97, 114, 116]) = true := decide_eq_true hpa
        have ht := takeS_part (P := progsD progs) hfa hpa
        ((try simp only [WKb, ↓reduceIte, Nat.reduceEqDiff, Nat.reduceAdd, WKt]) <;> (repeat' ((first
    | (refine G.tr ?_; first | refine S.a ?_ | refine S.t ?_ | refine Tr.brK ?_ ?_ | (refine G.call 105 ?_; refine S.c ?_ (h := framed_ok ?_)) | (refine G.call 106 ?_; refine S.c ?_ (h := procs_ok ?_)) | (refine G.call 107 ?_; refine S.c ?_ (h := read_ok ?_)) | refine S.n fun _ => ?_ | refine S.i fun hix => ?_ | (refine S.g fun hb => ?_; (try simp only [hb])) | (refine S.s (fun hb => ?_) (fun hb => ?_) <;> ((try simp only [hb]) <;> (try (have hp := hb; simp only [WKs] at hp; (try have hq := Int.not_le.2 hp); (try have hq := Int.not_lt.2 hp))))))
    | rintro _ _ ⟨rfl, rfl⟩
    | rintro _ _ ⟨_, hfrm, rfl, rfl⟩
    | ((fail_if_success refine G.tr ?_); exact G.prop S.p)
    | fail) <;> (try simp only [WKb, WKh, ↓reduceIte, Nat.reduceEqDiff, hos, hd]))))
        all_goals
          refine snocProg (s := ⟨none, 0, 0⟩) (d := []) TakeA.nilS TakeA.famNil (by (repeat (first | exact TakeA.here | apply TakeA.next)); done) ?_
          apply fin1 _ _ _ f (progs ++ [⟨⟨none, 0, 0⟩, []⟩]) [] ht progsD_snoc rfl
          ((try clear hK) <;> (try simp only [WKe, ↓reduceIte, reduceCtorEq, Int.reduceEq, *]) <;> repeat (first | with_reducible exact EntR.done | refine S.e ?_ | (refine S.f ?_ <;> (try simp only [WKe, ↓reduceIte, reduceCtorEq, Int.reduceEq, *])) | with_reducible apply EntR.ex | refine EntR.drop (F := F) ?_ | refine EntR.drop ?_))
      · have hd : decide (w = [112, 97, 114, 116]) = false := decide_eq_false hpa
        by_cases hz : progs = []
        · subst hz
          have ht := takeS_first hfa hpa
          ((try simp only [WKb, ↓reduceIte, Nat.reduceEqDiff, Nat.reduceAdd, WKt]) <;> (repeat' ((first
    | (refine G.tr ?_; first | refine S.a ?_ | refine S.t ?_ | refine Tr.brK ?_ ?_ | (refine G.call 105 ?_; refine S.c ?_ (h := framed_ok ?_)) | (refine G.call 106 ?_; refine S.c ?_ (h := procs_ok ?_)) | (refine G.call 107 ?_; refine S.c ?_ (h := read_ok ?_)) | refine S.n fun _ => ?_ | refine S.i fun hix => ?_ | (refine S.g fun hb => ?_; (try simp only [hb])) | (refine S.s (fun hb => ?_) (fun hb => ?_) <;> ((try simp only [hb]) <;> (try (have hp := hb; simp only [WKs] at hp; (try have hq := Int.not_le.2 hp); (try have hq := Int.not_lt.2 hp))))))
    | rintro _ _ ⟨rfl, rfl⟩
    | rintro _ _ ⟨_, hfrm, rfl, rfl⟩
    | ((fail_if_success refine G.tr ?_); exact G.prop S.p)
    | fail) <;> (try simp only [WKb, WKh, ↓reduceIte, Nat.reduceEqDiff, hos, hd]))))
          all_goals
            refine fin0 _ ht ?_
            ((try clear hK) <;> (try simp only [WKe, ↓reduceIte, reduceCtorEq, Int.reduceEq, *]) <;> repeat (first | with_reducible exact EntR.done | refine S.e ?_ | (refine S.f ?_ <;> (try simp only [WKe, ↓reduceIte, reduceCtorEq, Int.reduceEq, *])) | with_reducible apply EntR.ex | refine EntR.drop (F := F) ?_ | refine EntR.drop ?_))
        · obtain ⟨k, hk⟩ : ∃ k, progs.length = k + 1 := ⟨progs.length - 1, by have := List.length_pos_iff.2 hz; omega⟩
          have hki : (progs.length : Int) - 1 = (k : Int) := by omega
          have hkw : IntKind.i64.wrap (k : Int) = (k : Int) := wrapId (by omega) (by omega)
          have hin : k < progs.length := by omega
          have hixk := ix_some (xs := progs) (k := (k : Int)) (by omega) (by omega)
          have hD : progsD progs ≠ [] := fun e => hz (List.map_eq_nil_iff.1 e)
          have hla : lastL (progsD progs) = (ix progs (k : Int)).d.map SL.d := lastL_map hk
          have ⟨hdl, hql⟩ := hni _ (ix_mem hin)
          by_cases hpr : w = procB
          · have hd2 : decide (w = [112, 114, 111, 99]) = true := decide_eq_true hpr
            have ht := takeS_proc hfa hD hpr
            refine Tr.famAt (xs := progs) (k : Int) (by (repeat (first | exact TakeA.here | apply TakeA.next)); done) (by omega) (by omega) ?_
            refine Tr.sep_iff.2 ?_
            ((try simp only [WKb, ↓reduceIte, Nat.reduceEqDiff, Nat.reduceAdd, WKt]) <;> (repeat' ((first
    | (refine G.tr ?_; first | refine S.a ?_ | refine S.t ?_ | refine Tr.brK ?_ ?_ | (refine G.call 105 ?_; refine S.c ?_ (h := framed_ok ?_)) | (refine G.call 106 ?_; refine S.c ?_ (h := procs_ok ?_)) | (refine G.call 107 ?_; refine S.c ?_ (h := read_ok ?_)) | refine S.n fun _ => ?_ | refine S.i fun hix => ?_ | (refine S.g fun hb => ?_; (try simp only [hb])) | (refine S.s (fun hb => ?_) (fun hb => ?_) <;> ((try simp only [hb]) <;> (try (have hp := hb; simp only [WKs] at hp; (try have hq := Int.not_le.2 hp); (try have hq := Int.not_lt.2 hp))))))
    | rintro _ _ ⟨rfl, rfl⟩
    | rintro _ _ ⟨_, hfrm, rfl, rfl⟩
    | ((fail_if_success refine G.tr ?_); exact G.prop S.p)
    | fail) <;> (try simp only [WKb, WKh, ↓reduceIte, Nat.reduceEqDiff, hos, hd, hd2, hz, hki]))))
            rename_i frb o nv
            ((try simp only [WKb, WKh, ↓reduceIte, Nat.reduceEqDiff, Nat.reduceAdd, Nat.reduceSub, Int.reduceEq, Int.reduceLT, Int.reduceLE, WKt, pl72, hos, hd, hd2, hz, hki, hkw]) <;> (repeat' ((first
    | (refine G.tr ?_; first | (refine G.store ?_; refine A.stE (i := (k : Int)) (x := SL.mk nv ((ix progs (k : Int)).d ++ [SL.mk ⟨none, 0, 0⟩ []])) (by rfl) (by omega) (by omega) ?_) | refine S.a ?_ | refine S.t ?_ | refine Tr.brK ?_ ?_ | (refine G.call 105 ?_; refine S.c ?_ (h := framed_ok ?_)) | (refine G.call 106 ?_; refine S.c ?_ (h := procs_ok ?_)) | (refine G.call 107 ?_; refine S.c ?_ (h := read_ok ?_)) | refine S.n fun _ => ?_ | refine S.i fun hix => ?_ | (refine S.g fun hb => ?_; (try simp only [hb])) | (refine S.s (fun hb => ?_) (fun hb => ?_) <;> ((try simp only [hb]) <;> (try (have hp := hb; simp only [WKs] at hp; (try have hq := Int.not_le.2 hp); (try have hq := Int.not_lt.2 hp))))))
    | rintro _ _ ⟨rfl, rfl⟩
    | rintro _ _ ⟨_, hfrm, rfl, rfl⟩
    | ((fail_if_success refine G.tr ?_); exact G.prop S.p)
    | fail) <;> (try simp only [WKb, ↓reduceIte]))))
            all_goals
              refine snocProc (s := ⟨none, 0, 0⟩) (d := []) TakeA.nilS (by (repeat (first | exact TakeA.here | apply TakeA.next)); done) ?_
              refine setProg (s := nv) hin (by (repeat (first | exact TakeA.here | apply TakeA.next)); done) (by (repeat (first | exact TakeA.here | apply TakeA.next)); done) (by (repeat (first | exact TakeA.here | apply TakeA.next)); done) ?_
              apply fin1 _ _ p f (progs.set (k : Int).toNat ⟨nv, (ix progs (k : Int)).d ++ [SL.mk ⟨none, 0, 0⟩ []]⟩) [] ht (putL_map hk (by rw [hla, List.map_append]; rfl)).symm rfl
              ((try clear hK) <;> (try simp only [WKe, *]) <;> repeat (first | with_reducible exact EntR.done | refine S.e ?_ | (refine S.f ?_ <;> (try simp only [WKe, ↓reduceIte, reduceCtorEq, Int.reduceEq, *])) | with_reducible apply EntR.ex | refine EntR.drop (F := F) ?_ | refine EntR.drop ?_))
          · have hd2 : decide (w = [112, 114, 111, 99]) = false := decide_eq_false hpr
            have he1 : errN (none : Option StepC) = 13 := rfl
            have he0 : ∀ x : StepC, errN (some x) = 0 := fun _ => rfl
            have hs0 : ∀ x : StepC, errS (some x) = x := fun _ => rfl
            cases hrd : readA (wordsS w) with
            | none =>
              have ht := takeS_say hfa hD hpa hpr hrd
              ((try simp only [WKb, ↓reduceIte, Nat.reduceEqDiff, Nat.reduceAdd, WKt]) <;> (repeat' ((first
    | (refine G.tr ?_; first | refine S.a ?_ | refine S.t ?_ | refine Tr.brK ?_ ?_ | (refine G.call 105 ?_; refine S.c ?_ (h := framed_ok ?_)) | (refine G.call 106 ?_; refine S.c ?_ (h := procs_ok ?_)) | (refine G.call 107 ?_; refine S.c ?_ (h := read_ok ?_)) | refine S.n fun _ => ?_ | refine S.i fun hix => ?_ | (refine S.g fun hb => ?_; (try simp only [hb])) | (refine S.s (fun hb => ?_) (fun hb => ?_) <;> ((try simp only [hb]) <;> (try (have hp := hb; simp only [WKs] at hp; (try have hq := Int.not_le.2 hp); (try have hq := Int.not_lt.2 hp))))))
    | rintro _ _ ⟨rfl, rfl⟩
    | rintro _ _ ⟨_, hfrm, rfl, rfl⟩
    | ((fail_if_success refine G.tr ?_); exact G.prop S.p)
    | fail) <;> (try simp only [WKb, WKh, ↓reduceIte, Nat.reduceEqDiff, Int.reduceEq, hos, hd, hd2, hz, hki, hrd, he1]))))
              all_goals
                refine fin0 _ ht ?_
                ((try clear hK) <;> (try simp only [WKe, ↓reduceIte, reduceCtorEq, Int.reduceEq, *]) <;> repeat (first | with_reducible exact EntR.done | refine S.e ?_ | (refine S.f ?_ <;> (try simp only [WKe, ↓reduceIte, reduceCtorEq, Int.reduceEq, *])) | with_reducible apply EntR.ex | refine EntR.drop (F := F) ?_ | refine EntR.drop ?_))
            | some x =>
              by_cases hl0 : (ix progs (k : Int)).d = []
              · have ht := takeS_lone hfa hD hpa hpr (by rw [hla, hl0]; rfl)
                have hl0' : ((ix progs (k : Int)).d.length : Int) = 0 := by rw [hl0]; rfl
                refine Tr.famAt (xs := progs) (k : Int) (by (repeat (first | exact TakeA.here | apply TakeA.next)); done) (by omega) (by omega) ?_
                refine Tr.sep_iff.2 ?_
                ((try simp only [WKb, ↓reduceIte, Nat.reduceEqDiff, Nat.reduceAdd, WKt]) <;> (repeat' ((first
    | (refine G.tr ?_; first | refine S.a ?_ | refine S.t ?_ | refine Tr.brK ?_ ?_ | (refine G.call 105 ?_; refine S.c ?_ (h := framed_ok ?_)) | (refine G.call 106 ?_; refine S.c ?_ (h := procs_ok ?_)) | (refine G.call 107 ?_; refine S.c ?_ (h := read_ok ?_)) | refine S.n fun _ => ?_ | refine S.i fun hix => ?_ | (refine S.g fun hb => ?_; (try simp only [hb])) | (refine S.s (fun hb => ?_) (fun hb => ?_) <;> ((try simp only [hb]) <;> (try (have hp := hb; simp only [WKs] at hp; (try have hq := Int.not_le.2 hp); (try have hq := Int.not_lt.2 hp))))))
    | rintro _ _ ⟨rfl, rfl⟩
    | rintro _ _ ⟨_, hfrm, rfl, rfl⟩
    | ((fail_if_success refine G.tr ?_); exact G.prop S.p)
    | fail) <;> (try simp only [WKb, WKh, ↓reduceIte, Nat.reduceEqDiff, hos, hd, hd2, hz, hki, hrd, he0, hs0, hl0']))))
                all_goals
                  refine foldProg (ro := false) hin (by (repeat (first | exact TakeA.here | apply TakeA.next)); done) (by (repeat (first | exact TakeA.here | apply TakeA.next)); done) (by (repeat (first | exact TakeA.here | apply TakeA.next)); done) ?_
                  refine fin0 _ ht ?_
                  ((try clear hK) <;> (try simp only [WKe, ↓reduceIte, reduceCtorEq, Int.reduceEq, *]) <;> repeat (first | with_reducible exact EntR.done | refine S.e ?_ | (refine S.f ?_ <;> (try simp only [WKe, ↓reduceIte, reduceCtorEq, Int.reduceEq, *])) | with_reducible apply EntR.ex | refine EntR.drop (F := F) ?_ | refine EntR.drop ?_))
              · obtain ⟨j, hj⟩ : ∃ j, (ix progs (k : Int)).d.length = j + 1 := ⟨(ix progs (k : Int)).d.length - 1, by have := List.length_pos_iff.2 hl0; omega⟩
                have hjp : ¬ ((ix progs (k : Int)).d.length : Int) = 0 := by omega
                have hjw : IntKind.i64.wrap (((ix progs (k : Int)).d.length : Int) - 1) = (j : Int) := by rw [wrapId (by omega) (by omega)]; omega
                have hinj : j < (ix progs (k : Int)).d.length := by omega
                have hixj := ix_some (xs := (ix progs (k : Int)).d) (k := (j : Int)) (by omega) (by omega)
                have hql1 := hql _ (ix_mem hinj)
                have hlb : lastL ((ix progs (k : Int)).d.map SL.d) = (ix (ix progs (k : Int)).d (j : Int)).d := lastL_map hj
                have ht := takeS_step hfa hD hpa hpr (by rw [hla]; exact fun e => hl0 (List.map_eq_nil_iff.1 e)) hrd
                rw [hla, hlb] at ht
                refine Tr.famAt (xs := progs) (k : Int) (by (repeat (first | exact TakeA.here | apply TakeA.next)); done) (by omega) (by omega) ?_
                refine Tr.sep_iff.2 ?_
                refine Tr.famAt (xs := (ix progs (k : Int)).d) (j : Int) (by (repeat (first | exact TakeA.here | apply TakeA.next)); done) (by omega) (by omega) ?_
                ((try simp only [WKb, ↓reduceIte, Nat.reduceEqDiff, Nat.reduceAdd, WKt]) <;> (repeat' ((first
    | (refine G.tr ?_; first | refine S.a ?_ | refine S.t ?_ | refine Tr.brK ?_ ?_ | (refine G.call 105 ?_; refine S.c ?_ (h := framed_ok ?_)) | (refine G.call 106 ?_; refine S.c ?_ (h := procs_ok ?_)) | (refine G.call 107 ?_; refine S.c ?_ (h := read_ok ?_)) | refine S.n fun _ => ?_ | refine S.i fun hix => ?_ | (refine S.g fun hb => ?_; (try simp only [hb])) | (refine S.s (fun hb => ?_) (fun hb => ?_) <;> ((try simp only [hb]) <;> (try (have hp := hb; simp only [WKs] at hp; (try have hq := Int.not_le.2 hp); (try have hq := Int.not_lt.2 hp))))))
    | rintro _ _ ⟨rfl, rfl⟩
    | rintro _ _ ⟨_, hfrm, rfl, rfl⟩
    | ((fail_if_success refine G.tr ?_); exact G.prop S.p)
    | fail) <;> (try simp only [WKb, WKh, ↓reduceIte, Nat.reduceEqDiff, pl72, hos, hd, hd2, hz, hki, hrd, he0, hs0, hjp, hjw]))))
                rename_i frb sb o nv
                ((try simp only [WKb, WKh, ↓reduceIte, Nat.reduceEqDiff, Nat.reduceAdd, Nat.reduceSub, Int.reduceEq, Int.reduceLT, Int.reduceLE, WKt, pl72, hos, hd, hd2, hz, hki, hkw, hrd, he0, hs0, hjp, hjw]) <;> (repeat' ((first
    | (refine G.tr ?_; first | (refine G.store ?_; refine A.stE (i := (j : Int)) (x := SL.mk nv ((ix (ix progs (k : Int)).d (j : Int)).d ++ [x])) (by rfl) (by omega) (by omega) ?_) | refine S.a ?_ | refine S.t ?_ | refine Tr.brK ?_ ?_ | (refine G.call 105 ?_; refine S.c ?_ (h := framed_ok ?_)) | (refine G.call 106 ?_; refine S.c ?_ (h := procs_ok ?_)) | (refine G.call 107 ?_; refine S.c ?_ (h := read_ok ?_)) | refine S.n fun _ => ?_ | refine S.i fun hix => ?_ | (refine S.g fun hb => ?_; (try simp only [hb])) | (refine S.s (fun hb => ?_) (fun hb => ?_) <;> ((try simp only [hb]) <;> (try (have hp := hb; simp only [WKs] at hp; (try have hq := Int.not_le.2 hp); (try have hq := Int.not_lt.2 hp))))))
    | rintro _ _ ⟨rfl, rfl⟩
    | rintro _ _ ⟨_, hfrm, rfl, rfl⟩
    | ((fail_if_success refine G.tr ?_); exact G.prop S.p)
    | fail) <;> (try simp only [WKb, ↓reduceIte]))))
                all_goals
                  refine setProc (s := nv) hinj (by (repeat (first | exact TakeA.here | apply TakeA.next)); done) (by (repeat (first | exact TakeA.here | apply TakeA.next)); done) ?_
                  refine setProg (s := (ix progs (k : Int)).s) hin (by (repeat (first | exact TakeA.here | apply TakeA.next)); done) (by (repeat (first | exact TakeA.here | apply TakeA.next)); done) (by (repeat (first | exact TakeA.here | apply TakeA.next)); done) ?_
                  apply fin1 _ _ p f (progs.set (k : Int).toNat ⟨(ix progs (k : Int)).s, (ix progs (k : Int)).d.set (j : Int).toNat ⟨nv, (ix (ix progs (k : Int)).d (j : Int)).d ++ [x]⟩⟩) [] ht (putL_map hk (putL_map hj rfl).symm).symm rfl
                  rw [sl_set hin]
                  ((try clear hK) <;> (try simp only [WKe, *]) <;> repeat (first | with_reducible exact EntR.done | refine S.e ?_ | (refine S.f ?_ <;> (try simp only [WKe, ↓reduceIte, reduceCtorEq, Int.reduceEq, *])) | with_reducible apply EntR.ex | refine EntR.drop (F := F) ?_ | refine EntR.drop ?_))
    · have hfp := List.length_pos_iff.2 hF
      ((try simp only [WKb, ↓reduceIte, Nat.reduceEqDiff, Nat.reduceAdd, WKt]) <;> (repeat' ((first
    | (refine G.tr ?_; first | refine S.a ?_ | refine S.t ?_ | refine Tr.brK ?_ ?_ | (refine G.call 105 ?_; refine S.c ?_ (h := framed_ok ?_)) | (refine G.call 106 ?_; refine S.c ?_ (h := procs_ok ?_)) | (refine G.call 107 ?_; refine S.c ?_ (h := read_ok ?_)) | refine S.n fun _ => ?_ | refine S.i fun hix => ?_ | (refine S.g fun hb => ?_; (try simp only [hb])) | (refine S.s (fun hb => ?_) (fun hb => ?_) <;> ((try simp only [hb]) <;> (try (have hp := hb; simp only [WKs] at hp; (try have hq := Int.not_le.2 hp); (try have hq := Int.not_lt.2 hp))))))
    | rintro _ _ ⟨rfl, rfl⟩
    | rintro _ _ ⟨_, hfrm, rfl, rfl⟩
    | ((fail_if_success refine G.tr ?_); exact G.prop S.p)
    | fail) <;> (try simp only [WKb, ↓reduceIte, Nat.reduceEqDiff, hos]))))
      all_goals
        refine fin0 _ (takeS_late hfa hF) ?_
        ((try clear hK) <;> (try simp only [WKe, ↓reduceIte, reduceCtorEq, Int.reduceEq, *]) <;> repeat (first | with_reducible exact EntR.done | refine S.e ?_ | (refine S.f ?_ <;> (try simp only [WKe, ↓reduceIte, reduceCtorEq, Int.reduceEq, *])) | with_reducible apply EntR.ex | refine EntR.drop (F := F) ?_ | refine EntR.drop ?_))

end Go.Proofs.YtgkhjgpgdfbdpaaDoor
