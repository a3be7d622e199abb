import Derived.Test.YtgkhjgpgdfbdpaaDoorSfx
namespace Go.Proofs.YtgkhjgpgdfbdpaaDoor
open Go Go.Wk
set_option maxHeartbeats 6400000
set_option maxRecDepth 100000
theorem BinK_intsN {P : Program} {K : Value → WP} {T n : Nat} [hT : IntsT P T n] {x y : Operand} {k : IntKind} {xs ys : List Int} (h1 : xs.length = n) (h2 : ys.length = n) : BinK P .neq T x y (.agg (xs.map (Value.int k)).toArray) (.agg (ys.map (Value.int k)).toArray) K = K (.bool (!decide (xs = ys))) := by
  obtain ⟨fs, hu, hn, hf, hs, hg⟩ := intsB_open hT.h
  refine GenK_of (fun w => ?_) K
  have hgd : (eqGuard .neq T x y (.agg (xs.map (Value.int k)).toArray) (.agg (ys.map (Value.int k)).toArray)).run P w = .ok () w := by
    have hp : (program).run P w = .ok P w := by simp [program, Sem.run]
    simp [eqGuard, hp, hg]
  have hfo : P.fieldsOf T = fs := by simp [Program.fieldsOf, hu]
  have he : (Op.equal T (.agg (xs.map (Value.int k)).toArray) (.agg (ys.map (Value.int k)).toArray)).run P w = .ok (decide (xs = ys)) w := by
    show (Op.equalIn (9998 + 1 + 1) T _ _).run P w = _
    rw [run_equalIn_struct w (9998 + 1) T _ _ (by rw [hfo]; exact hu) hs, hfo]
    have := eqFields_ints (P := P) (k := k) (d := 9998) (w := w) fs.toList [] xs ys [] (by simp [hn, h1]) (by omega) rfl fun i fd hfi => by
      rw [Array.getElem?_toList] at hfi
      have hi : i < n := by rw [← hn]; exact (Array.getElem?_eq_some_iff.1 hfi).1
      obtain ⟨fd', kk, a, b, c, e⟩ := hf i hi
      rw [hfi] at a
      obtain rfl := Option.some.inj a
      exact ⟨b, by simpa using c, kk, e⟩
    simpa using this
  simp only [Sem.run_bind, hgd, Result.andThen_ok, binOp, he, Sem.run_pure]
theorem stepNe {P : Program} {T : Nat} {K : Value → WP} [IntsT P T 6] {x y : Operand} {s t : StepC} : BinK P .neq T x y (.agg (En.enc s).toArray) (.agg (En.enc t).toArray) K = K (.bool (!decide (s = t))) := by
  obtain ⟨a1, a2, a3, a4, a5, a6⟩ := s
  obtain ⟨b1, b2, b3, b4, b5, b6⟩ := t
  have h : ([a1, a2, a3, a4, a5, a6] = [b1, b2, b3, b4, b5, b6]) = ((⟨a1, a2, a3, a4, a5, a6⟩ : StepC) = ⟨b1, b2, b3, b4, b5, b6⟩) := by simp
  refine (BinK_intsN (P := P) (T := T) (K := K) (x := x) (y := y) (k := .i64) (xs := [a1, a2, a3, a4, a5, a6]) (ys := [b1, b2, b3, b4, b5, b6]) rfl rfl).trans ?_
  simp only [h]
theorem frameNe {P : Program} {T : Nat} {K : Value → WP} [IntsT P T 4] {x y : Operand} {s t : FrameC} : BinK P .neq T x y (.agg (En.enc s).toArray) (.agg (En.enc t).toArray) K = K (.bool (!decide (s = t))) := by
  obtain ⟨a1, a2, a3, a4⟩ := s
  obtain ⟨b1, b2, b3, b4⟩ := t
  have h : ([a1, a2, a3, a4] = [b1, b2, b3, b4]) = ((⟨a1, a2, a3, a4⟩ : FrameC) = ⟨b1, b2, b3, b4⟩) := by simp
  refine (BinK_intsN (P := P) (T := T) (K := K) (x := x) (y := y) (k := .i64) (xs := [a1, a2, a3, a4]) (ys := [b1, b2, b3, b4]) rfl rfl).trans ?_
  simp only [h]

abbrev pD (p : ProgS) : List (List StepC) := p.d.map SL.d
theorem eq_at {α : Type} [Inhabited α] {xs ys : List α} (hl : xs.length = ys.length) (h : ∀ j : Nat, j < xs.length → ix xs (j : Int) = ix ys (j : Int)) : xs = ys := by
  refine List.ext_getElem hl fun i h1 h2 => ?_
  have e1 := ix_some (xs := xs) (k := (i : Int)) (by omega) (by omega)
  have e2 := ix_some (xs := ys) (k := (i : Int)) (by omega) (by omega)
  rw [Int.toNat_natCast, List.getElem?_eq_getElem h1] at e1
  rw [Int.toNat_natCast, List.getElem?_eq_getElem h2] at e2
  rw [Option.some.inj e1, Option.some.inj e2, h i h1]
attribute [local irreducible] BrK GenK EGenK EUnitK CallK FnK CallV GuardO GuardC CondW opX opK opKc chkR eqR seqK blkK endL WL WD W LoopW BinK Tr drewK resL PickK NotK NilK ExtrK getK Instr.storeAt Instr.loadAt Instr.fieldAt Instr.indexAt Instr.lookup Instr.mapUpdate Instr.box Instr.alloc Instr.build Instr.buildSlice Instr.makeSlice Instr.makeMap Instr.sliceAt Instr.field Instr.index Instr.makeInterface Instr.typeAssert Builtin.len_ Builtin.append_ Builtin.cap_ Builtin.min_ Builtin.max_ Builtin.copy_ Builtin.clear_ convert binOp mp blk rob sl sep ex fact old
attribute [local irreducible] NegK mxV bufT bldB nz stB stepsN
theorem eqSteps_ok {r1 r2 : Bool} {v1 v2 : Value} {xs ys : List StepC} : Trip Tryd.prog 77 [v1, v2].toArray [sl r1 v1 xs, sl r2 v2 ys] fun u l' => u = .bool (decide (xs = ys)) ∧ l' = [sl r1 v1 xs, sl r2 v2 ys] := by
  intro F K hK
  simp only [List.cons_append, List.nil_append]
  refine Tr.bound (ro := r1) (v := v1) (xs := xs) (by (repeat (first | exact Has.here | apply Has.next)); done) fun hbd => ?_
  (refine Tr.enter (rs := [.tmp 4]) mixed fn77 rfl (by simp +arith [Tryd.ntmps77]) fun u => ?_; simp only [cd77, Tryd.f77])
  by_cases hlen : xs.length = ys.length
  · have hlen' : (xs.length : Int) = ys.length := by omega
    ((try simp only [WKb, ↓reduceIte, Nat.reduceEqDiff, Nat.reduceAdd]) <;> (repeat' ((first
    | (refine G.tr ?_; first | refine S.a ?_ | refine S.t ?_ | refine Tr.brK ?_ ?_ | refine S.n fun _ => ?_ | refine S.i fun hix => ?_ | (refine S.g fun hb => ?_; (try simp only [hb])) | (refine S.s (fun hb => ?_) (fun hb => ?_) <;> ((try simp only [hb]) <;> (try (have hp := hb; simp only [WKs] at hp; (try have hq := Int.not_le.2 hp); (try have hq := Int.not_lt.2 hp))))))
    | ((fail_if_success refine G.tr ?_); exact G.prop S.p)
    | fail) <;> (try simp only [WKb, ↓reduceIte, Nat.reduceEqDiff, hlen']))))
    refine Tr.loopE (α := Nat) [4, 13] [0, 1, 12] (fun k => [.bool false, .int .i64 k]) (fun _ => [sl r1 v1 xs, sl r2 v2 ys]) (fun k => k ≤ xs.length ∧ ∀ j : Nat, j < k → ix xs (j : Int) = ix ys (j : Int)) (fun k => xs.length - k) 0 (by (repeat (first | exact TakeL.nil | (apply TakeL.cons; focus ((first | exact TakeA.dupS | exact TakeA.dupF | ((repeat (first | with_reducible exact TakeA.here | exact TakeA.fam (by omega) (by omega) | with_reducible apply TakeA.next)); done) | ((repeat (first | exact TakeA.here | apply TakeA.next)); done) | exact TakeA.famNil | exact TakeA.nilS))) | fail)); done) rfl ⟨Nat.zero_le _, fun j hj => by omega⟩ fun k u hx => ?_
    obtain ⟨hk, hn⟩ := hx
    by_cases hin : k < xs.length
    · have hw := wrapSucc (k := k) (by omega)
      by_cases he : ix xs (k : Int) = ix ys (k : Int)
      · have hd2 : decide (ix xs (k : Int) = ix ys (k : Int)) = true := decide_eq_true he
        have hn' : ∀ j : Nat, j < k + 1 → ix xs (j : Int) = ix ys (j : Int) := fun j hj => by
          by_cases hjk : j < k
          · exact hn j hjk
          · have : j = k := by omega
            subst this; exact he
        ((try simp only [WKb, ↓reduceIte, Nat.reduceEqDiff]) <;> (repeat' ((first
    | (refine G.tr ?_; first | refine S.a ?_ | refine S.t ?_ | refine Tr.brK ?_ ?_ | refine S.n fun _ => ?_ | refine S.i fun hix => ?_ | (refine S.g fun hb => ?_; (try simp only [hb])) | (refine S.s (fun hb => ?_) (fun hb => ?_) <;> ((try simp only [hb]) <;> (try (have hp := hb; simp only [WKs] at hp; (try have hq := Int.not_le.2 hp); (try have hq := Int.not_lt.2 hp))))))
    | ((fail_if_success refine G.tr ?_); exact G.prop S.p)
    | fail) <;> (try simp only [WKb, ↓reduceIte, Nat.reduceEqDiff, stepNe, pl77, hw, hd2]))))
        all_goals
          clear he hd2
          (apply Tr.againE (k + 1); (focus (simp only [WKb, ↓reduceIte, Nat.reduceEqDiff])); (focus ((try simp only [WKb, ↓reduceIte, Nat.reduceEqDiff]); (all_goals ((repeat (refine cons_eq (by first | rfl | (simp [*]; done)) ?_)); rfl)); done)); (focus (first | omega | assumption | (simp only []; omega) | (refine ⟨by omega, by assumption⟩) | (simp only []; refine ⟨by omega, by assumption⟩) | ((try simp only []); (repeat' (first | omega | assumption | apply hn' | refine And.intro ?_ ?_)); done))); (focus (first | omega | (simp only []; omega))); (focus (((try clear hK) <;> (try simp only [WKe, *]) <;> repeat (first | with_reducible exact EntR.done | refine S.e ?_ | (refine S.f ?_ <;> (try simp only [WKe, ↓reduceIte, reduceCtorEq, Int.reduceEq, *])) | with_reducible apply EntR.ex | refine EntR.drop (F := F) ?_ | refine EntR.drop ?_)))))
      · have hd2 : decide (ix xs (k : Int) = ix ys (k : Int)) = false := decide_eq_false he
        have hf : decide (xs = ys) = false := decide_eq_false fun h => he (by rw [h])
        ((try simp only [WKb, ↓reduceIte, Nat.reduceEqDiff]) <;> (repeat' ((first
    | (refine G.tr ?_; first | refine S.a ?_ | refine S.t ?_ | refine Tr.brK ?_ ?_ | refine S.n fun _ => ?_ | refine S.i fun hix => ?_ | (refine S.g fun hb => ?_; (try simp only [hb])) | (refine S.s (fun hb => ?_) (fun hb => ?_) <;> ((try simp only [hb]) <;> (try (have hp := hb; simp only [WKs] at hp; (try have hq := Int.not_le.2 hp); (try have hq := Int.not_lt.2 hp))))))
    | ((fail_if_success refine G.tr ?_); exact G.prop S.p)
    | fail) <;> (try simp only [WKb, ↓reduceIte, Nat.reduceEqDiff, stepNe, pl77, hd2]))))
        all_goals
          refine Tr.fin hK ⟨by rw [hf], rfl⟩ ?_
          clear hlen hlen'
          ((try clear hK) <;> (try simp only [WKe, *]) <;> repeat (first | with_reducible exact EntR.done | refine S.e ?_ | (refine S.f ?_ <;> (try simp only [WKe, ↓reduceIte, reduceCtorEq, Int.reduceEq, *])) | with_reducible apply EntR.ex | refine EntR.drop (F := F) ?_ | refine EntR.drop ?_))
    · have hke : k = xs.length := by omega
      subst hke
      have hf : decide (xs = ys) = true := decide_eq_true (eq_at hlen hn)
      ((try simp only [WKb, ↓reduceIte, Nat.reduceEqDiff, hlen']) <;> (repeat' ((first
    | (refine G.tr ?_; first | refine S.a ?_ | refine S.t ?_ | refine Tr.brK ?_ ?_ | refine S.n fun _ => ?_ | refine S.i fun hix => ?_ | (refine S.g fun hb => ?_; (try simp only [hb])) | (refine S.s (fun hb => ?_) (fun hb => ?_) <;> ((try simp only [hb]) <;> (try (have hp := hb; simp only [WKs] at hp; (try have hq := Int.not_le.2 hp); (try have hq := Int.not_lt.2 hp))))))
    | ((fail_if_success refine G.tr ?_); exact G.prop S.p)
    | fail) <;> (try simp only [WKb, ↓reduceIte]))))
      all_goals
        refine Tr.fin hK ⟨by rw [hf], rfl⟩ ?_
        clear hlen hlen' hn
        ((try clear hK) <;> (try simp only [WKe, *]) <;> repeat (first | with_reducible exact EntR.done | refine S.e ?_ | (refine S.f ?_ <;> (try simp only [WKe, ↓reduceIte, reduceCtorEq, Int.reduceEq, *])) | with_reducible apply EntR.ex | refine EntR.drop (F := F) ?_ | refine EntR.drop ?_))
  · have hlen' : ¬ (xs.length : Int) = ys.length := by omega
    have hf : decide (xs = ys) = false := decide_eq_false fun h => hlen (by rw [h])
    ((try simp only [WKb, ↓reduceIte, Nat.reduceEqDiff, Nat.reduceAdd]) <;> (repeat' ((first
    | (refine G.tr ?_; first | refine S.a ?_ | refine S.t ?_ | refine Tr.brK ?_ ?_ | refine S.n fun _ => ?_ | refine S.i fun hix => ?_ | (refine S.g fun hb => ?_; (try simp only [hb])) | (refine S.s (fun hb => ?_) (fun hb => ?_) <;> ((try simp only [hb]) <;> (try (have hp := hb; simp only [WKs] at hp; (try have hq := Int.not_le.2 hp); (try have hq := Int.not_lt.2 hp))))))
    | ((fail_if_success refine G.tr ?_); exact G.prop S.p)
    | fail) <;> (try simp only [WKb, ↓reduceIte, Nat.reduceEqDiff]))))
    all_goals
      refine Tr.fin hK ⟨by rw [hf], rfl⟩ ?_
      ((try clear hK) <;> (try simp only [WKe, *]) <;> repeat (first | with_reducible exact EntR.done | refine S.e ?_ | (refine S.f ?_ <;> (try simp only [WKe, ↓reduceIte, reduceCtorEq, Int.reduceEq, *])) | with_reducible apply EntR.ex | refine EntR.drop (F := F) ?_ | refine EntR.drop ?_))

theorem eqFrames_ok {r1 r2 : Bool} {v1 v2 : Value} {xs ys : List FrameC} : Trip Tryd.prog 79 [v1, v2].toArray [sl r1 v1 xs, sl r2 v2 ys] fun u l' => u = .bool (decide (xs = ys)) ∧ l' = [sl r1 v1 xs, sl r2 v2 ys] := by
  intro F K hK
  simp only [List.cons_append, List.nil_append]
  refine Tr.bound (ro := r1) (v := v1) (xs := xs) (by (repeat (first | exact Has.here | apply Has.next)); done) fun hbd => ?_
  (refine Tr.enter (rs := [.tmp 4]) mixed fn79 rfl (by simp +arith [Tryd.ntmps79]) fun u => ?_; simp only [cd79, Tryd.f79])
  by_cases hlen : xs.length = ys.length
  · have hlen' : (xs.length : Int) = ys.length := by omega
    ((try simp only [WKb, ↓reduceIte, Nat.reduceEqDiff, Nat.reduceAdd]) <;> (repeat' ((first
    | (refine G.tr ?_; first | refine S.a ?_ | refine S.t ?_ | refine Tr.brK ?_ ?_ | refine S.n fun _ => ?_ | refine S.i fun hix => ?_ | (refine S.g fun hb => ?_; (try simp only [hb])) | (refine S.s (fun hb => ?_) (fun hb => ?_) <;> ((try simp only [hb]) <;> (try (have hp := hb; simp only [WKs] at hp; (try have hq := Int.not_le.2 hp); (try have hq := Int.not_lt.2 hp))))))
    | ((fail_if_success refine G.tr ?_); exact G.prop S.p)
    | fail) <;> (try simp only [WKb, ↓reduceIte, Nat.reduceEqDiff, hlen']))))
    refine Tr.loopE (α := Nat) [4, 13] [0, 1, 12] (fun k => [.bool false, .int .i64 k]) (fun _ => [sl r1 v1 xs, sl r2 v2 ys]) (fun k => k ≤ xs.length ∧ ∀ j : Nat, j < k → ix xs (j : Int) = ix ys (j : Int)) (fun k => xs.length - k) 0 (by (repeat (first | exact TakeL.nil | (apply TakeL.cons; focus ((first | exact TakeA.dupS | exact TakeA.dupF | ((repeat (first | with_reducible exact TakeA.here | exact TakeA.fam (by omega) (by omega) | with_reducible apply TakeA.next)); done) | ((repeat (first | exact TakeA.here | apply TakeA.next)); done) | exact TakeA.famNil | exact TakeA.nilS))) | fail)); done) rfl ⟨Nat.zero_le _, fun j hj => by omega⟩ fun k u hx => ?_
    obtain ⟨hk, hn⟩ := hx
    by_cases hin : k < xs.length
    · have hw := wrapSucc (k := k) (by omega)
      by_cases he : ix xs (k : Int) = ix ys (k : Int)
      · have hd2 : decide (ix xs (k : Int) = ix ys (k : Int)) = true := decide_eq_true he
        have hn' : ∀ j : Nat, j < k + 1 → ix xs (j : Int) = ix ys (j : Int) := fun j hj => by
          by_cases hjk : j < k
          · exact hn j hjk
          · have : j = k := by omega
            subst this; exact he
        ((try simp only [WKb, ↓reduceIte, Nat.reduceEqDiff]) <;> (repeat' ((first
    | (refine G.tr ?_; first | refine S.a ?_ | refine S.t ?_ | refine Tr.brK ?_ ?_ | refine S.n fun _ => ?_ | refine S.i fun hix => ?_ | (refine S.g fun hb => ?_; (try simp only [hb])) | (refine S.s (fun hb => ?_) (fun hb => ?_) <;> ((try simp only [hb]) <;> (try (have hp := hb; simp only [WKs] at hp; (try have hq := Int.not_le.2 hp); (try have hq := Int.not_lt.2 hp))))))
    | ((fail_if_success refine G.tr ?_); exact G.prop S.p)
    | fail) <;> (try simp only [WKb, ↓reduceIte, Nat.reduceEqDiff, frameNe, pl79, hw, hd2]))))
        all_goals
          clear he hd2
          (apply Tr.againE (k + 1); (focus (simp only [WKb, ↓reduceIte, Nat.reduceEqDiff])); (focus ((try simp only [WKb, ↓reduceIte, Nat.reduceEqDiff]); (all_goals ((repeat (refine cons_eq (by first | rfl | (simp [*]; done)) ?_)); rfl)); done)); (focus (first | omega | assumption | (simp only []; omega) | (refine ⟨by omega, by assumption⟩) | (simp only []; refine ⟨by omega, by assumption⟩) | ((try simp only []); (repeat' (first | omega | assumption | apply hn' | refine And.intro ?_ ?_)); done))); (focus (first | omega | (simp only []; omega))); (focus (((try clear hK) <;> (try simp only [WKe, *]) <;> repeat (first | with_reducible exact EntR.done | refine S.e ?_ | (refine S.f ?_ <;> (try simp only [WKe, ↓reduceIte, reduceCtorEq, Int.reduceEq, *])) | with_reducible apply EntR.ex | refine EntR.drop (F := F) ?_ | refine EntR.drop ?_)))))
      · have hd2 : decide (ix xs (k : Int) = ix ys (k : Int)) = false := decide_eq_false he
        have hf : decide (xs = ys) = false := decide_eq_false fun h => he (by rw [h])
        ((try simp only [WKb, ↓reduceIte, Nat.reduceEqDiff]) <;> (repeat' ((first
    | (refine G.tr ?_; first | refine S.a ?_ | refine S.t ?_ | refine Tr.brK ?_ ?_ | refine S.n fun _ => ?_ | refine S.i fun hix => ?_ | (refine S.g fun hb => ?_; (try simp only [hb])) | (refine S.s (fun hb => ?_) (fun hb => ?_) <;> ((try simp only [hb]) <;> (try (have hp := hb; simp only [WKs] at hp; (try have hq := Int.not_le.2 hp); (try have hq := Int.not_lt.2 hp))))))
    | ((fail_if_success refine G.tr ?_); exact G.prop S.p)
    | fail) <;> (try simp only [WKb, ↓reduceIte, Nat.reduceEqDiff, frameNe, pl79, hd2]))))
        all_goals
          refine Tr.fin hK ⟨by rw [hf], rfl⟩ ?_
          clear hlen hlen'
          ((try clear hK) <;> (try simp only [WKe, *]) <;> repeat (first | with_reducible exact EntR.done | refine S.e ?_ | (refine S.f ?_ <;> (try simp only [WKe, ↓reduceIte, reduceCtorEq, Int.reduceEq, *])) | with_reducible apply EntR.ex | refine EntR.drop (F := F) ?_ | refine EntR.drop ?_))
    · have hke : k = xs.length := by omega
      subst hke
      have hf : decide (xs = ys) = true := decide_eq_true (eq_at hlen hn)
      ((try simp only [WKb, ↓reduceIte, Nat.reduceEqDiff, hlen']) <;> (repeat' ((first
    | (refine G.tr ?_; first | refine S.a ?_ | refine S.t ?_ | refine Tr.brK ?_ ?_ | refine S.n fun _ => ?_ | refine S.i fun hix => ?_ | (refine S.g fun hb => ?_; (try simp only [hb])) | (refine S.s (fun hb => ?_) (fun hb => ?_) <;> ((try simp only [hb]) <;> (try (have hp := hb; simp only [WKs] at hp; (try have hq := Int.not_le.2 hp); (try have hq := Int.not_lt.2 hp))))))
    | ((fail_if_success refine G.tr ?_); exact G.prop S.p)
    | fail) <;> (try simp only [WKb, ↓reduceIte]))))
      all_goals
        refine Tr.fin hK ⟨by rw [hf], rfl⟩ ?_
        clear hlen hlen' hn
        ((try clear hK) <;> (try simp only [WKe, *]) <;> repeat (first | with_reducible exact EntR.done | refine S.e ?_ | (refine S.f ?_ <;> (try simp only [WKe, ↓reduceIte, reduceCtorEq, Int.reduceEq, *])) | with_reducible apply EntR.ex | refine EntR.drop (F := F) ?_ | refine EntR.drop ?_))
  · have hlen' : ¬ (xs.length : Int) = ys.length := by omega
    have hf : decide (xs = ys) = false := decide_eq_false fun h => hlen (by rw [h])
    ((try simp only [WKb, ↓reduceIte, Nat.reduceEqDiff, Nat.reduceAdd]) <;> (repeat' ((first
    | (refine G.tr ?_; first | refine S.a ?_ | refine S.t ?_ | refine Tr.brK ?_ ?_ | refine S.n fun _ => ?_ | refine S.i fun hix => ?_ | (refine S.g fun hb => ?_; (try simp only [hb])) | (refine S.s (fun hb => ?_) (fun hb => ?_) <;> ((try simp only [hb]) <;> (try (have hp := hb; simp only [WKs] at hp; (try have hq := Int.not_le.2 hp); (try have hq := Int.not_lt.2 hp))))))
    | ((fail_if_success refine G.tr ?_); exact G.prop S.p)
    | fail) <;> (try simp only [WKb, ↓reduceIte, Nat.reduceEqDiff]))))
    all_goals
      refine Tr.fin hK ⟨by rw [hf], rfl⟩ ?_
      ((try clear hK) <;> (try simp only [WKe, *]) <;> repeat (first | with_reducible exact EntR.done | refine S.e ?_ | (refine S.f ?_ <;> (try simp only [WKe, ↓reduceIte, reduceCtorEq, Int.reduceEq, *])) | with_reducible apply EntR.ex | refine EntR.drop (F := F) ?_ | refine EntR.drop ?_))

theorem eqProcs_ok {r1 r2 : Bool} {v1 v2 : Value} {xs ys : List ProcS} : Trip Tryd.prog 76 [v1, v2, .func (.func 77) #[] #[]].toArray [sl r1 v1 xs, famProc r1 xs, sl r2 v2 ys, famProc r2 ys] fun u l' => u = .bool (decide (xs.map SL.d = ys.map SL.d)) ∧ l' = [sl r1 v1 xs, famProc r1 xs, sl r2 v2 ys, famProc r2 ys] := by
  intro F K hK
  simp only [List.cons_append, List.nil_append]
  refine Tr.bound (ro := r1) (v := v1) (xs := xs) (by (repeat (first | exact Has.here | apply Has.next)); done) fun hbd => ?_
  (refine Tr.enter (rs := [.tmp 6]) mixed fn76 rfl (by simp +arith [Tryd.ntmps76]) fun u => ?_; simp only [cd76, Tryd.f76])
  
  by_cases hlen : xs.length = ys.length
  · have hlen' : (xs.length : Int) = ys.length := by omega
    have hlm : (xs.map SL.d).length = (ys.map SL.d).length := by simp [hlen]
    ((try simp only [WKb, ↓reduceIte, Nat.reduceEqDiff, Nat.reduceAdd]) <;> (repeat' ((first
    | (refine G.tr ?_; first | refine S.a ?_ | refine S.t ?_ | refine Tr.brK ?_ ?_ | (refine G.call 77 ?_; refine S.c ?_ (h := eqSteps_ok)) | refine S.n fun _ => ?_ | refine S.i fun hix => ?_ | (refine S.g fun hb => ?_; (try simp only [hb])) | (refine S.s (fun hb => ?_) (fun hb => ?_) <;> ((try simp only [hb]) <;> (try (have hp := hb; simp only [WKs] at hp; (try have hq := Int.not_le.2 hp); (try have hq := Int.not_lt.2 hp))))))
    | rintro _ _ ⟨rfl, rfl⟩
    | ((fail_if_success refine G.tr ?_); exact G.prop S.p)
    | fail) <;> (try simp only [WKb, ↓reduceIte, Nat.reduceEqDiff, hlen']))))
    refine Tr.loopE (α := Nat) [6, 17] [1, 2, 15, 16] (fun k => [.bool false, .int .i64 k]) (fun _ => [sl r1 v1 xs, famProc r1 xs, sl r2 v2 ys, famProc r2 ys]) (fun k => k ≤ xs.length ∧ ∀ j : Nat, j < k → SL.d (ix xs (j : Int)) = SL.d (ix ys (j : Int))) (fun k => xs.length - k) 0 (by (repeat (first | exact TakeL.nil | (apply TakeL.cons; focus ((first | exact TakeA.dupS | exact TakeA.dupF | ((repeat (first | with_reducible exact TakeA.here | exact TakeA.fam (by omega) (by omega) | with_reducible apply TakeA.next)); done) | ((repeat (first | exact TakeA.here | apply TakeA.next)); done) | exact TakeA.famNil | exact TakeA.nilS))) | fail)); done) rfl ⟨Nat.zero_le _, fun j hj => by omega⟩ fun k u hx => ?_
    obtain ⟨hk, hn⟩ := hx
    by_cases hin : k < xs.length
    · have hw := wrapSucc (k := k) (by omega)
      have hin2 : k < ys.length := by omega
      simp only [List.cons_append, List.nil_append]
      refine Tr.famAt (xs := xs) (k : Int) (by (repeat (first | exact TakeA.here | apply TakeA.next)); done) (by omega) (by omega) ?_
      refine Tr.famAt (xs := ys) (k : Int) (by (repeat (first | exact TakeA.here | apply TakeA.next)); done) (by omega) (by omega) ?_
      by_cases he : SL.d (ix xs (k : Int)) = SL.d (ix ys (k : Int))
      · have hd2 : decide (SL.d (ix xs (k : Int)) = SL.d (ix ys (k : Int))) = true := decide_eq_true he
        have hn' : ∀ j : Nat, j < k + 1 → SL.d (ix xs (j : Int)) = SL.d (ix ys (j : Int)) := fun j hj => by
          by_cases hjk : j < k
          · exact hn j hjk
          · have : j = k := by omega
            subst this; exact he
        ((try simp only [WKb, ↓reduceIte, Nat.reduceEqDiff]) <;> (repeat' ((first
    | (refine G.tr ?_; first | refine S.a ?_ | refine S.t ?_ | refine Tr.brK ?_ ?_ | (refine G.call 77 ?_; refine S.c ?_ (h := eqSteps_ok)) | refine S.n fun _ => ?_ | refine S.i fun hix => ?_ | (refine S.g fun hb => ?_; (try simp only [hb])) | (refine S.s (fun hb => ?_) (fun hb => ?_) <;> ((try simp only [hb]) <;> (try (have hp := hb; simp only [WKs] at hp; (try have hq := Int.not_le.2 hp); (try have hq := Int.not_lt.2 hp))))))
    | rintro _ _ ⟨rfl, rfl⟩
    | ((fail_if_success refine G.tr ?_); exact G.prop S.p)
    | fail) <;> (try simp only [WKb, ↓reduceIte, Nat.reduceEqDiff, hw, hd2]))))
        all_goals
          refine foldProc (xs := xs) (k := k) hin (by (repeat (first | exact TakeA.here | apply TakeA.next)); done) (by (repeat (first | exact TakeA.here | apply TakeA.next)); done) ?_
          refine foldProc (xs := ys) (k := k) hin2 (by (repeat (first | exact TakeA.here | apply TakeA.next)); done) (by (repeat (first | exact TakeA.here | apply TakeA.next)); done) ?_
          clear he hd2
          (apply Tr.againE (k + 1); (focus (simp only [WKb, ↓reduceIte, Nat.reduceEqDiff])); (focus ((try simp only [WKb, ↓reduceIte, Nat.reduceEqDiff]); (all_goals ((repeat (refine cons_eq (by first | rfl | (simp [*]; done)) ?_)); rfl)); done)); (focus (first | omega | assumption | (simp only []; omega) | (refine ⟨by omega, by assumption⟩) | (simp only []; refine ⟨by omega, by assumption⟩) | ((try simp only []); (repeat' (first | omega | assumption | apply hn' | refine And.intro ?_ ?_)); done))); (focus (first | omega | (simp only []; omega))); (focus (((try clear hK) <;> (try simp only [WKe, *]) <;> repeat (first | with_reducible exact EntR.done | refine S.e ?_ | (refine S.f ?_ <;> (try simp only [WKe, ↓reduceIte, reduceCtorEq, Int.reduceEq, *])) | with_reducible apply EntR.ex | refine EntR.drop (F := F) ?_ | refine EntR.drop ?_)))))
      · have hd2 : decide (SL.d (ix xs (k : Int)) = SL.d (ix ys (k : Int))) = false := decide_eq_false he
        have hf : decide (xs.map SL.d = ys.map SL.d) = false := decide_eq_false fun h => he (by
          have e1 := ix_some (xs := xs) (k := (k : Int)) (by omega) (by omega)
          have e2 := ix_some (xs := ys) (k := (k : Int)) (by omega) (by omega)
          have e3 := congrArg (fun l => l[((k : Int)).toNat]?) h
          simp only [List.getElem?_map, e1, e2, Option.map_some] at e3
          exact Option.some.inj e3)
        ((try simp only [WKb, ↓reduceIte, Nat.reduceEqDiff]) <;> (repeat' ((first
    | (refine G.tr ?_; first | refine S.a ?_ | refine S.t ?_ | refine Tr.brK ?_ ?_ | (refine G.call 77 ?_; refine S.c ?_ (h := eqSteps_ok)) | refine S.n fun _ => ?_ | refine S.i fun hix => ?_ | (refine S.g fun hb => ?_; (try simp only [hb])) | (refine S.s (fun hb => ?_) (fun hb => ?_) <;> ((try simp only [hb]) <;> (try (have hp := hb; simp only [WKs] at hp; (try have hq := Int.not_le.2 hp); (try have hq := Int.not_lt.2 hp))))))
    | rintro _ _ ⟨rfl, rfl⟩
    | ((fail_if_success refine G.tr ?_); exact G.prop S.p)
    | fail) <;> (try simp only [WKb, ↓reduceIte, Nat.reduceEqDiff, hd2]))))
        all_goals
          refine foldProc (xs := xs) (k := k) hin (by (repeat (first | exact TakeA.here | apply TakeA.next)); done) (by (repeat (first | exact TakeA.here | apply TakeA.next)); done) ?_
          refine foldProc (xs := ys) (k := k) hin2 (by (repeat (first | exact TakeA.here | apply TakeA.next)); done) (by (repeat (first | exact TakeA.here | apply TakeA.next)); done) ?_
          refine Tr.fin hK ⟨by rw [hf], rfl⟩ ?_
          clear hlen hlen' hlm
          ((try clear hK) <;> (try simp only [WKe, *]) <;> repeat (first | with_reducible exact EntR.done | refine S.e ?_ | (refine S.f ?_ <;> (try simp only [WKe, ↓reduceIte, reduceCtorEq, Int.reduceEq, *])) | with_reducible apply EntR.ex | refine EntR.drop (F := F) ?_ | refine EntR.drop ?_))
    · have hke : k = xs.length := by omega
      subst hke
      have hf : decide (xs.map SL.d = ys.map SL.d) = true := decide_eq_true (by
        refine List.ext_getElem hlm fun i h1 h2 => ?_
        simp only [List.length_map] at h1 h2
        have e1 := ix_some (xs := xs) (k := (i : Int)) (by omega) (by omega)
        have e2 := ix_some (xs := ys) (k := (i : Int)) (by omega) (by omega)
        rw [Int.toNat_natCast, List.getElem?_eq_getElem h1] at e1
        rw [Int.toNat_natCast, List.getElem?_eq_getElem h2] at e2
        have e3 := hn i h1
        rw [← Option.some.inj e1, ← Option.some.inj e2] at e3
        simpa [progsD] using e3)
      ((try simp only [WKb, ↓reduceIte, Nat.reduceEqDiff, hlen']) <;> (repeat' ((first
    | (refine G.tr ?_; first | refine S.a ?_ | refine S.t ?_ | refine Tr.brK ?_ ?_ | (refine G.call 77 ?_; refine S.c ?_ (h := eqSteps_ok)) | refine S.n fun _ => ?_ | refine S.i fun hix => ?_ | (refine S.g fun hb => ?_; (try simp only [hb])) | (refine S.s (fun hb => ?_) (fun hb => ?_) <;> ((try simp only [hb]) <;> (try (have hp := hb; simp only [WKs] at hp; (try have hq := Int.not_le.2 hp); (try have hq := Int.not_lt.2 hp))))))
    | rintro _ _ ⟨rfl, rfl⟩
    | ((fail_if_success refine G.tr ?_); exact G.prop S.p)
    | fail) <;> (try simp only [WKb, ↓reduceIte]))))
      all_goals
        refine Tr.fin hK ⟨by rw [hf], rfl⟩ ?_
        clear hlen hlen' hn hlm
        ((try clear hK) <;> (try simp only [WKe, *]) <;> repeat (first | with_reducible exact EntR.done | refine S.e ?_ | (refine S.f ?_ <;> (try simp only [WKe, ↓reduceIte, reduceCtorEq, Int.reduceEq, *])) | with_reducible apply EntR.ex | refine EntR.drop (F := F) ?_ | refine EntR.drop ?_))
  · have hlen' : ¬ (xs.length : Int) = ys.length := by omega
    have hf : decide (xs.map SL.d = ys.map SL.d) = false := decide_eq_false fun h => hlen (by simpa [progsD] using congrArg List.length h)
    ((try simp only [WKb, ↓reduceIte, Nat.reduceEqDiff, Nat.reduceAdd]) <;> (repeat' ((first
    | (refine G.tr ?_; first | refine S.a ?_ | refine S.t ?_ | refine Tr.brK ?_ ?_ | (refine G.call 77 ?_; refine S.c ?_ (h := eqSteps_ok)) | refine S.n fun _ => ?_ | refine S.i fun hix => ?_ | (refine S.g fun hb => ?_; (try simp only [hb])) | (refine S.s (fun hb => ?_) (fun hb => ?_) <;> ((try simp only [hb]) <;> (try (have hp := hb; simp only [WKs] at hp; (try have hq := Int.not_le.2 hp); (try have hq := Int.not_lt.2 hp))))))
    | rintro _ _ ⟨rfl, rfl⟩
    | ((fail_if_success refine G.tr ?_); exact G.prop S.p)
    | fail) <;> (try simp only [WKb, ↓reduceIte, Nat.reduceEqDiff]))))
    all_goals
      refine Tr.fin hK ⟨by rw [hf], rfl⟩ ?_
      ((try clear hK) <;> (try simp only [WKe, *]) <;> repeat (first | with_reducible exact EntR.done | refine S.e ?_ | (refine S.f ?_ <;> (try simp only [WKe, ↓reduceIte, reduceCtorEq, Int.reduceEq, *])) | with_reducible apply EntR.ex | refine EntR.drop (F := F) ?_ | refine EntR.drop ?_))

theorem same1_ok {r1 r2 : Bool} {v1 v2 : Value} {xs ys : List ProcS} : Trip Tryd.prog 75 [v1, v2].toArray [sl r1 v1 xs, famProc r1 xs, sl r2 v2 ys, famProc r2 ys] fun u l' => u = .bool (decide (xs.map SL.d = ys.map SL.d)) ∧ l' = [sl r1 v1 xs, famProc r1 xs, sl r2 v2 ys, famProc r2 ys] := by
  intro F K hK
  simp only [List.cons_append, List.nil_append]
  (refine Tr.enter (rs := [.tmp 4]) mixed fn75 rfl (by simp +arith [Tryd.ntmps75]) fun u => ?_; simp only [cd75, Tryd.f75])
  ((try simp only [WKb, ↓reduceIte, Nat.reduceEqDiff, Nat.reduceAdd]) <;> (repeat' ((first
    | (refine G.tr ?_; first | refine S.a ?_ | refine S.t ?_ | refine Tr.brK ?_ ?_ | (refine G.call 76 ?_; refine S.c ?_ (h := eqProcs_ok)) | refine S.n fun _ => ?_ | refine S.i fun hix => ?_ | (refine S.g fun hb => ?_; (try simp only [hb])) | (refine S.s (fun hb => ?_) (fun hb => ?_) <;> ((try simp only [hb]) <;> (try (have hp := hb; simp only [WKs] at hp; (try have hq := Int.not_le.2 hp); (try have hq := Int.not_lt.2 hp))))))
    | rintro _ _ ⟨rfl, rfl⟩
    | ((fail_if_success refine G.tr ?_); exact G.prop S.p)
    | fail) <;> (try simp only [WKb, ↓reduceIte]))))
  all_goals
    refine Tr.fin hK ⟨rfl, rfl⟩ ?_
    ((try clear hK) <;> (try simp only [WKe, *]) <;> repeat (first | with_reducible exact EntR.done | refine S.e ?_ | (refine S.f ?_ <;> (try simp only [WKe, ↓reduceIte, reduceCtorEq, Int.reduceEq, *])) | with_reducible apply EntR.ex | refine EntR.drop (F := F) ?_ | refine EntR.drop ?_))

theorem eqProgs_ok {r1 r2 : Bool} {v1 v2 : Value} {xs ys : List ProgS} : Trip Tryd.prog 78 [v1, v2, .func (.func 75) #[] #[]].toArray [sl r1 v1 xs, famProg r1 xs, sl r2 v2 ys, famProg r2 ys] fun u l' => u = .bool (decide (progsD xs = progsD ys)) ∧ l' = [sl r1 v1 xs, famProg r1 xs, sl r2 v2 ys, famProg r2 ys] := by
  intro F K hK
  simp only [List.cons_append, List.nil_append]
  refine Tr.bound (ro := r1) (v := v1) (xs := xs) (by (repeat (first | exact Has.here | apply Has.next)); done) fun hbd => ?_
  (refine Tr.enter (rs := [.tmp 6]) mixed fn78 rfl (by simp +arith [Tryd.ntmps78]) fun u => ?_; simp only [cd78, Tryd.f78])
  
  by_cases hlen : xs.length = ys.length
  · have hlen' : (xs.length : Int) = ys.length := by omega
    have hlm : (progsD xs).length = (progsD ys).length := by simp [progsD, hlen]
    ((try simp only [WKb, ↓reduceIte, Nat.reduceEqDiff, Nat.reduceAdd]) <;> (repeat' ((first
    | (refine G.tr ?_; first | refine S.a ?_ | refine S.t ?_ | refine Tr.brK ?_ ?_ | (refine G.call 75 ?_; refine S.c ?_ (h := same1_ok)) | refine S.n fun _ => ?_ | refine S.i fun hix => ?_ | (refine S.g fun hb => ?_; (try simp only [hb])) | (refine S.s (fun hb => ?_) (fun hb => ?_) <;> ((try simp only [hb]) <;> (try (have hp := hb; simp only [WKs] at hp; (try have hq := Int.not_le.2 hp); (try have hq := Int.not_lt.2 hp))))))
    | rintro _ _ ⟨rfl, rfl⟩
    | ((fail_if_success refine G.tr ?_); exact G.prop S.p)
    | fail) <;> (try simp only [WKb, ↓reduceIte, Nat.reduceEqDiff, hlen']))))
    refine Tr.loopE (α := Nat) [6, 17] [1, 2, 15, 16] (fun k => [.bool false, .int .i64 k]) (fun _ => [sl r1 v1 xs, famProg r1 xs, sl r2 v2 ys, famProg r2 ys]) (fun k => k ≤ xs.length ∧ ∀ j : Nat, j < k → pD (ix xs (j : Int)) = pD (ix ys (j : Int))) (fun k => xs.length - k) 0 (by (repeat (first | exact TakeL.nil | (apply TakeL.cons; focus ((first | exact TakeA.dupS | exact TakeA.dupF | ((repeat (first | with_reducible exact TakeA.here | exact TakeA.fam (by omega) (by omega) | with_reducible apply TakeA.next)); done) | ((repeat (first | exact TakeA.here | apply TakeA.next)); done) | exact TakeA.famNil | exact TakeA.nilS))) | fail)); done) rfl ⟨Nat.zero_le _, fun j hj => by omega⟩ fun k u hx => ?_
    obtain ⟨hk, hn⟩ := hx
    by_cases hin : k < xs.length
    · have hw := wrapSucc (k := k) (by omega)
      have hin2 : k < ys.length := by omega
      simp only [List.cons_append, List.nil_append]
      refine Tr.famAt (xs := xs) (k : Int) (by (repeat (first | exact TakeA.here | apply TakeA.next)); done) (by omega) (by omega) ?_
      refine Tr.sep_iff.2 ?_
      refine Tr.famAt (xs := ys) (k : Int) (by (repeat (first | exact TakeA.here | apply TakeA.next)); done) (by omega) (by omega) ?_
      refine Tr.sep_iff.2 ?_
      by_cases he : pD (ix xs (k : Int)) = pD (ix ys (k : Int))
      · have hd2 : decide (pD (ix xs (k : Int)) = pD (ix ys (k : Int))) = true := decide_eq_true he
        have hn' : ∀ j : Nat, j < k + 1 → pD (ix xs (j : Int)) = pD (ix ys (j : Int)) := fun j hj => by
          by_cases hjk : j < k
          · exact hn j hjk
          · have : j = k := by omega
            subst this; exact he
        ((try simp only [WKb, ↓reduceIte, Nat.reduceEqDiff]) <;> (repeat' ((first
    | (refine G.tr ?_; first | refine S.a ?_ | refine S.t ?_ | refine Tr.brK ?_ ?_ | (refine G.call 75 ?_; refine S.c ?_ (h := same1_ok)) | refine S.n fun _ => ?_ | refine S.i fun hix => ?_ | (refine S.g fun hb => ?_; (try simp only [hb])) | (refine S.s (fun hb => ?_) (fun hb => ?_) <;> ((try simp only [hb]) <;> (try (have hp := hb; simp only [WKs] at hp; (try have hq := Int.not_le.2 hp); (try have hq := Int.not_lt.2 hp))))))
    | rintro _ _ ⟨rfl, rfl⟩
    | ((fail_if_success refine G.tr ?_); exact G.prop S.p)
    | fail) <;> (try simp only [WKb, ↓reduceIte, Nat.reduceEqDiff, hw, hd2]))))
        all_goals
          refine foldProg (xs := xs) (k := k) hin (by (repeat (first | exact TakeA.here | apply TakeA.next)); done) (by (repeat (first | exact TakeA.here | apply TakeA.next)); done) (by (repeat (first | exact TakeA.here | apply TakeA.next)); done) ?_
          refine foldProg (xs := ys) (k := k) hin2 (by (repeat (first | exact TakeA.here | apply TakeA.next)); done) (by (repeat (first | exact TakeA.here | apply TakeA.next)); done) (by (repeat (first | exact TakeA.here | apply TakeA.next)); done) ?_
          clear he hd2
          (apply Tr.againE (k + 1); (focus (simp only [WKb, ↓reduceIte, Nat.reduceEqDiff])); (focus ((try simp only [WKb, ↓reduceIte, Nat.reduceEqDiff]); (all_goals ((repeat (refine cons_eq (by first | rfl | (simp [*]; done)) ?_)); rfl)); done)); (focus (first | omega | assumption | (simp only []; omega) | (refine ⟨by omega, by assumption⟩) | (simp only []; refine ⟨by omega, by assumption⟩) | ((try simp only []); (repeat' (first | omega | assumption | apply hn' | refine And.intro ?_ ?_)); done))); (focus (first | omega | (simp only []; omega))); (focus (((try clear hK) <;> (try simp only [WKe, *]) <;> repeat (first | with_reducible exact EntR.done | refine S.e ?_ | (refine S.f ?_ <;> (try simp only [WKe, ↓reduceIte, reduceCtorEq, Int.reduceEq, *])) | with_reducible apply EntR.ex | refine EntR.drop (F := F) ?_ | refine EntR.drop ?_)))))
      · have hd2 : decide (pD (ix xs (k : Int)) = pD (ix ys (k : Int))) = false := decide_eq_false he
        have hf : decide (progsD xs = progsD ys) = false := decide_eq_false fun h => he (by
          have e1 := ix_some (xs := xs) (k := (k : Int)) (by omega) (by omega)
          have e2 := ix_some (xs := ys) (k := (k : Int)) (by omega) (by omega)
          have e3 := congrArg (fun l => l[((k : Int)).toNat]?) h
          simp only [progsD, List.getElem?_map, e1, e2, Option.map_some] at e3
          exact Option.some.inj e3)
        ((try simp only [WKb, ↓reduceIte, Nat.reduceEqDiff]) <;> (repeat' ((first
    | (refine G.tr ?_; first | refine S.a ?_ | refine S.t ?_ | refine Tr.brK ?_ ?_ | (refine G.call 75 ?_; refine S.c ?_ (h := same1_ok)) | refine S.n fun _ => ?_ | refine S.i fun hix => ?_ | (refine S.g fun hb => ?_; (try simp only [hb])) | (refine S.s (fun hb => ?_) (fun hb => ?_) <;> ((try simp only [hb]) <;> (try (have hp := hb; simp only [WKs] at hp; (try have hq := Int.not_le.2 hp); (try have hq := Int.not_lt.2 hp))))))
    | rintro _ _ ⟨rfl, rfl⟩
    | ((fail_if_success refine G.tr ?_); exact G.prop S.p)
    | fail) <;> (try simp only [WKb, ↓reduceIte, Nat.reduceEqDiff, hd2]))))
        all_goals
          refine foldProg (xs := xs) (k := k) hin (by (repeat (first | exact TakeA.here | apply TakeA.next)); done) (by (repeat (first | exact TakeA.here | apply TakeA.next)); done) (by (repeat (first | exact TakeA.here | apply TakeA.next)); done) ?_
          refine foldProg (xs := ys) (k := k) hin2 (by (repeat (first | exact TakeA.here | apply TakeA.next)); done) (by (repeat (first | exact TakeA.here | apply TakeA.next)); done) (by (repeat (first | exact TakeA.here | apply TakeA.next)); done) ?_
          refine Tr.fin hK ⟨by rw [hf], rfl⟩ ?_
          clear hlen hlen' hlm
          ((try clear hK) <;> (try simp only [WKe, *]) <;> repeat (first | with_reducible exact EntR.done | refine S.e ?_ | (refine S.f ?_ <;> (try simp only [WKe, ↓reduceIte, reduceCtorEq, Int.reduceEq, *])) | with_reducible apply EntR.ex | refine EntR.drop (F := F) ?_ | refine EntR.drop ?_))
    · have hke : k = xs.length := by omega
      subst hke
      have hf : decide (progsD xs = progsD ys) = true := decide_eq_true (by
        refine List.ext_getElem hlm fun i h1 h2 => ?_
        simp only [progsD, List.length_map] at h1 h2
        have e1 := ix_some (xs := xs) (k := (i : Int)) (by omega) (by omega)
        have e2 := ix_some (xs := ys) (k := (i : Int)) (by omega) (by omega)
        rw [Int.toNat_natCast, List.getElem?_eq_getElem h1] at e1
        rw [Int.toNat_natCast, List.getElem?_eq_getElem h2] at e2
        have e3 := hn i h1
        rw [← Option.some.inj e1, ← Option.some.inj e2] at e3
        simpa [progsD] using e3)
      ((try simp only [WKb, ↓reduceIte, Nat.reduceEqDiff, hlen']) <;> (repeat' ((first
    | (refine G.tr ?_; first | refine S.a ?_ | refine S.t ?_ | refine Tr.brK ?_ ?_ | (refine G.call 75 ?_; refine S.c ?_ (h := same1_ok)) | refine S.n fun _ => ?_ | refine S.i fun hix => ?_ | (refine S.g fun hb => ?_; (try simp only [hb])) | (refine S.s (fun hb => ?_) (fun hb => ?_) <;> ((try simp only [hb]) <;> (try (have hp := hb; simp only [WKs] at hp; (try have hq := Int.not_le.2 hp); (try have hq := Int.not_lt.2 hp))))))
    | rintro _ _ ⟨rfl, rfl⟩
    | ((fail_if_success refine G.tr ?_); exact G.prop S.p)
    | fail) <;> (try simp only [WKb, ↓reduceIte]))))
      all_goals
        refine Tr.fin hK ⟨by rw [hf], rfl⟩ ?_
        clear hlen hlen' hn hlm
        ((try clear hK) <;> (try simp only [WKe, *]) <;> repeat (first | with_reducible exact EntR.done | refine S.e ?_ | (refine S.f ?_ <;> (try simp only [WKe, ↓reduceIte, reduceCtorEq, Int.reduceEq, *])) | with_reducible apply EntR.ex | refine EntR.drop (F := F) ?_ | refine EntR.drop ?_))
  · have hlen' : ¬ (xs.length : Int) = ys.length := by omega
    have hf : decide (progsD xs = progsD ys) = false := decide_eq_false fun h => hlen (by simpa [progsD] using congrArg List.length h)
    ((try simp only [WKb, ↓reduceIte, Nat.reduceEqDiff, Nat.reduceAdd]) <;> (repeat' ((first
    | (refine G.tr ?_; first | refine S.a ?_ | refine S.t ?_ | refine Tr.brK ?_ ?_ | (refine G.call 75 ?_; refine S.c ?_ (h := same1_ok)) | refine S.n fun _ => ?_ | refine S.i fun hix => ?_ | (refine S.g fun hb => ?_; (try simp only [hb])) | (refine S.s (fun hb => ?_) (fun hb => ?_) <;> ((try simp only [hb]) <;> (try (have hp := hb; simp only [WKs] at hp; (try have hq := Int.not_le.2 hp); (try have hq := Int.not_lt.2 hp))))))
    | rintro _ _ ⟨rfl, rfl⟩
    | ((fail_if_success refine G.tr ?_); exact G.prop S.p)
    | fail) <;> (try simp only [WKb, ↓reduceIte, Nat.reduceEqDiff]))))
    all_goals
      refine Tr.fin hK ⟨by rw [hf], rfl⟩ ?_
      ((try clear hK) <;> (try simp only [WKe, *]) <;> repeat (first | with_reducible exact EntR.done | refine S.e ?_ | (refine S.f ?_ <;> (try simp only [WKe, ↓reduceIte, reduceCtorEq, Int.reduceEq, *])) | with_reducible apply EntR.ex | refine EntR.drop (F := F) ?_ | refine EntR.drop ?_))

end Go.Proofs.YtgkhjgpgdfbdpaaDoor

namespace Go.Proofs.YtgkhjgpgdfbdpaaDoor
open Go Go.Wk
set_option maxHeartbeats 6400000
set_option maxRecDepth 100000

def sameS (a b : List ProgS) (f g : List FrameC) : Prop := progsD a = progsD b ∧ f = g
instance {a b : List ProgS} {f g : List FrameC} : Decidable (sameS a b f g) := by unfold sameS; infer_instance
attribute [local irreducible] BrK GenK EGenK EUnitK CallK FnK CallV GuardO GuardC CondW opX opK opKc chkR eqR seqK blkK endL WL WD W LoopW BinK Tr drewK resL PickK NotK NilK ExtrK getK Instr.storeAt Instr.loadAt Instr.fieldAt Instr.indexAt Instr.lookup Instr.mapUpdate Instr.box Instr.alloc Instr.build Instr.buildSlice Instr.makeSlice Instr.makeMap Instr.sliceAt Instr.field Instr.index Instr.makeInterface Instr.typeAssert Builtin.len_ Builtin.append_ Builtin.cap_ Builtin.min_ Builtin.max_ Builtin.copy_ Builtin.clear_ convert binOp mp blk rob sl sep ex fact old
attribute [local irreducible] NegK mxV bufT bldB nz stB stepsN
theorem ssame_ok {r1 r2 : Bool} {p1 f1 p2 f2 : SV} {xs ys : List ProgS} {fx fy : List FrameC} : Trip Tryd.prog 38 [.agg [p1.v, f1.v].toArray, .agg [p2.v, f2.v].toArray].toArray [sl r1 p1.v xs, famProg r1 xs, sl r1 f1.v fx, sl r2 p2.v ys, famProg r2 ys, sl r2 f2.v fy]
    fun u l' => u = .bool (decide (sameS xs ys fx fy)) ∧ l' = [sl r1 p1.v xs, famProg r1 xs, sl r1 f1.v fx, sl r2 p2.v ys, famProg r2 ys, sl r2 f2.v fy] := by
  intro F K hK
  simp only [List.cons_append, List.nil_append]
  (refine Tr.enter (rs := [.tmp 4]) mixed fn38 rfl (by simp +arith [Tryd.ntmps38]) fun u => ?_; simp only [cd38, Tryd.f38])
  by_cases h1 : progsD xs = progsD ys
  · have hd : decide (progsD xs = progsD ys) = true := decide_eq_true h1
    have hs : decide (sameS xs ys fx fy) = decide (fx = fy) := by simp [sameS, h1]
    ((try simp only [WKb, ↓reduceIte, Nat.reduceEqDiff, Nat.reduceAdd]) <;> (repeat' ((first
    | (refine G.tr ?_; first | refine S.a ?_ | refine S.t ?_ | refine Tr.brK ?_ ?_ | (refine G.call 78 ?_; refine S.c ?_ (h := eqProgs_ok)) | (refine G.call 79 ?_; refine S.c ?_ (h := eqFrames_ok)) | refine S.n fun _ => ?_ | refine S.i fun hix => ?_ | (refine S.g fun hb => ?_; (try simp only [hb])) | (refine S.s (fun hb => ?_) (fun hb => ?_) <;> ((try simp only [hb]) <;> (try (have hp := hb; simp only [WKs] at hp; (try have hq := Int.not_le.2 hp); (try have hq := Int.not_lt.2 hp))))))
    | rintro _ _ ⟨rfl, rfl⟩
    | ((fail_if_success refine G.tr ?_); exact G.prop S.p)
    | fail) <;> (try simp only [WKb, ↓reduceIte, Nat.reduceEqDiff, hd]))))
    all_goals
      refine Tr.fin hK ⟨by rw [hs], rfl⟩ ?_
      clear hs hd h1
      ((try clear hK) <;> (try simp only [WKe, *]) <;> repeat (first | with_reducible exact EntR.done | refine S.e ?_ | (refine S.f ?_ <;> (try simp only [WKe, ↓reduceIte, reduceCtorEq, Int.reduceEq, *])) | with_reducible apply EntR.ex | refine EntR.drop (F := F) ?_ | refine EntR.drop ?_))
  · have hd : decide (progsD xs = progsD ys) = false := decide_eq_false h1
    have hs : decide (sameS xs ys fx fy) = false := by simp [sameS, h1]
    ((try simp only [WKb, ↓reduceIte, Nat.reduceEqDiff, Nat.reduceAdd]) <;> (repeat' ((first
    | (refine G.tr ?_; first | refine S.a ?_ | refine S.t ?_ | refine Tr.brK ?_ ?_ | (refine G.call 78 ?_; refine S.c ?_ (h := eqProgs_ok)) | (refine G.call 79 ?_; refine S.c ?_ (h := eqFrames_ok)) | refine S.n fun _ => ?_ | refine S.i fun hix => ?_ | (refine S.g fun hb => ?_; (try simp only [hb])) | (refine S.s (fun hb => ?_) (fun hb => ?_) <;> ((try simp only [hb]) <;> (try (have hp := hb; simp only [WKs] at hp; (try have hq := Int.not_le.2 hp); (try have hq := Int.not_lt.2 hp))))))
    | rintro _ _ ⟨rfl, rfl⟩
    | ((fail_if_success refine G.tr ?_); exact G.prop S.p)
    | fail) <;> (try simp only [WKb, ↓reduceIte, Nat.reduceEqDiff, hd]))))
    all_goals
      refine Tr.fin hK ⟨by rw [hs], rfl⟩ ?_
      clear hs hd h1
      ((try clear hK) <;> (try simp only [WKe, *]) <;> repeat (first | with_reducible exact EntR.done | refine S.e ?_ | (refine S.f ?_ <;> (try simp only [WKe, ↓reduceIte, reduceCtorEq, Int.reduceEq, *])) | with_reducible apply EntR.ex | refine EntR.drop (F := F) ?_ | refine EntR.drop ?_))

end Go.Proofs.YtgkhjgpgdfbdpaaDoor
