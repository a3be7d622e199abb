import Derived.Test.YtgkhjgpgdfbdpaaDoorSQ
namespace Go.Proofs.YtgkhjgpgdfbdpaaDoor
open Go Go.Wk
set_option maxHeartbeats 6400000
set_option maxRecDepth 100000

/-- The document's state. -/
noncomputable def stN (st : StT) : Int := if st.2 ≠ [] then 3 else if st.1 = [] then 0 else if lastL st.1 = [] then 1 else 2
theorem stN_frame {P : List (List (List StepC))} {F : List FrameC} (h : F ≠ []) : stN (P, F) = 3 := if_pos h
theorem stN_zero : stN ([], []) = 0 := rfl
theorem stN_one {P : List (List (List StepC))} (h : P ≠ []) (hl : lastL P = []) : stN (P, []) = 1 := by
  unfold stN; rw [if_neg (by simp), if_neg h, if_pos hl]
theorem stN_two {P : List (List (List StepC))} (h : P ≠ []) (hl : lastL P ≠ []) : stN (P, []) = 2 := by
  unfold stN; rw [if_neg (by simp), if_neg h, if_neg hl]
theorem lastL_snoc {α : Type} {l : List (List α)} {x : List α} : lastL (l ++ [x]) = x := by
  unfold lastL
  rw [List.length_append, List.length_singleton, Nat.add_sub_cancel]
  have := ix_some (xs := l ++ [x]) (k := (l.length : Int)) (by omega) (by simp; omega)
  rw [Int.toNat_natCast, List.getElem?_concat_length] at this
  exact (Option.some.inj this).symm
theorem lastL_put {α : Type} {l : List (List α)} {x : List α} (h : l ≠ []) : lastL (putL l x) = x := by
  have hp := List.length_pos_iff.2 h
  unfold lastL
  rw [putL_len]
  have := ix_some (xs := putL l x) (k := ((l.length - 1 : Nat) : Int)) (by omega) (by rw [putL_len]; omega)
  unfold putL at this
  rw [Int.toNat_natCast, List.getElem?_set_self (by omega)] at this
  exact (Option.some.inj this).symm
theorem putL_ne {α : Type} {l : List (List α)} {x : List α} (h : l ≠ []) : putL l x ≠ [] := fun e => h (by
  have := congrArg List.length e
  rw [putL_len] at this
  exact List.eq_nil_of_length_eq_zero this)
attribute [local irreducible] BrK GenK EGenK EUnitK CallK FnK CallV GuardO GuardC CondW opX opK opKc chkR eqR seqK blkK endL WL WD W LoopW BinK Tr drewK resL PickK NotK NilK ExtrK getK Instr.storeAt Instr.loadAt Instr.fieldAt Instr.indexAt Instr.lookup Instr.mapUpdate Instr.box Instr.alloc Instr.build Instr.buildSlice Instr.makeSlice Instr.makeMap Instr.sliceAt Instr.field Instr.index Instr.makeInterface Instr.typeAssert Builtin.len_ Builtin.append_ Builtin.cap_ Builtin.min_ Builtin.max_ Builtin.copy_ Builtin.clear_ convert binOp mp blk rob sl sep ex fact old
attribute [local irreducible] NegK mxV bufT bldB nz stB stepsN stN
theorem setProgN {xs : List ProgS} {k : Nat} {s : SV} {d : List ProcS} {l l1 l2 l3 : List Asrt} {X : WP} (hk : k < xs.length) (h1 : TakeA l (sl false s.v d) l1) (h3 : TakeA l1 (famProc false d) l3) (h2 : TakeA l3 (fam (fun x : ProgS => sep (sl false x.s.v x.d) (famProc false x.d)) (xs.eraseIdx k)) l2) (h : Tr (famProg false (xs.set k ⟨s, d⟩) :: l2) X) : Tr l X :=
  setProg hk h1 h3 (by rw [Int.toNat_natCast]; exact h2) (by rw [Int.toNat_natCast]; exact h)
theorem setProcN {xs : List ProcS} {k : Nat} {s : SV} {d : List StepC} {l l1 l2 : List Asrt} {X : WP} (hk : k < xs.length) (h1 : TakeA l (sl false s.v d) l1) (h2 : TakeA l1 (fam (fun x : ProcS => sl false x.s.v x.d) (xs.eraseIdx k)) l2) (h : Tr (famProc false (xs.set k ⟨s, d⟩) :: l2) X) : Tr l X :=
  setProc hk h1 (by rw [Int.toNat_natCast]; exact h2) (by rw [Int.toNat_natCast]; exact h)
theorem sreadR_ok {s : List UInt8} : Trip Tryd.prog 37 [.string (bstr s)].toArray []
    fun v l' => ∃ (p f : SV) (progs : List ProgS), progsD progs = (readT s).1.1 ∧ v = .tuple #[.agg [p.v, f.v].toArray, .int .i64 (readT s).2.1, .int .i64 (readT s).2.2] ∧ l' = [sl false p.v progs, famProg false progs, sl false f.v (readT s).1.2] := by
  intro F K hK
  simp only [List.nil_append]
  have fin0 : ∀ (l : List Asrt) (a e : Int), readT s = (([], []), a, e) → EntR [] l F → Tr l (K (.tuple #[.agg [.slice none 0 0, .slice none 0 0].toArray, .int .i64 a, .int .i64 e])) := fun l a e h he => by
    refine Tr.nilSl (α := ProgS) ?_
    refine Tr.nilSl (α := FrameC) ?_
    refine Tr.imp (fam_nil (A := fun x : ProgS => sep (sl false x.s.v x.d) (famProc false x.d))) ?_
    refine Tr.fin hK ⟨⟨none, 0, 0⟩, ⟨none, 0, 0⟩, [], by rw [h]; rfl, by rw [h]; rfl, rfl⟩ ?_
    rw [h]
    refine EntR.take (TakeA.next (TakeA.next TakeA.here)) ?_
    refine EntR.take TakeA.here ?_
    refine EntR.take TakeA.here ?_
    exact he
  (refine Tr.enter (rs := [.cell 2 48, .tmp 3, .tmp 4]) mixed fn37 rfl (by simp +arith [Tryd.ntmps37]) fun u => ?_; simp only [cd37, Tryd.f37])
  by_cases hbig : 65536 < s.length
  · have hR := readT_big hbig
    ((try simp only [WKb, WKt]) <;> (repeat' ((first
    | (refine G.tr ?_; first | refine S.a ?_ | refine S.t ?_ | refine Tr.brK ?_ ?_ | (refine G.call 73 ?_; refine S.c ?_ (h := frame29_ok ?_)) | (refine G.call 74 ?_; refine S.c ?_ (h := readR_ok ?_)) | refine S.n fun _ => ?_ | refine S.i fun hix => ?_ | (refine S.g fun hb => ?_; (try simp only [hb])) | (refine S.s (fun hb => ?_) (fun hb => ?_) <;> ((try simp only [hb]) <;> (try (have hp := hb; simp only [WKs] at hp; (try have hq := Int.not_le.2 hp); (try have hq := Int.not_lt.2 hp))))))
    | rintro _ _ ⟨rfl, rfl⟩
    | rintro _ _ ⟨_, hfrm, rfl, rfl⟩
    | ((fail_if_success refine G.tr ?_); exact G.prop S.p)
    | fail) <;> (try simp only [WKb, ↓reduceIte, Nat.reduceEqDiff, WKt]))))
    all_goals
      refine fin0 _ _ _ hR ?_
      ((try clear hK) <;> (try simp only [WKe, ↓reduceIte, reduceCtorEq, Int.reduceEq, *]) <;> repeat (first | with_reducible exact EntR.done | refine S.e ?_ | (refine S.f ?_ <;> (try simp only [WKe, ↓reduceIte, reduceCtorEq, Int.reduceEq, *])) | with_reducible apply EntR.ex | refine EntR.drop (F := F) ?_ | refine EntR.drop ?_))
  · have hsl : s.length ≤ 65536 := by omega
    ((try simp only [WKb, WKt]) <;> (repeat' ((first
    | (refine G.tr ?_; first | refine S.a ?_ | refine S.t ?_ | refine Tr.brK ?_ ?_ | (refine G.call 73 ?_; refine S.c ?_ (h := frame29_ok ?_)) | (refine G.call 74 ?_; refine S.c ?_ (h := readR_ok ?_)) | refine S.n fun _ => ?_ | refine S.i fun hix => ?_ | (refine S.g fun hb => ?_; (try simp only [hb])) | (refine S.s (fun hb => ?_) (fun hb => ?_) <;> ((try simp only [hb]) <;> (try (have hp := hb; simp only [WKs] at hp; (try have hq := Int.not_le.2 hp); (try have hq := Int.not_lt.2 hp))))))
    | rintro _ _ ⟨rfl, rfl⟩
    | rintro _ _ ⟨_, hfrm, rfl, rfl⟩
    | ((fail_if_success refine G.tr ?_); exact G.prop S.p)
    | fail) <;> (try simp only [WKb, ↓reduceIte, Nat.reduceEqDiff, WKt]))))
    rename_i ob rb
    refine Tr.nilSl (α := ProgS) ?_
    refine Tr.nilSl (α := FrameC) ?_
    refine Tr.imp (fam_nil (A := fun x : ProgS => sep (sl false x.s.v x.d) (famProc false x.d))) ?_
    refine Tr.loopE (α := SV × SV × List ProgS × List FrameC × Nat × Nat × Nat) [3, 4, 6, 7, 8, 9] [0, 2, 5] (fun x => [.int .i64 0, .int .i64 0, .int .i64 (stN (progsD x.2.2.1, x.2.2.2.1)), .int .i64 x.2.2.2.2.2.1, .int .i64 x.2.2.2.2.1, .int .i64 x.2.2.2.2.2.2]) (fun x => [blk rb (.cells [x.1.v, x.2.1.v].toArray 48 (0, 0)), sl false x.1.v x.2.2.1, famProg false x.2.2.1, sl false x.2.1.v x.2.2.2.1, blk ob (.cells [.slice none 0 0, .slice none 0 0].toArray 48 (0, 0))])
      (fun x => rdT s (progsD x.2.2.1, x.2.2.2.1) x.2.2.2.2.1 (s.drop x.2.2.2.2.2.1) ∧ x.2.2.2.2.1 ≤ x.2.2.2.2.2.1 ∧ x.2.2.2.2.2.1 ≤ x.2.2.2.2.2.2 ∧ x.2.2.2.2.2.2 ≤ s.length ∧ ∀ j : Nat, x.2.2.2.2.2.1 ≤ j → j < x.2.2.2.2.2.2 → bix s (j : Int) ≠ 10) (fun x => s.length - x.2.2.2.2.2.2) (⟨none, 0, 0⟩, ⟨none, 0, 0⟩, [], [], 0, 0, 0) (by (repeat (first | exact TakeL.nil | (apply TakeL.cons; focus ((first | exact TakeA.dupS | exact TakeA.dupF | ((repeat (first | with_reducible exact TakeA.here | exact TakeA.fam (by omega) (by omega) | with_reducible apply TakeA.next)); done) | ((repeat (first | exact TakeA.here | apply TakeA.next)); done) | exact TakeA.famNil | exact TakeA.nilS))) | fail)); done) (by rw [show progsD [] = [] from rfl, stN_zero]; rfl) ⟨rdT_init, Nat.le_refl _, Nat.le_refl _, Nat.zero_le _, fun j _ h => absurd h (Nat.not_lt_zero _)⟩ fun x u hx => ?_
    obtain ⟨p, f, progs, frames, n, a0, k⟩ := x
    simp only at hx ⊢
    obtain ⟨hI, hdl, hpk, hks, hn⟩ := hx
    have hlen : lenT 100000 (progsD progs, frames) := by
      obtain ⟨_, _, _, _, h⟩ := hI
      exact lenT_mono h (by omega)
    have hw := wrapSucc (k := k) (by omega)
    have hwl := wrapSucc (k := n) (by omega)
    by_cases hin : k < s.length
    · by_cases hbx : bix s (k : Int) = 10
      · have hd : (((bix s (k : Int)).toNat : Int) = 10) = True := by rw [hbx]; simp
        have hr := dropS_cut hpk hin hbx
        have hnw := notS_in (by omega) hn
        have hwl2 : ((s.take k).drop a0).length ≤ 1000000 := by rw [List.length_drop, List.length_take]; omega
        obtain ⟨w, hwd⟩ : ∃ w, (s.take k).drop a0 = w := ⟨_, rfl⟩
        rw [hwd] at hr hnw hwl2
        have hn' : ∀ j : Nat, k + 1 ≤ j → j < k + 1 → bix s (j : Int) ≠ 10 := fun j h1 h2 => by omega
        have hI1 := hr ▸ hI
        have hbad := fun ho => rdT_bad hsl hI1 hnw ho
        have hnext := fun st ho => rdT_next (st' := st) hI1 hnw ho
        have hnp : progs.length ≤ 100000 := by have := hlen.1; simp only [progsD, List.length_map] at this; exact this
        have hnf : frames.length ≤ 100000 := hlen.2.1
        have hni : ∀ q ∈ progs, q.d.length ≤ 100000 ∧ ∀ r ∈ q.d, r.d.length ≤ 100000 := fun q hq => by
          have := hlen.2.2 (q.d.map SL.d) (List.mem_map_of_mem hq)
          rw [List.length_map] at this
          exact ⟨this.1, fun r hr => this.2 _ (List.mem_map_of_mem hr)⟩
        have he1 : errN (none : Option StepC) = 13 := rfl
        have he0 : ∀ x : StepC, errN (some x) = 0 := fun _ => rfl
        have hs0 : ∀ x : StepC, errS (some x) = x := fun _ => rfl
        clear hI hI1 hlen hn hr hnw hbx
        cases hfa : frameA w with
        | some fr =>
          have hos : (frameA w).isSome = true := by rw [hfa]; rfl
          have hI' := hnext _ (takeS_frame hfa)
          simp only at hI'
          have hst : ∀ fr : FrameC, stN (progsD progs, frames ++ [fr]) = 3 := fun _ => stN_frame (by simp)
          clear hbad hnext
          ((try simp only [WKb, ↓reduceIte, Nat.reduceEqDiff, WKt]) <;> (repeat' ((first
    | (refine G.tr ?_; first | refine S.a ?_ | refine S.t ?_ | refine Tr.brK ?_ ?_ | (refine G.call 73 ?_; refine S.c ?_ (h := frame29_ok ?_)) | (refine G.call 74 ?_; refine S.c ?_ (h := readR_ok ?_)) | refine S.n fun _ => ?_ | refine S.i fun hix => ?_ | (refine S.g fun hb => ?_; (try simp only [hb])) | (refine S.s (fun hb => ?_) (fun hb => ?_) <;> ((try simp only [hb]) <;> (try (have hp := hb; simp only [WKs] at hp; (try have hq := Int.not_le.2 hp); (try have hq := Int.not_lt.2 hp))))))
    | rintro _ _ ⟨rfl, rfl⟩
    | rintro _ _ ⟨_, hfrm, rfl, rfl⟩
    | ((fail_if_success refine G.tr ?_); exact G.prop S.p)
    | fail) <;> (try simp only [WKb, ↓reduceIte, Nat.reduceEqDiff, Nat.reduceAdd, hd, hwd, hos, hwl, hw, Int.toNat_natCast]))))
          all_goals
            obtain rfl := hfrm _ hfa
            (apply Tr.againE ((_, _, progs, frames ++ [_], n + 1, k + 1, k + 1)); (focus (simp only [WKb, ↓reduceIte, Nat.reduceEqDiff])); (focus ((try simp only [WKb, ↓reduceIte, Nat.reduceEqDiff]); (all_goals ((repeat (refine cons_eq (by first | rfl | ((try clear hK) <;> first | (simp [*]; done) | (simp [*, hst]; omega) | (simp [*, hst] <;> (try split) <;> simp_all <;> omega))) ?_)); rfl)); done)); rotate_left 2; (focus (((try clear hK) <;> (try simp only [WKe, *]) <;> repeat (first | with_reducible exact EntR.done | refine S.e ?_ | (refine S.f ?_ <;> (try simp only [WKe, hst, ↓reduceIte, reduceCtorEq, Int.reduceEq, *])) | with_reducible apply EntR.ex | refine EntR.drop (F := F) ?_ | refine EntR.drop ?_)))); (focus (first | omega | assumption | (simp only []; omega) | (refine ⟨by omega, by assumption⟩) | (simp only []; refine ⟨by omega, by assumption⟩) | ((try simp only []); (repeat' (first | omega | assumption | apply hI' | apply hn' | refine And.intro ?_ ?_)); done))); (focus (first | omega | (simp only []; omega))))
        | none =>
          have hos : (frameA w).isSome = false := by rw [hfa]; rfl
          by_cases hF : frames = []
          · subst hF
            by_cases hpa : w = partB
            · have hd1 : decide (w = [112, 97, 114, 116]) = true := decide_eq_true hpa
              have hI' := hnext _ (takeS_part hfa hpa)
              rw [show progsD progs ++ [[]] = progsD (progs ++ [⟨⟨none, 0, 0⟩, []⟩]) from (progsD_snoc (xs := progs) (s := ⟨none, 0, 0⟩) (d := [])).symm] at hI'
              have hst : stN (progsD (progs ++ [⟨⟨none, 0, 0⟩, []⟩]), []) = 1 := by
                rw [progsD_snoc]
                exact stN_one (by simp) lastL_snoc
              have hslt : stN (progsD progs, []) < 3 := by
                unfold stN
                rw [if_neg (by simp)]
                split
                · decide
                · split <;> decide
              clear hbad hnext
              ((try simp only [WKb, ↓reduceIte, Nat.reduceEqDiff, WKt]) <;> (repeat' ((first
    | (refine G.tr ?_; first | refine S.a ?_ | refine S.t ?_ | refine Tr.brK ?_ ?_ | (refine G.call 73 ?_; refine S.c ?_ (h := frame29_ok ?_)) | (refine G.call 74 ?_; refine S.c ?_ (h := readR_ok ?_)) | refine S.n fun _ => ?_ | refine S.i fun hix => ?_ | (refine S.g fun hb => ?_; (try simp only [hb])) | (refine S.s (fun hb => ?_) (fun hb => ?_) <;> ((try simp only [hb]) <;> (try (have hp := hb; simp only [WKs] at hp; (try have hq := Int.not_le.2 hp); (try have hq := Int.not_lt.2 hp))))))
    | rintro _ _ ⟨rfl, rfl⟩
    | rintro _ _ ⟨_, hfrm, rfl, rfl⟩
    | ((fail_if_success refine G.tr ?_); exact G.prop S.p)
    | fail) <;> (try simp only [WKb, WKh, ↓reduceIte, Nat.reduceEqDiff, hd, hwd, hos, hwl, hw, hd1, Int.toNat_natCast]))))
              all_goals
                refine snocProg (s := ⟨none, 0, 0⟩) (d := []) TakeA.nilS TakeA.famNil (by (repeat (first | exact TakeA.here | apply TakeA.next)); done) ?_
                (apply Tr.againE ((_, _, progs ++ [⟨⟨none, 0, 0⟩, []⟩], [], n + 1, k + 1, k + 1)); (focus (simp only [WKb, ↓reduceIte, Nat.reduceEqDiff])); (focus ((try simp only [WKb, ↓reduceIte, Nat.reduceEqDiff]); (all_goals ((repeat (refine cons_eq (by first | rfl | ((try clear hK) <;> first | (simp [*]; done) | (simp [*, hst]; omega) | (simp [*, hst] <;> (try split) <;> simp_all <;> omega))) ?_)); rfl)); done)); rotate_left 2; (focus (((try clear hK) <;> (try simp only [WKe, *]) <;> repeat (first | with_reducible exact EntR.done | refine S.e ?_ | (refine S.f ?_ <;> (try simp only [WKe, hst, ↓reduceIte, reduceCtorEq, Int.reduceEq, *])) | with_reducible apply EntR.ex | refine EntR.drop (F := F) ?_ | refine EntR.drop ?_)))); (focus (first | omega | assumption | (simp only []; omega) | (refine ⟨by omega, by assumption⟩) | (simp only []; refine ⟨by omega, by assumption⟩) | ((try simp only []); (repeat' (first | omega | assumption | apply hI' | apply hn' | refine And.intro ?_ ?_)); done))); (focus (first | omega | (simp only []; omega))))
            · have hd1 : decide (w = [112, 97, 114, 116]) = false := decide_eq_false hpa
              by_cases hz : progs = []
              · subst hz
                have hR := hbad (takeS_first hfa hpa)
                have hst : stN (progsD [], []) = 0 := stN_zero
                clear hbad hnext
                ((try simp only [WKb, ↓reduceIte, Nat.reduceEqDiff, WKt, hst]) <;> (repeat' ((first
    | (refine G.tr ?_; first | refine S.a ?_ | refine S.t ?_ | refine Tr.brK ?_ ?_ | (refine G.call 73 ?_; refine S.c ?_ (h := frame29_ok ?_)) | (refine G.call 74 ?_; refine S.c ?_ (h := readR_ok ?_)) | refine S.n fun _ => ?_ | refine S.i fun hix => ?_ | (refine S.g fun hb => ?_; (try simp only [hb])) | (refine S.s (fun hb => ?_) (fun hb => ?_) <;> ((try simp only [hb]) <;> (try (have hp := hb; simp only [WKs] at hp; (try have hq := Int.not_le.2 hp); (try have hq := Int.not_lt.2 hp))))))
    | rintro _ _ ⟨rfl, rfl⟩
    | rintro _ _ ⟨_, hfrm, rfl, rfl⟩
    | ((fail_if_success refine G.tr ?_); exact G.prop S.p)
    | fail) <;> (try simp only [WKb, WKh, ↓reduceIte, Nat.reduceEqDiff, Int.reduceEq, hd, hwd, hos, hwl, hw, hd1, Int.toNat_natCast]))))
                all_goals
                  refine fin0 _ _ _ hR ?_
                  ((try clear hK) <;> (try simp only [*]) <;> repeat (first | with_reducible exact EntR.done | refine S.e ?_ | (refine S.f ?_ <;> (try simp only [WKe, ↓reduceIte, reduceCtorEq, Int.reduceEq, *])) | with_reducible apply EntR.ex | refine EntR.drop (F := F) ?_ | refine EntR.drop ?_))
              · obtain ⟨q, hk⟩ : ∃ q, progs.length = q + 1 := ⟨progs.length - 1, by have := List.length_pos_iff.2 hz; omega⟩
                have hki : IntKind.i64.wrap ((progs.length : Int) - 1) = (q : Int) := by rw [wrapId (by omega) (by omega)]; omega
                have hinq : q < progs.length := by omega
                have hixk := ix_some (xs := progs) (k := (q : Int)) (by omega) (by omega)
                have hD : progsD progs ≠ [] := fun e => hz (List.map_eq_nil_iff.1 e)
                have hla : lastL (progsD progs) = (ix progs (q : Int)).d.map SL.d := lastL_map hk
                have ⟨hdl2, hql⟩ := hni _ (ix_mem hinq)
                by_cases hpr : w = procB
                · have hd2 : decide (w = [112, 114, 111, 99]) = true := decide_eq_true hpr
                  have hI0 := hnext _ (takeS_proc hfa hD hpr)
                  have hpm : ∀ nv : SV, putL (progsD progs) (lastL (progsD progs) ++ [[]]) = progsD (progs.set q ⟨nv, (ix progs (q : Int)).d ++ [SL.mk ⟨none, 0, 0⟩ []]⟩) := fun nv => putL_map hk (by rw [hla, List.map_append]; rfl)
                  have hst : ∀ nv : SV, stN (progsD (progs.set q ⟨nv, (ix progs (q : Int)).d ++ [SL.mk ⟨none, 0, 0⟩ []]⟩), []) = 2 := fun nv => by
                    rw [← hpm nv]
                    exact stN_two (putL_ne hD) (by rw [lastL_put hD]; simp)
                  have hI' : ∀ nv : SV, rdT s (progsD (progs.set q ⟨nv, (ix progs (q : Int)).d ++ [SL.mk ⟨none, 0, 0⟩ []]⟩), []) (n + 1) (s.drop (k + 1)) := fun nv => by rw [← hpm nv]; exact hI0
                  have hsx : (stN (progsD progs, []) = 1) ∨ (stN (progsD progs, []) = 2) := by
                    by_cases hl0 : lastL (progsD progs) = []
                    · exact .inl (stN_one hD hl0)
                    · exact .inr (stN_two hD hl0)
                  clear hbad hnext hI0 hpm
                  simp only [List.cons_append, List.nil_append]
                  refine Tr.famAt (xs := progs) (q : Int) (by (repeat (first | exact TakeA.here | apply TakeA.next)); done) (by omega) (by omega) ?_
                  refine Tr.sep_iff.2 ?_
                  rcases hsx with hs1 | hs1
                  all_goals
                    ((try simp only [WKb, ↓reduceIte, Nat.reduceEqDiff, WKt, hs1, Int.toNat_natCast]) <;> (repeat' ((first
    | (refine G.tr ?_; first | refine S.a ?_ | refine S.t ?_ | refine Tr.brK ?_ ?_ | (refine G.call 73 ?_; refine S.c ?_ (h := frame29_ok ?_)) | (refine G.call 74 ?_; refine S.c ?_ (h := readR_ok ?_)) | refine S.n fun _ => ?_ | refine S.i fun hix => ?_ | (refine S.g fun hb => ?_; (try simp only [hb])) | (refine S.s (fun hb => ?_) (fun hb => ?_) <;> ((try simp only [hb]) <;> (try (have hp := hb; simp only [WKs] at hp; (try have hq := Int.not_le.2 hp); (try have hq := Int.not_lt.2 hp))))))
    | rintro _ _ ⟨rfl, rfl⟩
    | rintro _ _ ⟨_, hfrm, rfl, rfl⟩
    | ((fail_if_success refine G.tr ?_); exact G.prop S.p)
    | fail) <;> (try simp only [WKb, WKh, ↓reduceIte, Nat.reduceEqDiff, Int.reduceEq, pl37, hd, hwd, hos, hwl, hw, hd1, hd2, hki, Int.toNat_natCast]))))
                    rename_i fb xb o nv
                    ((try simp only [WKb, WKh, ↓reduceIte, Nat.reduceEqDiff, Nat.reduceAdd, Nat.reduceSub, Int.reduceEq, Int.reduceLT, Int.reduceLE, WKt, pl37, hd, hwd, hos, hwl, hw, hd1, hd2, hs1, hki, Int.toNat_natCast]) <;> (repeat' ((first
    | (refine G.tr ?_; first | (refine G.store ?_; refine A.stE (i := (q : Int)) (x := SL.mk nv ((ix progs (q : Int)).d ++ [SL.mk ⟨none, 0, 0⟩ []])) (by rfl) (by omega) (by omega) ?_) | refine S.a ?_ | refine S.t ?_ | refine Tr.brK ?_ ?_ | (refine G.call 73 ?_; refine S.c ?_ (h := frame29_ok ?_)) | (refine G.call 74 ?_; refine S.c ?_ (h := readR_ok ?_)) | refine S.n fun _ => ?_ | refine S.i fun hix => ?_ | (refine S.g fun hb => ?_; (try simp only [hb])) | (refine S.s (fun hb => ?_) (fun hb => ?_) <;> ((try simp only [hb]) <;> (try (have hp := hb; simp only [WKs] at hp; (try have hq := Int.not_le.2 hp); (try have hq := Int.not_lt.2 hp))))))
    | rintro _ _ ⟨rfl, rfl⟩
    | rintro _ _ ⟨_, hfrm, rfl, rfl⟩
    | ((fail_if_success refine G.tr ?_); exact G.prop S.p)
    | fail) <;> (try simp only [WKb, ↓reduceIte, Nat.reduceEqDiff, hw, Int.toNat_natCast]))))
                    all_goals
                      refine snocProc (s := ⟨none, 0, 0⟩) (d := []) TakeA.nilS (by (repeat (first | exact TakeA.here | apply TakeA.next)); done) ?_
                      refine setProgN (s := nv) hinq (by (repeat (first | exact TakeA.here | apply TakeA.next)); done) (by (repeat (first | exact TakeA.here | apply TakeA.next)); done) (by (repeat (first | exact TakeA.here | apply TakeA.next)); done) ?_
                      have hI2 := hI' nv
                      have hst2 := hst nv
                      clear hI' hst hs1
                      (apply Tr.againE ((p, _, progs.set q ⟨nv, (ix progs (q : Int)).d ++ [SL.mk ⟨none, 0, 0⟩ []]⟩, [], n + 1, k + 1, k + 1)); (focus (simp only [WKb, ↓reduceIte, Nat.reduceEqDiff])); (focus ((try simp only [WKb, ↓reduceIte, Nat.reduceEqDiff]); (all_goals ((repeat (refine cons_eq (by first | rfl | ((try clear hK) <;> first | (simp [*]; done) | (simp [*, hst2]; omega) | (simp [*, hst2] <;> (try split) <;> simp_all <;> omega))) ?_)); rfl)); done)); rotate_left 2; (focus (((try clear hK) <;> (try simp only [WKe, *]) <;> repeat (first | with_reducible exact EntR.done | refine S.e ?_ | (refine S.f ?_ <;> (try simp only [WKe, hst2, ↓reduceIte, reduceCtorEq, Int.reduceEq, *])) | with_reducible apply EntR.ex | refine EntR.drop (F := F) ?_ | refine EntR.drop ?_)))); (focus (first | omega | assumption | (simp only []; omega) | (refine ⟨by omega, by assumption⟩) | (simp only []; refine ⟨by omega, by assumption⟩) | ((try simp only []); (repeat' (first | omega | assumption | apply hI2 | apply hn' | refine And.intro ?_ ?_)); done))); (focus (first | omega | (simp only []; omega))))
                · have hd2 : decide (w = [112, 114, 111, 99]) = false := decide_eq_false hpr
                  cases hrd : readA (wordsS w) with
                  | none =>
                    have hR := hbad (takeS_say hfa hD hpa hpr hrd)
                    clear hbad hnext
                    ((try simp only [WKb, ↓reduceIte, Nat.reduceEqDiff, WKt]) <;> (repeat' ((first
    | (refine G.tr ?_; first | refine S.a ?_ | refine S.t ?_ | refine Tr.brK ?_ ?_ | (refine G.call 73 ?_; refine S.c ?_ (h := frame29_ok ?_)) | (refine G.call 74 ?_; refine S.c ?_ (h := readR_ok ?_)) | refine S.n fun _ => ?_ | refine S.i fun hix => ?_ | (refine S.g fun hb => ?_; (try simp only [hb])) | (refine S.s (fun hb => ?_) (fun hb => ?_) <;> ((try simp only [hb]) <;> (try (have hp := hb; simp only [WKs] at hp; (try have hq := Int.not_le.2 hp); (try have hq := Int.not_lt.2 hp))))))
    | rintro _ _ ⟨rfl, rfl⟩
    | rintro _ _ ⟨_, hfrm, rfl, rfl⟩
    | ((fail_if_success refine G.tr ?_); exact G.prop S.p)
    | fail) <;> (try simp only [WKb, WKh, ↓reduceIte, Nat.reduceEqDiff, Int.reduceEq, hd, hwd, hos, hwl, hw, hd1, hd2, hrd, he1, Int.toNat_natCast]))))
                    all_goals
                      refine fin0 _ _ _ hR ?_
                      ((try clear hK) <;> (try simp only [WKe, ↓reduceIte, reduceCtorEq, Int.reduceEq, *]) <;> repeat (first | with_reducible exact EntR.done | refine S.e ?_ | (refine S.f ?_ <;> (try simp only [WKe, ↓reduceIte, reduceCtorEq, Int.reduceEq, *])) | with_reducible apply EntR.ex | refine EntR.drop (F := F) ?_ | refine EntR.drop ?_))
                  | some x =>
                    by_cases hl0 : (ix progs (q : Int)).d = []
                    · have hl1 : lastL (progsD progs) = [] := by rw [hla, hl0]; rfl
                      have hR := hbad (takeS_lone hfa hD hpa hpr hl1)
                      have hst := stN_one hD hl1
                      clear hbad hnext
                      ((try simp only [WKb, ↓reduceIte, Nat.reduceEqDiff, WKt, hst]) <;> (repeat' ((first
    | (refine G.tr ?_; first | refine S.a ?_ | refine S.t ?_ | refine Tr.brK ?_ ?_ | (refine G.call 73 ?_; refine S.c ?_ (h := frame29_ok ?_)) | (refine G.call 74 ?_; refine S.c ?_ (h := readR_ok ?_)) | refine S.n fun _ => ?_ | refine S.i fun hix => ?_ | (refine S.g fun hb => ?_; (try simp only [hb])) | (refine S.s (fun hb => ?_) (fun hb => ?_) <;> ((try simp only [hb]) <;> (try (have hp := hb; simp only [WKs] at hp; (try have hq := Int.not_le.2 hp); (try have hq := Int.not_lt.2 hp))))))
    | rintro _ _ ⟨rfl, rfl⟩
    | rintro _ _ ⟨_, hfrm, rfl, rfl⟩
    | ((fail_if_success refine G.tr ?_); exact G.prop S.p)
    | fail) <;> (try simp only [WKb, WKh, ↓reduceIte, Nat.reduceEqDiff, Int.reduceEq, hd, hwd, hos, hwl, hw, hd1, hd2, hrd, he0, Int.toNat_natCast]))))
                      all_goals
                        refine fin0 _ _ _ hR ?_
                        ((try clear hK) <;> (try simp only [*]) <;> repeat (first | with_reducible exact EntR.done | refine S.e ?_ | (refine S.f ?_ <;> (try simp only [WKe, ↓reduceIte, reduceCtorEq, Int.reduceEq, *])) | with_reducible apply EntR.ex | refine EntR.drop (F := F) ?_ | refine EntR.drop ?_))
                    · obtain ⟨j, hj⟩ : ∃ j, (ix progs (q : Int)).d.length = j + 1 := ⟨(ix progs (q : Int)).d.length - 1, by have := List.length_pos_iff.2 hl0; omega⟩
                      have hjw : IntKind.i64.wrap (((ix progs (q : Int)).d.length : Int) - 1) = (j : Int) := by rw [wrapId (by omega) (by omega)]; omega
                      have hinj : j < (ix progs (q : Int)).d.length := by omega
                      have hixj := ix_some (xs := (ix progs (q : Int)).d) (k := (j : Int)) (by omega) (by omega)
                      have hql1 := hql _ (ix_mem hinj)
                      have hlb : lastL ((ix progs (q : Int)).d.map SL.d) = (ix (ix progs (q : Int)).d (j : Int)).d := lastL_map hj
                      have hl1 : lastL (progsD progs) ≠ [] := by rw [hla]; exact fun e => hl0 (List.map_eq_nil_iff.1 e)
                      have hI0 := hnext _ (takeS_step hfa hD hpa hpr hl1 hrd)
                      have hs1 := stN_two hD hl1
                      have hpm : ∀ nv : SV, putL (progsD progs) (putL (lastL (progsD progs)) (lastL (lastL (progsD progs)) ++ [x])) = progsD (progs.set q ⟨(ix progs (q : Int)).s, (ix progs (q : Int)).d.set j ⟨nv, (ix (ix progs (q : Int)).d (j : Int)).d ++ [x]⟩⟩) := fun nv => by
                        rw [hla, hlb]
                        exact putL_map hk (putL_map hj rfl).symm
                      have hst : ∀ nv : SV, stN (progsD (progs.set q ⟨(ix progs (q : Int)).s, (ix progs (q : Int)).d.set j ⟨nv, (ix (ix progs (q : Int)).d (j : Int)).d ++ [x]⟩⟩), []) = 2 := fun nv => by
                        rw [← hpm nv]
                        exact stN_two (putL_ne hD) (by rw [lastL_put hD]; exact putL_ne hl1)
                      have hI' : ∀ nv : SV, rdT s (progsD (progs.set q ⟨(ix progs (q : Int)).s, (ix progs (q : Int)).d.set j ⟨nv, (ix (ix progs (q : Int)).d (j : Int)).d ++ [x]⟩⟩), []) (n + 1) (s.drop (k + 1)) := fun nv => by rw [← hpm nv]; exact hI0
                      have hse : ∀ d : List ProcS, sl false p.v (progs.set q ⟨(ix progs (q : Int)).s, d⟩) = sl false p.v progs := fun d => by
                        have := sl_set (ro := false) (v := p.v) (d := d) hinq
                        rwa [Int.toNat_natCast] at this
                      clear hbad hnext hI0 hpm
                      simp only [List.cons_append, List.nil_append]
                      refine Tr.famAt (xs := progs) (q : Int) (by (repeat (first | exact TakeA.here | apply TakeA.next)); done) (by omega) (by omega) ?_
                      refine Tr.sep_iff.2 ?_
                      refine Tr.famAt (xs := (ix progs (q : Int)).d) (j : Int) (by (repeat (first | exact TakeA.here | apply TakeA.next)); done) (by omega) (by omega) ?_
                      ((try simp only [WKb, ↓reduceIte, Nat.reduceEqDiff, WKt, hs1, Int.toNat_natCast]) <;> (repeat' ((first
    | (refine G.tr ?_; first | refine S.a ?_ | refine S.t ?_ | refine Tr.brK ?_ ?_ | (refine G.call 73 ?_; refine S.c ?_ (h := frame29_ok ?_)) | (refine G.call 74 ?_; refine S.c ?_ (h := readR_ok ?_)) | refine S.n fun _ => ?_ | refine S.i fun hix => ?_ | (refine S.g fun hb => ?_; (try simp only [hb])) | (refine S.s (fun hb => ?_) (fun hb => ?_) <;> ((try simp only [hb]) <;> (try (have hp := hb; simp only [WKs] at hp; (try have hq := Int.not_le.2 hp); (try have hq := Int.not_lt.2 hp))))))
    | rintro _ _ ⟨rfl, rfl⟩
    | rintro _ _ ⟨_, hfrm, rfl, rfl⟩
    | ((fail_if_success refine G.tr ?_); exact G.prop S.p)
    | fail) <;> (try simp only [WKb, WKh, ↓reduceIte, Nat.reduceEqDiff, pl37, hd, hwd, hos, hwl, hw, hd1, hd2, hrd, he0, hs0, hki, hjw, Int.toNat_natCast]))))
                      rename_i nv hxq
                      ((try simp only [WKb, WKh, ↓reduceIte, Nat.reduceEqDiff, Nat.reduceAdd, Nat.reduceSub, Int.reduceEq, Int.reduceLT, Int.reduceLE, WKt, pl37, hd, hwd, hos, hwl, hw, hd1, hd2, hrd, he0, hs0, hs1, hki, hjw, Int.toNat_natCast]) <;> (repeat' ((first
    | (refine G.tr ?_; first | (refine G.store ?_; refine A.stE (i := (j : Int)) (x := SL.mk nv ((ix (ix progs (q : Int)).d (j : Int)).d ++ [x])) (by rfl) (by omega) (by omega) ?_) | refine S.a ?_ | refine S.t ?_ | refine Tr.brK ?_ ?_ | (refine G.call 73 ?_; refine S.c ?_ (h := frame29_ok ?_)) | (refine G.call 74 ?_; refine S.c ?_ (h := readR_ok ?_)) | refine S.n fun _ => ?_ | refine S.i fun hix => ?_ | (refine S.g fun hb => ?_; (try simp only [hb])) | (refine S.s (fun hb => ?_) (fun hb => ?_) <;> ((try simp only [hb]) <;> (try (have hp := hb; simp only [WKs] at hp; (try have hq := Int.not_le.2 hp); (try have hq := Int.not_lt.2 hp))))))
    | rintro _ _ ⟨rfl, rfl⟩
    | rintro _ _ ⟨_, hfrm, rfl, rfl⟩
    | ((fail_if_success refine G.tr ?_); exact G.prop S.p)
    | fail) <;> (try simp only [WKb, ↓reduceIte, Nat.reduceEqDiff, hw, Int.toNat_natCast]))))
                      all_goals
                        refine setProcN (s := nv) hinj (by (repeat (first | exact TakeA.here | apply TakeA.next)); done) (by (repeat (first | exact TakeA.here | apply TakeA.next)); done) ?_
                        refine setProgN (s := (ix progs (q : Int)).s) hinq (by (repeat (first | exact TakeA.here | apply TakeA.next)); done) (by (repeat (first | exact TakeA.here | apply TakeA.next)); done) (by (repeat (first | exact TakeA.here | apply TakeA.next)); done) ?_
                        have hI2 := hI' nv
                        have hst2 := hst nv
                        clear hI' hst hs1
                        rw [← hse ((ix progs (q : Int)).d.set j ⟨nv, (ix (ix progs (q : Int)).d (j : Int)).d ++ [x]⟩)]
                        clear hse
                        (apply Tr.againE ((p, _, progs.set q ⟨(ix progs (q : Int)).s, (ix progs (q : Int)).d.set j ⟨nv, (ix (ix progs (q : Int)).d (j : Int)).d ++ [x]⟩⟩, [], n + 1, k + 1, k + 1)); (focus (simp only [WKb, ↓reduceIte, Nat.reduceEqDiff])); (focus ((try simp only [WKb, ↓reduceIte, Nat.reduceEqDiff]); (all_goals ((repeat (refine cons_eq (by first | rfl | ((try clear hK) <;> first | (simp [*]; done) | (simp [*, hst2]; omega) | (simp [*, hst2] <;> (try split) <;> simp_all <;> omega))) ?_)); rfl)); done)); rotate_left 2; (focus (((try clear hK) <;> (try simp only [WKe, *]) <;> repeat (first | with_reducible exact EntR.done | refine S.e ?_ | (refine S.f ?_ <;> (try simp only [WKe, hst2, ↓reduceIte, reduceCtorEq, Int.reduceEq, *])) | with_reducible apply EntR.ex | refine EntR.drop (F := F) ?_ | refine EntR.drop ?_)))); (focus (first | omega | assumption | (simp only []; omega) | (refine ⟨by omega, by assumption⟩) | (simp only []; refine ⟨by omega, by assumption⟩) | ((try simp only []); (repeat' (first | omega | assumption | apply hI2 | apply hn' | refine And.intro ?_ ?_)); done))); (focus (first | omega | (simp only []; omega))))
          · have hR := hbad (takeS_late hfa hF)
            have hst : stN (progsD progs, frames) = 3 := stN_frame hF
            clear hbad hnext
            ((try simp only [WKb, ↓reduceIte, Nat.reduceEqDiff, WKt, hst]) <;> (repeat' ((first
    | (refine G.tr ?_; first | refine S.a ?_ | refine S.t ?_ | refine Tr.brK ?_ ?_ | (refine G.call 73 ?_; refine S.c ?_ (h := frame29_ok ?_)) | (refine G.call 74 ?_; refine S.c ?_ (h := readR_ok ?_)) | refine S.n fun _ => ?_ | refine S.i fun hix => ?_ | (refine S.g fun hb => ?_; (try simp only [hb])) | (refine S.s (fun hb => ?_) (fun hb => ?_) <;> ((try simp only [hb]) <;> (try (have hp := hb; simp only [WKs] at hp; (try have hq := Int.not_le.2 hp); (try have hq := Int.not_lt.2 hp))))))
    | rintro _ _ ⟨rfl, rfl⟩
    | rintro _ _ ⟨_, hfrm, rfl, rfl⟩
    | ((fail_if_success refine G.tr ?_); exact G.prop S.p)
    | fail) <;> (try simp only [WKb, WKh, ↓reduceIte, Nat.reduceEqDiff, Int.reduceEq, Int.reduceLT, hd, hwd, hos, hwl, hw, Int.toNat_natCast]))))
            all_goals
              refine fin0 _ _ _ hR ?_
              ((try clear hK) <;> (try simp only [*]) <;> repeat (first | with_reducible exact EntR.done | refine S.e ?_ | (refine S.f ?_ <;> (try simp only [WKe, ↓reduceIte, reduceCtorEq, Int.reduceEq, *])) | with_reducible apply EntR.ex | refine EntR.drop (F := F) ?_ | refine EntR.drop ?_))
      · have hd : (((bix s (k : Int)).toNat : Int) = 10) = False := eq_false fun h => hbx (UInt8.toNat_inj.1 (by have : (10 : UInt8).toNat = 10 := rfl; omega))
        have hn' : ∀ j : Nat, a0 ≤ j → j < k + 1 → bix s (j : Int) ≠ 10 := fun j h1 h2 => by
          by_cases hjk : j < k
          · exact hn j h1 hjk
          · have : j = k := by omega
            subst this; exact hbx
        clear hbx
        ((try simp only [WKb, ↓reduceIte, Nat.reduceEqDiff, WKt]) <;> (repeat' ((first
    | (refine G.tr ?_; first | refine S.a ?_ | refine S.t ?_ | refine Tr.brK ?_ ?_ | (refine G.call 73 ?_; refine S.c ?_ (h := frame29_ok ?_)) | (refine G.call 74 ?_; refine S.c ?_ (h := readR_ok ?_)) | refine S.n fun _ => ?_ | refine S.i fun hix => ?_ | (refine S.g fun hb => ?_; (try simp only [hb])) | (refine S.s (fun hb => ?_) (fun hb => ?_) <;> ((try simp only [hb]) <;> (try (have hp := hb; simp only [WKs] at hp; (try have hq := Int.not_le.2 hp); (try have hq := Int.not_lt.2 hp))))))
    | rintro _ _ ⟨rfl, rfl⟩
    | rintro _ _ ⟨_, hfrm, rfl, rfl⟩
    | ((fail_if_success refine G.tr ?_); exact G.prop S.p)
    | fail) <;> (try simp only [WKb, ↓reduceIte, Nat.reduceEqDiff, hd, hw]))))
        all_goals (apply Tr.againE ((_, _, progs, frames, n, a0, k + 1)); (focus (simp only [WKb, ↓reduceIte, Nat.reduceEqDiff])); (focus ((try simp only [WKb, ↓reduceIte, Nat.reduceEqDiff]); (all_goals ((repeat (refine cons_eq (by first | rfl | (simp [*]; done)) ?_)); rfl)); done)); (focus (first | omega | assumption | (simp only []; omega) | (refine ⟨by omega, by assumption⟩) | (simp only []; refine ⟨by omega, by assumption⟩) | ((try simp only []); (repeat' (first | omega | assumption | apply hI | apply hn' | refine And.intro ?_ ?_)); done))); (focus (first | omega | (simp only []; omega))); (focus (((try clear hK) <;> (try simp only [WKe, *]) <;> repeat (first | with_reducible exact EntR.done | refine S.e ?_ | (refine S.f ?_ <;> (try simp only [WKe, ↓reduceIte, reduceCtorEq, Int.reduceEq, *])) | with_reducible apply EntR.ex | refine EntR.drop (F := F) ?_ | refine EntR.drop ?_)))))
    · have hke : k = s.length := by omega
      subst hke
      by_cases hp2 : a0 < s.length
      · have hnw := notS_in (Nat.le_refl _) hn
        rw [List.take_length] at hnw
        have hne : s.drop a0 ≠ [] := fun h => by
          have := congrArg List.length h
          simp at this; omega
        have hR := rdT_open hsl hI hnw hne
        ((try simp only [WKb, ↓reduceIte, Nat.reduceEqDiff, WKt]) <;> (repeat' ((first
    | (refine G.tr ?_; first | refine S.a ?_ | refine S.t ?_ | refine Tr.brK ?_ ?_ | (refine G.call 73 ?_; refine S.c ?_ (h := frame29_ok ?_)) | (refine G.call 74 ?_; refine S.c ?_ (h := readR_ok ?_)) | refine S.n fun _ => ?_ | refine S.i fun hix => ?_ | (refine S.g fun hb => ?_; (try simp only [hb])) | (refine S.s (fun hb => ?_) (fun hb => ?_) <;> ((try simp only [hb]) <;> (try (have hp := hb; simp only [WKs] at hp; (try have hq := Int.not_le.2 hp); (try have hq := Int.not_lt.2 hp))))))
    | rintro _ _ ⟨rfl, rfl⟩
    | rintro _ _ ⟨_, hfrm, rfl, rfl⟩
    | ((fail_if_success refine G.tr ?_); exact G.prop S.p)
    | fail) <;> (try simp only [WKb, ↓reduceIte, Nat.reduceEqDiff, WKt, hwl]))))
        all_goals
          refine fin0 _ _ _ hR ?_
          ((try clear hK) <;> (try simp only [WKe, ↓reduceIte, reduceCtorEq, Int.reduceEq, *]) <;> repeat (first | with_reducible exact EntR.done | refine S.e ?_ | (refine S.f ?_ <;> (try simp only [WKe, ↓reduceIte, reduceCtorEq, Int.reduceEq, *])) | with_reducible apply EntR.ex | refine EntR.drop (F := F) ?_ | refine EntR.drop ?_))
      · have hz : s.drop a0 = [] := List.drop_of_length_le (by omega)
        have hR := rdT_end hsl (hz ▸ hI)
        ((try simp only [WKb, ↓reduceIte, Nat.reduceEqDiff, WKt]) <;> (repeat' ((first
    | (refine G.tr ?_; first | refine S.a ?_ | refine S.t ?_ | refine Tr.brK ?_ ?_ | (refine G.call 73 ?_; refine S.c ?_ (h := frame29_ok ?_)) | (refine G.call 74 ?_; refine S.c ?_ (h := readR_ok ?_)) | refine S.n fun _ => ?_ | refine S.i fun hix => ?_ | (refine S.g fun hb => ?_; (try simp only [hb])) | (refine S.s (fun hb => ?_) (fun hb => ?_) <;> ((try simp only [hb]) <;> (try (have hp := hb; simp only [WKs] at hp; (try have hq := Int.not_le.2 hp); (try have hq := Int.not_lt.2 hp))))))
    | rintro _ _ ⟨rfl, rfl⟩
    | rintro _ _ ⟨_, hfrm, rfl, rfl⟩
    | ((fail_if_success refine G.tr ?_); exact G.prop S.p)
    | fail) <;> (try simp only [WKb, ↓reduceIte, Nat.reduceEqDiff, WKt]))))
        all_goals
          apply Tr.fin hK ⟨_, _, progs, by rw [hR], by rw [hR], rfl⟩
          rw [hR]
          ((try clear hK) <;> (try simp only [WKe, *]) <;> repeat (first | with_reducible exact EntR.done | refine S.e ?_ | (refine S.f ?_ <;> (try simp only [WKe, ↓reduceIte, reduceCtorEq, Int.reduceEq, *])) | with_reducible apply EntR.ex | refine EntR.drop (F := F) ?_ | refine EntR.drop ?_))

end Go.Proofs.YtgkhjgpgdfbdpaaDoor
