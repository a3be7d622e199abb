import Derived.Test.YtgkhjgpgdfbdpaaDoorYO
namespace Go.Proofs.YtgkhjgpgdfbdpaaDoor
open Go Go.Wk
set_option maxHeartbeats 6400000
set_option maxRecDepth 100000

/-- The first k numbers of a line. -/
noncomputable def numL (ws : List Str) (k : Nat) : List Int := [if 0 < k then valW ws 0 else 0, if 1 < k then valW ws 1 else 0, if 2 < k then valW ws 2 else 0, if 3 < k then valW ws 3 else 0, if 4 < k then valW ws 4 else 0, if 5 < k then valW ws 5 else 0]
attribute [local irreducible] BrK GenK EGenK EUnitK CallK FnK CallV GuardO GuardC CondW opX opK opKc chkR eqR seqK blkK endL WL WD W LoopW BinK Tr drewK resL PickK NotK NilK ExtrK getK Instr.storeAt Instr.loadAt Instr.fieldAt Instr.indexAt Instr.lookup Instr.mapUpdate Instr.box Instr.alloc Instr.build Instr.buildSlice Instr.makeSlice Instr.makeMap Instr.sliceAt Instr.field Instr.index Instr.makeInterface Instr.typeAssert Builtin.len_ Builtin.append_ Builtin.cap_ Builtin.min_ Builtin.max_ Builtin.copy_ Builtin.clear_ convert binOp mp blk rob sl sep ex fact old
attribute [local irreducible] NegK mxV bufT bldB okW valW
theorem toneR_ok {s : List UInt8} (hs : s.length ≤ 1000000) : Trip Tryd.prog 65 [.string (bstr s)].toArray []
    fun v l' => ∃ e : EvC, (∀ x, oneE s = some x → e = x) ∧ v = .tuple #[.agg (En.enc e).toArray, .bool (oneE s).isSome] ∧ l' = [] := by
  intro F K hK
  simp only [List.nil_append]
  have hsm := words_small hs
  have e3 : (callW (ix (wordsS s) 3).d).isSome = okW (wordsS s) 3 := by unfold okW; rfl
  have v3 : (callW (ix (wordsS s) 3).d).getD 0 = valW (wordsS s) 3 := by unfold valW; rfl
  have fin0 : ∀ l : List Asrt, oneE s = none → EntR [] l F → Tr l (K (.tuple #[.agg [.int .i64 0, .int .i64 0, .int .i64 0, .int .i64 0, .int .i64 0, .int .i64 0].toArray, .bool false])) := fun l hno he => by
    refine Tr.fin hK ⟨⟨0, 0, 0, 0, 0, 0⟩, fun x hx => (by rw [hno] at hx; cases hx), by rw [hno]; rfl, rfl⟩ he
  (refine Tr.enter (rs := [.cell 2 78, .tmp 3]) mixed fn65 rfl (by simp +arith [Tryd.ntmps65]) fun u => ?_; simp only [cd65, Tryd.f65])
  by_cases hl : (wordsS s).length = 6
  · ((try simp only [WKb]) <;> (repeat' ((first
    | (refine G.tr ?_; first | refine S.a ?_ | refine S.t ?_ | refine Tr.brK ?_ ?_ | (refine G.call 98 ?_; refine S.c ?_ (h := wordsR_ok ?_)) | (refine G.call 17 ?_; refine S.c ?_ (h := tcallR_ok ?_)) | (refine G.call 53 ?_; refine S.c ?_ (h := number10_ok ?_)) | refine S.n fun _ => ?_ | refine S.i fun hix => ?_ | (refine S.g fun hb => ?_; (try simp only [hb])) | (refine S.s (fun hb => ?_) (fun hb => ?_) <;> ((try simp only [hb]) <;> (try (have hp := hb; simp only [WKs] at hp; (try have hq := Int.not_le.2 hp); (try have hq := Int.not_lt.2 hp))))))
    | rintro _ _ ⟨rfl, rfl⟩
    | rintro _ _ ⟨_, rfl, rfl⟩
    | rintro _ _ ⟨_, hi64, hnum, rfl, rfl⟩
    | ((fail_if_success refine G.tr ?_); exact G.prop S.p)
    | fail) <;> (try simp only [WKb, ↓reduceIte, Nat.reduceEqDiff, hl]))))
    rename_i rb wv nv
    have hz : List.replicate (Int.toNat 6) (default : Int) = numL (wordsS s) 0 := rfl
    rw [hz]
    refine Tr.loopE (α := Nat) [3, 6] [2, 4, 5] (fun k => [.bool false, .int .i64 k]) (fun k => [sl false nv.v (numL (wordsS s) k), sl false wv.v (wordsS s), blk rb (.cells [.int .i64 0, .int .i64 0, .int .i64 0, .int .i64 0, .int .i64 0, .int .i64 0].toArray 78 (0, 0))])
      (fun k => k ≤ 6 ∧ ∀ i, i < k → okW (wordsS s) i = true) (fun k => 6 - k) 0 (by (repeat (first | exact TakeL.nil | (apply TakeL.cons; focus ((first | exact TakeA.dupS | exact TakeA.dupF | ((repeat (first | with_reducible exact TakeA.here | exact TakeA.fam (by omega) (by omega) | with_reducible apply TakeA.next)); done) | ((repeat (first | exact TakeA.here | apply TakeA.next)); done) | exact TakeA.famNil | exact TakeA.nilS))) | fail)); done) rfl ⟨Nat.zero_le _, fun i hi => by omega⟩ fun k u hx => ?_
    obtain ⟨hk, hI⟩ := hx
    have hnl : (numL (wordsS s) k).length = 6 := rfl
    obtain rfl | rfl | rfl | rfl | rfl | rfl | rfl : k = 0 ∨ k = 1 ∨ k = 2 ∨ k = 3 ∨ k = 4 ∨ k = 5 ∨ k = 6 := by omega
    · have hw := wrapSucc (k := 0) (by omega)
      have hbk := hsm 0
      have hs' : (numL (wordsS s) 0).set (Int.toNat ((0 : Nat) : Int)) (valW (wordsS s) 0) = numL (wordsS s) (0 + 1) := rfl
      have ek : (numA (ix (wordsS s) ((0 : Nat) : Int)).d).isSome = okW (wordsS s) 0 := okW_num (by decide)
      cases ho : okW (wordsS s) 0 with
      | true =>
        rw [ho] at ek
        have hI' : ∀ i, i < 0 + 1 → okW (wordsS s) i = true := fun i hi => by
          by_cases hik : i < 0
          · exact hI i hik
          · have : i = 0 := by omega
            subst this; exact ho
        ((try simp only [WKb, ↓reduceIte, Nat.reduceEqDiff]) <;> (repeat' ((first
    | (refine G.tr ?_; first | refine S.a ?_ | refine S.t ?_ | refine Tr.brK ?_ ?_ | (refine G.call 98 ?_; refine S.c ?_ (h := wordsR_ok ?_)) | (refine G.call 17 ?_; refine S.c ?_ (h := tcallR_ok ?_)) | (refine G.call 53 ?_; refine S.c ?_ (h := number10_ok ?_)) | refine S.n fun _ => ?_ | refine S.i fun hix => ?_ | (refine S.g fun hb => ?_; (try simp only [hb])) | (refine S.s (fun hb => ?_) (fun hb => ?_) <;> ((try simp only [hb]) <;> (try (have hp := hb; simp only [WKs] at hp; (try have hq := Int.not_le.2 hp); (try have hq := Int.not_lt.2 hp))))))
    | rintro _ _ ⟨rfl, rfl⟩
    | rintro _ _ ⟨_, rfl, rfl⟩
    | rintro _ _ ⟨_, hi64, hnum, rfl, rfl⟩
    | ((fail_if_success refine G.tr ?_); exact G.prop S.p)
    | fail) <;> (try simp only [WKb, ↓reduceIte, Nat.reduceEqDiff, hw, ek]))))
        all_goals
          have hv := valW_num (i := 0) (by decide) hnum ho
          subst hv
          (apply Tr.againE (0 + 1); (focus (simp only [WKb, ↓reduceIte, Nat.reduceEqDiff])); (focus ((try simp only [WKb, ↓reduceIte, Nat.reduceEqDiff]); (all_goals ((repeat (refine cons_eq (by first | rfl | ((try clear hK) <;> first | (simp [*, hs']; done) | (simp [*, hs']; omega) | (simp [*, hs'] <;> (try split) <;> simp_all <;> omega))) ?_)); rfl)); done)); (focus (first | omega | assumption | (simp only []; omega) | (refine ⟨by omega, by assumption⟩) | (simp only []; refine ⟨by omega, by assumption⟩) | ((try simp only []); (repeat' (first | omega | assumption | apply hI' | refine And.intro ?_ ?_)); done))); (focus (first | omega | (simp only []; omega))); (focus (((try clear hK) <;> (try simp only [WKe, *]) <;> repeat (first | with_reducible exact EntR.done | refine S.e ?_ | (refine S.f ?_ <;> (try simp only [WKe, hs', ↓reduceIte, reduceCtorEq, Int.reduceEq, *])) | with_reducible apply EntR.ex | refine EntR.drop (F := F) ?_ | refine EntR.drop ?_)))))
      | false =>
        rw [ho] at ek
        have hno := oneE_no hl (by decide) ho
        ((try simp only [WKb, ↓reduceIte, Nat.reduceEqDiff]) <;> (repeat' ((first
    | (refine G.tr ?_; first | refine S.a ?_ | refine S.t ?_ | refine Tr.brK ?_ ?_ | (refine G.call 98 ?_; refine S.c ?_ (h := wordsR_ok ?_)) | (refine G.call 17 ?_; refine S.c ?_ (h := tcallR_ok ?_)) | (refine G.call 53 ?_; refine S.c ?_ (h := number10_ok ?_)) | refine S.n fun _ => ?_ | refine S.i fun hix => ?_ | (refine S.g fun hb => ?_; (try simp only [hb])) | (refine S.s (fun hb => ?_) (fun hb => ?_) <;> ((try simp only [hb]) <;> (try (have hp := hb; simp only [WKs] at hp; (try have hq := Int.not_le.2 hp); (try have hq := Int.not_lt.2 hp))))))
    | rintro _ _ ⟨rfl, rfl⟩
    | rintro _ _ ⟨_, rfl, rfl⟩
    | rintro _ _ ⟨_, hi64, hnum, rfl, rfl⟩
    | ((fail_if_success refine G.tr ?_); exact G.prop S.p)
    | fail) <;> (try simp only [WKb, ↓reduceIte, Nat.reduceEqDiff, ek]))))
        all_goals
          refine fin0 _ hno ?_
          ((try clear hK) <;> (try simp only [WKe, ↓reduceIte, reduceCtorEq, Int.reduceEq, *]) <;> repeat (first | with_reducible exact EntR.done | refine S.e ?_ | (refine S.f ?_ <;> (try simp only [WKe, ↓reduceIte, reduceCtorEq, Int.reduceEq, *])) | with_reducible apply EntR.ex | refine EntR.drop (F := F) ?_ | refine EntR.drop ?_))
    · have hw := wrapSucc (k := 1) (by omega)
      have hbk := hsm 1
      have hs' : (numL (wordsS s) 1).set (Int.toNat ((1 : Nat) : Int)) (valW (wordsS s) 1) = numL (wordsS s) (1 + 1) := rfl
      have ek : (numA (ix (wordsS s) ((1 : Nat) : Int)).d).isSome = okW (wordsS s) 1 := okW_num (by decide)
      cases ho : okW (wordsS s) 1 with
      | true =>
        rw [ho] at ek
        have hI' : ∀ i, i < 1 + 1 → okW (wordsS s) i = true := fun i hi => by
          by_cases hik : i < 1
          · exact hI i hik
          · have : i = 1 := by omega
            subst this; exact ho
        ((try simp only [WKb, ↓reduceIte, Nat.reduceEqDiff]) <;> (repeat' ((first
    | (refine G.tr ?_; first | refine S.a ?_ | refine S.t ?_ | refine Tr.brK ?_ ?_ | (refine G.call 98 ?_; refine S.c ?_ (h := wordsR_ok ?_)) | (refine G.call 17 ?_; refine S.c ?_ (h := tcallR_ok ?_)) | (refine G.call 53 ?_; refine S.c ?_ (h := number10_ok ?_)) | refine S.n fun _ => ?_ | refine S.i fun hix => ?_ | (refine S.g fun hb => ?_; (try simp only [hb])) | (refine S.s (fun hb => ?_) (fun hb => ?_) <;> ((try simp only [hb]) <;> (try (have hp := hb; simp only [WKs] at hp; (try have hq := Int.not_le.2 hp); (try have hq := Int.not_lt.2 hp))))))
    | rintro _ _ ⟨rfl, rfl⟩
    | rintro _ _ ⟨_, rfl, rfl⟩
    | rintro _ _ ⟨_, hi64, hnum, rfl, rfl⟩
    | ((fail_if_success refine G.tr ?_); exact G.prop S.p)
    | fail) <;> (try simp only [WKb, ↓reduceIte, Nat.reduceEqDiff, Nat.reduceAdd, hw, ek]))))
        all_goals
          have hv := valW_num (i := 1) (by decide) hnum ho
          subst hv
          (apply Tr.againE (1 + 1); (focus (simp only [WKb, ↓reduceIte, Nat.reduceEqDiff])); (focus ((try simp only [WKb, ↓reduceIte, Nat.reduceEqDiff, Nat.reduceAdd]); (all_goals ((repeat (refine cons_eq (by first | rfl | ((try clear hK) <;> first | (simp [*, hs']; done) | (simp [*, hs']; omega) | (simp [*, hs'] <;> (try split) <;> simp_all <;> omega))) ?_)); rfl)); done)); (focus (first | omega | assumption | (simp only []; omega) | (refine ⟨by omega, by assumption⟩) | (simp only []; refine ⟨by omega, by assumption⟩) | ((try simp only []); (repeat' (first | omega | assumption | apply hI' | refine And.intro ?_ ?_)); done))); (focus (first | omega | (simp only []; omega))); (focus (((try clear hK) <;> (try simp only [WKe, *]) <;> repeat (first | with_reducible exact EntR.done | refine S.e ?_ | (refine S.f ?_ <;> (try simp only [WKe, hs', ↓reduceIte, reduceCtorEq, Int.reduceEq, *])) | with_reducible apply EntR.ex | refine EntR.drop (F := F) ?_ | refine EntR.drop ?_)))))
      | false =>
        rw [ho] at ek
        have hno := oneE_no hl (by decide) ho
        ((try simp only [WKb, ↓reduceIte, Nat.reduceEqDiff]) <;> (repeat' ((first
    | (refine G.tr ?_; first | refine S.a ?_ | refine S.t ?_ | refine Tr.brK ?_ ?_ | (refine G.call 98 ?_; refine S.c ?_ (h := wordsR_ok ?_)) | (refine G.call 17 ?_; refine S.c ?_ (h := tcallR_ok ?_)) | (refine G.call 53 ?_; refine S.c ?_ (h := number10_ok ?_)) | refine S.n fun _ => ?_ | refine S.i fun hix => ?_ | (refine S.g fun hb => ?_; (try simp only [hb])) | (refine S.s (fun hb => ?_) (fun hb => ?_) <;> ((try simp only [hb]) <;> (try (have hp := hb; simp only [WKs] at hp; (try have hq := Int.not_le.2 hp); (try have hq := Int.not_lt.2 hp))))))
    | rintro _ _ ⟨rfl, rfl⟩
    | rintro _ _ ⟨_, rfl, rfl⟩
    | rintro _ _ ⟨_, hi64, hnum, rfl, rfl⟩
    | ((fail_if_success refine G.tr ?_); exact G.prop S.p)
    | fail) <;> (try simp only [WKb, ↓reduceIte, Nat.reduceEqDiff, ek]))))
        all_goals
          refine fin0 _ hno ?_
          ((try clear hK) <;> (try simp only [WKe, ↓reduceIte, reduceCtorEq, Int.reduceEq, *]) <;> repeat (first | with_reducible exact EntR.done | refine S.e ?_ | (refine S.f ?_ <;> (try simp only [WKe, ↓reduceIte, reduceCtorEq, Int.reduceEq, *])) | with_reducible apply EntR.ex | refine EntR.drop (F := F) ?_ | refine EntR.drop ?_))
    · have hw := wrapSucc (k := 2) (by omega)
      have hbk := hsm 2
      have hs' : (numL (wordsS s) 2).set (Int.toNat ((2 : Nat) : Int)) (valW (wordsS s) 2) = numL (wordsS s) (2 + 1) := rfl
      have ek : (numA (ix (wordsS s) ((2 : Nat) : Int)).d).isSome = okW (wordsS s) 2 := okW_num (by decide)
      cases ho : okW (wordsS s) 2 with
      | true =>
        rw [ho] at ek
        have hI' : ∀ i, i < 2 + 1 → okW (wordsS s) i = true := fun i hi => by
          by_cases hik : i < 2
          · exact hI i hik
          · have : i = 2 := by omega
            subst this; exact ho
        ((try simp only [WKb, ↓reduceIte, Nat.reduceEqDiff]) <;> (repeat' ((first
    | (refine G.tr ?_; first | refine S.a ?_ | refine S.t ?_ | refine Tr.brK ?_ ?_ | (refine G.call 98 ?_; refine S.c ?_ (h := wordsR_ok ?_)) | (refine G.call 17 ?_; refine S.c ?_ (h := tcallR_ok ?_)) | (refine G.call 53 ?_; refine S.c ?_ (h := number10_ok ?_)) | refine S.n fun _ => ?_ | refine S.i fun hix => ?_ | (refine S.g fun hb => ?_; (try simp only [hb])) | (refine S.s (fun hb => ?_) (fun hb => ?_) <;> ((try simp only [hb]) <;> (try (have hp := hb; simp only [WKs] at hp; (try have hq := Int.not_le.2 hp); (try have hq := Int.not_lt.2 hp))))))
    | rintro _ _ ⟨rfl, rfl⟩
    | rintro _ _ ⟨_, rfl, rfl⟩
    | rintro _ _ ⟨_, hi64, hnum, rfl, rfl⟩
    | ((fail_if_success refine G.tr ?_); exact G.prop S.p)
    | fail) <;> (try simp only [WKb, ↓reduceIte, Nat.reduceEqDiff, Nat.reduceAdd, hw, ek]))))
        all_goals
          have hv := valW_num (i := 2) (by decide) hnum ho
          subst hv
          (apply Tr.againE (2 + 1); (focus (simp only [WKb, ↓reduceIte, Nat.reduceEqDiff])); (focus ((try simp only [WKb, ↓reduceIte, Nat.reduceEqDiff, Nat.reduceAdd]); (all_goals ((repeat (refine cons_eq (by first | rfl | ((try clear hK) <;> first | (simp [*, hs']; done) | (simp [*, hs']; omega) | (simp [*, hs'] <;> (try split) <;> simp_all <;> omega))) ?_)); rfl)); done)); (focus (first | omega | assumption | (simp only []; omega) | (refine ⟨by omega, by assumption⟩) | (simp only []; refine ⟨by omega, by assumption⟩) | ((try simp only []); (repeat' (first | omega | assumption | apply hI' | refine And.intro ?_ ?_)); done))); (focus (first | omega | (simp only []; omega))); (focus (((try clear hK) <;> (try simp only [WKe, *]) <;> repeat (first | with_reducible exact EntR.done | refine S.e ?_ | (refine S.f ?_ <;> (try simp only [WKe, hs', ↓reduceIte, reduceCtorEq, Int.reduceEq, *])) | with_reducible apply EntR.ex | refine EntR.drop (F := F) ?_ | refine EntR.drop ?_)))))
      | false =>
        rw [ho] at ek
        have hno := oneE_no hl (by decide) ho
        ((try simp only [WKb, ↓reduceIte, Nat.reduceEqDiff]) <;> (repeat' ((first
    | (refine G.tr ?_; first | refine S.a ?_ | refine S.t ?_ | refine Tr.brK ?_ ?_ | (refine G.call 98 ?_; refine S.c ?_ (h := wordsR_ok ?_)) | (refine G.call 17 ?_; refine S.c ?_ (h := tcallR_ok ?_)) | (refine G.call 53 ?_; refine S.c ?_ (h := number10_ok ?_)) | refine S.n fun _ => ?_ | refine S.i fun hix => ?_ | (refine S.g fun hb => ?_; (try simp only [hb])) | (refine S.s (fun hb => ?_) (fun hb => ?_) <;> ((try simp only [hb]) <;> (try (have hp := hb; simp only [WKs] at hp; (try have hq := Int.not_le.2 hp); (try have hq := Int.not_lt.2 hp))))))
    | rintro _ _ ⟨rfl, rfl⟩
    | rintro _ _ ⟨_, rfl, rfl⟩
    | rintro _ _ ⟨_, hi64, hnum, rfl, rfl⟩
    | ((fail_if_success refine G.tr ?_); exact G.prop S.p)
    | fail) <;> (try simp only [WKb, ↓reduceIte, Nat.reduceEqDiff, ek]))))
        all_goals
          refine fin0 _ hno ?_
          ((try clear hK) <;> (try simp only [WKe, ↓reduceIte, reduceCtorEq, Int.reduceEq, *]) <;> repeat (first | with_reducible exact EntR.done | refine S.e ?_ | (refine S.f ?_ <;> (try simp only [WKe, ↓reduceIte, reduceCtorEq, Int.reduceEq, *])) | with_reducible apply EntR.ex | refine EntR.drop (F := F) ?_ | refine EntR.drop ?_))
    · have hw := wrapSucc (k := 3) (by omega)
      have hbk := hsm 3
      have hs' : (numL (wordsS s) 3).set (Int.toNat ((3 : Nat) : Int)) (valW (wordsS s) 3) = numL (wordsS s) (3 + 1) := rfl
      cases ho : okW (wordsS s) 3 with
      | true =>
        rw [ho] at e3
        have e4 : (callW (ix (wordsS s) ((3 : Nat) : Int)).d).isSome = true := e3
        have v4 : (callW (ix (wordsS s) ((3 : Nat) : Int)).d).getD 0 = valW (wordsS s) 3 := v3
        have hI' : ∀ i, i < 3 + 1 → okW (wordsS s) i = true := fun i hi => by
          by_cases hik : i < 3
          · exact hI i hik
          · have : i = 3 := by omega
            subst this; exact ho
        ((try simp only [WKb, ↓reduceIte, Nat.reduceEqDiff]) <;> (repeat' ((first
    | (refine G.tr ?_; first | refine S.a ?_ | refine S.t ?_ | refine Tr.brK ?_ ?_ | (refine G.call 98 ?_; refine S.c ?_ (h := wordsR_ok ?_)) | (refine G.call 17 ?_; refine S.c ?_ (h := tcallR_ok ?_)) | (refine G.call 53 ?_; refine S.c ?_ (h := number10_ok ?_)) | refine S.n fun _ => ?_ | refine S.i fun hix => ?_ | (refine S.g fun hb => ?_; (try simp only [hb])) | (refine S.s (fun hb => ?_) (fun hb => ?_) <;> ((try simp only [hb]) <;> (try (have hp := hb; simp only [WKs] at hp; (try have hq := Int.not_le.2 hp); (try have hq := Int.not_lt.2 hp))))))
    | rintro _ _ ⟨rfl, rfl⟩
    | rintro _ _ ⟨_, rfl, rfl⟩
    | rintro _ _ ⟨_, hi64, hnum, rfl, rfl⟩
    | ((fail_if_success refine G.tr ?_); exact G.prop S.p)
    | fail) <;> (try simp only [WKb, ↓reduceIte, Nat.reduceEqDiff, Nat.reduceAdd, hw, e4, v4]))))
        all_goals (apply Tr.againE (3 + 1); (focus (simp only [WKb, ↓reduceIte, Nat.reduceEqDiff])); (focus ((try simp only [WKb, ↓reduceIte, Nat.reduceEqDiff, Nat.reduceAdd]); (all_goals ((repeat (refine cons_eq (by first | rfl | ((try clear hK) <;> first | (simp [*, hs']; done) | (simp [*, hs']; omega) | (simp [*, hs'] <;> (try split) <;> simp_all <;> omega))) ?_)); rfl)); done)); (focus (first | omega | assumption | (simp only []; omega) | (refine ⟨by omega, by assumption⟩) | (simp only []; refine ⟨by omega, by assumption⟩) | ((try simp only []); (repeat' (first | omega | assumption | apply hI' | refine And.intro ?_ ?_)); done))); (focus (first | omega | (simp only []; omega))); (focus (((try clear hK) <;> (try simp only [WKe, *]) <;> repeat (first | with_reducible exact EntR.done | refine S.e ?_ | (refine S.f ?_ <;> (try simp only [WKe, hs', ↓reduceIte, reduceCtorEq, Int.reduceEq, *])) | with_reducible apply EntR.ex | refine EntR.drop (F := F) ?_ | refine EntR.drop ?_)))))
      | false =>
        rw [ho] at e3
        have e4 : (callW (ix (wordsS s) ((3 : Nat) : Int)).d).isSome = false := e3
        have v4 : (callW (ix (wordsS s) ((3 : Nat) : Int)).d).getD 0 = valW (wordsS s) 3 := v3
        have hno := oneE_no hl (by decide) ho
        ((try simp only [WKb, ↓reduceIte, Nat.reduceEqDiff]) <;> (repeat' ((first
    | (refine G.tr ?_; first | refine S.a ?_ | refine S.t ?_ | refine Tr.brK ?_ ?_ | (refine G.call 98 ?_; refine S.c ?_ (h := wordsR_ok ?_)) | (refine G.call 17 ?_; refine S.c ?_ (h := tcallR_ok ?_)) | (refine G.call 53 ?_; refine S.c ?_ (h := number10_ok ?_)) | refine S.n fun _ => ?_ | refine S.i fun hix => ?_ | (refine S.g fun hb => ?_; (try simp only [hb])) | (refine S.s (fun hb => ?_) (fun hb => ?_) <;> ((try simp only [hb]) <;> (try (have hp := hb; simp only [WKs] at hp; (try have hq := Int.not_le.2 hp); (try have hq := Int.not_lt.2 hp))))))
    | rintro _ _ ⟨rfl, rfl⟩
    | rintro _ _ ⟨_, rfl, rfl⟩
    | rintro _ _ ⟨_, hi64, hnum, rfl, rfl⟩
    | ((fail_if_success refine G.tr ?_); exact G.prop S.p)
    | fail) <;> (try simp only [WKb, ↓reduceIte, Nat.reduceEqDiff, e4, v4]))))
        all_goals
          refine fin0 _ hno ?_
          ((try clear hK) <;> (try simp only [WKe, ↓reduceIte, reduceCtorEq, Int.reduceEq, *]) <;> repeat (first | with_reducible exact EntR.done | refine S.e ?_ | (refine S.f ?_ <;> (try simp only [WKe, ↓reduceIte, reduceCtorEq, Int.reduceEq, *])) | with_reducible apply EntR.ex | refine EntR.drop (F := F) ?_ | refine EntR.drop ?_))
    · have hw := wrapSucc (k := 4) (by omega)
      have hbk := hsm 4
      have hs' : (numL (wordsS s) 4).set (Int.toNat ((4 : Nat) : Int)) (valW (wordsS s) 4) = numL (wordsS s) (4 + 1) := rfl
      have ek : (numA (ix (wordsS s) ((4 : Nat) : Int)).d).isSome = okW (wordsS s) 4 := okW_num (by decide)
      cases ho : okW (wordsS s) 4 with
      | true =>
        rw [ho] at ek
        have hI' : ∀ i, i < 4 + 1 → okW (wordsS s) i = true := fun i hi => by
          by_cases hik : i < 4
          · exact hI i hik
          · have : i = 4 := by omega
            subst this; exact ho
        ((try simp only [WKb, ↓reduceIte, Nat.reduceEqDiff]) <;> (repeat' ((first
    | (refine G.tr ?_; first | refine S.a ?_ | refine S.t ?_ | refine Tr.brK ?_ ?_ | (refine G.call 98 ?_; refine S.c ?_ (h := wordsR_ok ?_)) | (refine G.call 17 ?_; refine S.c ?_ (h := tcallR_ok ?_)) | (refine G.call 53 ?_; refine S.c ?_ (h := number10_ok ?_)) | refine S.n fun _ => ?_ | refine S.i fun hix => ?_ | (refine S.g fun hb => ?_; (try simp only [hb])) | (refine S.s (fun hb => ?_) (fun hb => ?_) <;> ((try simp only [hb]) <;> (try (have hp := hb; simp only [WKs] at hp; (try have hq := Int.not_le.2 hp); (try have hq := Int.not_lt.2 hp))))))
    | rintro _ _ ⟨rfl, rfl⟩
    | rintro _ _ ⟨_, rfl, rfl⟩
    | rintro _ _ ⟨_, hi64, hnum, rfl, rfl⟩
    | ((fail_if_success refine G.tr ?_); exact G.prop S.p)
    | fail) <;> (try simp only [WKb, ↓reduceIte, Nat.reduceEqDiff, Nat.reduceAdd, hw, ek]))))
        all_goals
          have hv := valW_num (i := 4) (by decide) hnum ho
          subst hv
          (apply Tr.againE (4 + 1); (focus (simp only [WKb, ↓reduceIte, Nat.reduceEqDiff])); (focus ((try simp only [WKb, ↓reduceIte, Nat.reduceEqDiff, Nat.reduceAdd]); (all_goals ((repeat (refine cons_eq (by first | rfl | ((try clear hK) <;> first | (simp [*, hs']; done) | (simp [*, hs']; omega) | (simp [*, hs'] <;> (try split) <;> simp_all <;> omega))) ?_)); rfl)); done)); (focus (first | omega | assumption | (simp only []; omega) | (refine ⟨by omega, by assumption⟩) | (simp only []; refine ⟨by omega, by assumption⟩) | ((try simp only []); (repeat' (first | omega | assumption | apply hI' | refine And.intro ?_ ?_)); done))); (focus (first | omega | (simp only []; omega))); (focus (((try clear hK) <;> (try simp only [WKe, *]) <;> repeat (first | with_reducible exact EntR.done | refine S.e ?_ | (refine S.f ?_ <;> (try simp only [WKe, hs', ↓reduceIte, reduceCtorEq, Int.reduceEq, *])) | with_reducible apply EntR.ex | refine EntR.drop (F := F) ?_ | refine EntR.drop ?_)))))
      | false =>
        rw [ho] at ek
        have hno := oneE_no hl (by decide) ho
        ((try simp only [WKb, ↓reduceIte, Nat.reduceEqDiff]) <;> (repeat' ((first
    | (refine G.tr ?_; first | refine S.a ?_ | refine S.t ?_ | refine Tr.brK ?_ ?_ | (refine G.call 98 ?_; refine S.c ?_ (h := wordsR_ok ?_)) | (refine G.call 17 ?_; refine S.c ?_ (h := tcallR_ok ?_)) | (refine G.call 53 ?_; refine S.c ?_ (h := number10_ok ?_)) | refine S.n fun _ => ?_ | refine S.i fun hix => ?_ | (refine S.g fun hb => ?_; (try simp only [hb])) | (refine S.s (fun hb => ?_) (fun hb => ?_) <;> ((try simp only [hb]) <;> (try (have hp := hb; simp only [WKs] at hp; (try have hq := Int.not_le.2 hp); (try have hq := Int.not_lt.2 hp))))))
    | rintro _ _ ⟨rfl, rfl⟩
    | rintro _ _ ⟨_, rfl, rfl⟩
    | rintro _ _ ⟨_, hi64, hnum, rfl, rfl⟩
    | ((fail_if_success refine G.tr ?_); exact G.prop S.p)
    | fail) <;> (try simp only [WKb, ↓reduceIte, Nat.reduceEqDiff, ek]))))
        all_goals
          refine fin0 _ hno ?_
          ((try clear hK) <;> (try simp only [WKe, ↓reduceIte, reduceCtorEq, Int.reduceEq, *]) <;> repeat (first | with_reducible exact EntR.done | refine S.e ?_ | (refine S.f ?_ <;> (try simp only [WKe, ↓reduceIte, reduceCtorEq, Int.reduceEq, *])) | with_reducible apply EntR.ex | refine EntR.drop (F := F) ?_ | refine EntR.drop ?_))
    · have hw := wrapSucc (k := 5) (by omega)
      have hbk := hsm 5
      have hs' : (numL (wordsS s) 5).set (Int.toNat ((5 : Nat) : Int)) (valW (wordsS s) 5) = numL (wordsS s) (5 + 1) := rfl
      have ek : (numA (ix (wordsS s) ((5 : Nat) : Int)).d).isSome = okW (wordsS s) 5 := okW_num (by decide)
      cases ho : okW (wordsS s) 5 with
      | true =>
        rw [ho] at ek
        have hI' : ∀ i, i < 5 + 1 → okW (wordsS s) i = true := fun i hi => by
          by_cases hik : i < 5
          · exact hI i hik
          · have : i = 5 := by omega
            subst this; exact ho
        ((try simp only [WKb, ↓reduceIte, Nat.reduceEqDiff]) <;> (repeat' ((first
    | (refine G.tr ?_; first | refine S.a ?_ | refine S.t ?_ | refine Tr.brK ?_ ?_ | (refine G.call 98 ?_; refine S.c ?_ (h := wordsR_ok ?_)) | (refine G.call 17 ?_; refine S.c ?_ (h := tcallR_ok ?_)) | (refine G.call 53 ?_; refine S.c ?_ (h := number10_ok ?_)) | refine S.n fun _ => ?_ | refine S.i fun hix => ?_ | (refine S.g fun hb => ?_; (try simp only [hb])) | (refine S.s (fun hb => ?_) (fun hb => ?_) <;> ((try simp only [hb]) <;> (try (have hp := hb; simp only [WKs] at hp; (try have hq := Int.not_le.2 hp); (try have hq := Int.not_lt.2 hp))))))
    | rintro _ _ ⟨rfl, rfl⟩
    | rintro _ _ ⟨_, rfl, rfl⟩
    | rintro _ _ ⟨_, hi64, hnum, rfl, rfl⟩
    | ((fail_if_success refine G.tr ?_); exact G.prop S.p)
    | fail) <;> (try simp only [WKb, ↓reduceIte, Nat.reduceEqDiff, Nat.reduceAdd, hw, ek]))))
        all_goals
          have hv := valW_num (i := 5) (by decide) hnum ho
          subst hv
          (apply Tr.againE (5 + 1); (focus (simp only [WKb, ↓reduceIte, Nat.reduceEqDiff])); (focus ((try simp only [WKb, ↓reduceIte, Nat.reduceEqDiff, Nat.reduceAdd]); (all_goals ((repeat (refine cons_eq (by first | rfl | ((try clear hK) <;> first | (simp [*, hs']; done) | (simp [*, hs']; omega) | (simp [*, hs'] <;> (try split) <;> simp_all <;> omega))) ?_)); rfl)); done)); (focus (first | omega | assumption | (simp only []; omega) | (refine ⟨by omega, by assumption⟩) | (simp only []; refine ⟨by omega, by assumption⟩) | ((try simp only []); (repeat' (first | omega | assumption | apply hI' | refine And.intro ?_ ?_)); done))); (focus (first | omega | (simp only []; omega))); (focus (((try clear hK) <;> (try simp only [WKe, *]) <;> repeat (first | with_reducible exact EntR.done | refine S.e ?_ | (refine S.f ?_ <;> (try simp only [WKe, hs', ↓reduceIte, reduceCtorEq, Int.reduceEq, *])) | with_reducible apply EntR.ex | refine EntR.drop (F := F) ?_ | refine EntR.drop ?_)))))
      | false =>
        rw [ho] at ek
        have hno := oneE_no hl (by decide) ho
        ((try simp only [WKb, ↓reduceIte, Nat.reduceEqDiff]) <;> (repeat' ((first
    | (refine G.tr ?_; first | refine S.a ?_ | refine S.t ?_ | refine Tr.brK ?_ ?_ | (refine G.call 98 ?_; refine S.c ?_ (h := wordsR_ok ?_)) | (refine G.call 17 ?_; refine S.c ?_ (h := tcallR_ok ?_)) | (refine G.call 53 ?_; refine S.c ?_ (h := number10_ok ?_)) | refine S.n fun _ => ?_ | refine S.i fun hix => ?_ | (refine S.g fun hb => ?_; (try simp only [hb])) | (refine S.s (fun hb => ?_) (fun hb => ?_) <;> ((try simp only [hb]) <;> (try (have hp := hb; simp only [WKs] at hp; (try have hq := Int.not_le.2 hp); (try have hq := Int.not_lt.2 hp))))))
    | rintro _ _ ⟨rfl, rfl⟩
    | rintro _ _ ⟨_, rfl, rfl⟩
    | rintro _ _ ⟨_, hi64, hnum, rfl, rfl⟩
    | ((fail_if_success refine G.tr ?_); exact G.prop S.p)
    | fail) <;> (try simp only [WKb, ↓reduceIte, Nat.reduceEqDiff, ek]))))
        all_goals
          refine fin0 _ hno ?_
          ((try clear hK) <;> (try simp only [WKe, ↓reduceIte, reduceCtorEq, Int.reduceEq, *]) <;> repeat (first | with_reducible exact EntR.done | refine S.e ?_ | (refine S.f ?_ <;> (try simp only [WKe, ↓reduceIte, reduceCtorEq, Int.reduceEq, *])) | with_reducible apply EntR.ex | refine EntR.drop (F := F) ?_ | refine EntR.drop ?_))
    · have hE := oneE_yes hl hI
      have q0 : ix (numL (wordsS s) 6) 0 = valW (wordsS s) 0 := rfl
      have q1 : ix (numL (wordsS s) 6) 1 = valW (wordsS s) 1 := rfl
      have q2 : ix (numL (wordsS s) 6) 2 = valW (wordsS s) 2 := rfl
      have q3 : ix (numL (wordsS s) 6) 3 = valW (wordsS s) 3 := rfl
      have q4 : ix (numL (wordsS s) 6) 4 = valW (wordsS s) 4 := rfl
      have q5 : ix (numL (wordsS s) 6) 5 = valW (wordsS s) 5 := rfl
      ((try simp only [WKb, ↓reduceIte, Nat.reduceEqDiff]) <;> (repeat' ((first
    | (refine G.tr ?_; first | refine S.a ?_ | refine S.t ?_ | refine Tr.brK ?_ ?_ | (refine G.call 98 ?_; refine S.c ?_ (h := wordsR_ok ?_)) | (refine G.call 17 ?_; refine S.c ?_ (h := tcallR_ok ?_)) | (refine G.call 53 ?_; refine S.c ?_ (h := number10_ok ?_)) | refine S.n fun _ => ?_ | refine S.i fun hix => ?_ | (refine S.g fun hb => ?_; (try simp only [hb])) | (refine S.s (fun hb => ?_) (fun hb => ?_) <;> ((try simp only [hb]) <;> (try (have hp := hb; simp only [WKs] at hp; (try have hq := Int.not_le.2 hp); (try have hq := Int.not_lt.2 hp))))))
    | rintro _ _ ⟨rfl, rfl⟩
    | rintro _ _ ⟨_, rfl, rfl⟩
    | rintro _ _ ⟨_, hi64, hnum, rfl, rfl⟩
    | ((fail_if_success refine G.tr ?_); exact G.prop S.p)
    | fail) <;> (try simp only [WKb, WKh, ↓reduceIte, Nat.reduceEqDiff, Nat.reduceAdd, pl65, q0, q1, q2, q3, q4, q5]))))
      all_goals
        refine Tr.fin hK ⟨_, fun x hx => Option.some.inj (hE.symm.trans hx), by rw [hE]; rfl, rfl⟩ ?_
        ((try clear hK) <;> (try simp only [WKe, *]) <;> repeat (first | with_reducible exact EntR.done | refine S.e ?_ | (refine S.f ?_ <;> (try simp only [WKe, ↓reduceIte, reduceCtorEq, Int.reduceEq, *])) | with_reducible apply EntR.ex | refine EntR.drop (F := F) ?_ | refine EntR.drop ?_))
  · have hno := oneE_len hl
    have hl' : ¬ ((wordsS s).length : Int) = 6 := by omega
    ((try simp only [WKb]) <;> (repeat' ((first
    | (refine G.tr ?_; first | refine S.a ?_ | refine S.t ?_ | refine Tr.brK ?_ ?_ | (refine G.call 98 ?_; refine S.c ?_ (h := wordsR_ok ?_)) | (refine G.call 17 ?_; refine S.c ?_ (h := tcallR_ok ?_)) | (refine G.call 53 ?_; refine S.c ?_ (h := number10_ok ?_)) | refine S.n fun _ => ?_ | refine S.i fun hix => ?_ | (refine S.g fun hb => ?_; (try simp only [hb])) | (refine S.s (fun hb => ?_) (fun hb => ?_) <;> ((try simp only [hb]) <;> (try (have hp := hb; simp only [WKs] at hp; (try have hq := Int.not_le.2 hp); (try have hq := Int.not_lt.2 hp))))))
    | rintro _ _ ⟨rfl, rfl⟩
    | rintro _ _ ⟨_, rfl, rfl⟩
    | rintro _ _ ⟨_, hi64, hnum, rfl, rfl⟩
    | ((fail_if_success refine G.tr ?_); exact G.prop S.p)
    | fail) <;> (try simp only [WKb, ↓reduceIte, Nat.reduceEqDiff]))))
    all_goals
      refine fin0 _ hno ?_
      ((try clear hK) <;> (try simp only [WKe, ↓reduceIte, reduceCtorEq, Int.reduceEq, *]) <;> repeat (first | with_reducible exact EntR.done | refine S.e ?_ | (refine S.f ?_ <;> (try simp only [WKe, ↓reduceIte, reduceCtorEq, Int.reduceEq, *])) | with_reducible apply EntR.ex | refine EntR.drop (F := F) ?_ | refine EntR.drop ?_))

end Go.Proofs.YtgkhjgpgdfbdpaaDoor
