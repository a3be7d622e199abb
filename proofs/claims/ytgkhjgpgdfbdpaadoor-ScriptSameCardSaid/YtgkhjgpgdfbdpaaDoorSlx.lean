import Derived.Test.YtgkhjgpgdfbdpaaDoorSK
namespace Go.Proofs.YtgkhjgpgdfbdpaaDoor
open Go Go.Wk
set_option maxHeartbeats 6400000
set_option maxRecDepth 100000

/-- A line's frame. -/
noncomputable def frameA (l : List UInt8) : Option FrameC := match wordsS l with
  | [w, a, b, c, d] => if w.d = frameB then match numA a.d, numA b.d, numA c.d, numA d.d with
    | some n1, some n2, some n3, some n4 => some ⟨n1, n2, n3, n4⟩
    | _, _, _, _ => none
    else none
  | _ => none
noncomputable def okN (ws : List Str) (i : Nat) : Bool := (numA (ix ws (i : Int)).d).isSome
theorem five {ws : List Str} (h : ws.length = 5) : ∃ a b c d e, ws = [a, b, c, d, e] := by
  rcases ws with _ | ⟨a, _ | ⟨b, _ | ⟨c, _ | ⟨d, _ | ⟨e, _ | ⟨f, r⟩⟩⟩⟩⟩⟩ <;> simp at h
  exact ⟨a, b, c, d, e, rfl⟩
theorem frameA_len {l : List UInt8} (h : (wordsS l).length ≠ 5) : frameA l = none := by
  unfold frameA
  split
  · rename_i hw; rw [hw] at h; simp at h
  · rfl
theorem frameA_word {l : List UInt8} (h : (ix (wordsS l) 0).d ≠ frameB) : frameA l = none := by
  unfold frameA
  split
  · rename_i hw
    rw [hw] at h
    exact if_neg h
  · rfl
theorem frameA_yes {l : List UInt8} (h : (wordsS l).length = 5) (h0 : (ix (wordsS l) 0).d = frameB) (hk : ∀ i, i < 4 → okN (wordsS l) (i + 1) = true) :
    frameA l = some ⟨nthN (wordsS l) 1, nthN (wordsS l) 2, nthN (wordsS l) 3, nthN (wordsS l) 4⟩ := by
  obtain ⟨a, b, c, d, e, hw⟩ := five h
  have k0 := hk 0 (by decide)
  have k1 := hk 1 (by decide)
  have k2 := hk 2 (by decide)
  have k3 := hk 3 (by decide)
  unfold frameA
  rw [hw] at h0 k0 k1 k2 k3 ⊢
  simp only [okN, nthN, ix] at h0 k0 k1 k2 k3 ⊢
  simp only [Int.toNat_natCast, List.getD_cons_zero, List.getD_cons_succ] at k0 k1 k2 k3 ⊢
  have h0' : a.d = frameB := h0
  rw [if_pos h0']
  obtain ⟨x0, h0⟩ := Option.isSome_iff_exists.1 k0
  obtain ⟨x1, h1⟩ := Option.isSome_iff_exists.1 k1
  obtain ⟨x2, h2⟩ := Option.isSome_iff_exists.1 k2
  obtain ⟨x3, h3⟩ := Option.isSome_iff_exists.1 k3
  simp only [h0, h1, h2, h3, Option.getD_some]
theorem frameA_no {l : List UInt8} (h : (wordsS l).length = 5) {i : Nat} (hi : i < 4) (hk : okN (wordsS l) (i + 1) = false) : frameA l = none := by
  obtain ⟨a, b, c, d, e, hw⟩ := five h
  unfold frameA
  rw [hw] at hk ⊢
  simp only
  have hn : ∀ {o : Option Int}, o.isSome = false → o = none := fun {o} h => by cases o; rfl; cases h
  split
  · obtain rfl | rfl | rfl | rfl : i = 0 ∨ i = 1 ∨ i = 2 ∨ i = 3 := by omega
    all_goals
      simp only [okN, ix] at hk
      simp only [Int.toNat_natCast, List.getD_cons_zero, List.getD_cons_succ] at hk
      have hk := hn hk
      split
      · simp_all
      · rfl
  · rfl
/-- A frame's first k numbers were read. -/
def frI (ws : List Str) (k : Nat) (is : Bool) (m0 m1 m2 m3 : Int) : Prop :=
  (is = true → (∀ i, i < k → okN ws (i + 1) = true) ∧ (0 < k → m0 = nthN ws 1) ∧ (1 < k → m1 = nthN ws 2) ∧ (2 < k → m2 = nthN ws 3) ∧ (3 < k → m3 = nthN ws 4)) ∧ (is = false → ∃ i, i < 4 ∧ okN ws (i + 1) = false)
theorem frI_init {ws : List Str} {m0 m1 m2 m3 : Int} : frI ws 0 true m0 m1 m2 m3 := ⟨fun _ => ⟨fun i hi => by omega, fun h => by omega, fun h => by omega, fun h => by omega, fun h => by omega⟩, fun hf => (by cases hf)⟩
theorem frI_bad {ws : List Str} {k j : Nat} {m0 m1 m2 m3 n0 n1 n2 n3 : Int} (h : frI ws k false m0 m1 m2 m3) : frI ws j false n0 n1 n2 n3 := ⟨fun hf => (by cases hf), fun _ => h.2 rfl⟩
theorem nthN_val {ws : List Str} {i : Nat} {n : Int} (hn : ∀ m, numA (ix ws (i : Int)).d = some m → n = m) (ho : okN ws i = true) : n = nthN ws i := by
  unfold okN at ho
  unfold nthN
  obtain ⟨x, hx⟩ := Option.isSome_iff_exists.1 ho
  rw [hn x hx, hx]; rfl
theorem frI_next {ws : List Str} {k : Nat} {m0 m1 m2 m3 n : Int} (h : frI ws k true m0 m1 m2 m3) (hk : k < 4) (hn : ∀ m, numA (ix ws ((k + 1 : Nat) : Int)).d = some m → n = m) :
    frI ws (k + 1) (numA (ix ws ((k + 1 : Nat) : Int)).d).isSome (if k = 0 then n else m0) (if k = 1 then n else m1) (if k = 2 then n else m2) (if k = 3 then n else m3) := by
  refine ⟨fun ho => ?_, fun ho => ⟨k, hk, ho⟩⟩
  obtain ⟨h2, i0, i1, i2, i3⟩ := h.1 rfl
  have hv := nthN_val hn ho
  refine ⟨fun i hi => ?_, fun hx => ?_, fun hx => ?_, fun hx => ?_, fun hx => ?_⟩
  · by_cases hik : i < k
    · exact h2 i hik
    · have : i = k := by omega
      subst this; exact ho
  all_goals
    split
    · rename_i e; subst e; exact hv
    · first | exact i0 (by omega) | exact i1 (by omega) | exact i2 (by omega) | exact i3 (by omega)
theorem frI_end {l : List UInt8} {is : Bool} {m0 m1 m2 m3 : Int} (hl : (wordsS l).length = 5) (h0 : (ix (wordsS l) 0).d = frameB) (h : frI (wordsS l) 4 is m0 m1 m2 m3) : (∀ x, frameA l = some x → FrameC.mk m0 m1 m2 m3 = x) ∧ (frameA l).isSome = is := by
  cases is with
  | false =>
    obtain ⟨i, hi, ho⟩ := h.2 rfl
    rw [frameA_no hl hi ho]
    exact ⟨fun x hx => (by cases hx), rfl⟩
  | true =>
    obtain ⟨h2, i0, i1, i2, i3⟩ := h.1 rfl
    rw [frameA_yes hl h0 h2, i0 (by decide), i1 (by decide), i2 (by decide), i3 (by decide)]
    exact ⟨fun x hx => Option.some.inj hx, rfl⟩
attribute [local irreducible] BrK GenK EGenK EUnitK CallK FnK CallV GuardO GuardC CondW opX opK opKc chkR eqR seqK blkK endL WL WD W LoopW BinK Tr drewK resL PickK NotK NilK ExtrK getK Instr.storeAt Instr.loadAt Instr.fieldAt Instr.indexAt Instr.lookup Instr.mapUpdate Instr.box Instr.alloc Instr.build Instr.buildSlice Instr.makeSlice Instr.makeMap Instr.sliceAt Instr.field Instr.index Instr.makeInterface Instr.typeAssert Builtin.len_ Builtin.append_ Builtin.cap_ Builtin.min_ Builtin.max_ Builtin.copy_ Builtin.clear_ convert binOp mp blk rob sl sep ex fact old
attribute [local irreducible] NegK mxV bufT bldB nz stB stepsN okN nthN
theorem framed_ok {s : List UInt8} {m : Int} (hs : s.length ≤ 1000000) : Trip Tryd.prog 105 [.string (bstr s)].toArray [mxB m]
    fun v l' => ∃ f : FrameC, (∀ x, frameA s = some x → f = x) ∧ v = .tuple #[.agg (En.enc f).toArray, .bool (frameA s).isSome] ∧ l' = [] := by
  intro F K hK
  simp only [List.cons_append, List.nil_append]
  have hsm := words_small hs
  have hb1 := hsm 1
  have hb2 := hsm 2
  have hb3 := hsm 3
  have hb4 := hsm 4
  have fin0 : ∀ l : List Asrt, frameA s = none → EntR [] l F → Tr l (K (.tuple #[.agg [.int .i64 0, .int .i64 0, .int .i64 0, .int .i64 0].toArray, .bool false])) := fun l hno he => by
    refine Tr.fin hK ⟨⟨0, 0, 0, 0⟩, fun x hx => (by rw [hno] at hx; cases hx), by rw [hno]; rfl, rfl⟩ he
  (refine Tr.enter (rs := [.cell 2 106, .tmp 3]) mixed fn105 rfl (by simp +arith [Tryd.ntmps105]) fun u => ?_; simp only [cd105, Tryd.f105])
  by_cases hl : (wordsS s).length = 5
  · by_cases h0 : (ix (wordsS s) 0).d = frameB
    · have hd : decide ((ix (wordsS s) 0).d = [102, 114, 97, 109, 101]) = true := decide_eq_true h0
      ((try simp only [WKb, WKt]) <;> (repeat' ((first
    | (refine G.tr ?_; first | refine S.a ?_ | refine S.t ?_ | refine Tr.brK ?_ ?_ | (refine G.call 97 ?_; refine S.c ?_ (h := split_ok ?_)) | (refine G.call 138 ?_; refine S.c ?_ (h := numberC_ok ?_)) | refine S.n fun _ => ?_ | refine S.i fun hix => ?_ | (refine S.g fun hb => ?_; (try simp only [hb])) | (refine S.s (fun hb => ?_) (fun hb => ?_) <;> ((try simp only [hb]) <;> (try (have hp := hb; simp only [WKs] at hp; (try have hq := Int.not_le.2 hp); (try have hq := Int.not_lt.2 hp))))))
    | rintro _ _ ⟨_, rfl, rfl⟩
    | rintro _ _ ⟨_, hi64, hnum, rfl, rfl⟩
    | ((fail_if_success refine G.tr ?_); exact G.prop S.p)
    | fail) <;> (try simp only [WKb, WKh, ↓reduceIte, Nat.reduceEqDiff, hl, hd]))))
      rename_i rb wv b pv
      refine Tr.loopE (α := Nat × Bool × Int × Int × Int × Int) [6, 29] [2, 3, 4, 5, 27, 28] (fun x => [.bool x.2.1, .int .i64 x.1]) (fun x => [sl false pv.v [PtF.mk (some ⟨b, 0, none⟩), ⟨some ⟨b, 1, none⟩⟩, ⟨some ⟨b, 2, none⟩⟩, ⟨some ⟨b, 3, none⟩⟩], blk b (.cells [.int .i64 x.2.2.1, .int .i64 x.2.2.2.1, .int .i64 x.2.2.2.2.1, .int .i64 x.2.2.2.2.2].toArray 106 (0, 0)), sl false wv.v (wordsS s), blk rb (.cells [.int .i64 0, .int .i64 0, .int .i64 0, .int .i64 0].toArray 106 (0, 0))])
        (fun x => x.1 ≤ 4 ∧ frI (wordsS s) x.1 x.2.1 x.2.2.1 x.2.2.2.1 x.2.2.2.2.1 x.2.2.2.2.2) (fun x => 4 - x.1) (0, true, 0, 0, 0, 0) (by (repeat (first | exact TakeL.nil | (apply TakeL.cons; focus ((first | exact TakeA.dupS | exact TakeA.dupF | ((repeat (first | with_reducible exact TakeA.here | exact TakeA.fam (by omega) (by omega) | with_reducible apply TakeA.next)); done) | ((repeat (first | exact TakeA.here | apply TakeA.next)); done) | exact TakeA.famNil | exact TakeA.nilS))) | fail)); done) rfl ⟨Nat.zero_le _, frI_init⟩ fun x u hx => ?_
      obtain ⟨k, is, m0, m1, m2, m3⟩ := x
      simp only at hx ⊢
      obtain ⟨hk, hI⟩ := hx
      obtain rfl | rfl | rfl | rfl | rfl : k = 0 ∨ k = 1 ∨ k = 2 ∨ k = 3 ∨ k = 4 := by omega
      · have hw := wrapSucc (k := 0) (by omega)
        have hpx : (ix [PtF.mk (some ⟨b, 0, none⟩), ⟨some ⟨b, 1, none⟩⟩, ⟨some ⟨b, 2, none⟩⟩, ⟨some ⟨b, 3, none⟩⟩] ((0 : Nat) : Int)).x = some ⟨b, 0, none⟩ := rfl
        have hlw : ((0 + 1 : Nat) : Int) < (wordsS s).length := by omega
        cases is with
        | true =>
          have hI0 := fun n hn => frI_next (n := n) hI (by decide) hn
          simp +decide only [↓reduceIte] at hI0
          ((try simp only [WKb, ↓reduceIte, Nat.reduceEqDiff]) <;> (repeat' ((first
    | (refine G.tr ?_; first | refine S.a ?_ | refine S.t ?_ | refine Tr.brK ?_ ?_ | (refine G.call 97 ?_; refine S.c ?_ (h := split_ok ?_)) | (refine G.call 138 ?_; refine S.c ?_ (h := numberC_ok ?_)) | refine S.n fun _ => ?_ | refine S.i fun hix => ?_ | (refine S.g fun hb => ?_; (try simp only [hb])) | (refine S.s (fun hb => ?_) (fun hb => ?_) <;> ((try simp only [hb]) <;> (try (have hp := hb; simp only [WKs] at hp; (try have hq := Int.not_le.2 hp); (try have hq := Int.not_lt.2 hp))))))
    | rintro _ _ ⟨_, rfl, rfl⟩
    | rintro _ _ ⟨_, hi64, hnum, rfl, rfl⟩
    | ((fail_if_success refine G.tr ?_); exact G.prop S.p)
    | fail) <;> (try simp only [WKb, ↓reduceIte, Nat.reduceEqDiff, hw, hpx]))))
          all_goals
            have hI' := hI0 _ hnum
            clear hI0
            (apply Tr.againE ((0 + 1, _, _, m1, m2, m3)); (focus (simp only [WKb, ↓reduceIte, Nat.reduceEqDiff])); (focus ((try simp only [WKb, ↓reduceIte, Nat.reduceEqDiff]); (all_goals ((repeat (refine cons_eq (by first | rfl | (simp [*]; done)) ?_)); rfl)); done)); rotate_left 2; (focus (((try clear hK) <;> (try simp only [WKe, *]) <;> repeat (first | with_reducible exact EntR.done | refine S.e ?_ | (refine S.f ?_ <;> (try simp only [WKe, ↓reduceIte, reduceCtorEq, Int.reduceEq, *])) | with_reducible apply EntR.ex | refine EntR.drop (F := F) ?_ | refine EntR.drop ?_)))); (focus (first | omega | assumption | (simp only []; omega) | (refine ⟨by omega, by assumption⟩) | (simp only []; refine ⟨by omega, by assumption⟩) | ((try simp only []); (repeat' (first | omega | assumption | apply hI' | refine And.intro ?_ ?_)); done))); (focus (first | omega | (simp only []; omega))))
        | false =>
          have hI' : ∀ n, frI (wordsS s) (0 + 1) false n m1 m2 m3 := fun n => frI_bad hI
          ((try simp only [WKb, ↓reduceIte, Nat.reduceEqDiff]) <;> (repeat' ((first
    | (refine G.tr ?_; first | refine S.a ?_ | refine S.t ?_ | refine Tr.brK ?_ ?_ | (refine G.call 97 ?_; refine S.c ?_ (h := split_ok ?_)) | (refine G.call 138 ?_; refine S.c ?_ (h := numberC_ok ?_)) | refine S.n fun _ => ?_ | refine S.i fun hix => ?_ | (refine S.g fun hb => ?_; (try simp only [hb])) | (refine S.s (fun hb => ?_) (fun hb => ?_) <;> ((try simp only [hb]) <;> (try (have hp := hb; simp only [WKs] at hp; (try have hq := Int.not_le.2 hp); (try have hq := Int.not_lt.2 hp))))))
    | rintro _ _ ⟨_, rfl, rfl⟩
    | rintro _ _ ⟨_, hi64, hnum, rfl, rfl⟩
    | ((fail_if_success refine G.tr ?_); exact G.prop S.p)
    | fail) <;> (try simp only [WKb, ↓reduceIte, Nat.reduceEqDiff, hw, hpx]))))
          all_goals (apply Tr.againE ((0 + 1, false, _, m1, m2, m3)); (focus (simp only [WKb, ↓reduceIte, Nat.reduceEqDiff])); (focus ((try simp only [WKb, ↓reduceIte, Nat.reduceEqDiff]); (all_goals ((repeat (refine cons_eq (by first | rfl | (simp [*]; done)) ?_)); rfl)); done)); rotate_left 2; (focus (((try clear hK) <;> (try simp only [WKe, *]) <;> repeat (first | with_reducible exact EntR.done | refine S.e ?_ | (refine S.f ?_ <;> (try simp only [WKe, ↓reduceIte, reduceCtorEq, Int.reduceEq, *])) | with_reducible apply EntR.ex | refine EntR.drop (F := F) ?_ | refine EntR.drop ?_)))); (focus (first | omega | assumption | (simp only []; omega) | (refine ⟨by omega, by assumption⟩) | (simp only []; refine ⟨by omega, by assumption⟩) | ((try simp only []); (repeat' (first | omega | assumption | apply hI' | refine And.intro ?_ ?_)); done))); (focus (first | omega | (simp only []; omega))))
      · have hw := wrapSucc (k := 1) (by omega)
        have hpx : (ix [PtF.mk (some ⟨b, 0, none⟩), ⟨some ⟨b, 1, none⟩⟩, ⟨some ⟨b, 2, none⟩⟩, ⟨some ⟨b, 3, none⟩⟩] ((1 : Nat) : Int)).x = some ⟨b, 1, none⟩ := rfl
        have hlw : ((1 + 1 : Nat) : Int) < (wordsS s).length := by omega
        cases is with
        | true =>
          have hI0 := fun n hn => frI_next (n := n) hI (by decide) hn
          simp +decide only [↓reduceIte] at hI0
          ((try simp only [WKb, ↓reduceIte, Nat.reduceEqDiff]) <;> (repeat' ((first
    | (refine G.tr ?_; first | refine S.a ?_ | refine S.t ?_ | refine Tr.brK ?_ ?_ | (refine G.call 97 ?_; refine S.c ?_ (h := split_ok ?_)) | (refine G.call 138 ?_; refine S.c ?_ (h := numberC_ok ?_)) | refine S.n fun _ => ?_ | refine S.i fun hix => ?_ | (refine S.g fun hb => ?_; (try simp only [hb])) | (refine S.s (fun hb => ?_) (fun hb => ?_) <;> ((try simp only [hb]) <;> (try (have hp := hb; simp only [WKs] at hp; (try have hq := Int.not_le.2 hp); (try have hq := Int.not_lt.2 hp))))))
    | rintro _ _ ⟨_, rfl, rfl⟩
    | rintro _ _ ⟨_, hi64, hnum, rfl, rfl⟩
    | ((fail_if_success refine G.tr ?_); exact G.prop S.p)
    | fail) <;> (try simp only [WKb, ↓reduceIte, Nat.reduceEqDiff, Nat.reduceAdd, hw, hpx]))))
          all_goals
            have hI' := hI0 _ hnum
            clear hI0
            (apply Tr.againE ((1 + 1, _, m0, _, m2, m3)); (focus (simp only [WKb, ↓reduceIte, Nat.reduceEqDiff])); (focus ((try simp only [WKb, ↓reduceIte, Nat.reduceEqDiff, Nat.reduceAdd]); (all_goals ((repeat (refine cons_eq (by first | rfl | (simp [*]; done)) ?_)); rfl)); done)); rotate_left 2; (focus (((try clear hK) <;> (try simp only [WKe, *]) <;> repeat (first | with_reducible exact EntR.done | refine S.e ?_ | (refine S.f ?_ <;> (try simp only [WKe, ↓reduceIte, reduceCtorEq, Int.reduceEq, *])) | with_reducible apply EntR.ex | refine EntR.drop (F := F) ?_ | refine EntR.drop ?_)))); (focus (first | omega | assumption | (simp only []; omega) | (refine ⟨by omega, by assumption⟩) | (simp only []; refine ⟨by omega, by assumption⟩) | ((try simp only []); (repeat' (first | omega | assumption | apply hI' | refine And.intro ?_ ?_)); done))); (focus (first | omega | (simp only []; omega))))
        | false =>
          have hI' : ∀ n, frI (wordsS s) (1 + 1) false m0 n m2 m3 := fun n => frI_bad hI
          ((try simp only [WKb, ↓reduceIte, Nat.reduceEqDiff]) <;> (repeat' ((first
    | (refine G.tr ?_; first | refine S.a ?_ | refine S.t ?_ | refine Tr.brK ?_ ?_ | (refine G.call 97 ?_; refine S.c ?_ (h := split_ok ?_)) | (refine G.call 138 ?_; refine S.c ?_ (h := numberC_ok ?_)) | refine S.n fun _ => ?_ | refine S.i fun hix => ?_ | (refine S.g fun hb => ?_; (try simp only [hb])) | (refine S.s (fun hb => ?_) (fun hb => ?_) <;> ((try simp only [hb]) <;> (try (have hp := hb; simp only [WKs] at hp; (try have hq := Int.not_le.2 hp); (try have hq := Int.not_lt.2 hp))))))
    | rintro _ _ ⟨_, rfl, rfl⟩
    | rintro _ _ ⟨_, hi64, hnum, rfl, rfl⟩
    | ((fail_if_success refine G.tr ?_); exact G.prop S.p)
    | fail) <;> (try simp only [WKb, ↓reduceIte, Nat.reduceEqDiff, Nat.reduceAdd, hw, hpx]))))
          all_goals (apply Tr.againE ((1 + 1, false, m0, _, m2, m3)); (focus (simp only [WKb, ↓reduceIte, Nat.reduceEqDiff])); (focus ((try simp only [WKb, ↓reduceIte, Nat.reduceEqDiff, Nat.reduceAdd]); (all_goals ((repeat (refine cons_eq (by first | rfl | (simp [*]; done)) ?_)); rfl)); done)); rotate_left 2; (focus (((try clear hK) <;> (try simp only [WKe, *]) <;> repeat (first | with_reducible exact EntR.done | refine S.e ?_ | (refine S.f ?_ <;> (try simp only [WKe, ↓reduceIte, reduceCtorEq, Int.reduceEq, *])) | with_reducible apply EntR.ex | refine EntR.drop (F := F) ?_ | refine EntR.drop ?_)))); (focus (first | omega | assumption | (simp only []; omega) | (refine ⟨by omega, by assumption⟩) | (simp only []; refine ⟨by omega, by assumption⟩) | ((try simp only []); (repeat' (first | omega | assumption | apply hI' | refine And.intro ?_ ?_)); done))); (focus (first | omega | (simp only []; omega))))
      · have hw := wrapSucc (k := 2) (by omega)
        have hpx : (ix [PtF.mk (some ⟨b, 0, none⟩), ⟨some ⟨b, 1, none⟩⟩, ⟨some ⟨b, 2, none⟩⟩, ⟨some ⟨b, 3, none⟩⟩] ((2 : Nat) : Int)).x = some ⟨b, 2, none⟩ := rfl
        have hlw : ((2 + 1 : Nat) : Int) < (wordsS s).length := by omega
        cases is with
        | true =>
          have hI0 := fun n hn => frI_next (n := n) hI (by decide) hn
          simp +decide only [↓reduceIte] at hI0
          ((try simp only [WKb, ↓reduceIte, Nat.reduceEqDiff]) <;> (repeat' ((first
    | (refine G.tr ?_; first | refine S.a ?_ | refine S.t ?_ | refine Tr.brK ?_ ?_ | (refine G.call 97 ?_; refine S.c ?_ (h := split_ok ?_)) | (refine G.call 138 ?_; refine S.c ?_ (h := numberC_ok ?_)) | refine S.n fun _ => ?_ | refine S.i fun hix => ?_ | (refine S.g fun hb => ?_; (try simp only [hb])) | (refine S.s (fun hb => ?_) (fun hb => ?_) <;> ((try simp only [hb]) <;> (try (have hp := hb; simp only [WKs] at hp; (try have hq := Int.not_le.2 hp); (try have hq := Int.not_lt.2 hp))))))
    | rintro _ _ ⟨_, rfl, rfl⟩
    | rintro _ _ ⟨_, hi64, hnum, rfl, rfl⟩
    | ((fail_if_success refine G.tr ?_); exact G.prop S.p)
    | fail) <;> (try simp only [WKb, ↓reduceIte, Nat.reduceEqDiff, Nat.reduceAdd, hw, hpx]))))
          all_goals
            have hI' := hI0 _ hnum
            clear hI0
            (apply Tr.againE ((2 + 1, _, m0, m1, _, m3)); (focus (simp only [WKb, ↓reduceIte, Nat.reduceEqDiff])); (focus ((try simp only [WKb, ↓reduceIte, Nat.reduceEqDiff, Nat.reduceAdd]); (all_goals ((repeat (refine cons_eq (by first | rfl | (simp [*]; done)) ?_)); rfl)); done)); rotate_left 2; (focus (((try clear hK) <;> (try simp only [WKe, *]) <;> repeat (first | with_reducible exact EntR.done | refine S.e ?_ | (refine S.f ?_ <;> (try simp only [WKe, ↓reduceIte, reduceCtorEq, Int.reduceEq, *])) | with_reducible apply EntR.ex | refine EntR.drop (F := F) ?_ | refine EntR.drop ?_)))); (focus (first | omega | assumption | (simp only []; omega) | (refine ⟨by omega, by assumption⟩) | (simp only []; refine ⟨by omega, by assumption⟩) | ((try simp only []); (repeat' (first | omega | assumption | apply hI' | refine And.intro ?_ ?_)); done))); (focus (first | omega | (simp only []; omega))))
        | false =>
          have hI' : ∀ n, frI (wordsS s) (2 + 1) false m0 m1 n m3 := fun n => frI_bad hI
          ((try simp only [WKb, ↓reduceIte, Nat.reduceEqDiff]) <;> (repeat' ((first
    | (refine G.tr ?_; first | refine S.a ?_ | refine S.t ?_ | refine Tr.brK ?_ ?_ | (refine G.call 97 ?_; refine S.c ?_ (h := split_ok ?_)) | (refine G.call 138 ?_; refine S.c ?_ (h := numberC_ok ?_)) | refine S.n fun _ => ?_ | refine S.i fun hix => ?_ | (refine S.g fun hb => ?_; (try simp only [hb])) | (refine S.s (fun hb => ?_) (fun hb => ?_) <;> ((try simp only [hb]) <;> (try (have hp := hb; simp only [WKs] at hp; (try have hq := Int.not_le.2 hp); (try have hq := Int.not_lt.2 hp))))))
    | rintro _ _ ⟨_, rfl, rfl⟩
    | rintro _ _ ⟨_, hi64, hnum, rfl, rfl⟩
    | ((fail_if_success refine G.tr ?_); exact G.prop S.p)
    | fail) <;> (try simp only [WKb, ↓reduceIte, Nat.reduceEqDiff, Nat.reduceAdd, hw, hpx]))))
          all_goals (apply Tr.againE ((2 + 1, false, m0, m1, _, m3)); (focus (simp only [WKb, ↓reduceIte, Nat.reduceEqDiff])); (focus ((try simp only [WKb, ↓reduceIte, Nat.reduceEqDiff, Nat.reduceAdd]); (all_goals ((repeat (refine cons_eq (by first | rfl | (simp [*]; done)) ?_)); rfl)); done)); rotate_left 2; (focus (((try clear hK) <;> (try simp only [WKe, *]) <;> repeat (first | with_reducible exact EntR.done | refine S.e ?_ | (refine S.f ?_ <;> (try simp only [WKe, ↓reduceIte, reduceCtorEq, Int.reduceEq, *])) | with_reducible apply EntR.ex | refine EntR.drop (F := F) ?_ | refine EntR.drop ?_)))); (focus (first | omega | assumption | (simp only []; omega) | (refine ⟨by omega, by assumption⟩) | (simp only []; refine ⟨by omega, by assumption⟩) | ((try simp only []); (repeat' (first | omega | assumption | apply hI' | refine And.intro ?_ ?_)); done))); (focus (first | omega | (simp only []; omega))))
      · have hw := wrapSucc (k := 3) (by omega)
        have hpx : (ix [PtF.mk (some ⟨b, 0, none⟩), ⟨some ⟨b, 1, none⟩⟩, ⟨some ⟨b, 2, none⟩⟩, ⟨some ⟨b, 3, none⟩⟩] ((3 : Nat) : Int)).x = some ⟨b, 3, none⟩ := rfl
        have hlw : ((3 + 1 : Nat) : Int) < (wordsS s).length := by omega
        cases is with
        | true =>
          have hI0 := fun n hn => frI_next (n := n) hI (by decide) hn
          simp +decide only [↓reduceIte] at hI0
          ((try simp only [WKb, ↓reduceIte, Nat.reduceEqDiff]) <;> (repeat' ((first
    | (refine G.tr ?_; first | refine S.a ?_ | refine S.t ?_ | refine Tr.brK ?_ ?_ | (refine G.call 97 ?_; refine S.c ?_ (h := split_ok ?_)) | (refine G.call 138 ?_; refine S.c ?_ (h := numberC_ok ?_)) | refine S.n fun _ => ?_ | refine S.i fun hix => ?_ | (refine S.g fun hb => ?_; (try simp only [hb])) | (refine S.s (fun hb => ?_) (fun hb => ?_) <;> ((try simp only [hb]) <;> (try (have hp := hb; simp only [WKs] at hp; (try have hq := Int.not_le.2 hp); (try have hq := Int.not_lt.2 hp))))))
    | rintro _ _ ⟨_, rfl, rfl⟩
    | rintro _ _ ⟨_, hi64, hnum, rfl, rfl⟩
    | ((fail_if_success refine G.tr ?_); exact G.prop S.p)
    | fail) <;> (try simp only [WKb, ↓reduceIte, Nat.reduceEqDiff, Nat.reduceAdd, hw, hpx]))))
          all_goals
            have hI' := hI0 _ hnum
            clear hI0
            (apply Tr.againE ((3 + 1, _, m0, m1, m2, _)); (focus (simp only [WKb, ↓reduceIte, Nat.reduceEqDiff])); (focus ((try simp only [WKb, ↓reduceIte, Nat.reduceEqDiff, Nat.reduceAdd]); (all_goals ((repeat (refine cons_eq (by first | rfl | (simp [*]; done)) ?_)); rfl)); done)); rotate_left 2; (focus (((try clear hK) <;> (try simp only [WKe, *]) <;> repeat (first | with_reducible exact EntR.done | refine S.e ?_ | (refine S.f ?_ <;> (try simp only [WKe, ↓reduceIte, reduceCtorEq, Int.reduceEq, *])) | with_reducible apply EntR.ex | refine EntR.drop (F := F) ?_ | refine EntR.drop ?_)))); (focus (first | omega | assumption | (simp only []; omega) | (refine ⟨by omega, by assumption⟩) | (simp only []; refine ⟨by omega, by assumption⟩) | ((try simp only []); (repeat' (first | omega | assumption | apply hI' | refine And.intro ?_ ?_)); done))); (focus (first | omega | (simp only []; omega))))
        | false =>
          have hI' : ∀ n, frI (wordsS s) (3 + 1) false m0 m1 m2 n := fun n => frI_bad hI
          ((try simp only [WKb, ↓reduceIte, Nat.reduceEqDiff]) <;> (repeat' ((first
    | (refine G.tr ?_; first | refine S.a ?_ | refine S.t ?_ | refine Tr.brK ?_ ?_ | (refine G.call 97 ?_; refine S.c ?_ (h := split_ok ?_)) | (refine G.call 138 ?_; refine S.c ?_ (h := numberC_ok ?_)) | refine S.n fun _ => ?_ | refine S.i fun hix => ?_ | (refine S.g fun hb => ?_; (try simp only [hb])) | (refine S.s (fun hb => ?_) (fun hb => ?_) <;> ((try simp only [hb]) <;> (try (have hp := hb; simp only [WKs] at hp; (try have hq := Int.not_le.2 hp); (try have hq := Int.not_lt.2 hp))))))
    | rintro _ _ ⟨_, rfl, rfl⟩
    | rintro _ _ ⟨_, hi64, hnum, rfl, rfl⟩
    | ((fail_if_success refine G.tr ?_); exact G.prop S.p)
    | fail) <;> (try simp only [WKb, ↓reduceIte, Nat.reduceEqDiff, Nat.reduceAdd, hw, hpx]))))
          all_goals (apply Tr.againE ((3 + 1, false, m0, m1, m2, _)); (focus (simp only [WKb, ↓reduceIte, Nat.reduceEqDiff])); (focus ((try simp only [WKb, ↓reduceIte, Nat.reduceEqDiff, Nat.reduceAdd]); (all_goals ((repeat (refine cons_eq (by first | rfl | (simp [*]; done)) ?_)); rfl)); done)); rotate_left 2; (focus (((try clear hK) <;> (try simp only [WKe, *]) <;> repeat (first | with_reducible exact EntR.done | refine S.e ?_ | (refine S.f ?_ <;> (try simp only [WKe, ↓reduceIte, reduceCtorEq, Int.reduceEq, *])) | with_reducible apply EntR.ex | refine EntR.drop (F := F) ?_ | refine EntR.drop ?_)))); (focus (first | omega | assumption | (simp only []; omega) | (refine ⟨by omega, by assumption⟩) | (simp only []; refine ⟨by omega, by assumption⟩) | ((try simp only []); (repeat' (first | omega | assumption | apply hI' | refine And.intro ?_ ?_)); done))); (focus (first | omega | (simp only []; omega))))
      · obtain ⟨hE1, hE2⟩ := frI_end hl h0 hI
        ((try simp only [WKb, ↓reduceIte, Nat.reduceEqDiff]) <;> (repeat' ((first
    | (refine G.tr ?_; first | refine S.a ?_ | refine S.t ?_ | refine Tr.brK ?_ ?_ | (refine G.call 97 ?_; refine S.c ?_ (h := split_ok ?_)) | (refine G.call 138 ?_; refine S.c ?_ (h := numberC_ok ?_)) | refine S.n fun _ => ?_ | refine S.i fun hix => ?_ | (refine S.g fun hb => ?_; (try simp only [hb])) | (refine S.s (fun hb => ?_) (fun hb => ?_) <;> ((try simp only [hb]) <;> (try (have hp := hb; simp only [WKs] at hp; (try have hq := Int.not_le.2 hp); (try have hq := Int.not_lt.2 hp))))))
    | rintro _ _ ⟨_, rfl, rfl⟩
    | rintro _ _ ⟨_, hi64, hnum, rfl, rfl⟩
    | ((fail_if_success refine G.tr ?_); exact G.prop S.p)
    | fail) <;> (try simp only [WKb, ↓reduceIte, Nat.reduceEqDiff]))))
        all_goals
          refine Tr.fin hK ⟨_, hE1, by rw [hE2]; rfl, rfl⟩ ?_
          ((try clear hK) <;> (try simp only [WKe, *]) <;> repeat (first | with_reducible exact EntR.done | refine S.e ?_ | (refine S.f ?_ <;> (try simp only [WKe, ↓reduceIte, reduceCtorEq, Int.reduceEq, *])) | with_reducible apply EntR.ex | refine EntR.drop (F := F) ?_ | refine EntR.drop ?_))
    · have hd : decide ((ix (wordsS s) 0).d = [102, 114, 97, 109, 101]) = false := decide_eq_false h0
      have hno := frameA_word h0
      ((try simp only [WKb, WKt]) <;> (repeat' ((first
    | (refine G.tr ?_; first | refine S.a ?_ | refine S.t ?_ | refine Tr.brK ?_ ?_ | (refine G.call 97 ?_; refine S.c ?_ (h := split_ok ?_)) | (refine G.call 138 ?_; refine S.c ?_ (h := numberC_ok ?_)) | refine S.n fun _ => ?_ | refine S.i fun hix => ?_ | (refine S.g fun hb => ?_; (try simp only [hb])) | (refine S.s (fun hb => ?_) (fun hb => ?_) <;> ((try simp only [hb]) <;> (try (have hp := hb; simp only [WKs] at hp; (try have hq := Int.not_le.2 hp); (try have hq := Int.not_lt.2 hp))))))
    | rintro _ _ ⟨_, rfl, rfl⟩
    | rintro _ _ ⟨_, hi64, hnum, rfl, rfl⟩
    | ((fail_if_success refine G.tr ?_); exact G.prop S.p)
    | fail) <;> (try simp only [WKb, WKh, ↓reduceIte, Nat.reduceEqDiff, hl, hd]))))
      all_goals
        refine fin0 _ hno ?_
        ((try clear hK) <;> (try simp only [WKe, ↓reduceIte, reduceCtorEq, Int.reduceEq, *]) <;> repeat (first | with_reducible exact EntR.done | refine S.e ?_ | (refine S.f ?_ <;> (try simp only [WKe, ↓reduceIte, reduceCtorEq, Int.reduceEq, *])) | with_reducible apply EntR.ex | refine EntR.drop (F := F) ?_ | refine EntR.drop ?_))
  · have hno := frameA_len hl
    have hl' : ¬ ((wordsS s).length : Int) = 5 := by omega
    ((try simp only [WKb, WKt]) <;> (repeat' ((first
    | (refine G.tr ?_; first | refine S.a ?_ | refine S.t ?_ | refine Tr.brK ?_ ?_ | (refine G.call 97 ?_; refine S.c ?_ (h := split_ok ?_)) | (refine G.call 138 ?_; refine S.c ?_ (h := numberC_ok ?_)) | refine S.n fun _ => ?_ | refine S.i fun hix => ?_ | (refine S.g fun hb => ?_; (try simp only [hb])) | (refine S.s (fun hb => ?_) (fun hb => ?_) <;> ((try simp only [hb]) <;> (try (have hp := hb; simp only [WKs] at hp; (try have hq := Int.not_le.2 hp); (try have hq := Int.not_lt.2 hp))))))
    | rintro _ _ ⟨_, rfl, rfl⟩
    | rintro _ _ ⟨_, hi64, hnum, rfl, rfl⟩
    | ((fail_if_success refine G.tr ?_); exact G.prop S.p)
    | fail) <;> (try simp only [WKb, ↓reduceIte, Nat.reduceEqDiff]))))
    all_goals
      refine fin0 _ hno ?_
      ((try clear hK) <;> (try simp only [WKe, ↓reduceIte, reduceCtorEq, Int.reduceEq, *]) <;> repeat (first | with_reducible exact EntR.done | refine S.e ?_ | (refine S.f ?_ <;> (try simp only [WKe, ↓reduceIte, reduceCtorEq, Int.reduceEq, *])) | with_reducible apply EntR.ex | refine EntR.drop (F := F) ?_ | refine EntR.drop ?_))

end Go.Proofs.YtgkhjgpgdfbdpaaDoor

namespace Go.Proofs.YtgkhjgpgdfbdpaaDoor
open Go Go.Wk
set_option maxHeartbeats 6400000
set_option maxRecDepth 100000

/-- The numbers behind a frame's word, so far. -/
noncomputable def numF (ws : List Str) (k : Nat) : List Int := [0, if 1 < k then nthN ws 1 else 0, if 2 < k then nthN ws 2 else 0, if 3 < k then nthN ws 3 else 0, if 4 < k then nthN ws 4 else 0]
attribute [local irreducible] BrK GenK EGenK EUnitK CallK FnK CallV GuardO GuardC CondW opX opK opKc chkR eqR seqK blkK endL WL WD W LoopW BinK Tr drewK resL PickK NotK NilK ExtrK getK Instr.storeAt Instr.loadAt Instr.fieldAt Instr.indexAt Instr.lookup Instr.mapUpdate Instr.box Instr.alloc Instr.build Instr.buildSlice Instr.makeSlice Instr.makeMap Instr.sliceAt Instr.field Instr.index Instr.makeInterface Instr.typeAssert Builtin.len_ Builtin.append_ Builtin.cap_ Builtin.min_ Builtin.max_ Builtin.copy_ Builtin.clear_ convert binOp mp blk rob sl sep ex fact old
attribute [local irreducible] NegK mxV bufT bldB nz stB stepsN okN nthN
theorem frame29_ok {s : List UInt8} (hs : s.length ≤ 1000000) : Trip Tryd.prog 73 [.string (bstr s)].toArray []
    fun v l' => ∃ f : FrameC, (∀ x, frameA s = some x → f = x) ∧ v = .tuple #[.agg (En.enc f).toArray, .bool (frameA s).isSome] ∧ l' = [] := by
  intro F K hK
  simp only [List.nil_append]
  have hsm := words_small hs
  have fin0 : ∀ l : List Asrt, frameA s = none → EntR [] l F → Tr l (K (.tuple #[.agg [.int .i64 0, .int .i64 0, .int .i64 0, .int .i64 0].toArray, .bool false])) := fun l hno he => by
    refine Tr.fin hK ⟨⟨0, 0, 0, 0⟩, fun x hx => (by rw [hno] at hx; cases hx), by rw [hno]; rfl, rfl⟩ he
  (refine Tr.enter (rs := [.cell 2 106, .tmp 3]) mixed fn73 rfl (by simp +arith [Tryd.ntmps73]) fun u => ?_; simp only [cd73, Tryd.f73])
  by_cases hl : (wordsS s).length = 5
  · by_cases h0 : (ix (wordsS s) 0).d = frameB
    · have hd : decide ((ix (wordsS s) 0).d = [102, 114, 97, 109, 101]) = true := decide_eq_true h0
      ((try simp only [WKb, WKt]) <;> (repeat' ((first
    | (refine G.tr ?_; first | refine S.a ?_ | refine S.t ?_ | refine Tr.brK ?_ ?_ | (refine G.call 98 ?_; refine S.c ?_ (h := wordsR_ok ?_)) | (refine G.call 53 ?_; refine S.c ?_ (h := number10_ok ?_)) | refine S.n fun _ => ?_ | refine S.i fun hix => ?_ | (refine S.g fun hb => ?_; (try simp only [hb])) | (refine S.s (fun hb => ?_) (fun hb => ?_) <;> ((try simp only [hb]) <;> (try (have hp := hb; simp only [WKs] at hp; (try have hq := Int.not_le.2 hp); (try have hq := Int.not_lt.2 hp))))))
    | rintro _ _ ⟨_, rfl, rfl⟩
    | rintro _ _ ⟨_, hi64, hnum, rfl, rfl⟩
    | ((fail_if_success refine G.tr ?_); exact G.prop S.p)
    | fail) <;> (try simp only [WKb, WKh, ↓reduceIte, Nat.reduceEqDiff, hl, hd]))))
      rename_i rb wv nv
      have hz : List.replicate (Int.toNat 5) (default : Int) = numF (wordsS s) 1 := rfl
      rw [hz]
      refine Tr.loopE (α := Nat) [3, 6] [2, 4, 5] (fun k => [.bool false, .int .i64 k]) (fun k => [sl false nv.v (numF (wordsS s) k), sl false wv.v (wordsS s), blk rb (.cells [.int .i64 0, .int .i64 0, .int .i64 0, .int .i64 0].toArray 106 (0, 0))])
        (fun k => (1 ≤ k ∧ k ≤ 5) ∧ ∀ i, i + 1 < k → okN (wordsS s) (i + 1) = true) (fun k => 5 - k) 1 (by (repeat (first | exact TakeL.nil | (apply TakeL.cons; focus ((first | exact TakeA.dupS | exact TakeA.dupF | ((repeat (first | with_reducible exact TakeA.here | exact TakeA.fam (by omega) (by omega) | with_reducible apply TakeA.next)); done) | ((repeat (first | exact TakeA.here | apply TakeA.next)); done) | exact TakeA.famNil | exact TakeA.nilS))) | fail)); done) rfl ⟨⟨Nat.le_refl _, by decide⟩, fun i hi => by omega⟩ fun k u hx => ?_
      obtain ⟨⟨hk1, hk⟩, hI⟩ := hx
      have hnl : (numF (wordsS s) k).length = 5 := rfl
      obtain rfl | rfl | rfl | rfl | rfl : k = 1 ∨ k = 2 ∨ k = 3 ∨ k = 4 ∨ k = 5 := by omega
      · have hw := wrapSucc (k := 1) (by omega)
        have hbk := hsm 1
        have hs' : (numF (wordsS s) 1).set (Int.toNat ((1 : Nat) : Int)) (nthN (wordsS s) 1) = numF (wordsS s) (1 + 1) := rfl
        have ek : (numA (ix (wordsS s) ((1 : Nat) : Int)).d).isSome = okN (wordsS s) 1 := by unfold okN; rfl
        cases ho : okN (wordsS s) 1 with
        | true =>
          rw [ho] at ek
          have hI' : ∀ i, i + 1 < 1 + 1 → okN (wordsS s) (i + 1) = true := fun i hi => by
            by_cases hik : i + 1 < 1
            · exact hI i hik
            · have : i + 1 = 1 := by omega
              rw [this]; exact ho
          ((try simp only [WKb, ↓reduceIte, Nat.reduceEqDiff]) <;> (repeat' ((first
    | (refine G.tr ?_; first | refine S.a ?_ | refine S.t ?_ | refine Tr.brK ?_ ?_ | (refine G.call 98 ?_; refine S.c ?_ (h := wordsR_ok ?_)) | (refine G.call 53 ?_; refine S.c ?_ (h := number10_ok ?_)) | refine S.n fun _ => ?_ | refine S.i fun hix => ?_ | (refine S.g fun hb => ?_; (try simp only [hb])) | (refine S.s (fun hb => ?_) (fun hb => ?_) <;> ((try simp only [hb]) <;> (try (have hp := hb; simp only [WKs] at hp; (try have hq := Int.not_le.2 hp); (try have hq := Int.not_lt.2 hp))))))
    | rintro _ _ ⟨_, rfl, rfl⟩
    | rintro _ _ ⟨_, hi64, hnum, rfl, rfl⟩
    | ((fail_if_success refine G.tr ?_); exact G.prop S.p)
    | fail) <;> (try simp only [WKb, ↓reduceIte, Nat.reduceEqDiff, Nat.reduceAdd, hw, ek]))))
          all_goals
            have hv := nthN_val (i := 1) hnum ho
            subst hv
            (apply Tr.againE (1 + 1); (focus (simp only [WKb, ↓reduceIte, Nat.reduceEqDiff])); (focus ((try simp only [WKb, ↓reduceIte, Nat.reduceEqDiff, Nat.reduceAdd]); (all_goals ((repeat (refine cons_eq (by first | rfl | ((try clear hK) <;> first | (simp [*, hs']; done) | (simp [*, hs']; omega) | (simp [*, hs'] <;> (try split) <;> simp_all <;> omega))) ?_)); rfl)); done)); (focus (first | omega | assumption | (simp only []; omega) | (refine ⟨by omega, by assumption⟩) | (simp only []; refine ⟨by omega, by assumption⟩) | ((try simp only []); (repeat' (first | omega | assumption | apply hI' | refine And.intro ?_ ?_)); done))); (focus (first | omega | (simp only []; omega))); (focus (((try clear hK) <;> (try simp only [WKe, *]) <;> repeat (first | with_reducible exact EntR.done | refine S.e ?_ | (refine S.f ?_ <;> (try simp only [WKe, hs', ↓reduceIte, reduceCtorEq, Int.reduceEq, *])) | with_reducible apply EntR.ex | refine EntR.drop (F := F) ?_ | refine EntR.drop ?_)))))
        | false =>
          rw [ho] at ek
          have hno := frameA_no (i := 0) hl (by decide) ho
          ((try simp only [WKb, ↓reduceIte, Nat.reduceEqDiff]) <;> (repeat' ((first
    | (refine G.tr ?_; first | refine S.a ?_ | refine S.t ?_ | refine Tr.brK ?_ ?_ | (refine G.call 98 ?_; refine S.c ?_ (h := wordsR_ok ?_)) | (refine G.call 53 ?_; refine S.c ?_ (h := number10_ok ?_)) | refine S.n fun _ => ?_ | refine S.i fun hix => ?_ | (refine S.g fun hb => ?_; (try simp only [hb])) | (refine S.s (fun hb => ?_) (fun hb => ?_) <;> ((try simp only [hb]) <;> (try (have hp := hb; simp only [WKs] at hp; (try have hq := Int.not_le.2 hp); (try have hq := Int.not_lt.2 hp))))))
    | rintro _ _ ⟨_, rfl, rfl⟩
    | rintro _ _ ⟨_, hi64, hnum, rfl, rfl⟩
    | ((fail_if_success refine G.tr ?_); exact G.prop S.p)
    | fail) <;> (try simp only [WKb, ↓reduceIte, Nat.reduceEqDiff, ek]))))
          all_goals
            refine fin0 _ hno ?_
            ((try clear hK) <;> (try simp only [WKe, ↓reduceIte, reduceCtorEq, Int.reduceEq, *]) <;> repeat (first | with_reducible exact EntR.done | refine S.e ?_ | (refine S.f ?_ <;> (try simp only [WKe, ↓reduceIte, reduceCtorEq, Int.reduceEq, *])) | with_reducible apply EntR.ex | refine EntR.drop (F := F) ?_ | refine EntR.drop ?_))
      · have hw := wrapSucc (k := 2) (by omega)
        have hbk := hsm 2
        have hs' : (numF (wordsS s) 2).set (Int.toNat ((2 : Nat) : Int)) (nthN (wordsS s) 2) = numF (wordsS s) (2 + 1) := rfl
        have ek : (numA (ix (wordsS s) ((2 : Nat) : Int)).d).isSome = okN (wordsS s) 2 := by unfold okN; rfl
        cases ho : okN (wordsS s) 2 with
        | true =>
          rw [ho] at ek
          have hI' : ∀ i, i + 1 < 2 + 1 → okN (wordsS s) (i + 1) = true := fun i hi => by
            by_cases hik : i + 1 < 2
            · exact hI i hik
            · have : i + 1 = 2 := by omega
              rw [this]; exact ho
          ((try simp only [WKb, ↓reduceIte, Nat.reduceEqDiff]) <;> (repeat' ((first
    | (refine G.tr ?_; first | refine S.a ?_ | refine S.t ?_ | refine Tr.brK ?_ ?_ | (refine G.call 98 ?_; refine S.c ?_ (h := wordsR_ok ?_)) | (refine G.call 53 ?_; refine S.c ?_ (h := number10_ok ?_)) | refine S.n fun _ => ?_ | refine S.i fun hix => ?_ | (refine S.g fun hb => ?_; (try simp only [hb])) | (refine S.s (fun hb => ?_) (fun hb => ?_) <;> ((try simp only [hb]) <;> (try (have hp := hb; simp only [WKs] at hp; (try have hq := Int.not_le.2 hp); (try have hq := Int.not_lt.2 hp))))))
    | rintro _ _ ⟨_, rfl, rfl⟩
    | rintro _ _ ⟨_, hi64, hnum, rfl, rfl⟩
    | ((fail_if_success refine G.tr ?_); exact G.prop S.p)
    | fail) <;> (try simp only [WKb, ↓reduceIte, Nat.reduceEqDiff, Nat.reduceAdd, hw, ek]))))
          all_goals
            have hv := nthN_val (i := 2) hnum ho
            subst hv
            (apply Tr.againE (2 + 1); (focus (simp only [WKb, ↓reduceIte, Nat.reduceEqDiff])); (focus ((try simp only [WKb, ↓reduceIte, Nat.reduceEqDiff, Nat.reduceAdd]); (all_goals ((repeat (refine cons_eq (by first | rfl | ((try clear hK) <;> first | (simp [*, hs']; done) | (simp [*, hs']; omega) | (simp [*, hs'] <;> (try split) <;> simp_all <;> omega))) ?_)); rfl)); done)); (focus (first | omega | assumption | (simp only []; omega) | (refine ⟨by omega, by assumption⟩) | (simp only []; refine ⟨by omega, by assumption⟩) | ((try simp only []); (repeat' (first | omega | assumption | apply hI' | refine And.intro ?_ ?_)); done))); (focus (first | omega | (simp only []; omega))); (focus (((try clear hK) <;> (try simp only [WKe, *]) <;> repeat (first | with_reducible exact EntR.done | refine S.e ?_ | (refine S.f ?_ <;> (try simp only [WKe, hs', ↓reduceIte, reduceCtorEq, Int.reduceEq, *])) | with_reducible apply EntR.ex | refine EntR.drop (F := F) ?_ | refine EntR.drop ?_)))))
        | false =>
          rw [ho] at ek
          have hno := frameA_no (i := 1) hl (by decide) ho
          ((try simp only [WKb, ↓reduceIte, Nat.reduceEqDiff]) <;> (repeat' ((first
    | (refine G.tr ?_; first | refine S.a ?_ | refine S.t ?_ | refine Tr.brK ?_ ?_ | (refine G.call 98 ?_; refine S.c ?_ (h := wordsR_ok ?_)) | (refine G.call 53 ?_; refine S.c ?_ (h := number10_ok ?_)) | refine S.n fun _ => ?_ | refine S.i fun hix => ?_ | (refine S.g fun hb => ?_; (try simp only [hb])) | (refine S.s (fun hb => ?_) (fun hb => ?_) <;> ((try simp only [hb]) <;> (try (have hp := hb; simp only [WKs] at hp; (try have hq := Int.not_le.2 hp); (try have hq := Int.not_lt.2 hp))))))
    | rintro _ _ ⟨_, rfl, rfl⟩
    | rintro _ _ ⟨_, hi64, hnum, rfl, rfl⟩
    | ((fail_if_success refine G.tr ?_); exact G.prop S.p)
    | fail) <;> (try simp only [WKb, ↓reduceIte, Nat.reduceEqDiff, ek]))))
          all_goals
            refine fin0 _ hno ?_
            ((try clear hK) <;> (try simp only [WKe, ↓reduceIte, reduceCtorEq, Int.reduceEq, *]) <;> repeat (first | with_reducible exact EntR.done | refine S.e ?_ | (refine S.f ?_ <;> (try simp only [WKe, ↓reduceIte, reduceCtorEq, Int.reduceEq, *])) | with_reducible apply EntR.ex | refine EntR.drop (F := F) ?_ | refine EntR.drop ?_))
      · have hw := wrapSucc (k := 3) (by omega)
        have hbk := hsm 3
        have hs' : (numF (wordsS s) 3).set (Int.toNat ((3 : Nat) : Int)) (nthN (wordsS s) 3) = numF (wordsS s) (3 + 1) := rfl
        have ek : (numA (ix (wordsS s) ((3 : Nat) : Int)).d).isSome = okN (wordsS s) 3 := by unfold okN; rfl
        cases ho : okN (wordsS s) 3 with
        | true =>
          rw [ho] at ek
          have hI' : ∀ i, i + 1 < 3 + 1 → okN (wordsS s) (i + 1) = true := fun i hi => by
            by_cases hik : i + 1 < 3
            · exact hI i hik
            · have : i + 1 = 3 := by omega
              rw [this]; exact ho
          ((try simp only [WKb, ↓reduceIte, Nat.reduceEqDiff]) <;> (repeat' ((first
    | (refine G.tr ?_; first | refine S.a ?_ | refine S.t ?_ | refine Tr.brK ?_ ?_ | (refine G.call 98 ?_; refine S.c ?_ (h := wordsR_ok ?_)) | (refine G.call 53 ?_; refine S.c ?_ (h := number10_ok ?_)) | refine S.n fun _ => ?_ | refine S.i fun hix => ?_ | (refine S.g fun hb => ?_; (try simp only [hb])) | (refine S.s (fun hb => ?_) (fun hb => ?_) <;> ((try simp only [hb]) <;> (try (have hp := hb; simp only [WKs] at hp; (try have hq := Int.not_le.2 hp); (try have hq := Int.not_lt.2 hp))))))
    | rintro _ _ ⟨_, rfl, rfl⟩
    | rintro _ _ ⟨_, hi64, hnum, rfl, rfl⟩
    | ((fail_if_success refine G.tr ?_); exact G.prop S.p)
    | fail) <;> (try simp only [WKb, ↓reduceIte, Nat.reduceEqDiff, Nat.reduceAdd, hw, ek]))))
          all_goals
            have hv := nthN_val (i := 3) hnum ho
            subst hv
            (apply Tr.againE (3 + 1); (focus (simp only [WKb, ↓reduceIte, Nat.reduceEqDiff])); (focus ((try simp only [WKb, ↓reduceIte, Nat.reduceEqDiff, Nat.reduceAdd]); (all_goals ((repeat (refine cons_eq (by first | rfl | ((try clear hK) <;> first | (simp [*, hs']; done) | (simp [*, hs']; omega) | (simp [*, hs'] <;> (try split) <;> simp_all <;> omega))) ?_)); rfl)); done)); (focus (first | omega | assumption | (simp only []; omega) | (refine ⟨by omega, by assumption⟩) | (simp only []; refine ⟨by omega, by assumption⟩) | ((try simp only []); (repeat' (first | omega | assumption | apply hI' | refine And.intro ?_ ?_)); done))); (focus (first | omega | (simp only []; omega))); (focus (((try clear hK) <;> (try simp only [WKe, *]) <;> repeat (first | with_reducible exact EntR.done | refine S.e ?_ | (refine S.f ?_ <;> (try simp only [WKe, hs', ↓reduceIte, reduceCtorEq, Int.reduceEq, *])) | with_reducible apply EntR.ex | refine EntR.drop (F := F) ?_ | refine EntR.drop ?_)))))
        | false =>
          rw [ho] at ek
          have hno := frameA_no (i := 2) hl (by decide) ho
          ((try simp only [WKb, ↓reduceIte, Nat.reduceEqDiff]) <;> (repeat' ((first
    | (refine G.tr ?_; first | refine S.a ?_ | refine S.t ?_ | refine Tr.brK ?_ ?_ | (refine G.call 98 ?_; refine S.c ?_ (h := wordsR_ok ?_)) | (refine G.call 53 ?_; refine S.c ?_ (h := number10_ok ?_)) | refine S.n fun _ => ?_ | refine S.i fun hix => ?_ | (refine S.g fun hb => ?_; (try simp only [hb])) | (refine S.s (fun hb => ?_) (fun hb => ?_) <;> ((try simp only [hb]) <;> (try (have hp := hb; simp only [WKs] at hp; (try have hq := Int.not_le.2 hp); (try have hq := Int.not_lt.2 hp))))))
    | rintro _ _ ⟨_, rfl, rfl⟩
    | rintro _ _ ⟨_, hi64, hnum, rfl, rfl⟩
    | ((fail_if_success refine G.tr ?_); exact G.prop S.p)
    | fail) <;> (try simp only [WKb, ↓reduceIte, Nat.reduceEqDiff, ek]))))
          all_goals
            refine fin0 _ hno ?_
            ((try clear hK) <;> (try simp only [WKe, ↓reduceIte, reduceCtorEq, Int.reduceEq, *]) <;> repeat (first | with_reducible exact EntR.done | refine S.e ?_ | (refine S.f ?_ <;> (try simp only [WKe, ↓reduceIte, reduceCtorEq, Int.reduceEq, *])) | with_reducible apply EntR.ex | refine EntR.drop (F := F) ?_ | refine EntR.drop ?_))
      · have hw := wrapSucc (k := 4) (by omega)
        have hbk := hsm 4
        have hs' : (numF (wordsS s) 4).set (Int.toNat ((4 : Nat) : Int)) (nthN (wordsS s) 4) = numF (wordsS s) (4 + 1) := rfl
        have ek : (numA (ix (wordsS s) ((4 : Nat) : Int)).d).isSome = okN (wordsS s) 4 := by unfold okN; rfl
        cases ho : okN (wordsS s) 4 with
        | true =>
          rw [ho] at ek
          have hI' : ∀ i, i + 1 < 4 + 1 → okN (wordsS s) (i + 1) = true := fun i hi => by
            by_cases hik : i + 1 < 4
            · exact hI i hik
            · have : i + 1 = 4 := by omega
              rw [this]; exact ho
          ((try simp only [WKb, ↓reduceIte, Nat.reduceEqDiff]) <;> (repeat' ((first
    | (refine G.tr ?_; first | refine S.a ?_ | refine S.t ?_ | refine Tr.brK ?_ ?_ | (refine G.call 98 ?_; refine S.c ?_ (h := wordsR_ok ?_)) | (refine G.call 53 ?_; refine S.c ?_ (h := number10_ok ?_)) | refine S.n fun _ => ?_ | refine S.i fun hix => ?_ | (refine S.g fun hb => ?_; (try simp only [hb])) | (refine S.s (fun hb => ?_) (fun hb => ?_) <;> ((try simp only [hb]) <;> (try (have hp := hb; simp only [WKs] at hp; (try have hq := Int.not_le.2 hp); (try have hq := Int.not_lt.2 hp))))))
    | rintro _ _ ⟨_, rfl, rfl⟩
    | rintro _ _ ⟨_, hi64, hnum, rfl, rfl⟩
    | ((fail_if_success refine G.tr ?_); exact G.prop S.p)
    | fail) <;> (try simp only [WKb, ↓reduceIte, Nat.reduceEqDiff, Nat.reduceAdd, hw, ek]))))
          all_goals
            have hv := nthN_val (i := 4) hnum ho
            subst hv
            (apply Tr.againE (4 + 1); (focus (simp only [WKb, ↓reduceIte, Nat.reduceEqDiff])); (focus ((try simp only [WKb, ↓reduceIte, Nat.reduceEqDiff, Nat.reduceAdd]); (all_goals ((repeat (refine cons_eq (by first | rfl | ((try clear hK) <;> first | (simp [*, hs']; done) | (simp [*, hs']; omega) | (simp [*, hs'] <;> (try split) <;> simp_all <;> omega))) ?_)); rfl)); done)); (focus (first | omega | assumption | (simp only []; omega) | (refine ⟨by omega, by assumption⟩) | (simp only []; refine ⟨by omega, by assumption⟩) | ((try simp only []); (repeat' (first | omega | assumption | apply hI' | refine And.intro ?_ ?_)); done))); (focus (first | omega | (simp only []; omega))); (focus (((try clear hK) <;> (try simp only [WKe, *]) <;> repeat (first | with_reducible exact EntR.done | refine S.e ?_ | (refine S.f ?_ <;> (try simp only [WKe, hs', ↓reduceIte, reduceCtorEq, Int.reduceEq, *])) | with_reducible apply EntR.ex | refine EntR.drop (F := F) ?_ | refine EntR.drop ?_)))))
        | false =>
          rw [ho] at ek
          have hno := frameA_no (i := 3) hl (by decide) ho
          ((try simp only [WKb, ↓reduceIte, Nat.reduceEqDiff]) <;> (repeat' ((first
    | (refine G.tr ?_; first | refine S.a ?_ | refine S.t ?_ | refine Tr.brK ?_ ?_ | (refine G.call 98 ?_; refine S.c ?_ (h := wordsR_ok ?_)) | (refine G.call 53 ?_; refine S.c ?_ (h := number10_ok ?_)) | refine S.n fun _ => ?_ | refine S.i fun hix => ?_ | (refine S.g fun hb => ?_; (try simp only [hb])) | (refine S.s (fun hb => ?_) (fun hb => ?_) <;> ((try simp only [hb]) <;> (try (have hp := hb; simp only [WKs] at hp; (try have hq := Int.not_le.2 hp); (try have hq := Int.not_lt.2 hp))))))
    | rintro _ _ ⟨_, rfl, rfl⟩
    | rintro _ _ ⟨_, hi64, hnum, rfl, rfl⟩
    | ((fail_if_success refine G.tr ?_); exact G.prop S.p)
    | fail) <;> (try simp only [WKb, ↓reduceIte, Nat.reduceEqDiff, ek]))))
          all_goals
            refine fin0 _ hno ?_
            ((try clear hK) <;> (try simp only [WKe, ↓reduceIte, reduceCtorEq, Int.reduceEq, *]) <;> repeat (first | with_reducible exact EntR.done | refine S.e ?_ | (refine S.f ?_ <;> (try simp only [WKe, ↓reduceIte, reduceCtorEq, Int.reduceEq, *])) | with_reducible apply EntR.ex | refine EntR.drop (F := F) ?_ | refine EntR.drop ?_))
      · have hE := frameA_yes hl h0 fun i hi => hI i (by omega)
        have q1 : ix (numF (wordsS s) 5) 1 = nthN (wordsS s) 1 := rfl
        have q2 : ix (numF (wordsS s) 5) 2 = nthN (wordsS s) 2 := rfl
        have q3 : ix (numF (wordsS s) 5) 3 = nthN (wordsS s) 3 := rfl
        have q4 : ix (numF (wordsS s) 5) 4 = nthN (wordsS s) 4 := rfl
        ((try simp only [WKb, ↓reduceIte, Nat.reduceEqDiff]) <;> (repeat' ((first
    | (refine G.tr ?_; first | refine S.a ?_ | refine S.t ?_ | refine Tr.brK ?_ ?_ | (refine G.call 98 ?_; refine S.c ?_ (h := wordsR_ok ?_)) | (refine G.call 53 ?_; refine S.c ?_ (h := number10_ok ?_)) | refine S.n fun _ => ?_ | refine S.i fun hix => ?_ | (refine S.g fun hb => ?_; (try simp only [hb])) | (refine S.s (fun hb => ?_) (fun hb => ?_) <;> ((try simp only [hb]) <;> (try (have hp := hb; simp only [WKs] at hp; (try have hq := Int.not_le.2 hp); (try have hq := Int.not_lt.2 hp))))))
    | rintro _ _ ⟨_, rfl, rfl⟩
    | rintro _ _ ⟨_, hi64, hnum, rfl, rfl⟩
    | ((fail_if_success refine G.tr ?_); exact G.prop S.p)
    | fail) <;> (try simp only [WKb, WKh, ↓reduceIte, Nat.reduceEqDiff, Nat.reduceAdd, pl73, q1, q2, q3, q4]))))
        all_goals
          refine Tr.fin hK ⟨_, fun x hx => Option.some.inj (hE.symm.trans hx), by rw [hE]; rfl, rfl⟩ ?_
          ((try clear hK) <;> (try simp only [WKe, *]) <;> repeat (first | with_reducible exact EntR.done | refine S.e ?_ | (refine S.f ?_ <;> (try simp only [WKe, ↓reduceIte, reduceCtorEq, Int.reduceEq, *])) | with_reducible apply EntR.ex | refine EntR.drop (F := F) ?_ | refine EntR.drop ?_))
    · have hd : decide ((ix (wordsS s) 0).d = [102, 114, 97, 109, 101]) = false := decide_eq_false h0
      have hno := frameA_word h0
      ((try simp only [WKb, WKt]) <;> (repeat' ((first
    | (refine G.tr ?_; first | refine S.a ?_ | refine S.t ?_ | refine Tr.brK ?_ ?_ | (refine G.call 98 ?_; refine S.c ?_ (h := wordsR_ok ?_)) | (refine G.call 53 ?_; refine S.c ?_ (h := number10_ok ?_)) | refine S.n fun _ => ?_ | refine S.i fun hix => ?_ | (refine S.g fun hb => ?_; (try simp only [hb])) | (refine S.s (fun hb => ?_) (fun hb => ?_) <;> ((try simp only [hb]) <;> (try (have hp := hb; simp only [WKs] at hp; (try have hq := Int.not_le.2 hp); (try have hq := Int.not_lt.2 hp))))))
    | rintro _ _ ⟨_, rfl, rfl⟩
    | rintro _ _ ⟨_, hi64, hnum, rfl, rfl⟩
    | ((fail_if_success refine G.tr ?_); exact G.prop S.p)
    | fail) <;> (try simp only [WKb, WKh, ↓reduceIte, Nat.reduceEqDiff, hl, hd]))))
      all_goals
        refine fin0 _ hno ?_
        ((try clear hK) <;> (try simp only [WKe, ↓reduceIte, reduceCtorEq, Int.reduceEq, *]) <;> repeat (first | with_reducible exact EntR.done | refine S.e ?_ | (refine S.f ?_ <;> (try simp only [WKe, ↓reduceIte, reduceCtorEq, Int.reduceEq, *])) | with_reducible apply EntR.ex | refine EntR.drop (F := F) ?_ | refine EntR.drop ?_))
  · have hno := frameA_len hl
    have hl' : ¬ ((wordsS s).length : Int) = 5 := by omega
    ((try simp only [WKb, WKt]) <;> (repeat' ((first
    | (refine G.tr ?_; first | refine S.a ?_ | refine S.t ?_ | refine Tr.brK ?_ ?_ | (refine G.call 98 ?_; refine S.c ?_ (h := wordsR_ok ?_)) | (refine G.call 53 ?_; refine S.c ?_ (h := number10_ok ?_)) | refine S.n fun _ => ?_ | refine S.i fun hix => ?_ | (refine S.g fun hb => ?_; (try simp only [hb])) | (refine S.s (fun hb => ?_) (fun hb => ?_) <;> ((try simp only [hb]) <;> (try (have hp := hb; simp only [WKs] at hp; (try have hq := Int.not_le.2 hp); (try have hq := Int.not_lt.2 hp))))))
    | rintro _ _ ⟨_, rfl, rfl⟩
    | rintro _ _ ⟨_, hi64, hnum, rfl, rfl⟩
    | ((fail_if_success refine G.tr ?_); exact G.prop S.p)
    | fail) <;> (try simp only [WKb, ↓reduceIte, Nat.reduceEqDiff]))))
    all_goals
      refine fin0 _ hno ?_
      ((try clear hK) <;> (try simp only [WKe, ↓reduceIte, reduceCtorEq, Int.reduceEq, *]) <;> repeat (first | with_reducible exact EntR.done | refine S.e ?_ | (refine S.f ?_ <;> (try simp only [WKe, ↓reduceIte, reduceCtorEq, Int.reduceEq, *])) | with_reducible apply EntR.ex | refine EntR.drop (F := F) ?_ | refine EntR.drop ?_))

end Go.Proofs.YtgkhjgpgdfbdpaaDoor
