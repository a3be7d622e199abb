import Derived.Test.YtgkhjgpgdfbdpaaDoorXH
namespace Go.Proofs.YtgkhjgpgdfbdpaaDoor
open Go Go.Wk
set_option maxHeartbeats 6400000
set_option maxRecDepth 100000

abbrev rdB (b : Nat) (s : SV) (bad : Bool) : Asrt := blk b (.cells [s.v, .bool bad].toArray 222 (0, 0))
theorem numA_nil : numA [] = none := numA_none.2 fun n _ h => decA_ne n h
theorem ix_nil0 : (ix ([] : List Str) 0).d = [] := rfl
/-- A call's words: its number, and what stands behind. -/
noncomputable def callA (ws : List Str) : Option Int × List Str :=
  if (ix ws 0).d = [99, 97, 108, 108] then ((match numA (ix (ws.drop 1) 0).d with
    | some n => if isA n then none else some n
    | none => none), (ws.drop 1).drop 1)
  else (if numberA (ix ws 0).d = 0 then none else some (numberA (ix ws 0).d), ws.drop 1)
attribute [local irreducible] BrK GenK EGenK EUnitK CallK FnK CallV GuardO GuardC CondW opX opK opKc chkR eqR seqK blkK endL WL WD W LoopW BinK Tr drewK resL PickK NotK NilK ExtrK getK Instr.storeAt Instr.loadAt Instr.fieldAt Instr.indexAt Instr.lookup Instr.mapUpdate Instr.box Instr.alloc Instr.build Instr.buildSlice Instr.makeSlice Instr.makeMap Instr.sliceAt Instr.field Instr.index Instr.makeInterface Instr.typeAssert Builtin.len_ Builtin.append_ Builtin.cap_ Builtin.min_ Builtin.max_ Builtin.copy_ Builtin.clear_ convert binOp mp blk rob sl sep ex fact old
attribute [local irreducible] NegK mxV
theorem next_ok {b : Nat} {s : SV} {bad : Bool} {ws : List Str} : Trip Tryd.prog 177 [.pointer (some ⟨b, 0, none⟩)].toArray [rdB b s bad, sl true s.v ws]
    fun v l' => ∃ s2 : SV, v = .string (bstr (ix ws 0).d) ∧ l' = [rdB b s2 (bad || decide (ws = [])), sl true s2.v (ws.drop 1)] := by
  intro F K hK
  simp only [List.cons_append, List.nil_append]
  (refine Tr.enter (rs := [.tmp 2]) mixed fn177 rfl (by simp +arith [Tryd.ntmps177]) fun u => ?_; simp only [cd177, Tryd.f177])
  by_cases h : ws = []
  · subst h
    ((try simp only [WKb, ↓reduceIte, Nat.reduceEqDiff, WKt]) <;> (repeat' ((first
    | (refine G.tr ?_; first | refine S.a ?_ | refine S.t ?_ | refine Tr.brK ?_ ?_ | refine S.n fun _ => ?_ | refine S.i fun hix => ?_ | (refine S.g fun hb => ?_; (try simp only [hb])) | (refine S.s (fun hb => ?_) (fun hb => ?_) <;> ((try simp only [hb]) <;> (try (have hp := hb; simp only [WKs] at hp; (try have hq := Int.not_le.2 hp); (try have hq := Int.not_lt.2 hp))))))
    | ((fail_if_success refine G.tr ?_); exact G.prop S.p)
    | fail) <;> (try simp only [WKb, ↓reduceIte, Nat.reduceEqDiff, Nat.reduceAdd]))))
    all_goals
      apply Tr.fin hK ⟨_, rfl, rfl⟩
      ((try clear hK) <;> (try simp only [WKe, *]) <;> repeat (first | with_reducible exact EntR.done | refine S.e ?_ | (refine S.f ?_ <;> (try simp only [WKe, ↓reduceIte, reduceCtorEq, Int.reduceEq, *])) | with_reducible apply EntR.ex | refine EntR.drop (F := F) ?_ | refine EntR.drop ?_))
  · have hl : 0 < ws.length := List.length_pos_iff.2 h
    have hd : decide ((ws.length : Int) = 0) = false := by simp; omega
    have hw : decide (ws = []) = false := decide_eq_false h
    ((try simp only [WKb, ↓reduceIte, Nat.reduceEqDiff, WKt]) <;> (repeat' ((first
    | (refine G.tr ?_; first | refine S.a ?_ | refine S.t ?_ | refine Tr.brK ?_ ?_ | refine S.n fun _ => ?_ | refine S.i fun hix => ?_ | (refine S.g fun hb => ?_; (try simp only [hb])) | (refine S.s (fun hb => ?_) (fun hb => ?_) <;> ((try simp only [hb]) <;> (try (have hp := hb; simp only [WKs] at hp; (try have hq := Int.not_le.2 hp); (try have hq := Int.not_lt.2 hp))))))
    | ((fail_if_success refine G.tr ?_); exact G.prop S.p)
    | fail) <;> (try simp only [WKb, ↓reduceIte, Nat.reduceEqDiff, hd]))))
    all_goals
      apply Tr.fin hK ⟨_, rfl, rfl⟩
      ((try clear hK) <;> (try simp only [WKe, *]) <;> repeat (first | with_reducible exact EntR.done | refine S.e ?_ | (refine S.f ?_ <;> (try simp only [WKe, hw, ↓reduceIte, reduceCtorEq, Int.reduceEq, *])) | with_reducible apply EntR.ex | refine EntR.drop (F := F) ?_ | refine EntR.drop ?_))

theorem wnumber_ok {b : Nat} {s : SV} {bad : Bool} {ws : List Str} (hb : (ix ws 0).d.length ≤ 1000000) : Trip Tryd.prog 139 [.pointer (some ⟨b, 0, none⟩)].toArray [rdB b s bad, sl true s.v ws]
    fun v l' => ∃ (s2 : SV) (n : Int), I64 n ∧ (∀ m, numA (ix ws 0).d = some m → n = m) ∧ v = .int .i64 n ∧ l' = [rdB b s2 (bad || !(numA (ix ws 0).d).isSome), sl true s2.v (ws.drop 1)] := by
  intro F K hK
  simp only [List.cons_append, List.nil_append]
  have hx : (bad || !(numA (ix ws 0).d).isSome) = (if bad = true ∨ ws = [] then true else !(numA (ix ws 0).d).isSome) := by
    by_cases h : ws = []
    · subst h; simp [ix_nil0, numA_nil]
    · cases bad <;> simp [h]
  (refine Tr.enter (rs := [.tmp 2]) mixed fn139 rfl (by simp +arith [Tryd.ntmps139]) fun u => ?_; simp only [cd139, Tryd.f139])
  ((try simp only [WKb, ↓reduceIte, Nat.reduceEqDiff]) <;> (repeat' ((first
    | (refine G.tr ?_; first | refine S.a ?_ | refine S.t ?_ | refine Tr.brK ?_ ?_ | (refine G.call 177 ?_; refine S.c ?_ (h := next_ok)) | (refine G.call 176 ?_; refine S.c ?_ (h := number_ok ?_)) | refine S.n fun _ => ?_ | refine S.i fun hix => ?_ | (refine S.g fun hb => ?_; (try simp only [hb])) | (refine S.s (fun hb => ?_) (fun hb => ?_) <;> ((try simp only [hb]) <;> (try (have hp := hb; simp only [WKs] at hp; (try have hq := Int.not_le.2 hp); (try have hq := Int.not_lt.2 hp))))))
    | rintro _ _ ⟨_, rfl, rfl⟩
    | rintro _ _ ⟨_, hi64, hnum, rfl, rfl⟩
    | ((fail_if_success refine G.tr ?_); exact G.prop S.p)
    | fail) <;> (try simp only [WKb, ↓reduceIte, Nat.reduceEqDiff, Nat.reduceAdd]))))
  all_goals
    apply Tr.fin hK ⟨_, _, hi64, hnum, rfl, rfl⟩
    ((try clear hK) <;> (try simp only [WKe, ↓reduceIte, *]) <;> repeat (first | with_reducible exact EntR.done | refine S.e ?_ | (refine S.f ?_ <;> (try simp only [WKe, hx, hp, ↓reduceIte, reduceCtorEq, Int.reduceEq, *])) | with_reducible apply EntR.ex | refine EntR.drop (F := F) ?_ | refine EntR.drop ?_))

theorem wcall_ok {b : Nat} {s : SV} {bad : Bool} {ws : List Str} (hb1 : (ix (ws.drop 1) 0).d.length ≤ 1000000) : Trip Tryd.prog 140 [.pointer (some ⟨b, 0, none⟩)].toArray [rdB b s bad, sl true s.v ws]
    fun v l' => ∃ (s2 : SV) (n : Int), I64 n ∧ (∀ m, (callA ws).1 = some m → n = m) ∧ v = .int .i64 n ∧ l' = [rdB b s2 (bad || !(callA ws).1.isSome), sl true s2.v (callA ws).2] := by
  intro F K hK
  simp only [List.cons_append, List.nil_append]
  (refine Tr.enter (rs := [.tmp 2]) mixed fn140 rfl (by simp +arith [Tryd.ntmps140]) fun u => ?_; simp only [cd140, Tryd.f140])
  by_cases hc : (ix ws 0).d = [99, 97, 108, 108]
  · have hne : ws ≠ [] := fun h => by subst h; rw [ix_nil0] at hc; cases hc
    have hd : decide (ws = []) = false := decide_eq_false hne
    have hcs : callA ws = ((match numA (ix (ws.drop 1) 0).d with
      | some n => if isA n then none else some n
      | none => none), (ws.drop 1).drop 1) := if_pos hc
    have hcd : decide ((ix ws 0).d = [99, 97, 108, 108]) = true := decide_eq_true hc
    ((try simp only [WKb, ↓reduceIte, Nat.reduceEqDiff, WKt]) <;> (repeat' ((first
    | (refine G.tr ?_; first | refine S.a ?_ | refine S.t ?_ | refine Tr.brK ?_ ?_ | (refine G.call 177 ?_; refine S.c ?_ (h := next_ok)) | (refine G.call 139 ?_; refine S.c ?_ (h := wnumber_ok ?_)) | (refine G.call 54 ?_; refine S.c ?_ (h := is_ok)) | (refine G.call 50 ?_; refine S.c ?_ (h := number_of_ok)) | refine S.n fun _ => ?_ | refine S.i fun hix => ?_ | (refine S.g fun hb => ?_; (try simp only [hb])) | (refine S.s (fun hb => ?_) (fun hb => ?_) <;> ((try simp only [hb]) <;> (try (have hp := hb; simp only [WKs] at hp; (try have hq := Int.not_le.2 hp); (try have hq := Int.not_lt.2 hp))))))
    | rintro _ _ ⟨rfl, rfl⟩
    | rintro _ _ ⟨_, rfl, rfl⟩
    | rintro _ _ ⟨_, _, hi64, hnum, rfl, rfl⟩
    | ((fail_if_success refine G.tr ?_); exact G.prop S.p)
    | fail) <;> (try simp only [WKb, WKh, ↓reduceIte, Nat.reduceEqDiff, Nat.reduceAdd, hcd, hd]))))
    all_goals
      rename_i s2 n
      have hn : ∀ m, (callA ws).1 = some m → n = m := fun m hm => by
        rw [hcs] at hm
        simp only at hm
        split at hm
        · rename_i j hj
          split at hm
          · cases hm
          · exact (hnum _ hj).trans (Option.some.inj hm)
        · cases hm
      have hx : (bad || !(callA ws).1.isSome) = (if bad = true ∨ (numA (ix (ws.drop 1) 0).d).isSome = false then true else decide (isA n)) := by
        rw [hcs]
        simp only
        cases hj : numA (ix (ws.drop 1) 0).d with
        | none => simp
        | some j =>
          have := hnum _ hj
          subst this
          cases bad <;> by_cases hi : isA n <;> simp [hi]
      have h2 : (callA ws).2 = (ws.drop 1).drop 1 := by rw [hcs]
      first
        | have hx2 : (bad || !(callA ws).1.isSome) = true := by rw [hx, if_pos (by simpa using hp)]
        | have hx2 : (bad || !(callA ws).1.isSome) = decide (isA n) := by
            rw [hx, if_neg (fun h => by (try simp at hp); simp [hp.1, hp.2] at h)]
      clear hcs hx hp hb
      apply Tr.fin hK ⟨_, _, hi64, hn, rfl, rfl⟩
      ((try clear hK) <;> (try simp only [WKe, *]) <;> repeat (first | with_reducible exact EntR.done | refine S.e ?_ | (refine S.f ?_ <;> (try simp only [WKe, hx2, h2, ↓reduceIte, reduceCtorEq, Int.reduceEq, *])) | with_reducible apply EntR.ex | refine EntR.drop (F := F) ?_ | refine EntR.drop ?_))
  · have hcs : callA ws = (if numberA (ix ws 0).d = 0 then none else some (numberA (ix ws 0).d), ws.drop 1) := if_neg hc
    have hcd : decide ((ix ws 0).d = [99, 97, 108, 108]) = false := decide_eq_false hc
    have hi : I64 (numberA (ix ws 0).d) := by
      rcases numberA_spec (ix ws 0).d with ⟨h, _⟩ | ⟨h, _⟩
      · rw [h]; unfold I64; omega
      · have := h.1; have := h.2; unfold I64; omega
    have hn : ∀ m, (callA ws).1 = some m → numberA (ix ws 0).d = m := fun m hm => by
      rw [hcs] at hm
      simp only at hm
      split at hm
      · cases hm
      · exact Option.some.inj hm
    have h2 : (callA ws).2 = ws.drop 1 := by rw [hcs]
    have hz : ws = [] → numberA (ix ws 0).d = 0 := fun h => by
      subst h
      rw [ix_nil0]
      exact numberA_zero fun k hk => name_ne hk
    have hx : (bad || !(callA ws).1.isSome) = (if bad = true ∨ ws = [] then true else decide (numberA (ix ws 0).d = 0)) := by
      rw [hcs]
      simp only
      by_cases h : ws = []
      · rw [if_pos (show bad = true ∨ ws = [] from .inr h), if_pos (hz h)]; simp
      · by_cases h0 : numberA (ix ws 0).d = 0
        · rw [if_pos h0]; simp [h0]
        · rw [if_neg h0]; cases bad <;> simp [h, h0]
    ((try simp only [WKb, ↓reduceIte, Nat.reduceEqDiff, WKt]) <;> (repeat' ((first
    | (refine G.tr ?_; first | refine S.a ?_ | refine S.t ?_ | refine Tr.brK ?_ ?_ | (refine G.call 177 ?_; refine S.c ?_ (h := next_ok)) | (refine G.call 139 ?_; refine S.c ?_ (h := wnumber_ok ?_)) | (refine G.call 54 ?_; refine S.c ?_ (h := is_ok)) | (refine G.call 50 ?_; refine S.c ?_ (h := number_of_ok)) | refine S.n fun _ => ?_ | refine S.i fun hix => ?_ | (refine S.g fun hb => ?_; (try simp only [hb])) | (refine S.s (fun hb => ?_) (fun hb => ?_) <;> ((try simp only [hb]) <;> (try (have hp := hb; simp only [WKs] at hp; (try have hq := Int.not_le.2 hp); (try have hq := Int.not_lt.2 hp))))))
    | rintro _ _ ⟨rfl, rfl⟩
    | rintro _ _ ⟨_, rfl, rfl⟩
    | rintro _ _ ⟨_, _, hi64, hnum, rfl, rfl⟩
    | ((fail_if_success refine G.tr ?_); exact G.prop S.p)
    | fail) <;> (try simp only [WKb, WKh, ↓reduceIte, Nat.reduceEqDiff, Nat.reduceAdd, hcd]))))
    all_goals
      first
        | have hx2 : (bad || !(callA ws).1.isSome) = true := by rw [hx, if_pos (by simpa using hp)]
        | have hx2 : (bad || !(callA ws).1.isSome) = decide (numberA (ix ws 0).d = 0) := by
            rw [hx, if_neg (fun h => by (try simp at hp); simp [hp.1, hp.2] at h)]
      clear hcs hx hp hb
      apply Tr.fin hK ⟨_, _, hi, hn, rfl, rfl⟩
      ((try clear hK) <;> (try simp only [WKe, *]) <;> repeat (first | with_reducible exact EntR.done | refine S.e ?_ | (refine S.f ?_ <;> (try simp only [WKe, hx2, h2, ↓reduceIte, reduceCtorEq, Int.reduceEq, *])) | with_reducible apply EntR.ex | refine EntR.drop (F := F) ?_ | refine EntR.drop ?_))

end Go.Proofs.YtgkhjgpgdfbdpaaDoor
