import Derived.Test.YtgkhjgpgdfbdpaaGreatDoorUmx
namespace Go.Proofs.YtgkhjgpgdfbdpaaGreatDoor
open Go Go.Wk
set_option maxHeartbeats 6400000
set_option maxRecDepth 100000

/-! ### the reader's own functions -/
abbrev rdC (b : Nat) (t : List UInt8) (a : Int) (d : Bool) : Asrt := blk b (.cells [.string (bstr t), .int .i64 a, .bool d].toArray 81 (0, 0))
theorem cut_le (t : List UInt8) : (cutA 10 t).1.length ≤ t.length ∧ (cutA 10 t).2.1.length ≤ t.length ∧ ((cutA 10 t).2.2 = true → (cutA 10 t).2.1.length + 1 ≤ t.length) := by
  by_cases hm : (10 : UInt8) ∈ t
  · obtain ⟨a, b, rfl, ha⟩ := List.eq_append_cons_of_mem hm
    rw [cutA_hit ha]
    refine ⟨by simp, by simp; omega, fun _ => by simp⟩
  · rw [cutA_miss hm]
    exact ⟨Nat.le_refl _, Nat.zero_le _, fun h => by cases h⟩
theorem peek_is {t w : List UInt8} {a : Int} {d : Bool} : peekU ⟨t, a, d⟩ w = match wordsU (cutA 10 t).1 with
    | some (v, l) => if (cutA 10 t).2.2 = true ∧ v = w ∧ d = false then some l else none
    | none => none := rfl
theorem ucut_ok {s : List UInt8} {m : Int} (hs : s.length ≤ 4294967280) : Trip Tryz.prog 103 [.string (bstr s), .string (bstr [10])].toArray [mxB m] fun v l' => v = .tuple #[.string (bstr (cutA 10 s).1), .string (bstr (cutA 10 s).2.1), .bool (cutA 10 s).2.2] ∧ l' = [] := trip_cut Tryz.strings_Cut hs


attribute [local irreducible] BrK GenK EGenK EUnitK CallK FnK CallV GuardO GuardC CondW opX opK opKc chkR eqR seqK blkK endL WL WD W LoopW BinK Tr drewK resL PickK NotK NilK ExtrK getK Instr.storeAt Instr.loadAt Instr.fieldAt Instr.indexAt Instr.lookup Instr.mapUpdate Instr.box Instr.alloc Instr.build Instr.buildSlice Instr.makeSlice Instr.makeMap Instr.sliceAt Instr.field Instr.index Instr.makeInterface Instr.typeAssert Builtin.len_ Builtin.append_ Builtin.cap_ Builtin.min_ Builtin.max_ Builtin.copy_ Builtin.clear_ convert binOp mp blk rob sl sep ex fact old
attribute [local irreducible] NegK mxV
theorem upeek_ok {b : Nat} {t w : List UInt8} {a : Int} {d : Bool} {m : Int} (ht : t.length ≤ 100000) : Trip Tryz.prog 77 [.pointer (some ⟨b, 0, none⟩), .string (bstr w)].toArray [mxB m, rdC b t a d]
    fun v l' => ∃ (s : SV) (l : List Int), (∀ q, peekU ⟨t, a, d⟩ w = some q → l = q) ∧ v = .tuple #[s.v, .bool (peekU ⟨t, a, d⟩ w).isSome] ∧ l' = [sl false s.v l, rdC b t a d] := by
  intro F K hK
  simp only [List.cons_append, List.nil_append]
  have hcl := (cut_le t).1
  (refine Tr.enter (rs := [.tmp 4, .tmp 5]) mixed fn77 rfl (by simp +arith [Tryz.ntmps77]) fun u => ?_; simp only [cd77, Tryz.f77])
  cases hW : wordsU (cutA 10 t).1 with
  | none =>
    have hpk : peekU ⟨t, a, d⟩ w = none := by rw [peek_is, hW]
    have hv : wordsV (cutA 10 t).1 = ([], [], false) := by unfold wordsV; rw [hW]
    ((try simp only [WKb, ↓reduceIte, Nat.reduceEqDiff, Nat.reduceAdd, WKt]) <;> (repeat' ((first
    | (refine G.tr ?_; first | refine S.a ?_ | refine S.t ?_ | refine Tr.brK ?_ ?_ | (refine G.call 103 ?_; refine S.c ?_ (h := ucut_ok ?_)) | (refine G.call 9 ?_; refine S.c ?_ (h := uwords_ok ?_)) | refine S.n fun _ => ?_ | refine S.i fun hix => ?_ | (refine S.g fun hb => ?_; (try simp only [hb])) | (refine S.s (fun hb => ?_) (fun hb => ?_) <;> ((try simp only [hb]) <;> (try (have hp := hb; simp only [WKs] at hp; (try have hq := Int.not_le.2 hp); (try have hq := Int.not_lt.2 hp))))))
    | rintro _ _ ⟨rfl, rfl⟩
    | rintro _ _ ⟨_, rfl, rfl⟩
    | ((fail_if_success refine G.tr ?_); exact G.prop S.p)
    | fail) <;> (try simp only [WKb, ↓reduceIte, Nat.reduceEqDiff, pl77, hv]))))
    all_goals
      refine Tr.fin hK ⟨_, [], fun q hq => (by rw [hpk] at hq; cases hq), by rw [hpk]; rfl, rfl⟩ ?_
      ((try clear hK) <;> (try simp only [WKe, *]) <;> repeat (first | with_reducible exact EntR.done | refine S.e ?_ | (refine S.f ?_ <;> (try simp only [WKe, ↓reduceIte, reduceCtorEq, Int.reduceEq, *])) | with_reducible apply EntR.ex | refine EntR.drop (F := F) ?_ | refine EntR.drop ?_))
  | some x =>
    obtain ⟨x, l0⟩ := x
    have hv : wordsV (cutA 10 t).1 = (x, l0, true) := by unfold wordsV; rw [hW]
    by_cases hc : (cutA 10 t).2.2 = true ∧ x = w ∧ d = false
    · obtain ⟨he, rfl, rfl⟩ := hc
      have hpk : peekU ⟨t, a, false⟩ x = some l0 := by rw [peek_is, hW]; exact if_pos ⟨he, rfl, rfl⟩
      ((try simp only [WKb, ↓reduceIte, Nat.reduceEqDiff, Nat.reduceAdd, WKt]) <;> (repeat' ((first
    | (refine G.tr ?_; first | refine S.a ?_ | refine S.t ?_ | refine Tr.brK ?_ ?_ | (refine G.call 103 ?_; refine S.c ?_ (h := ucut_ok ?_)) | (refine G.call 9 ?_; refine S.c ?_ (h := uwords_ok ?_)) | refine S.n fun _ => ?_ | refine S.i fun hix => ?_ | (refine S.g fun hb => ?_; (try simp only [hb])) | (refine S.s (fun hb => ?_) (fun hb => ?_) <;> ((try simp only [hb]) <;> (try (have hp := hb; simp only [WKs] at hp; (try have hq := Int.not_le.2 hp); (try have hq := Int.not_lt.2 hp))))))
    | rintro _ _ ⟨rfl, rfl⟩
    | rintro _ _ ⟨_, rfl, rfl⟩
    | ((fail_if_success refine G.tr ?_); exact G.prop S.p)
    | fail) <;> (try simp only [WKb, WKh, ↓reduceIte, Nat.reduceEqDiff, pl77, hv, he]))))
      all_goals
        refine Tr.fin hK ⟨_, l0, fun q hq => (by rw [hpk] at hq; exact Option.some.inj hq), by rw [hpk]; rfl, rfl⟩ ?_
        ((try clear hK) <;> (try simp only [WKe, *]) <;> repeat (first | with_reducible exact EntR.done | refine S.e ?_ | (refine S.f ?_ <;> (try simp only [WKe, ↓reduceIte, reduceCtorEq, Int.reduceEq, *])) | with_reducible apply EntR.ex | refine EntR.drop (F := F) ?_ | refine EntR.drop ?_))
    · have hpk : peekU ⟨t, a, d⟩ w = none := by rw [peek_is, hW]; exact if_neg hc
      cases he : (cutA 10 t).2.2 with
      | false =>
        ((try simp only [WKb, ↓reduceIte, Nat.reduceEqDiff, Nat.reduceAdd, WKt]) <;> (repeat' ((first
    | (refine G.tr ?_; first | refine S.a ?_ | refine S.t ?_ | refine Tr.brK ?_ ?_ | (refine G.call 103 ?_; refine S.c ?_ (h := ucut_ok ?_)) | (refine G.call 9 ?_; refine S.c ?_ (h := uwords_ok ?_)) | refine S.n fun _ => ?_ | refine S.i fun hix => ?_ | (refine S.g fun hb => ?_; (try simp only [hb])) | (refine S.s (fun hb => ?_) (fun hb => ?_) <;> ((try simp only [hb]) <;> (try (have hp := hb; simp only [WKs] at hp; (try have hq := Int.not_le.2 hp); (try have hq := Int.not_lt.2 hp))))))
    | rintro _ _ ⟨rfl, rfl⟩
    | rintro _ _ ⟨_, rfl, rfl⟩
    | ((fail_if_success refine G.tr ?_); exact G.prop S.p)
    | fail) <;> (try simp only [WKb, ↓reduceIte, Nat.reduceEqDiff, pl77, hv, he]))))
        all_goals
          refine Tr.fin hK ⟨_, l0, fun q hq => (by rw [hpk] at hq; cases hq), by rw [hpk]; rfl, rfl⟩ ?_
          ((try clear hK) <;> (try simp only [WKe, *]) <;> repeat (first | with_reducible exact EntR.done | refine S.e ?_ | (refine S.f ?_ <;> (try simp only [WKe, ↓reduceIte, reduceCtorEq, Int.reduceEq, *])) | with_reducible apply EntR.ex | refine EntR.drop (F := F) ?_ | refine EntR.drop ?_))
      | true =>
        by_cases hxw : x = w
        · subst hxw
          cases d with
          | false => exact absurd ⟨he, rfl, rfl⟩ hc
          | true =>
            ((try simp only [WKb, ↓reduceIte, Nat.reduceEqDiff, Nat.reduceAdd, WKt]) <;> (repeat' ((first
    | (refine G.tr ?_; first | refine S.a ?_ | refine S.t ?_ | refine Tr.brK ?_ ?_ | (refine G.call 103 ?_; refine S.c ?_ (h := ucut_ok ?_)) | (refine G.call 9 ?_; refine S.c ?_ (h := uwords_ok ?_)) | refine S.n fun _ => ?_ | refine S.i fun hix => ?_ | (refine S.g fun hb => ?_; (try simp only [hb])) | (refine S.s (fun hb => ?_) (fun hb => ?_) <;> ((try simp only [hb]) <;> (try (have hp := hb; simp only [WKs] at hp; (try have hq := Int.not_le.2 hp); (try have hq := Int.not_lt.2 hp))))))
    | rintro _ _ ⟨rfl, rfl⟩
    | rintro _ _ ⟨_, rfl, rfl⟩
    | ((fail_if_success refine G.tr ?_); exact G.prop S.p)
    | fail) <;> (try simp only [WKb, WKh, ↓reduceIte, Nat.reduceEqDiff, pl77, hv, he]))))
            all_goals
              refine Tr.fin hK ⟨_, l0, fun q hq => (by rw [hpk] at hq; cases hq), by rw [hpk]; rfl, rfl⟩ ?_
              ((try clear hK) <;> (try simp only [WKe, *]) <;> repeat (first | with_reducible exact EntR.done | refine S.e ?_ | (refine S.f ?_ <;> (try simp only [WKe, ↓reduceIte, reduceCtorEq, Int.reduceEq, *])) | with_reducible apply EntR.ex | refine EntR.drop (F := F) ?_ | refine EntR.drop ?_))
        · have hd : decide (x = w) = false := decide_eq_false hxw
          ((try simp only [WKb, ↓reduceIte, Nat.reduceEqDiff, Nat.reduceAdd, WKt]) <;> (repeat' ((first
    | (refine G.tr ?_; first | refine S.a ?_ | refine S.t ?_ | refine Tr.brK ?_ ?_ | (refine G.call 103 ?_; refine S.c ?_ (h := ucut_ok ?_)) | (refine G.call 9 ?_; refine S.c ?_ (h := uwords_ok ?_)) | refine S.n fun _ => ?_ | refine S.i fun hix => ?_ | (refine S.g fun hb => ?_; (try simp only [hb])) | (refine S.s (fun hb => ?_) (fun hb => ?_) <;> ((try simp only [hb]) <;> (try (have hp := hb; simp only [WKs] at hp; (try have hq := Int.not_le.2 hp); (try have hq := Int.not_lt.2 hp))))))
    | rintro _ _ ⟨rfl, rfl⟩
    | rintro _ _ ⟨_, rfl, rfl⟩
    | ((fail_if_success refine G.tr ?_); exact G.prop S.p)
    | fail) <;> (try simp only [WKb, WKh, ↓reduceIte, Nat.reduceEqDiff, pl77, hv, he, hd]))))
          all_goals
            refine Tr.fin hK ⟨_, l0, fun q hq => (by rw [hpk] at hq; cases hq), by rw [hpk]; rfl, rfl⟩ ?_
            ((try clear hK) <;> (try simp only [WKe, *]) <;> repeat (first | with_reducible exact EntR.done | refine S.e ?_ | (refine S.f ?_ <;> (try simp only [WKe, ↓reduceIte, reduceCtorEq, Int.reduceEq, *])) | with_reducible apply EntR.ex | refine EntR.drop (F := F) ?_ | refine EntR.drop ?_))

theorem upeekS_ok {b : Nat} {t w : List UInt8} {a : Int} {d : Bool} {m : Int} {q : List Int} (hq : peekU ⟨t, a, d⟩ w = some q) (ht : t.length ≤ 100000) : Trip Tryz.prog 77 [.pointer (some ⟨b, 0, none⟩), .string (bstr w)].toArray [mxB m, rdC b t a d]
    fun v l' => ∃ s : SV, v = .tuple #[s.v, .bool true] ∧ l' = [sl false s.v q, rdC b t a d] :=
  (upeek_ok ht).mono fun v l' ⟨s, l, h, hv, hl⟩ => by
    rw [hq] at hv
    rw [h q hq] at hl
    exact ⟨s, hv, hl⟩
theorem unext_ok {b : Nat} {t : List UInt8} {a : Int} {d : Bool} {m : Int} (ht : t.length ≤ 100000) (ha : 0 ≤ a ∧ a ≤ 100000) : Trip Tryz.prog 93 [.pointer (some ⟨b, 0, none⟩)].toArray [mxB m, rdC b t a d]
    fun v l' => v = .tuple #[] ∧ l' = [rdC b (cutA 10 t).2.1 (a + 1) d] := by
  intro F K hK
  simp only [List.cons_append, List.nil_append]
  have hw : IntKind.i64.wrap (a + 1) = a + 1 := wrapId (by omega) (by omega)
  (refine Tr.enter (rs := []) mixed fn93 rfl (by simp +arith [Tryz.ntmps93]) fun u => ?_; simp only [cd93, Tryz.f93])
  ((try simp only [WKb, ↓reduceIte, Nat.reduceEqDiff, WKt]) <;> (repeat' ((first
    | (refine G.tr ?_; first | refine S.a ?_ | refine S.t ?_ | refine Tr.brK ?_ ?_ | (refine G.call 103 ?_; refine S.c ?_ (h := ucut_ok ?_)) | refine S.n fun _ => ?_ | refine S.i fun hix => ?_ | (refine S.g fun hb => ?_; (try simp only [hb])) | (refine S.s (fun hb => ?_) (fun hb => ?_) <;> ((try simp only [hb]) <;> (try (have hp := hb; simp only [WKs] at hp; (try have hq := Int.not_le.2 hp); (try have hq := Int.not_lt.2 hp))))))
    | rintro _ _ ⟨rfl, rfl⟩
    | ((fail_if_success refine G.tr ?_); exact G.prop S.p)
    | fail) <;> (try simp only [WKb, ↓reduceIte, Nat.reduceEqDiff, Nat.reduceAdd, hw]))))
  all_goals
    refine Tr.fin hK ⟨rfl, rfl⟩ ?_
    ((try clear hK) <;> (try simp only [WKe, *]) <;> repeat (first | with_reducible exact EntR.done | refine S.e ?_ | (refine S.f ?_ <;> (try simp only [WKe, ↓reduceIte, reduceCtorEq, Int.reduceEq, *])) | with_reducible apply EntR.ex | refine EntR.drop (F := F) ?_ | refine EntR.drop ?_))

theorem utrue_ok {b : Nat} {t : List UInt8} {a n : Int} {d : Bool} (ha : 0 ≤ a ∧ a ≤ 100000) : Trip Tryz.prog 80 [.pointer (some ⟨b, 0, none⟩), .int .i64 n].toArray [rdC b t a d]
    fun v l' => v = .bool (n == 1) ∧ l' = [rdC b (truthU ⟨t, a, d⟩ n).t (truthU ⟨t, a, d⟩ n).at' (truthU ⟨t, a, d⟩ n).bad] := by
  intro F K hK
  simp only [List.cons_append, List.nil_append]
  have hw : IntKind.i64.wrap (a - 1) = a - 1 := wrapId (by omega) (by omega)
  (refine Tr.enter (rs := [.tmp 4]) mixed fn80 rfl (by simp +arith [Tryz.ntmps80]) fun u => ?_; simp only [cd80, Tryz.f80])
  by_cases hc : n ≠ 0 ∧ n ≠ 1 ∧ d = false
  · have hr : truthU ⟨t, a, d⟩ n = ⟨t, a - 1, true⟩ := if_pos hc
    simp only [hr] at hK
    obtain ⟨h0, h1, rfl⟩ := hc
    have h1' : (n == 1) = false := by simpa using h1
    have hd0 : decide (n = 0) = false := decide_eq_false h0
    have hd1 : decide (n = 1) = false := decide_eq_false h1
    ((try simp only [WKb, ↓reduceIte, Nat.reduceEqDiff, Nat.reduceAdd, hd0, hd1]) <;> (repeat' ((first
    | (refine G.tr ?_; first | refine S.a ?_ | refine S.t ?_ | refine Tr.brK ?_ ?_ | refine S.n fun _ => ?_ | refine S.i fun hix => ?_ | (refine S.g fun hb => ?_; (try simp only [hb])) | (refine S.s (fun hb => ?_) (fun hb => ?_) <;> ((try simp only [hb]) <;> (try (have hp := hb; simp only [WKs] at hp; (try have hq := Int.not_le.2 hp); (try have hq := Int.not_lt.2 hp))))))
    | ((fail_if_success refine G.tr ?_); exact G.prop S.p)
    | fail) <;> (try simp only [WKb, ↓reduceIte, Nat.reduceEqDiff, Nat.reduceAdd, hw, hd1]))))
    all_goals
      refine Tr.fin hK ⟨by rw [h1'], rfl⟩ ?_
      ((try clear hK) <;> (try simp only [WKe, *]) <;> repeat (first | with_reducible exact EntR.done | refine S.e ?_ | (refine S.f ?_ <;> (try simp only [WKe, ↓reduceIte, reduceCtorEq, Int.reduceEq, *])) | with_reducible apply EntR.ex | refine EntR.drop (F := F) ?_ | refine EntR.drop ?_))
  · have hr : truthU ⟨t, a, d⟩ n = ⟨t, a, d⟩ := if_neg hc
    simp only [hr] at hK
    by_cases h0 : n = 0
    · subst h0
      ((try simp only [WKb, ↓reduceIte, Nat.reduceEqDiff, Nat.reduceAdd, Int.reduceEq]) <;> (repeat' ((first
    | (refine G.tr ?_; first | refine S.a ?_ | refine S.t ?_ | refine Tr.brK ?_ ?_ | refine S.n fun _ => ?_ | refine S.i fun hix => ?_ | (refine S.g fun hb => ?_; (try simp only [hb])) | (refine S.s (fun hb => ?_) (fun hb => ?_) <;> ((try simp only [hb]) <;> (try (have hp := hb; simp only [WKs] at hp; (try have hq := Int.not_le.2 hp); (try have hq := Int.not_lt.2 hp))))))
    | ((fail_if_success refine G.tr ?_); exact G.prop S.p)
    | fail) <;> (try simp only [WKb, WKh, ↓reduceIte, Nat.reduceEqDiff, Nat.reduceAdd, Nat.reduceSub, Int.reduceEq, Int.reduceLT, Int.reduceLE, WKt, pl80, hw]))))
      all_goals
        refine Tr.fin hK ⟨rfl, rfl⟩ ?_
        ((try clear hK) <;> (try simp only [WKe, *]) <;> repeat (first | with_reducible exact EntR.done | refine S.e ?_ | (refine S.f ?_ <;> (try simp only [WKe, ↓reduceIte, reduceCtorEq, Int.reduceEq, *])) | with_reducible apply EntR.ex | refine EntR.drop (F := F) ?_ | refine EntR.drop ?_))
    · have hd0 : decide (n = 0) = false := decide_eq_false h0
      by_cases h1 : n = 1
      · subst h1
        ((try simp only [WKb, ↓reduceIte, Nat.reduceEqDiff, Nat.reduceAdd, Int.reduceEq]) <;> (repeat' ((first
    | (refine G.tr ?_; first | refine S.a ?_ | refine S.t ?_ | refine Tr.brK ?_ ?_ | refine S.n fun _ => ?_ | refine S.i fun hix => ?_ | (refine S.g fun hb => ?_; (try simp only [hb])) | (refine S.s (fun hb => ?_) (fun hb => ?_) <;> ((try simp only [hb]) <;> (try (have hp := hb; simp only [WKs] at hp; (try have hq := Int.not_le.2 hp); (try have hq := Int.not_lt.2 hp))))))
    | ((fail_if_success refine G.tr ?_); exact G.prop S.p)
    | fail) <;> (try simp only [WKb, WKh, ↓reduceIte, Nat.reduceEqDiff, Nat.reduceAdd, Nat.reduceSub, Int.reduceEq, Int.reduceLT, Int.reduceLE, WKt, pl80, hw]))))
        all_goals
          refine Tr.fin hK ⟨rfl, rfl⟩ ?_
          ((try clear hK) <;> (try simp only [WKe, *]) <;> repeat (first | with_reducible exact EntR.done | refine S.e ?_ | (refine S.f ?_ <;> (try simp only [WKe, ↓reduceIte, reduceCtorEq, Int.reduceEq, *])) | with_reducible apply EntR.ex | refine EntR.drop (F := F) ?_ | refine EntR.drop ?_))
      · have hd1 : decide (n = 1) = false := decide_eq_false h1
        have h1' : (n == 1) = false := by simpa using h1
        cases d with
        | false => exact absurd ⟨h0, h1, rfl⟩ hc
        | true =>
          ((try simp only [WKb, ↓reduceIte, Nat.reduceEqDiff, Nat.reduceAdd, hd0, hd1]) <;> (repeat' ((first
    | (refine G.tr ?_; first | refine S.a ?_ | refine S.t ?_ | refine Tr.brK ?_ ?_ | refine S.n fun _ => ?_ | refine S.i fun hix => ?_ | (refine S.g fun hb => ?_; (try simp only [hb])) | (refine S.s (fun hb => ?_) (fun hb => ?_) <;> ((try simp only [hb]) <;> (try (have hp := hb; simp only [WKs] at hp; (try have hq := Int.not_le.2 hp); (try have hq := Int.not_lt.2 hp))))))
    | ((fail_if_success refine G.tr ?_); exact G.prop S.p)
    | fail) <;> (try simp only [WKb, ↓reduceIte, Nat.reduceEqDiff, hd1]))))
          all_goals
            refine Tr.fin hK ⟨by rw [h1'], rfl⟩ ?_
            ((try clear hK) <;> (try simp only [WKe, *]) <;> repeat (first | with_reducible exact EntR.done | refine S.e ?_ | (refine S.f ?_ <;> (try simp only [WKe, ↓reduceIte, reduceCtorEq, Int.reduceEq, *])) | with_reducible apply EntR.ex | refine EntR.drop (F := F) ?_ | refine EntR.drop ?_))


theorem utake_ok {b : Nat} {t w : List UInt8} {a many : Int} {d : Bool} {m : Int} (ht : t.length ≤ 100000) (ha : 0 ≤ a ∧ a ≤ 100000) (hm1 : -1 ≤ many) (hm2 : many ≤ 64) :
    Trip Tryz.prog 59 [.pointer (some ⟨b, 0, none⟩), .string (bstr w), .int .i64 many].toArray [mxB m, rdC b t a d]
    fun v l' => ∃ s : SV, v = s.v ∧ l' = [sl false s.v (takeU ⟨t, a, d⟩ w many).1, rdC b (takeU ⟨t, a, d⟩ w many).2.t (takeU ⟨t, a, d⟩ w many).2.at' (takeU ⟨t, a, d⟩ w many).2.bad] := by
  intro F K hK
  simp only [List.cons_append, List.nil_append]
  (refine Tr.enter (rs := [.tmp 6]) mixed fn59 rfl (by simp +arith [Tryz.ntmps59]) fun u => ?_; simp only [cd59, Tryz.f59])
  cases hpk : peekU ⟨t, a, d⟩ w with
  | none =>
    have htk := take_none (many := many) hpk
    simp only [htk, badU] at hK
    have hps : (peekU ⟨t, a, d⟩ w).isSome = false := by rw [hpk]; rfl
    have hz : List.replicate (if 0 < many then many else 0).toNat (default : Int) = zerosU many := by
      unfold zerosU
      have : (if 0 < many then many else 0) = max 0 many := by split <;> omega
      rw [this]
      rfl
    ((try simp only [WKb, ↓reduceIte, Nat.reduceEqDiff, Nat.reduceAdd]) <;> (repeat' ((first
    | (refine G.tr ?_; first | refine S.a ?_ | refine S.t ?_ | refine Tr.brK ?_ ?_ | (refine G.call 77 ?_; first | refine S.c ?_ (h := upeekS_ok (by assumption) ?_) | refine S.c ?_ (h := upeek_ok ?_)) | (refine G.call 93 ?_; refine S.c ?_ (h := unext_ok ?_ ?_)) | refine S.n fun _ => ?_ | refine S.i fun hix => ?_ | (refine S.g fun hb => ?_; (try simp only [hb])) | (refine S.s (fun hb => ?_) (fun hb => ?_) <;> ((try simp only [hb]) <;> (try (have hp := hb; simp only [WKs] at hp; (try have hq := Int.not_le.2 hp); (try have hq := Int.not_lt.2 hp))))))
    | rintro _ _ ⟨rfl, rfl⟩
    | rintro _ _ ⟨_, rfl, rfl⟩
    | rintro _ _ ⟨_, _, hpq, rfl, rfl⟩
    | ((fail_if_success refine G.tr ?_); exact G.prop S.p)
    | fail) <;> (try simp only [WKb, WKh, ↓reduceIte, Nat.reduceEqDiff, Nat.reduceAdd, hps]))))
    all_goals
      refine Tr.fin hK ⟨_, rfl, rfl⟩ ?_
      rw [← hz]
      ((try clear hK) <;> (try simp only [WKe, *]) <;> repeat (first | with_reducible exact EntR.done | refine S.e ?_ | (refine S.f ?_ <;> (try simp only [WKe, ↓reduceIte, reduceCtorEq, Int.reduceEq, *])) | with_reducible apply EntR.ex | refine EntR.drop (F := F) ?_ | refine EntR.drop ?_))
  | some q =>
    by_cases hco : (many < 0 ∨ (q.length : Int) = many) ∧ q.length ≤ 64
    · have htk := take_yes (many := many) hpk hco.1 hco.2
      simp only [htk, nextU] at hK
      obtain ⟨hc1, hc2⟩ := hco
      have hc3 : ¬ 64 < (q.length : Int) := by omega
      cases d with
      | true =>
        rw [peek_bad rfl] at hpk
        cases hpk
      | false =>
        by_cases h0 : many < 0
        · have h0' : ¬ 0 ≤ many := by omega
          ((try simp only [WKb, ↓reduceIte, Nat.reduceEqDiff, Nat.reduceAdd]) <;> (repeat' ((first
    | (refine G.tr ?_; first | refine S.a ?_ | refine S.t ?_ | refine Tr.brK ?_ ?_ | (refine G.call 77 ?_; first | refine S.c ?_ (h := upeekS_ok (by assumption) ?_) | refine S.c ?_ (h := upeek_ok ?_)) | (refine G.call 93 ?_; refine S.c ?_ (h := unext_ok ?_ ?_)) | refine S.n fun _ => ?_ | refine S.i fun hix => ?_ | (refine S.g fun hb => ?_; (try simp only [hb])) | (refine S.s (fun hb => ?_) (fun hb => ?_) <;> ((try simp only [hb]) <;> (try (have hp := hb; simp only [WKs] at hp; (try have hq := Int.not_le.2 hp); (try have hq := Int.not_lt.2 hp))))))
    | rintro _ _ ⟨rfl, rfl⟩
    | rintro _ _ ⟨_, rfl, rfl⟩
    | rintro _ _ ⟨_, _, hpq, rfl, rfl⟩
    | ((fail_if_success refine G.tr ?_); exact G.prop S.p)
    | fail) <;> (try simp only [WKb, ↓reduceIte, Nat.reduceEqDiff]))))
          all_goals
            refine Tr.fin hK ⟨_, rfl, rfl⟩ ?_
            ((try clear hK) <;> (try simp only [WKe, *]) <;> repeat (first | with_reducible exact EntR.done | refine S.e ?_ | (refine S.f ?_ <;> (try simp only [WKe, ↓reduceIte, reduceCtorEq, Int.reduceEq, *])) | with_reducible apply EntR.ex | refine EntR.drop (F := F) ?_ | refine EntR.drop ?_))
        · have h1 : (q.length : Int) = many := hc1.resolve_left h0
          have h0' : 0 ≤ many := by omega
          ((try simp only [WKb, ↓reduceIte, Nat.reduceEqDiff, Nat.reduceAdd]) <;> (repeat' ((first
    | (refine G.tr ?_; first | refine S.a ?_ | refine S.t ?_ | refine Tr.brK ?_ ?_ | (refine G.call 77 ?_; first | refine S.c ?_ (h := upeekS_ok (by assumption) ?_) | refine S.c ?_ (h := upeek_ok ?_)) | (refine G.call 93 ?_; refine S.c ?_ (h := unext_ok ?_ ?_)) | refine S.n fun _ => ?_ | refine S.i fun hix => ?_ | (refine S.g fun hb => ?_; (try simp only [hb])) | (refine S.s (fun hb => ?_) (fun hb => ?_) <;> ((try simp only [hb]) <;> (try (have hp := hb; simp only [WKs] at hp; (try have hq := Int.not_le.2 hp); (try have hq := Int.not_lt.2 hp))))))
    | rintro _ _ ⟨rfl, rfl⟩
    | rintro _ _ ⟨_, rfl, rfl⟩
    | rintro _ _ ⟨_, _, hpq, rfl, rfl⟩
    | ((fail_if_success refine G.tr ?_); exact G.prop S.p)
    | fail) <;> (try simp only [WKb, ↓reduceIte, Nat.reduceEqDiff]))))
          all_goals
            refine Tr.fin hK ⟨_, rfl, rfl⟩ ?_
            ((try clear hK) <;> (try simp only [WKe, *]) <;> repeat (first | with_reducible exact EntR.done | refine S.e ?_ | (refine S.f ?_ <;> (try simp only [WKe, ↓reduceIte, reduceCtorEq, Int.reduceEq, *])) | with_reducible apply EntR.ex | refine EntR.drop (F := F) ?_ | refine EntR.drop ?_))
    · have htk := take_no (many := many) hpk hco
      simp only [htk, badU] at hK
      have hz : List.replicate (if 0 < many then many else 0).toNat (default : Int) = zerosU many := by
        unfold zerosU
        have : (if 0 < many then many else 0) = max 0 many := by split <;> omega
        rw [this]
        rfl
      by_cases h0 : many < 0
      · have h0' : ¬ 0 ≤ many := by omega
        have h2 : (64 : Int) < q.length := by
          have : ¬ q.length ≤ 64 := fun h => hco ⟨.inl h0, h⟩
          omega
        ((try simp only [WKb, ↓reduceIte, Nat.reduceEqDiff, Nat.reduceAdd]) <;> (repeat' ((first
    | (refine G.tr ?_; first | refine S.a ?_ | refine S.t ?_ | refine Tr.brK ?_ ?_ | (refine G.call 77 ?_; first | refine S.c ?_ (h := upeekS_ok (by assumption) ?_) | refine S.c ?_ (h := upeek_ok ?_)) | (refine G.call 93 ?_; refine S.c ?_ (h := unext_ok ?_ ?_)) | refine S.n fun _ => ?_ | refine S.i fun hix => ?_ | (refine S.g fun hb => ?_; (try simp only [hb])) | (refine S.s (fun hb => ?_) (fun hb => ?_) <;> ((try simp only [hb]) <;> (try (have hp := hb; simp only [WKs] at hp; (try have hq := Int.not_le.2 hp); (try have hq := Int.not_lt.2 hp))))))
    | rintro _ _ ⟨rfl, rfl⟩
    | rintro _ _ ⟨_, rfl, rfl⟩
    | rintro _ _ ⟨_, _, hpq, rfl, rfl⟩
    | ((fail_if_success refine G.tr ?_); exact G.prop S.p)
    | fail) <;> (try simp only [WKb, WKh, ↓reduceIte, Nat.reduceEqDiff, Nat.reduceAdd]))))
        all_goals
          refine Tr.fin hK ⟨_, rfl, rfl⟩ ?_
          rw [← hz]
          ((try clear hK) <;> (try simp only [WKe, *]) <;> repeat (first | with_reducible exact EntR.done | refine S.e ?_ | (refine S.f ?_ <;> (try simp only [WKe, ↓reduceIte, reduceCtorEq, Int.reduceEq, *])) | with_reducible apply EntR.ex | refine EntR.drop (F := F) ?_ | refine EntR.drop ?_))
      · have h0' : 0 ≤ many := by omega
        by_cases h1 : (q.length : Int) = many
        · have h2 : (64 : Int) < q.length := by
            have : ¬ q.length ≤ 64 := fun h => hco ⟨.inr h1, h⟩
            omega
          exfalso
          omega
        · have hd : decide ((q.length : Int) = many) = false := decide_eq_false h1
          ((try simp only [WKb, ↓reduceIte, Nat.reduceEqDiff, Nat.reduceAdd]) <;> (repeat' ((first
    | (refine G.tr ?_; first | refine S.a ?_ | refine S.t ?_ | refine Tr.brK ?_ ?_ | (refine G.call 77 ?_; first | refine S.c ?_ (h := upeekS_ok (by assumption) ?_) | refine S.c ?_ (h := upeek_ok ?_)) | (refine G.call 93 ?_; refine S.c ?_ (h := unext_ok ?_ ?_)) | refine S.n fun _ => ?_ | refine S.i fun hix => ?_ | (refine S.g fun hb => ?_; (try simp only [hb])) | (refine S.s (fun hb => ?_) (fun hb => ?_) <;> ((try simp only [hb]) <;> (try (have hp := hb; simp only [WKs] at hp; (try have hq := Int.not_le.2 hp); (try have hq := Int.not_lt.2 hp))))))
    | rintro _ _ ⟨rfl, rfl⟩
    | rintro _ _ ⟨_, rfl, rfl⟩
    | rintro _ _ ⟨_, _, hpq, rfl, rfl⟩
    | ((fail_if_success refine G.tr ?_); exact G.prop S.p)
    | fail) <;> (try simp only [WKb, WKh, ↓reduceIte, Nat.reduceEqDiff, Nat.reduceAdd, hd]))))
          all_goals
            refine Tr.fin hK ⟨_, rfl, rfl⟩ ?_
            rw [← hz]
            ((try clear hK) <;> (try simp only [WKe, *]) <;> repeat (first | with_reducible exact EntR.done | refine S.e ?_ | (refine S.f ?_ <;> (try simp only [WKe, ↓reduceIte, reduceCtorEq, Int.reduceEq, *])) | with_reducible apply EntR.ex | refine EntR.drop (F := F) ?_ | refine EntR.drop ?_))

end Go.Proofs.YtgkhjgpgdfbdpaaGreatDoor
