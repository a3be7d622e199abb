import Derived.Test.YtgkhjgpgdfbdpaaDoorYax
import Derived.Test.YtgkhjgpgdfbdpaaDoorYT
namespace Go.Proofs.YtgkhjgpgdfbdpaaDoor
open Go Go.Wk
set_option maxHeartbeats 6400000
set_option maxRecDepth 100000




theorem fault_ix {k : Nat} (h : k < 5) : (ix (faultsA.map Str.mk) (k : Int)).d = faultA (k : Int) := by
  unfold faultA; rw [if_pos (by omega)]
theorem faults_len : 5 = (faultsA.map Str.mk).length := by unfold faultsA; rfl
attribute [local irreducible] BrK GenK EGenK EUnitK CallK FnK CallV GuardO GuardC CondW opX opK opKc chkR eqR seqK blkK endL WL WD W LoopW BinK Tr drewK resL PickK NotK NilK ExtrK getK Instr.storeAt Instr.loadAt Instr.fieldAt Instr.indexAt Instr.lookup Instr.mapUpdate Instr.box Instr.alloc Instr.build Instr.buildSlice Instr.makeSlice Instr.makeMap Instr.sliceAt Instr.field Instr.index Instr.makeInterface Instr.typeAssert Builtin.len_ Builtin.append_ Builtin.cap_ Builtin.min_ Builtin.max_ Builtin.copy_ Builtin.clear_ convert binOp mp blk rob sl sep ex fact old
attribute [local irreducible] NegK
theorem mis_ok {k : Nat} (hk : k < 5) : Trip Tryd.prog 132 [.int .i64 (k : Int)].toArray [] fun v l' => v = .bool true ∧ l' = [] := by
  intro F K hK
  simp only [List.nil_append]
  (refine Tr.enter (rs := [.tmp 2]) mixed fn132 rfl (by simp +arith [Tryd.ntmps132]) fun u => ?_; simp only [cd132, Tryd.f132])
  ((try simp only [WKb, ↓reduceIte, Nat.reduceEqDiff]) <;> (repeat' ((first
    | (refine G.tr ?_; first | refine S.a ?_ | refine S.t ?_ | refine Tr.brK ?_ ?_ | refine S.n fun _ => ?_ | refine S.i fun hix => ?_ | (refine S.g fun hb => ?_; (try simp only [hb])) | (refine S.s (fun hb => ?_) (fun hb => ?_) <;> ((try simp only [hb]) <;> (try (have hp := hb; simp only [WKs] at hp; (try have hq := Int.not_le.2 hp); (try have hq := Int.not_lt.2 hp))))))
    | ((fail_if_success refine G.tr ?_); exact G.prop S.p)
    | fail) <;> (try simp only [WKb, ↓reduceIte, Nat.reduceEqDiff]))))
  all_goals
    refine Tr.fin hK ⟨by first | rfl | (congr 1; simp; try omega), rfl⟩ ?_
    ((try clear hK) <;> (try simp only [WKe, *]) <;> repeat (first | with_reducible exact EntR.done | refine S.e ?_ | (refine S.f ?_ <;> (try simp only [WKe, ↓reduceIte, reduceCtorEq, Int.reduceEq, *])) | with_reducible apply EntR.ex | refine EntR.drop (F := F) ?_ | refine EntR.drop ?_))

theorem mword_ok {k : Nat} {cs : List Value} (hk : k < 5) (hc : cs = flat (faultsA.map Str.mk)) : Trip Tryd.prog 94 [.int .i64 (k : Int), .agg cs.toArray].toArray [] fun v l' => v = .string (bstr (faultA (k : Int))) ∧ l' = [] := by
  intro F K hK
  simp only [List.nil_append]
  have hc' : cs = [.string (bstr [111, 118, 101, 114, 114, 117, 110]), .string (bstr [98, 97, 100, 45, 99, 97, 108, 108]), .string (bstr [98, 97, 100, 45, 112, 111, 105, 110, 116, 101, 114]), .string (bstr [97, 112, 112, 45, 101, 114, 114, 111, 114]), .string (bstr [109, 105, 115, 115, 101, 100])] := hc
  clear hc
  subst hc'
  obtain rfl | rfl | rfl | rfl | rfl : k = 0 ∨ k = 1 ∨ k = 2 ∨ k = 3 ∨ k = 4 := by omega
  all_goals
    (refine Tr.enter (rs := [.tmp 4]) mixed fn94 rfl (by simp +arith [Tryd.ntmps94]) fun u => ?_; simp only [cd94, Tryd.f94])
    ((try simp only [WKb, ↓reduceIte, Nat.reduceAdd, WKt]) <;> (repeat' ((first
    | (refine G.tr ?_; first | refine S.a ?_ | refine S.t ?_ | refine Tr.brK ?_ ?_ | (refine G.call 132 ?_; refine S.c ?_ (h := mis_ok (by omega))) | refine S.n fun _ => ?_ | refine S.i fun hix => ?_ | (refine S.g fun hb => ?_; (try simp only [hb])) | (refine S.s (fun hb => ?_) (fun hb => ?_) <;> ((try simp only [hb]) <;> (try (have hp := hb; simp only [WKs] at hp; (try have hq := Int.not_le.2 hp); (try have hq := Int.not_lt.2 hp))))))
    | rintro _ _ ⟨rfl, rfl⟩
    | ((fail_if_success refine G.tr ?_); exact G.prop S.p)
    | fail) <;> (try simp only [WKb, ↓reduceIte, Nat.reduceEqDiff, Int.toNat_natCast, Nat.reduceMul]))))
    all_goals
      refine Tr.fin hK ⟨rfl, rfl⟩ ?_
      ((try clear hK) <;> (try simp only [WKe, *]) <;> repeat (first | with_reducible exact EntR.done | refine S.e ?_ | (refine S.f ?_ <;> (try simp only [WKe, ↓reduceIte, reduceCtorEq, Int.reduceEq, *])) | with_reducible apply EntR.ex | refine EntR.drop (F := F) ?_ | refine EntR.drop ?_))

theorem mname_ok {k : Nat} (hk : k < 5) : Trip Tryd.prog 57 [.int .i64 (k : Int)].toArray [] fun v l' => v = .string (bstr (faultA (k : Int))) ∧ l' = [] := by
  intro F K hK
  simp only [List.nil_append]
  (refine Tr.enter (rs := [.tmp 2]) mixed fn57 rfl (by simp +arith [Tryd.ntmps57]) fun u => ?_; simp only [cd57, Tryd.f57])
  ((try simp only [WKb, ↓reduceIte, Nat.reduceEqDiff, WKt]) <;> (repeat' ((first
    | (refine G.tr ?_; first | refine S.a ?_ | refine S.t ?_ | refine Tr.brK ?_ ?_ | (refine G.call 94 ?_; refine S.c ?_ (h := mword_ok (by omega) rfl)) | refine S.n fun _ => ?_ | refine S.i fun hix => ?_ | (refine S.g fun hb => ?_; (try simp only [hb])) | (refine S.s (fun hb => ?_) (fun hb => ?_) <;> ((try simp only [hb]) <;> (try (have hp := hb; simp only [WKs] at hp; (try have hq := Int.not_le.2 hp); (try have hq := Int.not_lt.2 hp))))))
    | rintro _ _ ⟨rfl, rfl⟩
    | ((fail_if_success refine G.tr ?_); exact G.prop S.p)
    | fail) <;> (try simp only [WKb, WKh, ↓reduceIte, Nat.reduceEqDiff, WKt]))))
  all_goals
    refine Tr.fin hK ⟨rfl, rfl⟩ ?_
    ((try clear hK) <;> (try simp only [WKe, *]) <;> repeat (first | with_reducible exact EntR.done | refine S.e ?_ | (refine S.f ?_ <;> (try simp only [WKe, ↓reduceIte, reduceCtorEq, Int.reduceEq, *])) | with_reducible apply EntR.ex | refine EntR.drop (F := F) ?_ | refine EntR.drop ?_))

theorem mnameR_ok {k : Nat} (hk : k < 5) : Trip Tryd.prog 61 [.int .i64 (k : Int)].toArray [] fun v l' => v = .string (bstr (faultA (k : Int))) ∧ l' = [] := by
  intro F K hK
  simp only [List.nil_append]
  obtain rfl | rfl | rfl | rfl | rfl : k = 0 ∨ k = 1 ∨ k = 2 ∨ k = 3 ∨ k = 4 := by omega
  all_goals
    (refine Tr.enter (rs := [.tmp 2]) mixed fn61 rfl (by simp +arith [Tryd.ntmps61]) fun u => ?_; simp only [cd61, Tryd.f61])
    ((try simp only [WKb, ↓reduceIte, Nat.reduceEqDiff, WKt]) <;> (repeat' ((first
    | (refine G.tr ?_; first | refine S.a ?_ | refine S.t ?_ | refine Tr.brK ?_ ?_ | refine S.n fun _ => ?_ | refine S.i fun hix => ?_ | (refine S.g fun hb => ?_; (try simp only [hb])) | (refine S.s (fun hb => ?_) (fun hb => ?_) <;> ((try simp only [hb]) <;> (try (have hp := hb; simp only [WKs] at hp; (try have hq := Int.not_le.2 hp); (try have hq := Int.not_lt.2 hp))))))
    | ((fail_if_success refine G.tr ?_); exact G.prop S.p)
    | fail) <;> (try simp only [WKb, ↓reduceIte, Nat.reduceEqDiff]))))
    all_goals
      refine Tr.fin hK ⟨rfl, rfl⟩ ?_
      ((try clear hK) <;> (try simp only [WKe, *]) <;> repeat (first | with_reducible exact EntR.done | refine S.e ?_ | (refine S.f ?_ <;> (try simp only [WKe, ↓reduceIte, reduceCtorEq, Int.reduceEq, *])) | with_reducible apply EntR.ex | refine EntR.drop (F := F) ?_ | refine EntR.drop ?_))

theorem tfault_ok {no : Int} : Trip Tryd.prog 56 [.int .i64 no].toArray [] fun v l' => v = .bool (decide (isF no)) ∧ l' = [] := by
  intro F K hK
  simp only [List.nil_append]
  (refine Tr.enter (rs := [.tmp 2]) mixed fn56 rfl (by simp +arith [Tryd.ntmps56]) fun u => ?_; simp only [cd56, Tryd.f56])
  by_cases h : isF no
  · have ⟨h1, h2⟩ := h
    ((try simp only [WKb, ↓reduceIte, Nat.reduceEqDiff]) <;> (repeat' ((first
    | (refine G.tr ?_; first | refine S.a ?_ | refine S.t ?_ | refine Tr.brK ?_ ?_ | refine S.n fun _ => ?_ | refine S.i fun hix => ?_ | (refine S.g fun hb => ?_; (try simp only [hb])) | (refine S.s (fun hb => ?_) (fun hb => ?_) <;> ((try simp only [hb]) <;> (try (have hp := hb; simp only [WKs] at hp; (try have hq := Int.not_le.2 hp); (try have hq := Int.not_lt.2 hp))))))
    | ((fail_if_success refine G.tr ?_); exact G.prop S.p)
    | fail) <;> (try simp only [WKb, ↓reduceIte, Nat.reduceEqDiff]))))
    all_goals
      refine Tr.fin hK ⟨(by first | (simp [*]; done) | (simp only [WKe, ↓reduceIte, reduceCtorEq, Int.reduceEq, eq_self, *, h, h2]; done) | (simp only [WKe, ↓reduceIte, reduceCtorEq, Int.reduceEq, *, h, h2]; rfl)), rfl⟩ ?_
      ((try clear hK) <;> (try simp only [WKe, *]) <;> repeat (first | with_reducible exact EntR.done | refine S.e ?_ | (refine S.f ?_ <;> (try simp only [WKe, ↓reduceIte, reduceCtorEq, Int.reduceEq, *])) | with_reducible apply EntR.ex | refine EntR.drop (F := F) ?_ | refine EntR.drop ?_))
  · have h' := h
    unfold isF at h'
    by_cases h1 : no ≤ -1
    · have h2 : ¬ -5 ≤ no := by omega
      ((try simp only [WKb, ↓reduceIte, Nat.reduceEqDiff]) <;> (repeat' ((first
    | (refine G.tr ?_; first | refine S.a ?_ | refine S.t ?_ | refine Tr.brK ?_ ?_ | refine S.n fun _ => ?_ | refine S.i fun hix => ?_ | (refine S.g fun hb => ?_; (try simp only [hb])) | (refine S.s (fun hb => ?_) (fun hb => ?_) <;> ((try simp only [hb]) <;> (try (have hp := hb; simp only [WKs] at hp; (try have hq := Int.not_le.2 hp); (try have hq := Int.not_lt.2 hp))))))
    | ((fail_if_success refine G.tr ?_); exact G.prop S.p)
    | fail) <;> (try simp only [WKb, ↓reduceIte, Nat.reduceEqDiff]))))
      all_goals
        refine Tr.fin hK ⟨(by first | (simp [*]; done) | (simp only [WKe, ↓reduceIte, reduceCtorEq, Int.reduceEq, eq_self, *, h, h2]; done) | (simp only [WKe, ↓reduceIte, reduceCtorEq, Int.reduceEq, *, h, h2]; rfl)), rfl⟩ ?_
        ((try clear hK) <;> (try simp only [WKe, *]) <;> repeat (first | with_reducible exact EntR.done | refine S.e ?_ | (refine S.f ?_ <;> (try simp only [WKe, ↓reduceIte, reduceCtorEq, Int.reduceEq, *])) | with_reducible apply EntR.ex | refine EntR.drop (F := F) ?_ | refine EntR.drop ?_))
    · ((try simp only [WKb, ↓reduceIte, Nat.reduceEqDiff]) <;> (repeat' ((first
    | (refine G.tr ?_; first | refine S.a ?_ | refine S.t ?_ | refine Tr.brK ?_ ?_ | refine S.n fun _ => ?_ | refine S.i fun hix => ?_ | (refine S.g fun hb => ?_; (try simp only [hb])) | (refine S.s (fun hb => ?_) (fun hb => ?_) <;> ((try simp only [hb]) <;> (try (have hp := hb; simp only [WKs] at hp; (try have hq := Int.not_le.2 hp); (try have hq := Int.not_lt.2 hp))))))
    | ((fail_if_success refine G.tr ?_); exact G.prop S.p)
    | fail) <;> (try simp only [WKb, ↓reduceIte, Nat.reduceEqDiff]))))
      all_goals
        refine Tr.fin hK ⟨(by first | (simp [*]; done) | (simp only [WKe, ↓reduceIte, reduceCtorEq, Int.reduceEq, eq_self, *, h]; done) | (simp only [WKe, ↓reduceIte, reduceCtorEq, Int.reduceEq, *, h]; rfl)), rfl⟩ ?_
        ((try clear hK) <;> (try simp only [WKe, *]) <;> repeat (first | with_reducible exact EntR.done | refine S.e ?_ | (refine S.f ?_ <;> (try simp only [WKe, ↓reduceIte, reduceCtorEq, Int.reduceEq, *])) | with_reducible apply EntR.ex | refine EntR.drop (F := F) ?_ | refine EntR.drop ?_))

theorem faultA_len {k : Nat} (h : k < 5) : (faultA (k : Int)).length ≤ 20 := (fault_spec k h).2.2
theorem tword_ok {no : Int} (hn : I64 no) : Trip Tryd.prog 18 [.int .i64 no].toArray [] fun v l' => v = .string (bstr (wordA no)) ∧ l' = [] := by
  intro F K hK
  simp only [List.nil_append]
  have hdl := decA_len hn
  (refine Tr.enter (rs := [.tmp 2]) mixed fn18 rfl (by simp +arith [Tryd.ntmps18]) fun u => ?_; simp only [cd18, Tryd.f18])
  by_cases ha : isA no
  · have hd : decide (isA no) = true := decide_eq_true ha
    have hy := wordA_name ha
    ((try simp only [WKb, ↓reduceIte, Nat.reduceEqDiff, WKt]) <;> (repeat' ((first
    | (refine G.tr ?_; first | refine S.a ?_ | refine S.t ?_ | refine Tr.brK ?_ ?_ | (refine G.call 54 ?_; refine S.c ?_ (h := is_ok)) | (refine G.call 55 ?_; refine S.c ?_ (h := name_ok)) | (refine G.call 56 ?_; refine S.c ?_ (h := tfault_ok)) | (refine G.call 57 ?_; refine S.c ?_ (h := mname_ok (by omega))) | (refine G.call 58 ?_; refine S.c ?_ (h := decimalT_ok (by assumption))) | refine S.n fun _ => ?_ | refine S.i fun hix => ?_ | (refine S.g fun hb => ?_; (try simp only [hb])) | (refine S.s (fun hb => ?_) (fun hb => ?_) <;> ((try simp only [hb]) <;> (try (have hp := hb; simp only [WKs] at hp; (try have hq := Int.not_le.2 hp); (try have hq := Int.not_lt.2 hp))))))
    | rintro _ _ ⟨rfl, rfl⟩
    | ((fail_if_success refine G.tr ?_); exact G.prop S.p)
    | fail) <;> (try simp only [WKb, ↓reduceIte, Nat.reduceEqDiff, hd]))))
    all_goals
      refine Tr.fin hK ⟨by rw [hy], rfl⟩ ?_
      ((try clear hK) <;> (try simp only [WKe, *]) <;> repeat (first | with_reducible exact EntR.done | refine S.e ?_ | (refine S.f ?_ <;> (try simp only [WKe, ↓reduceIte, reduceCtorEq, Int.reduceEq, *])) | with_reducible apply EntR.ex | refine EntR.drop (F := F) ?_ | refine EntR.drop ?_))
  · have hd : decide (isA no) = false := decide_eq_false ha
    by_cases hf : isF no
    · have hd2 : decide (isF no) = true := decide_eq_true hf
      have hy := wordA_fault hf
      obtain ⟨k, hk, rfl⟩ := isF_cases hf
      have hl := faultA_len hk
      have hw : IntKind.i64.wrap (-1 - (-1 - (k : Int))) = (k : Int) := by rw [wrapId (by omega) (by omega)]; omega
      rw [show -1 - (-1 - (k : Int)) = (k : Int) by omega] at hy
      ((try simp only [WKb, ↓reduceIte, Nat.reduceEqDiff, WKt]) <;> (repeat' ((first
    | (refine G.tr ?_; first | refine S.a ?_ | refine S.t ?_ | refine Tr.brK ?_ ?_ | (refine G.call 54 ?_; refine S.c ?_ (h := is_ok)) | (refine G.call 55 ?_; refine S.c ?_ (h := name_ok)) | (refine G.call 56 ?_; refine S.c ?_ (h := tfault_ok)) | (refine G.call 57 ?_; refine S.c ?_ (h := mname_ok (by omega))) | (refine G.call 58 ?_; refine S.c ?_ (h := decimalT_ok (by assumption))) | refine S.n fun _ => ?_ | refine S.i fun hix => ?_ | (refine S.g fun hb => ?_; (try simp only [hb])) | (refine S.s (fun hb => ?_) (fun hb => ?_) <;> ((try simp only [hb]) <;> (try (have hp := hb; simp only [WKs] at hp; (try have hq := Int.not_le.2 hp); (try have hq := Int.not_lt.2 hp))))))
    | rintro _ _ ⟨rfl, rfl⟩
    | ((fail_if_success refine G.tr ?_); exact G.prop S.p)
    | fail) <;> (try simp only [WKb, ↓reduceIte, Nat.reduceEqDiff, hd, hd2, hw]))))
      all_goals
        refine Tr.fin hK ⟨by rw [hy]; try rfl, rfl⟩ ?_
        ((try clear hK) <;> (try simp only [WKe, *]) <;> repeat (first | with_reducible exact EntR.done | refine S.e ?_ | (refine S.f ?_ <;> (try simp only [WKe, ↓reduceIte, reduceCtorEq, Int.reduceEq, *])) | with_reducible apply EntR.ex | refine EntR.drop (F := F) ?_ | refine EntR.drop ?_))
    · have hd2 : decide (isF no) = false := decide_eq_false hf
      have hy := wordA_other ha hf
      ((try simp only [WKb, ↓reduceIte, Nat.reduceEqDiff, WKt]) <;> (repeat' ((first
    | (refine G.tr ?_; first | refine S.a ?_ | refine S.t ?_ | refine Tr.brK ?_ ?_ | (refine G.call 54 ?_; refine S.c ?_ (h := is_ok)) | (refine G.call 55 ?_; refine S.c ?_ (h := name_ok)) | (refine G.call 56 ?_; refine S.c ?_ (h := tfault_ok)) | (refine G.call 57 ?_; refine S.c ?_ (h := mname_ok (by omega))) | (refine G.call 58 ?_; refine S.c ?_ (h := decimalT_ok (by assumption))) | refine S.n fun _ => ?_ | refine S.i fun hix => ?_ | (refine S.g fun hb => ?_; (try simp only [hb])) | (refine S.s (fun hb => ?_) (fun hb => ?_) <;> ((try simp only [hb]) <;> (try (have hp := hb; simp only [WKs] at hp; (try have hq := Int.not_le.2 hp); (try have hq := Int.not_lt.2 hp))))))
    | rintro _ _ ⟨rfl, rfl⟩
    | ((fail_if_success refine G.tr ?_); exact G.prop S.p)
    | fail) <;> (try simp only [WKb, ↓reduceIte, Nat.reduceEqDiff, hd, hd2]))))
      all_goals
        refine Tr.fin hK ⟨by rw [hy]; try rfl, rfl⟩ ?_
        ((try clear hK) <;> (try simp only [WKe, *]) <;> repeat (first | with_reducible exact EntR.done | refine S.e ?_ | (refine S.f ?_ <;> (try simp only [WKe, ↓reduceIte, reduceCtorEq, Int.reduceEq, *])) | with_reducible apply EntR.ex | refine EntR.drop (F := F) ?_ | refine EntR.drop ?_))

theorem twordR_ok {no : Int} (hn : I64 no) : Trip Tryd.prog 19 [.int .i64 no].toArray [] fun v l' => v = .string (bstr (wordA no)) ∧ l' = [] := by
  intro F K hK
  simp only [List.nil_append]
  have hdl := decA_len hn
  (refine Tr.enter (rs := [.tmp 2]) mixed fn19 rfl (by simp +arith [Tryd.ntmps19]) fun u => ?_; simp only [cd19, Tryd.f19])
  by_cases ha : isA no
  · have hd : decide (isA no) = true := decide_eq_true ha
    have hy := wordA_name ha
    ((try simp only [WKb, ↓reduceIte, Nat.reduceEqDiff, WKt]) <;> (repeat' ((first
    | (refine G.tr ?_; first | refine S.a ?_ | refine S.t ?_ | refine Tr.brK ?_ ?_ | (refine G.call 59 ?_; refine S.c ?_ (h := isR_ok)) | (refine G.call 60 ?_; refine S.c ?_ (h := nameR_ok)) | (refine G.call 61 ?_; refine S.c ?_ (h := mnameR_ok (by omega))) | (refine G.call 62 ?_; first | refine S.c ?_ (h := decimalR_ok (by assumption)) | refine S.c ?_ (h := decimalR_ok ?_)) | refine S.n fun _ => ?_ | refine S.i fun hix => ?_ | (refine S.g fun hb => ?_; (try simp only [hb])) | (refine S.s (fun hb => ?_) (fun hb => ?_) <;> ((try simp only [hb]) <;> (try (have hp := hb; simp only [WKs] at hp; (try have hq := Int.not_le.2 hp); (try have hq := Int.not_lt.2 hp))))))
    | rintro _ _ ⟨rfl, rfl⟩
    | ((fail_if_success refine G.tr ?_); exact G.prop S.p)
    | fail) <;> (try simp only [WKb, ↓reduceIte, Nat.reduceEqDiff, hd]))))
    all_goals
      refine Tr.fin hK ⟨by rw [hy], rfl⟩ ?_
      ((try clear hK) <;> (try simp only [WKe, *]) <;> repeat (first | with_reducible exact EntR.done | refine S.e ?_ | (refine S.f ?_ <;> (try simp only [WKe, ↓reduceIte, reduceCtorEq, Int.reduceEq, *])) | with_reducible apply EntR.ex | refine EntR.drop (F := F) ?_ | refine EntR.drop ?_))
  · have hd : decide (isA no) = false := decide_eq_false ha
    by_cases hf : isF no
    · have hy := wordA_fault hf
      obtain ⟨k, hk, rfl⟩ := isF_cases hf
      have hl := faultA_len hk
      have hw : IntKind.i64.wrap (0 - (-1 - (k : Int))) = (k : Int) + 1 := by rw [wrapId (by omega) (by omega)]; omega
      have hw2 : IntKind.i64.wrap ((k : Int) + 1 - 1) = (k : Int) := by rw [wrapId (by omega) (by omega)]; omega
      rw [show -1 - (-1 - (k : Int)) = (k : Int) by omega] at hy
      ((try simp only [WKb, ↓reduceIte, Nat.reduceEqDiff, WKt]) <;> (repeat' ((first
    | (refine G.tr ?_; first | refine S.a ?_ | refine S.t ?_ | refine Tr.brK ?_ ?_ | (refine G.call 59 ?_; refine S.c ?_ (h := isR_ok)) | (refine G.call 60 ?_; refine S.c ?_ (h := nameR_ok)) | (refine G.call 61 ?_; refine S.c ?_ (h := mnameR_ok (by omega))) | (refine G.call 62 ?_; first | refine S.c ?_ (h := decimalR_ok (by assumption)) | refine S.c ?_ (h := decimalR_ok ?_)) | refine S.n fun _ => ?_ | refine S.i fun hix => ?_ | (refine S.g fun hb => ?_; (try simp only [hb])) | (refine S.s (fun hb => ?_) (fun hb => ?_) <;> ((try simp only [hb]) <;> (try (have hp := hb; simp only [WKs] at hp; (try have hq := Int.not_le.2 hp); (try have hq := Int.not_lt.2 hp))))))
    | rintro _ _ ⟨rfl, rfl⟩
    | ((fail_if_success refine G.tr ?_); exact G.prop S.p)
    | fail) <;> (try simp only [WKb, ↓reduceIte, Nat.reduceEqDiff, hd, hw, hw2]))))
      all_goals
        refine Tr.fin hK ⟨by rw [hy]; try rfl, rfl⟩ ?_
        ((try clear hK) <;> (try simp only [WKe, *]) <;> repeat (first | with_reducible exact EntR.done | refine S.e ?_ | (refine S.f ?_ <;> (try simp only [WKe, ↓reduceIte, reduceCtorEq, Int.reduceEq, *])) | with_reducible apply EntR.ex | refine EntR.drop (F := F) ?_ | refine EntR.drop ?_))
    · have hy := wordA_other ha hf
      have hf' := hf
      unfold isF at hf'
      by_cases h0 : no < 0
      · have h1 : ¬ -6 < no := by omega
        ((try simp only [WKb, ↓reduceIte, Nat.reduceEqDiff, WKt]) <;> (repeat' ((first
    | (refine G.tr ?_; first | refine S.a ?_ | refine S.t ?_ | refine Tr.brK ?_ ?_ | (refine G.call 59 ?_; refine S.c ?_ (h := isR_ok)) | (refine G.call 60 ?_; refine S.c ?_ (h := nameR_ok)) | (refine G.call 61 ?_; refine S.c ?_ (h := mnameR_ok (by omega))) | (refine G.call 62 ?_; first | refine S.c ?_ (h := decimalR_ok (by assumption)) | refine S.c ?_ (h := decimalR_ok ?_)) | refine S.n fun _ => ?_ | refine S.i fun hix => ?_ | (refine S.g fun hb => ?_; (try simp only [hb])) | (refine S.s (fun hb => ?_) (fun hb => ?_) <;> ((try simp only [hb]) <;> (try (have hp := hb; simp only [WKs] at hp; (try have hq := Int.not_le.2 hp); (try have hq := Int.not_lt.2 hp))))))
    | rintro _ _ ⟨rfl, rfl⟩
    | ((fail_if_success refine G.tr ?_); exact G.prop S.p)
    | fail) <;> (try simp only [WKb, ↓reduceIte, Nat.reduceEqDiff, hd]))))
        all_goals
          refine Tr.fin hK ⟨by rw [hy]; try rfl, rfl⟩ ?_
          ((try clear hK) <;> (try simp only [WKe, *]) <;> repeat (first | with_reducible exact EntR.done | refine S.e ?_ | (refine S.f ?_ <;> (try simp only [WKe, ↓reduceIte, reduceCtorEq, Int.reduceEq, *])) | with_reducible apply EntR.ex | refine EntR.drop (F := F) ?_ | refine EntR.drop ?_))
      · ((try simp only [WKb, ↓reduceIte, Nat.reduceEqDiff, WKt]) <;> (repeat' ((first
    | (refine G.tr ?_; first | refine S.a ?_ | refine S.t ?_ | refine Tr.brK ?_ ?_ | (refine G.call 59 ?_; refine S.c ?_ (h := isR_ok)) | (refine G.call 60 ?_; refine S.c ?_ (h := nameR_ok)) | (refine G.call 61 ?_; refine S.c ?_ (h := mnameR_ok (by omega))) | (refine G.call 62 ?_; first | refine S.c ?_ (h := decimalR_ok (by assumption)) | refine S.c ?_ (h := decimalR_ok ?_)) | refine S.n fun _ => ?_ | refine S.i fun hix => ?_ | (refine S.g fun hb => ?_; (try simp only [hb])) | (refine S.s (fun hb => ?_) (fun hb => ?_) <;> ((try simp only [hb]) <;> (try (have hp := hb; simp only [WKs] at hp; (try have hq := Int.not_le.2 hp); (try have hq := Int.not_lt.2 hp))))))
    | rintro _ _ ⟨rfl, rfl⟩
    | ((fail_if_success refine G.tr ?_); exact G.prop S.p)
    | fail) <;> (try simp only [WKb, ↓reduceIte, Nat.reduceEqDiff, hd]))))
        all_goals
          refine Tr.fin hK ⟨by rw [hy]; try rfl, rfl⟩ ?_
          ((try clear hK) <;> (try simp only [WKe, *]) <;> repeat (first | with_reducible exact EntR.done | refine S.e ?_ | (refine S.f ?_ <;> (try simp only [WKe, ↓reduceIte, reduceCtorEq, Int.reduceEq, *])) | with_reducible apply EntR.ex | refine EntR.drop (F := F) ?_ | refine EntR.drop ?_))

end Go.Proofs.YtgkhjgpgdfbdpaaDoor
