import Derived.Test.YtgkhjgpgdfbdpaaDoorYA
import Derived.Test.YtgkhjgpgdfbdpaaDoorWkY
namespace Go.Proofs.YtgkhjgpgdfbdpaaDoor
open Go Go.Wk
set_option maxHeartbeats 6400000
set_option maxRecDepth 100000

theorem callW_I64 (w : List UInt8) : I64 ((callW w).getD 0) := by
  cases h : callW w with
  | none => unfold I64; simp
  | some n => exact (callW_some.1 h).1
theorem name_isA {w : List UInt8} (h : 0 < numberA w) : callW w = some (numberA w) := callW_name (by omega)
theorem numberA_nn (w : List UInt8) : 0 ≤ numberA w := by
  rcases numberA_spec w with ⟨h, _⟩ | ⟨h, _⟩
  · omega
  · have := h.1; omega
theorem head_cons {w : List UInt8} (h : w.head? = some 35) : w = 35 :: cutP 35 w := by
  cases w with
  | nil => simp at h
  | cons b r => simp only [List.head?_cons, Option.some.injEq] at h; subst h; simp [cutP]
theorem callW_tail {w : List UInt8} {n : Int} (h0 : w.head? = some 35) (hn : ∀ m, numA (cutP 35 w) = some m → n = m) : callW w = if (numA (cutP 35 w)).isSome ∧ wordA n = w then some n else none := by
  have he := head_cons h0
  have h := callW_cross (w := cutP 35 w)
  rw [← he] at h
  rw [h]
  cases hm : numA (cutP 35 w) with
  | none => simp
  | some m => rw [hn m hm]; simp
theorem callW_no {w : List UInt8} (h0 : w.head? ≠ some 35) (h1 : numberA w = 0) (h3 : ∀ k : Nat, k < 5 → wordA (-1 - (k : Int)) ≠ w) : callW w = none :=
  callW_rest h1 (fun r e => h0 (by rw [e]; rfl)) h3
theorem cutP_len {w : List UInt8} : (cutP 35 w).length ≤ w.length := by unfold cutP; split <;> simp
theorem callW_ref {w : List UInt8} (h0 : w.head? ≠ some 35) (h : ∀ k : Nat, k < 33 → wordA ((k : Int) - 5) ≠ w) : callW w = none := by
  refine callW_no h0 (numberA_zero fun k hk e => ?_) fun k hk e => ?_
  · obtain ⟨j, hj, rfl⟩ := isA_cases hk
    refine h (j + 6) (by omega) ?_
    rw [show ((j + 6 : Nat) : Int) - 5 = ((j + 1 : Nat) : Int) by omega, wordA_name hk]; exact e
  · refine h (4 - k) (by omega) ?_
    rw [show ((4 - k : Nat) : Int) - 5 = -1 - (k : Int) by omega]; exact e
theorem callW_one {w : List UInt8} (h : w.length = 1) (h0 : w.head? = some 35) : callW w = none := by
  have he := head_cons h0
  have hl : cutP 35 w = [] := by
    have := congrArg List.length he
    simp only [List.length_cons] at this
    exact List.eq_nil_of_length_eq_zero (by omega)
  rw [hl] at he
  rw [he, callW_cross, numA_nil]
theorem cutpre_ok {s : List UInt8} : Trip Tryd.prog 51 [.string (bstr s), .string (bstr [35])].toArray [] fun v l' => v = .tuple #[.string (bstr (cutP 35 s)), .bool (decide (s.head? = some 35))] ∧ l' = [] := trip_cutPre Tryd.strings_CutPrefix

attribute [local irreducible] BrK GenK EGenK EUnitK CallK FnK CallV GuardO GuardC CondW opX opK opKc chkR eqR seqK blkK endL WL WD W LoopW BinK Tr drewK resL PickK NotK NilK ExtrK getK Instr.storeAt Instr.loadAt Instr.fieldAt Instr.indexAt Instr.lookup Instr.mapUpdate Instr.box Instr.alloc Instr.build Instr.buildSlice Instr.makeSlice Instr.makeMap Instr.sliceAt Instr.field Instr.index Instr.makeInterface Instr.typeAssert Builtin.len_ Builtin.append_ Builtin.cap_ Builtin.min_ Builtin.max_ Builtin.copy_ Builtin.clear_ convert binOp mp blk rob sl sep ex fact old
attribute [local irreducible] NegK
theorem tcall_ok {w : List UInt8} (hl : w.length ≤ 1000000) : Trip Tryd.prog 16 [.string (bstr w)].toArray [] fun v l' => v = .tuple #[.int .i64 ((callW w).getD 0), .bool (callW w).isSome] ∧ l' = [] := by
  intro F K hK
  simp only [List.nil_append]
  have hcl := @cutP_len w
  have hnn := numberA_nn w
  have fin0 : ∀ l : List Asrt, callW w = none → EntR [] l F → Tr l (K (.tuple #[.int .i64 0, .bool false])) := fun l h he => by
    refine Tr.fin hK ⟨?_, rfl⟩ he
    rw [h]; rfl
  have fin1 : ∀ (l : List Asrt) (n : Int), callW w = some n → EntR [] l F → Tr l (K (.tuple #[.int .i64 n, .bool true])) := fun l n h he => by
    refine Tr.fin hK ⟨?_, rfl⟩ he
    rw [h]; rfl
  (refine Tr.enter (rs := [.tmp 2, .tmp 3]) mixed fn16 rfl (by simp +arith [Tryd.ntmps16]) fun u => ?_; simp only [cd16, Tryd.f16])
  by_cases hn0 : 0 < numberA w
  · have hy := name_isA hn0
    ((try simp only [WKb, ↓reduceIte, Nat.reduceEqDiff, WKt]) <;> (repeat' ((first
    | (refine G.tr ?_; first | refine S.a ?_ | refine S.t ?_ | refine Tr.brK ?_ ?_ | (refine G.call 50 ?_; refine S.c ?_ (h := number_of_ok)) | (refine G.call 51 ?_; refine S.c ?_ (h := cutpre_ok)) | (refine G.call 52 ?_; refine S.c ?_ (h := numberT_ok ?_)) | (refine G.call 18 ?_; refine S.c ?_ (h := tword_ok (by assumption))) | refine S.n fun _ => ?_ | refine S.i fun hix => ?_ | (refine S.g fun hb => ?_; (try simp only [hb])) | (refine S.s (fun hb => ?_) (fun hb => ?_) <;> ((try simp only [hb]) <;> (try (have hp := hb; simp only [WKs] at hp; (try have hq := Int.not_le.2 hp); (try have hq := Int.not_lt.2 hp))))))
    | rintro _ _ ⟨rfl, rfl⟩
    | rintro _ _ ⟨_, hi64, hnum, rfl, rfl⟩
    | ((fail_if_success refine G.tr ?_); exact G.prop S.p)
    | fail) <;> (try simp only [WKb, ↓reduceIte, Nat.reduceEqDiff]))))
    all_goals
      refine fin1 _ _ hy ?_
      ((try clear hK) <;> (try simp only [WKe, ↓reduceIte, reduceCtorEq, Int.reduceEq, *]) <;> repeat (first | with_reducible exact EntR.done | refine S.e ?_ | (refine S.f ?_ <;> (try simp only [WKe, ↓reduceIte, reduceCtorEq, Int.reduceEq, *])) | with_reducible apply EntR.ex | refine EntR.drop (F := F) ?_ | refine EntR.drop ?_))
  · have hz : numberA w = 0 := by omega
    by_cases h0 : w.head? = some 35
    · have hd : decide (w.head? = some 35) = true := decide_eq_true h0
      ((try simp only [WKb, ↓reduceIte, Nat.reduceEqDiff, WKt]) <;> (repeat' ((first
    | (refine G.tr ?_; first | refine S.a ?_ | refine S.t ?_ | refine Tr.brK ?_ ?_ | (refine G.call 50 ?_; refine S.c ?_ (h := number_of_ok)) | (refine G.call 51 ?_; refine S.c ?_ (h := cutpre_ok)) | (refine G.call 52 ?_; refine S.c ?_ (h := numberT_ok ?_)) | (refine G.call 18 ?_; refine S.c ?_ (h := tword_ok (by assumption))) | refine S.n fun _ => ?_ | refine S.i fun hix => ?_ | (refine S.g fun hb => ?_; (try simp only [hb])) | (refine S.s (fun hb => ?_) (fun hb => ?_) <;> ((try simp only [hb]) <;> (try (have hp := hb; simp only [WKs] at hp; (try have hq := Int.not_le.2 hp); (try have hq := Int.not_lt.2 hp))))))
    | rintro _ _ ⟨rfl, rfl⟩
    | rintro _ _ ⟨_, hi64, hnum, rfl, rfl⟩
    | ((fail_if_success refine G.tr ?_); exact G.prop S.p)
    | fail) <;> (try simp only [WKb, WKh, ↓reduceIte, Nat.reduceEqDiff, hd]))))
      all_goals
        have hct := callW_tail h0 hnum
        first
        | (refine fin1 _ _ (by rw [hct, if_pos]; exact ⟨by assumption, by assumption⟩) ?_
           ((try clear hK) <;> (try simp only [WKe, ↓reduceIte, reduceCtorEq, Int.reduceEq, *]) <;> repeat (first | with_reducible exact EntR.done | refine S.e ?_ | (refine S.f ?_ <;> (try simp only [WKe, ↓reduceIte, reduceCtorEq, Int.reduceEq, *])) | with_reducible apply EntR.ex | refine EntR.drop (F := F) ?_ | refine EntR.drop ?_)))
        | (refine fin0 _ (by
             rw [hct, if_neg]
             intro ⟨h1, h2⟩
             first | exact hp h2 | (rw [hp] at h1; cases h1)) ?_
           ((try clear hK) <;> (try simp only [WKe, ↓reduceIte, reduceCtorEq, Int.reduceEq, *]) <;> repeat (first | with_reducible exact EntR.done | refine S.e ?_ | (refine S.f ?_ <;> (try simp only [WKe, ↓reduceIte, reduceCtorEq, Int.reduceEq, *])) | with_reducible apply EntR.ex | refine EntR.drop (F := F) ?_ | refine EntR.drop ?_)))
    · have hd : decide (w.head? = some 35) = false := decide_eq_false h0
      ((try simp only [WKb, ↓reduceIte, Nat.reduceEqDiff, WKt]) <;> (repeat' ((first
    | (refine G.tr ?_; first | refine S.a ?_ | refine S.t ?_ | refine Tr.brK ?_ ?_ | (refine G.call 50 ?_; refine S.c ?_ (h := number_of_ok)) | (refine G.call 51 ?_; refine S.c ?_ (h := cutpre_ok)) | (refine G.call 52 ?_; refine S.c ?_ (h := numberT_ok ?_)) | (refine G.call 18 ?_; refine S.c ?_ (h := tword_ok (by assumption))) | refine S.n fun _ => ?_ | refine S.i fun hix => ?_ | (refine S.g fun hb => ?_; (try simp only [hb])) | (refine S.s (fun hb => ?_) (fun hb => ?_) <;> ((try simp only [hb]) <;> (try (have hp := hb; simp only [WKs] at hp; (try have hq := Int.not_le.2 hp); (try have hq := Int.not_lt.2 hp))))))
    | rintro _ _ ⟨rfl, rfl⟩
    | rintro _ _ ⟨_, hi64, hnum, rfl, rfl⟩
    | ((fail_if_success refine G.tr ?_); exact G.prop S.p)
    | fail) <;> (try simp only [WKb, ↓reduceIte, Nat.reduceEqDiff, hd]))))
      refine Tr.loopE (α := Nat) [2, 3, 35] [0] (fun k => [.int .i64 0, .bool false, .int .i64 k]) (fun _ => []) (fun k => k ≤ 5 ∧ ∀ j : Nat, j < k → wordA (-1 - (j : Int)) ≠ w) (fun k => 5 - k) 0 (by (repeat (first | exact TakeL.nil | (apply TakeL.cons; focus ((first | exact TakeA.dupS | exact TakeA.dupF | ((repeat (first | with_reducible exact TakeA.here | exact TakeA.fam (by omega) (by omega) | with_reducible apply TakeA.next)); done) | ((repeat (first | exact TakeA.here | apply TakeA.next)); done) | exact TakeA.famNil | exact TakeA.nilS))) | fail)); done) rfl ⟨by omega, fun j hj => by omega⟩ fun k u hx => ?_
      obtain ⟨hk, hn⟩ := hx
      have hw := wrapSucc (k := k) (by omega)
      have hw2 : IntKind.i64.wrap (-1 - (k : Int)) = -1 - (k : Int) := wrapId (by omega) (by omega)
      have hi : I64 (-1 - (k : Int)) := by unfold I64; omega
      by_cases hin : k < 5
      · by_cases he : wordA (-1 - (k : Int)) = w
        · have hcs := callW_some.2 ⟨hi, he⟩
          have hd2 : decide (wordA (-1 - (k : Int)) = w) = true := decide_eq_true he
          ((try simp only [WKb, ↓reduceIte, Nat.reduceEqDiff]) <;> (repeat' ((first
    | (refine G.tr ?_; first | refine S.a ?_ | refine S.t ?_ | refine Tr.brK ?_ ?_ | (refine G.call 50 ?_; refine S.c ?_ (h := number_of_ok)) | (refine G.call 51 ?_; refine S.c ?_ (h := cutpre_ok)) | (refine G.call 52 ?_; refine S.c ?_ (h := numberT_ok ?_)) | (refine G.call 18 ?_; refine S.c ?_ (h := tword_ok (by assumption))) | refine S.n fun _ => ?_ | refine S.i fun hix => ?_ | (refine S.g fun hb => ?_; (try simp only [hb])) | (refine S.s (fun hb => ?_) (fun hb => ?_) <;> ((try simp only [hb]) <;> (try (have hp := hb; simp only [WKs] at hp; (try have hq := Int.not_le.2 hp); (try have hq := Int.not_lt.2 hp))))))
    | rintro _ _ ⟨rfl, rfl⟩
    | rintro _ _ ⟨_, hi64, hnum, rfl, rfl⟩
    | ((fail_if_success refine G.tr ?_); exact G.prop S.p)
    | fail) <;> (try simp only [WKb, WKh, ↓reduceIte, Nat.reduceEqDiff, hd2, hw2]))))
          all_goals
            refine fin1 _ _ hcs ?_
            ((try clear hK) <;> (try simp only [WKe, ↓reduceIte, reduceCtorEq, Int.reduceEq, *]) <;> repeat (first | with_reducible exact EntR.done | refine S.e ?_ | (refine S.f ?_ <;> (try simp only [WKe, ↓reduceIte, reduceCtorEq, Int.reduceEq, *])) | with_reducible apply EntR.ex | refine EntR.drop (F := F) ?_ | refine EntR.drop ?_))
        · have hd2 : decide (wordA (-1 - (k : Int)) = w) = false := decide_eq_false he
          have hn' : ∀ j : Nat, j < k + 1 → wordA (-1 - (j : Int)) ≠ w := fun j hj => by
            by_cases hjk : j < k
            · exact hn j hjk
            · have : j = k := by omega
              subst this; exact he
          ((try simp only [WKb, ↓reduceIte, Nat.reduceEqDiff]) <;> (repeat' ((first
    | (refine G.tr ?_; first | refine S.a ?_ | refine S.t ?_ | refine Tr.brK ?_ ?_ | (refine G.call 50 ?_; refine S.c ?_ (h := number_of_ok)) | (refine G.call 51 ?_; refine S.c ?_ (h := cutpre_ok)) | (refine G.call 52 ?_; refine S.c ?_ (h := numberT_ok ?_)) | (refine G.call 18 ?_; refine S.c ?_ (h := tword_ok (by assumption))) | refine S.n fun _ => ?_ | refine S.i fun hix => ?_ | (refine S.g fun hb => ?_; (try simp only [hb])) | (refine S.s (fun hb => ?_) (fun hb => ?_) <;> ((try simp only [hb]) <;> (try (have hp := hb; simp only [WKs] at hp; (try have hq := Int.not_le.2 hp); (try have hq := Int.not_lt.2 hp))))))
    | rintro _ _ ⟨rfl, rfl⟩
    | rintro _ _ ⟨_, hi64, hnum, rfl, rfl⟩
    | ((fail_if_success refine G.tr ?_); exact G.prop S.p)
    | fail) <;> (try simp only [WKb, WKh, ↓reduceIte, Nat.reduceEqDiff, hw, hw2, hd2]))))
          all_goals (apply Tr.againE (k + 1); (focus (simp only [WKb, ↓reduceIte, Nat.reduceEqDiff])); (focus ((try simp only [WKb, ↓reduceIte, Nat.reduceEqDiff]); (all_goals ((repeat (refine cons_eq (by first | rfl | (simp [*]; done)) ?_)); rfl)); done)); (focus (first | omega | assumption | (simp only []; omega) | (refine ⟨by omega, by assumption⟩) | (simp only []; refine ⟨by omega, by assumption⟩) | ((try simp only []); (repeat' (first | omega | assumption | apply hn' | refine And.intro ?_ ?_)); done))); (focus (first | omega | (simp only []; omega))); (focus (((try clear hK) <;> (try simp only [WKe, *]) <;> repeat (first | with_reducible exact EntR.done | refine S.e ?_ | (refine S.f ?_ <;> (try simp only [WKe, ↓reduceIte, reduceCtorEq, Int.reduceEq, *])) | with_reducible apply EntR.ex | refine EntR.drop (F := F) ?_ | refine EntR.drop ?_)))))
      · have hno := callW_no h0 hz fun j hj => hn j (by omega)
        ((try simp only [WKb, ↓reduceIte, Nat.reduceEqDiff]) <;> (repeat' ((first
    | (refine G.tr ?_; first | refine S.a ?_ | refine S.t ?_ | refine Tr.brK ?_ ?_ | (refine G.call 50 ?_; refine S.c ?_ (h := number_of_ok)) | (refine G.call 51 ?_; refine S.c ?_ (h := cutpre_ok)) | (refine G.call 52 ?_; refine S.c ?_ (h := numberT_ok ?_)) | (refine G.call 18 ?_; refine S.c ?_ (h := tword_ok (by assumption))) | refine S.n fun _ => ?_ | refine S.i fun hix => ?_ | (refine S.g fun hb => ?_; (try simp only [hb])) | (refine S.s (fun hb => ?_) (fun hb => ?_) <;> ((try simp only [hb]) <;> (try (have hp := hb; simp only [WKs] at hp; (try have hq := Int.not_le.2 hp); (try have hq := Int.not_lt.2 hp))))))
    | rintro _ _ ⟨rfl, rfl⟩
    | rintro _ _ ⟨_, hi64, hnum, rfl, rfl⟩
    | ((fail_if_success refine G.tr ?_); exact G.prop S.p)
    | fail) <;> (try simp only [WKb, ↓reduceIte, Nat.reduceEqDiff]))))
        all_goals
          refine fin0 _ hno ?_
          ((try clear hK) <;> (try simp only [WKe, ↓reduceIte, reduceCtorEq, Int.reduceEq, *]) <;> repeat (first | with_reducible exact EntR.done | refine S.e ?_ | (refine S.f ?_ <;> (try simp only [WKe, ↓reduceIte, reduceCtorEq, Int.reduceEq, *])) | with_reducible apply EntR.ex | refine EntR.drop (F := F) ?_ | refine EntR.drop ?_))

theorem tcallR_ok {w : List UInt8} (hl : w.length ≤ 1000000) : Trip Tryd.prog 17 [.string (bstr w)].toArray [] fun v l' => v = .tuple #[.int .i64 ((callW w).getD 0), .bool (callW w).isSome] ∧ l' = [] := by
  intro F K hK
  simp only [List.nil_append]
  have fin0 : ∀ l : List Asrt, callW w = none → EntR [] l F → Tr l (K (.tuple #[.int .i64 0, .bool false])) := fun l h he => by
    refine Tr.fin hK ⟨?_, rfl⟩ he
    rw [h]; rfl
  have fin1 : ∀ (l : List Asrt) (n : Int), callW w = some n → EntR [] l F → Tr l (K (.tuple #[.int .i64 n, .bool true])) := fun l n h he => by
    refine Tr.fin hK ⟨?_, rfl⟩ he
    rw [h]; rfl
  (refine Tr.enter (rs := [.tmp 2, .tmp 3]) mixed fn17 rfl (by simp +arith [Tryd.ntmps17]) fun u => ?_; simp only [cd17, Tryd.f17])
  ((try simp only [WKb]) <;> (repeat' ((first
    | (refine G.tr ?_; first | refine S.a ?_ | refine S.t ?_ | refine Tr.brK ?_ ?_ | (refine G.call 19 ?_; refine S.c ?_ (h := twordR_ok (by assumption))) | (refine G.call 53 ?_; refine S.c ?_ (h := number10_ok ?_)) | refine S.n fun _ => ?_ | refine S.i fun hix => ?_ | (refine S.g fun hb => ?_; (try simp only [hb])) | (refine S.s (fun hb => ?_) (fun hb => ?_) <;> ((try simp only [hb]) <;> (try (have hp := hb; simp only [WKs] at hp; (try have hq := Int.not_le.2 hp); (try have hq := Int.not_lt.2 hp))))))
    | rintro _ _ ⟨rfl, rfl⟩
    | rintro _ _ ⟨_, hi64, hnum, rfl, rfl⟩
    | ((fail_if_success refine G.tr ?_); exact G.prop S.p)
    | fail) <;> (try simp only [WKb, WKh, ↓reduceIte, Nat.reduceEqDiff, Nat.reduceAdd, Nat.reduceSub, Int.reduceEq, Int.reduceLT, Int.reduceLE, WKt, pl17]))))
  refine Tr.loopE (α := Nat) [2, 3, 4] [0] (fun k => [.int .i64 0, .bool false, .int .i64 ((k : Int) - 5)]) (fun _ => []) (fun k => k ≤ 33 ∧ ∀ j : Nat, j < k → wordA ((j : Int) - 5) ≠ w) (fun k => 33 - k) 0 (by (repeat (first | exact TakeL.nil | (apply TakeL.cons; focus ((first | exact TakeA.dupS | exact TakeA.dupF | ((repeat (first | with_reducible exact TakeA.here | exact TakeA.fam (by omega) (by omega) | with_reducible apply TakeA.next)); done) | ((repeat (first | exact TakeA.here | apply TakeA.next)); done) | exact TakeA.famNil | exact TakeA.nilS))) | fail)); done) rfl ⟨by omega, fun j hj => by omega⟩ fun k u hx => ?_
  obtain ⟨hk, hn⟩ := hx
  have hw : IntKind.i64.wrap ((k : Int) - 5 + 1) = ((k + 1 : Nat) : Int) - 5 := by rw [wrapId (by omega) (by omega)]; omega
  have hi : I64 ((k : Int) - 5) := by unfold I64; omega
  by_cases hin : k < 33
  · by_cases he : wordA ((k : Int) - 5) = w
    · have hcs := callW_some.2 ⟨hi, he⟩
      have hd2 : decide (wordA ((k : Int) - 5) = w) = true := decide_eq_true he
      ((try simp only [WKb, ↓reduceIte, Nat.reduceEqDiff]) <;> (repeat' ((first
    | (refine G.tr ?_; first | refine S.a ?_ | refine S.t ?_ | refine Tr.brK ?_ ?_ | (refine G.call 19 ?_; refine S.c ?_ (h := twordR_ok (by assumption))) | (refine G.call 53 ?_; refine S.c ?_ (h := number10_ok ?_)) | refine S.n fun _ => ?_ | refine S.i fun hix => ?_ | (refine S.g fun hb => ?_; (try simp only [hb])) | (refine S.s (fun hb => ?_) (fun hb => ?_) <;> ((try simp only [hb]) <;> (try (have hp := hb; simp only [WKs] at hp; (try have hq := Int.not_le.2 hp); (try have hq := Int.not_lt.2 hp))))))
    | rintro _ _ ⟨rfl, rfl⟩
    | rintro _ _ ⟨_, hi64, hnum, rfl, rfl⟩
    | ((fail_if_success refine G.tr ?_); exact G.prop S.p)
    | fail) <;> (try simp only [WKb, WKh, ↓reduceIte, Nat.reduceEqDiff, hd2]))))
      all_goals
        refine fin1 _ _ hcs ?_
        ((try clear hK) <;> (try simp only [WKe, ↓reduceIte, reduceCtorEq, Int.reduceEq, *]) <;> repeat (first | with_reducible exact EntR.done | refine S.e ?_ | (refine S.f ?_ <;> (try simp only [WKe, ↓reduceIte, reduceCtorEq, Int.reduceEq, *])) | with_reducible apply EntR.ex | refine EntR.drop (F := F) ?_ | refine EntR.drop ?_))
    · have hd2 : decide (wordA ((k : Int) - 5) = w) = false := decide_eq_false he
      have hn' : ∀ j : Nat, j < k + 1 → wordA ((j : Int) - 5) ≠ w := fun j hj => by
        by_cases hjk : j < k
        · exact hn j hjk
        · have : j = k := by omega
          subst this; exact he
      ((try simp only [WKb, ↓reduceIte, Nat.reduceEqDiff]) <;> (repeat' ((first
    | (refine G.tr ?_; first | refine S.a ?_ | refine S.t ?_ | refine Tr.brK ?_ ?_ | (refine G.call 19 ?_; refine S.c ?_ (h := twordR_ok (by assumption))) | (refine G.call 53 ?_; refine S.c ?_ (h := number10_ok ?_)) | refine S.n fun _ => ?_ | refine S.i fun hix => ?_ | (refine S.g fun hb => ?_; (try simp only [hb])) | (refine S.s (fun hb => ?_) (fun hb => ?_) <;> ((try simp only [hb]) <;> (try (have hp := hb; simp only [WKs] at hp; (try have hq := Int.not_le.2 hp); (try have hq := Int.not_lt.2 hp))))))
    | rintro _ _ ⟨rfl, rfl⟩
    | rintro _ _ ⟨_, hi64, hnum, rfl, rfl⟩
    | ((fail_if_success refine G.tr ?_); exact G.prop S.p)
    | fail) <;> (try simp only [WKb, WKh, ↓reduceIte, Nat.reduceEqDiff, hw, hd2]))))
      all_goals (apply Tr.againE (k + 1); (focus (simp only [WKb, ↓reduceIte, Nat.reduceEqDiff])); (focus ((try simp only [WKb, ↓reduceIte, Nat.reduceEqDiff]); (all_goals ((repeat (refine cons_eq (by first | rfl | (simp [*]; done)) ?_)); rfl)); done)); (focus (first | omega | assumption | (simp only []; omega) | (refine ⟨by omega, by assumption⟩) | (simp only []; refine ⟨by omega, by assumption⟩) | ((try simp only []); (repeat' (first | omega | assumption | apply hn' | refine And.intro ?_ ?_)); done))); (focus (first | omega | (simp only []; omega))); (focus (((try clear hK) <;> (try simp only [WKe, *]) <;> repeat (first | with_reducible exact EntR.done | refine S.e ?_ | (refine S.f ?_ <;> (try simp only [WKe, ↓reduceIte, reduceCtorEq, Int.reduceEq, *])) | with_reducible apply EntR.ex | refine EntR.drop (F := F) ?_ | refine EntR.drop ?_)))))
  · have hn33 : ∀ j : Nat, j < 33 → wordA ((j : Int) - 5) ≠ w := fun j hj => hn j (by omega)
    by_cases hl2 : w.length < 2
    · have hno : callW w = none := by
        by_cases h0 : w.head? = some 35
        · exact callW_one (by cases w with
            | nil => simp at h0
            | cons b r => simp only [List.length_cons] at hl2 ⊢; omega) h0
        · exact callW_ref h0 hn33
      ((try simp only [WKb, ↓reduceIte, Nat.reduceEqDiff]) <;> (repeat' ((first
    | (refine G.tr ?_; first | refine S.a ?_ | refine S.t ?_ | refine Tr.brK ?_ ?_ | (refine G.call 19 ?_; refine S.c ?_ (h := twordR_ok (by assumption))) | (refine G.call 53 ?_; refine S.c ?_ (h := number10_ok ?_)) | refine S.n fun _ => ?_ | refine S.i fun hix => ?_ | (refine S.g fun hb => ?_; (try simp only [hb])) | (refine S.s (fun hb => ?_) (fun hb => ?_) <;> ((try simp only [hb]) <;> (try (have hp := hb; simp only [WKs] at hp; (try have hq := Int.not_le.2 hp); (try have hq := Int.not_lt.2 hp))))))
    | rintro _ _ ⟨rfl, rfl⟩
    | rintro _ _ ⟨_, hi64, hnum, rfl, rfl⟩
    | ((fail_if_success refine G.tr ?_); exact G.prop S.p)
    | fail) <;> (try simp only [WKb, ↓reduceIte, Nat.reduceEqDiff, WKt]))))
      all_goals
        refine fin0 _ hno ?_
        ((try clear hK) <;> (try simp only [WKe, ↓reduceIte, reduceCtorEq, Int.reduceEq, *]) <;> repeat (first | with_reducible exact EntR.done | refine S.e ?_ | (refine S.f ?_ <;> (try simp only [WKe, ↓reduceIte, reduceCtorEq, Int.reduceEq, *])) | with_reducible apply EntR.ex | refine EntR.drop (F := F) ?_ | refine EntR.drop ?_))
    · have hl3 : 2 ≤ w.length := by omega
      have hcl := @cutP_len w
      by_cases h0 : w.head? = some 35
      · have hb0 : bix w 0 = 35 := by
          have he := head_cons h0
          rw [he]; rfl
        have hdr : w.drop (Int.toNat 1) = cutP 35 w := by
          unfold cutP
          rw [if_pos h0]; rfl
        have hc35 : decide (((35 : UInt8).toNat : Int) = 35) = true := rfl
        ((try simp only [WKb, ↓reduceIte, Nat.reduceEqDiff]) <;> (repeat' ((first
    | (refine G.tr ?_; first | refine S.a ?_ | refine S.t ?_ | refine Tr.brK ?_ ?_ | (refine G.call 19 ?_; refine S.c ?_ (h := twordR_ok (by assumption))) | (refine G.call 53 ?_; refine S.c ?_ (h := number10_ok ?_)) | refine S.n fun _ => ?_ | refine S.i fun hix => ?_ | (refine S.g fun hb => ?_; (try simp only [hb])) | (refine S.s (fun hb => ?_) (fun hb => ?_) <;> ((try simp only [hb]) <;> (try (have hp := hb; simp only [WKs] at hp; (try have hq := Int.not_le.2 hp); (try have hq := Int.not_lt.2 hp))))))
    | rintro _ _ ⟨rfl, rfl⟩
    | rintro _ _ ⟨_, hi64, hnum, rfl, rfl⟩
    | ((fail_if_success refine G.tr ?_); exact G.prop S.p)
    | fail) <;> (try simp only [WKb, WKh, ↓reduceIte, Nat.reduceEqDiff, WKt, hb0, hc35, hdr]))))
        all_goals
          have hct := callW_tail h0 hnum
          first
          | (refine fin1 _ _ (by rw [hct, if_pos]; exact ⟨by assumption, by assumption⟩) ?_
             ((try clear hK) <;> (try simp only [WKe, ↓reduceIte, reduceCtorEq, Int.reduceEq, *]) <;> repeat (first | with_reducible exact EntR.done | refine S.e ?_ | (refine S.f ?_ <;> (try simp only [WKe, ↓reduceIte, reduceCtorEq, Int.reduceEq, *])) | with_reducible apply EntR.ex | refine EntR.drop (F := F) ?_ | refine EntR.drop ?_)))
          | (refine fin0 _ (by
               rw [hct, if_neg]
               intro ⟨h1, h2⟩
               first | exact hp h2 | (rw [hp] at h1; cases h1)) ?_
             ((try clear hK) <;> (try simp only [WKe, ↓reduceIte, reduceCtorEq, Int.reduceEq, *]) <;> repeat (first | with_reducible exact EntR.done | refine S.e ?_ | (refine S.f ?_ <;> (try simp only [WKe, ↓reduceIte, reduceCtorEq, Int.reduceEq, *])) | with_reducible apply EntR.ex | refine EntR.drop (F := F) ?_ | refine EntR.drop ?_)))
      · have hb0 : ¬ ((bix w 0).toNat : Int) = 35 := fun h => h0 (by
          cases w with
          | nil => simp at hl3
          | cons b r =>
            have : bix (b :: r) 0 = b := rfl
            rw [this] at h
            simp only [List.head?_cons, Option.some.injEq]
            exact UInt8.toNat_inj.1 (by have : (35 : UInt8).toNat = 35 := rfl; omega))
        have hno := callW_ref h0 hn33
        ((try simp only [WKb, ↓reduceIte, Nat.reduceEqDiff]) <;> (repeat' ((first
    | (refine G.tr ?_; first | refine S.a ?_ | refine S.t ?_ | refine Tr.brK ?_ ?_ | (refine G.call 19 ?_; refine S.c ?_ (h := twordR_ok (by assumption))) | (refine G.call 53 ?_; refine S.c ?_ (h := number10_ok ?_)) | refine S.n fun _ => ?_ | refine S.i fun hix => ?_ | (refine S.g fun hb => ?_; (try simp only [hb])) | (refine S.s (fun hb => ?_) (fun hb => ?_) <;> ((try simp only [hb]) <;> (try (have hp := hb; simp only [WKs] at hp; (try have hq := Int.not_le.2 hp); (try have hq := Int.not_lt.2 hp))))))
    | rintro _ _ ⟨rfl, rfl⟩
    | rintro _ _ ⟨_, hi64, hnum, rfl, rfl⟩
    | ((fail_if_success refine G.tr ?_); exact G.prop S.p)
    | fail) <;> (try simp only [WKb, ↓reduceIte, Nat.reduceEqDiff, WKt]))))
        all_goals
          refine fin0 _ hno ?_
          ((try clear hK) <;> (try simp only [WKe, ↓reduceIte, reduceCtorEq, Int.reduceEq, *]) <;> repeat (first | with_reducible exact EntR.done | refine S.e ?_ | (refine S.f ?_ <;> (try simp only [WKe, ↓reduceIte, reduceCtorEq, Int.reduceEq, *])) | with_reducible apply EntR.ex | refine EntR.drop (F := F) ?_ | refine EntR.drop ?_))

end Go.Proofs.YtgkhjgpgdfbdpaaDoor
