import Derived.Test.YtgkhjgpgdfbdpaaDoorXax
namespace Go.Proofs.YtgkhjgpgdfbdpaaDoor
open Go Go.Wk
set_option maxHeartbeats 6400000
set_option maxRecDepth 100000
/-- A call's name, and of how many numbers it is. -/
structure KindC where
  name : List UInt8
  args : Int
instance : Inhabited KindC := ⟨⟨[], 0⟩⟩
instance : En KindC := ⟨fun k => [.string (bstr k.name), .int .i64 k.args], 2, fun _ => rfl, fun _ => rfl, by decide⟩
def kindsA : List KindC := [⟨[], 0⟩, ⟨[112, 101, 114, 105, 111, 100, 105, 99, 45, 119, 97, 105, 116], 0⟩, ⟨[116, 105, 109, 101, 100, 45, 119, 97, 105, 116], 1⟩, ⟨[115, 117, 115, 112, 101, 110, 100], 0⟩, ⟨[114, 101, 115, 117, 109, 101], 1⟩, ⟨[115, 116, 97, 114, 116], 1⟩, ⟨[115, 116, 111, 112], 1⟩,
  ⟨[115, 101, 116, 45, 112, 114, 105, 111, 114, 105, 116, 121], 2⟩, ⟨[103, 101, 116, 45, 116, 105, 109, 101], 0⟩, ⟨[119, 114, 105, 116, 101, 45, 115, 97, 109, 112, 108, 105, 110, 103], 3⟩, ⟨[114, 101, 97, 100, 45, 115, 97, 109, 112, 108, 105, 110, 103], 2⟩, ⟨[115, 101, 110, 100], 4⟩, ⟨[114, 101, 99, 101, 105, 118, 101], 4⟩,
  ⟨[115, 101, 109, 45, 119, 97, 105, 116], 4⟩, ⟨[115, 101, 109, 45, 115, 105, 103, 110, 97, 108], 1⟩, ⟨[102, 108, 97, 103, 45, 115, 101, 116], 1⟩, ⟨[102, 108, 97, 103, 45, 114, 101, 115, 101, 116], 1⟩, ⟨[102, 108, 97, 103, 45, 119, 97, 105, 116], 4⟩, ⟨[112, 111, 111, 108, 45, 112, 117, 116], 4⟩, ⟨[112, 111, 111, 108, 45, 103, 101, 116], 4⟩,
  ⟨[115, 108, 97, 116, 101, 45, 115, 104, 111, 119], 3⟩, ⟨[115, 108, 97, 116, 101, 45, 114, 101, 97, 100], 4⟩, ⟨[115, 108, 97, 116, 101, 45, 99, 108, 101, 97, 114], 1⟩, ⟨[114, 97, 105, 115, 101, 45, 101, 114, 114, 111, 114], 1⟩, ⟨[108, 111, 97, 100], 1⟩, ⟨[115, 116, 111, 114, 101], 2⟩, ⟨[103, 101, 116, 45, 109, 111, 100, 101], 0⟩, ⟨[115, 101, 116, 45, 109, 111, 100, 101], 1⟩]
def isA (no : Int) : Prop := 1 ≤ no ∧ no < 28
instance (no : Int) : Decidable (isA no) := by unfold isA; infer_instance
def kindA (no : Int) : KindC := if isA no then ix kindsA no else ⟨[], 4⟩
def nameA (no : Int) : List UInt8 := (kindA no).name
def argsA (no : Int) : Int := (kindA no).args
def timedA (no : Int) : Prop := no = 11 ∨ no = 12 ∨ no = 13 ∨ no = 17 ∨ no = 18 ∨ no = 19 ∨ no = 21
instance (no : Int) : Decidable (timedA no) := by unfold timedA; infer_instance
theorem kindA_yes {no : Int} (h : isA no) : kindA no = ix kindsA no := if_pos h
theorem kindA_no {no : Int} (h : ¬ isA no) : kindA no = ⟨[], 4⟩ := if_neg h
theorem isA_cases {no : Int} (h : isA no) : ∃ k : Nat, k < 27 ∧ no = ((k + 1 : Nat) : Int) := ⟨(no - 1).toNat, by have := h.1; have := h.2; omega, by have := h.1; omega⟩

attribute [local irreducible] BrK GenK EGenK EUnitK CallK FnK CallV GuardO GuardC CondW opX opK opKc chkR eqR seqK blkK endL WL WD W LoopW BinK Tr drewK resL PickK NotK NilK ExtrK getK Instr.storeAt Instr.loadAt Instr.fieldAt Instr.indexAt Instr.lookup Instr.mapUpdate Instr.box Instr.alloc Instr.build Instr.buildSlice Instr.makeSlice Instr.makeMap Instr.sliceAt Instr.field Instr.index Instr.makeInterface Instr.typeAssert Builtin.len_ Builtin.append_ Builtin.cap_ Builtin.min_ Builtin.max_ Builtin.copy_ Builtin.clear_ convert binOp mp blk rob sl sep ex fact old
attribute [local irreducible] NegK
theorem is_ok {no : Int} : Trip Tryd.prog 54 [.int .i64 no].toArray [] fun v l' => v = .bool (decide (isA no)) ∧ l' = [] := by
  intro F K hK
  simp only [List.nil_append]
  (refine Tr.enter (rs := [.tmp 2]) mixed fn54 rfl (by simp +arith [Tryd.ntmps54]) fun u => ?_; simp only [cd54, Tryd.f54])
  by_cases h : isA no
  · have ⟨h1, h2⟩ := h
    ((try simp only [WKb, ↓reduceIte, Nat.reduceEqDiff]) <;> (repeat' ((first
    | (refine G.tr ?_; first | refine S.a ?_ | refine S.t ?_ | refine Tr.brK ?_ ?_ | refine S.n fun _ => ?_ | refine S.i fun hix => ?_ | (refine S.g fun hb => ?_; (try simp only [hb])) | (refine S.s (fun hb => ?_) (fun hb => ?_) <;> ((try simp only [hb]) <;> (try (have hp := hb; simp only [WKs] at hp; (try have hq := Int.not_le.2 hp); (try have hq := Int.not_lt.2 hp))))))
    | ((fail_if_success refine G.tr ?_); exact G.prop S.p)
    | fail) <;> (try simp only [WKb, ↓reduceIte, Nat.reduceEqDiff]))))
    all_goals
      refine Tr.fin hK ⟨(by first | (simp [*]; done) | (simp only [WKe, ↓reduceIte, reduceCtorEq, Int.reduceEq, eq_self, *, h, h2]; done) | (simp only [WKe, ↓reduceIte, reduceCtorEq, Int.reduceEq, *, h, h2]; rfl)), rfl⟩ ?_
      ((try clear hK) <;> (try simp only [WKe, *]) <;> repeat (first | with_reducible exact EntR.done | refine S.e ?_ | (refine S.f ?_ <;> (try simp only [WKe, ↓reduceIte, reduceCtorEq, Int.reduceEq, *])) | with_reducible apply EntR.ex | refine EntR.drop (F := F) ?_ | refine EntR.drop ?_))
  · have h' := h
    unfold isA at h'
    by_cases h1 : 1 ≤ no
    · have h2 : ¬ no < 28 := by omega
      ((try simp only [WKb, ↓reduceIte, Nat.reduceEqDiff]) <;> (repeat' ((first
    | (refine G.tr ?_; first | refine S.a ?_ | refine S.t ?_ | refine Tr.brK ?_ ?_ | refine S.n fun _ => ?_ | refine S.i fun hix => ?_ | (refine S.g fun hb => ?_; (try simp only [hb])) | (refine S.s (fun hb => ?_) (fun hb => ?_) <;> ((try simp only [hb]) <;> (try (have hp := hb; simp only [WKs] at hp; (try have hq := Int.not_le.2 hp); (try have hq := Int.not_lt.2 hp))))))
    | ((fail_if_success refine G.tr ?_); exact G.prop S.p)
    | fail) <;> (try simp only [WKb, ↓reduceIte, Nat.reduceEqDiff]))))
      all_goals
        refine Tr.fin hK ⟨(by first | (simp [*]; done) | (simp only [WKe, ↓reduceIte, reduceCtorEq, Int.reduceEq, eq_self, *, h, h2]; done) | (simp only [WKe, ↓reduceIte, reduceCtorEq, Int.reduceEq, *, h, h2]; rfl)), rfl⟩ ?_
        ((try clear hK) <;> (try simp only [WKe, *]) <;> repeat (first | with_reducible exact EntR.done | refine S.e ?_ | (refine S.f ?_ <;> (try simp only [WKe, ↓reduceIte, reduceCtorEq, Int.reduceEq, *])) | with_reducible apply EntR.ex | refine EntR.drop (F := F) ?_ | refine EntR.drop ?_))
    · ((try simp only [WKb, ↓reduceIte, Nat.reduceEqDiff]) <;> (repeat' ((first
    | (refine G.tr ?_; first | refine S.a ?_ | refine S.t ?_ | refine Tr.brK ?_ ?_ | refine S.n fun _ => ?_ | refine S.i fun hix => ?_ | (refine S.g fun hb => ?_; (try simp only [hb])) | (refine S.s (fun hb => ?_) (fun hb => ?_) <;> ((try simp only [hb]) <;> (try (have hp := hb; simp only [WKs] at hp; (try have hq := Int.not_le.2 hp); (try have hq := Int.not_lt.2 hp))))))
    | ((fail_if_success refine G.tr ?_); exact G.prop S.p)
    | fail) <;> (try simp only [WKb, ↓reduceIte, Nat.reduceEqDiff]))))
      all_goals
        refine Tr.fin hK ⟨(by first | (simp [*]; done) | (simp only [WKe, ↓reduceIte, reduceCtorEq, Int.reduceEq, eq_self, *, h]; done) | (simp only [WKe, ↓reduceIte, reduceCtorEq, Int.reduceEq, *, h]; rfl)), rfl⟩ ?_
        ((try clear hK) <;> (try simp only [WKe, *]) <;> repeat (first | with_reducible exact EntR.done | refine S.e ?_ | (refine S.f ?_ <;> (try simp only [WKe, ↓reduceIte, reduceCtorEq, Int.reduceEq, *])) | with_reducible apply EntR.ex | refine EntR.drop (F := F) ?_ | refine EntR.drop ?_))

theorem isR_ok {no : Int} : Trip Tryd.prog 59 [.int .i64 no].toArray [] fun v l' => v = .bool (decide (isA no)) ∧ l' = [] := by
  intro F K hK
  simp only [List.nil_append]
  (refine Tr.enter (rs := [.tmp 2]) mixed fn59 rfl (by simp +arith [Tryd.ntmps59]) fun u => ?_; simp only [cd59, Tryd.f59])
  by_cases h : isA no
  · have ⟨h1, h2⟩ := h
    ((try simp only [WKb, ↓reduceIte, Nat.reduceEqDiff]) <;> (repeat' ((first
    | (refine G.tr ?_; first | refine S.a ?_ | refine S.t ?_ | refine Tr.brK ?_ ?_ | refine S.n fun _ => ?_ | refine S.i fun hix => ?_ | (refine S.g fun hb => ?_; (try simp only [hb])) | (refine S.s (fun hb => ?_) (fun hb => ?_) <;> ((try simp only [hb]) <;> (try (have hp := hb; simp only [WKs] at hp; (try have hq := Int.not_le.2 hp); (try have hq := Int.not_lt.2 hp))))))
    | ((fail_if_success refine G.tr ?_); exact G.prop S.p)
    | fail) <;> (try simp only [WKb, ↓reduceIte, Nat.reduceEqDiff]))))
    all_goals
      refine Tr.fin hK ⟨(by first | (simp [*]; done) | (simp only [WKe, ↓reduceIte, reduceCtorEq, Int.reduceEq, eq_self, *, h, h2]; done) | (simp only [WKe, ↓reduceIte, reduceCtorEq, Int.reduceEq, *, h, h2]; rfl)), rfl⟩ ?_
      ((try clear hK) <;> (try simp only [WKe, *]) <;> repeat (first | with_reducible exact EntR.done | refine S.e ?_ | (refine S.f ?_ <;> (try simp only [WKe, ↓reduceIte, reduceCtorEq, Int.reduceEq, *])) | with_reducible apply EntR.ex | refine EntR.drop (F := F) ?_ | refine EntR.drop ?_))
  · have h' := h
    unfold isA at h'
    by_cases h1 : 1 ≤ no
    · have h2 : ¬ no < 28 := by omega
      ((try simp only [WKb, ↓reduceIte, Nat.reduceEqDiff]) <;> (repeat' ((first
    | (refine G.tr ?_; first | refine S.a ?_ | refine S.t ?_ | refine Tr.brK ?_ ?_ | refine S.n fun _ => ?_ | refine S.i fun hix => ?_ | (refine S.g fun hb => ?_; (try simp only [hb])) | (refine S.s (fun hb => ?_) (fun hb => ?_) <;> ((try simp only [hb]) <;> (try (have hp := hb; simp only [WKs] at hp; (try have hq := Int.not_le.2 hp); (try have hq := Int.not_lt.2 hp))))))
    | ((fail_if_success refine G.tr ?_); exact G.prop S.p)
    | fail) <;> (try simp only [WKb, ↓reduceIte, Nat.reduceEqDiff]))))
      all_goals
        refine Tr.fin hK ⟨(by first | (simp [*]; done) | (simp only [WKe, ↓reduceIte, reduceCtorEq, Int.reduceEq, eq_self, *, h, h2]; done) | (simp only [WKe, ↓reduceIte, reduceCtorEq, Int.reduceEq, *, h, h2]; rfl)), rfl⟩ ?_
        ((try clear hK) <;> (try simp only [WKe, *]) <;> repeat (first | with_reducible exact EntR.done | refine S.e ?_ | (refine S.f ?_ <;> (try simp only [WKe, ↓reduceIte, reduceCtorEq, Int.reduceEq, *])) | with_reducible apply EntR.ex | refine EntR.drop (F := F) ?_ | refine EntR.drop ?_))
    · ((try simp only [WKb, ↓reduceIte, Nat.reduceEqDiff]) <;> (repeat' ((first
    | (refine G.tr ?_; first | refine S.a ?_ | refine S.t ?_ | refine Tr.brK ?_ ?_ | refine S.n fun _ => ?_ | refine S.i fun hix => ?_ | (refine S.g fun hb => ?_; (try simp only [hb])) | (refine S.s (fun hb => ?_) (fun hb => ?_) <;> ((try simp only [hb]) <;> (try (have hp := hb; simp only [WKs] at hp; (try have hq := Int.not_le.2 hp); (try have hq := Int.not_lt.2 hp))))))
    | ((fail_if_success refine G.tr ?_); exact G.prop S.p)
    | fail) <;> (try simp only [WKb, ↓reduceIte, Nat.reduceEqDiff]))))
      all_goals
        refine Tr.fin hK ⟨(by first | (simp [*]; done) | (simp only [WKe, ↓reduceIte, reduceCtorEq, Int.reduceEq, eq_self, *, h]; done) | (simp only [WKe, ↓reduceIte, reduceCtorEq, Int.reduceEq, *, h]; rfl)), rfl⟩ ?_
        ((try clear hK) <;> (try simp only [WKe, *]) <;> repeat (first | with_reducible exact EntR.done | refine S.e ?_ | (refine S.f ?_ <;> (try simp only [WKe, ↓reduceIte, reduceCtorEq, Int.reduceEq, *])) | with_reducible apply EntR.ex | refine EntR.drop (F := F) ?_ | refine EntR.drop ?_))

theorem kinds_ok : Trip Tryd.prog 88 [].toArray [] fun v l' => v = .agg (flat kindsA).toArray ∧ l' = [] := by
  intro F K hK
  simp only [List.nil_append]
  (refine Tr.enter (rs := [.cell 0 151]) mixed fn88 rfl (by simp +arith [Tryd.ntmps88]) fun u => ?_; simp only [cd88, Tryd.f88])
  ((try simp only [WKb, WKt]) <;> (repeat' ((first
    | (refine G.tr ?_; first | refine S.a ?_ | refine S.t ?_ | refine Tr.brK ?_ ?_ | refine S.n fun _ => ?_ | refine S.i fun hix => ?_ | (refine S.g fun hb => ?_; (try simp only [hb])) | (refine S.s (fun hb => ?_) (fun hb => ?_) <;> ((try simp only [hb]) <;> (try (have hp := hb; simp only [WKs] at hp; (try have hq := Int.not_le.2 hp); (try have hq := Int.not_lt.2 hp))))))
    | ((fail_if_success refine G.tr ?_); exact G.prop S.p)
    | fail) <;> (try simp only [WKb, WKh, ↓reduceIte, Nat.reduceEqDiff, Nat.reduceAdd, WKt]))))
  all_goals
    refine Tr.fin hK ⟨rfl, rfl⟩ ?_
    ((try clear hK) <;> (try simp only [WKe, *]) <;> repeat (first | with_reducible exact EntR.done | refine S.e ?_ | (refine S.f ?_ <;> (try simp only [WKe, ↓reduceIte, reduceCtorEq, Int.reduceEq, *])) | with_reducible apply EntR.ex | refine EntR.drop (F := F) ?_ | refine EntR.drop ?_))

attribute [local irreducible] kindsA flat
theorem kinds_len : 28 = kindsA.length := by unfold kindsA; rfl
theorem of_ok {no : Int} : Trip Tryd.prog 93 [.int .i64 no].toArray [] fun v l' => v = .agg (En.enc (kindA no)).toArray ∧ l' = [] := by
  intro F K hK
  simp only [List.nil_append]
  have hkl := kinds_len
  (refine Tr.enter (rs := [.cell 2 150]) mixed fn93 rfl (by simp +arith [Tryd.ntmps93]) fun u => ?_; simp only [cd93, Tryd.f93])
  by_cases h : isA no
  · have ⟨h1, h2⟩ := h
    have hy := kindA_yes h
    have hd : decide (isA no) = true := decide_eq_true h
    ((try simp only [WKb]) <;> (repeat' ((first
    | (refine G.tr ?_; first | (refine G.aidx ?_; refine A.aidxE (xs := kindsA) (by omega) (by omega) kinds_len rfl ?_) | refine S.a ?_ | refine S.t ?_ | refine Tr.brK ?_ ?_ | (refine G.call 54 ?_; refine S.c ?_ (h := is_ok)) | (refine G.call 88 ?_; refine S.c ?_ (h := kinds_ok)) | refine S.n fun _ => ?_ | refine S.i fun hix => ?_ | (refine S.g fun hb => ?_; (try simp only [hb])) | (refine S.s (fun hb => ?_) (fun hb => ?_) <;> ((try simp only [hb]) <;> (try (have hp := hb; simp only [WKs] at hp; (try have hq := Int.not_le.2 hp); (try have hq := Int.not_lt.2 hp))))))
    | rintro _ _ ⟨rfl, rfl⟩
    | ((fail_if_success refine G.tr ?_); exact G.prop S.p)
    | fail) <;> (try simp only [WKb, ↓reduceIte, Nat.reduceEqDiff, WKt, hd]))))
    all_goals
      refine Tr.fin hK ⟨by rw [hy]; try rfl, rfl⟩ ?_
      ((try clear hK) <;> (try simp only [WKe, *]) <;> repeat (first | with_reducible exact EntR.done | refine S.e ?_ | (refine S.f ?_ <;> (try simp only [WKe, ↓reduceIte, reduceCtorEq, Int.reduceEq, *])) | with_reducible apply EntR.ex | refine EntR.drop (F := F) ?_ | refine EntR.drop ?_))
  · have hd : decide (isA no) = false := decide_eq_false h
    have hy := kindA_no h
    ((try simp only [WKb]) <;> (repeat' ((first
    | (refine G.tr ?_; first | refine S.a ?_ | refine S.t ?_ | refine Tr.brK ?_ ?_ | (refine G.call 54 ?_; refine S.c ?_ (h := is_ok)) | (refine G.call 88 ?_; refine S.c ?_ (h := kinds_ok)) | refine S.n fun _ => ?_ | refine S.i fun hix => ?_ | (refine S.g fun hb => ?_; (try simp only [hb])) | (refine S.s (fun hb => ?_) (fun hb => ?_) <;> ((try simp only [hb]) <;> (try (have hp := hb; simp only [WKs] at hp; (try have hq := Int.not_le.2 hp); (try have hq := Int.not_lt.2 hp))))))
    | rintro _ _ ⟨rfl, rfl⟩
    | ((fail_if_success refine G.tr ?_); exact G.prop S.p)
    | fail) <;> (try simp only [WKb, WKh, ↓reduceIte, Nat.reduceEqDiff, Nat.reduceAdd, WKt, hd]))))
    all_goals
      refine Tr.fin hK ⟨by rw [hy]; try rfl, rfl⟩ ?_
      ((try clear hK) <;> (try simp only [WKe, *]) <;> repeat (first | with_reducible exact EntR.done | refine S.e ?_ | (refine S.f ?_ <;> (try simp only [WKe, ↓reduceIte, reduceCtorEq, Int.reduceEq, *])) | with_reducible apply EntR.ex | refine EntR.drop (F := F) ?_ | refine EntR.drop ?_))

theorem name_ok {no : Int} : Trip Tryd.prog 55 [.int .i64 no].toArray [] fun v l' => v = .string (bstr (nameA no)) ∧ l' = [] := by
  intro F K hK
  simp only [List.nil_append]
  (refine Tr.enter (rs := [.tmp 2]) mixed fn55 rfl (by simp +arith [Tryd.ntmps55]) fun u => ?_; simp only [cd55, Tryd.f55])
  ((try simp only [WKb, ↓reduceIte, Nat.reduceEqDiff, WKt]) <;> (repeat' ((first
    | (refine G.tr ?_; first | refine S.a ?_ | refine S.t ?_ | refine Tr.brK ?_ ?_ | (refine G.call 93 ?_; refine S.c ?_ (h := of_ok)) | refine S.n fun _ => ?_ | refine S.i fun hix => ?_ | (refine S.g fun hb => ?_; (try simp only [hb])) | (refine S.s (fun hb => ?_) (fun hb => ?_) <;> ((try simp only [hb]) <;> (try (have hp := hb; simp only [WKs] at hp; (try have hq := Int.not_le.2 hp); (try have hq := Int.not_lt.2 hp))))))
    | rintro _ _ ⟨rfl, rfl⟩
    | ((fail_if_success refine G.tr ?_); exact G.prop S.p)
    | fail) <;> (try simp only [WKb, ↓reduceIte]))))
  all_goals
    refine Tr.fin hK ⟨rfl, rfl⟩ ?_
    ((try clear hK) <;> (try simp only [WKe, *]) <;> repeat (first | with_reducible exact EntR.done | refine S.e ?_ | (refine S.f ?_ <;> (try simp only [WKe, ↓reduceIte, reduceCtorEq, Int.reduceEq, *])) | with_reducible apply EntR.ex | refine EntR.drop (F := F) ?_ | refine EntR.drop ?_))

theorem args_ok {no : Int} : Trip Tryd.prog 103 [.int .i64 no].toArray [] fun v l' => v = .int .i64 (argsA no) ∧ l' = [] := by
  intro F K hK
  simp only [List.nil_append]
  (refine Tr.enter (rs := [.tmp 2]) mixed fn103 rfl (by simp +arith [Tryd.ntmps103]) fun u => ?_; simp only [cd103, Tryd.f103])
  ((try simp only [WKb, ↓reduceIte, Nat.reduceEqDiff]) <;> (repeat' ((first
    | (refine G.tr ?_; first | refine S.a ?_ | refine S.t ?_ | refine Tr.brK ?_ ?_ | (refine G.call 93 ?_; refine S.c ?_ (h := of_ok)) | refine S.n fun _ => ?_ | refine S.i fun hix => ?_ | (refine S.g fun hb => ?_; (try simp only [hb])) | (refine S.s (fun hb => ?_) (fun hb => ?_) <;> ((try simp only [hb]) <;> (try (have hp := hb; simp only [WKs] at hp; (try have hq := Int.not_le.2 hp); (try have hq := Int.not_lt.2 hp))))))
    | rintro _ _ ⟨rfl, rfl⟩
    | ((fail_if_success refine G.tr ?_); exact G.prop S.p)
    | fail) <;> (try simp only [WKb, ↓reduceIte]))))
  all_goals
    refine Tr.fin hK ⟨rfl, rfl⟩ ?_
    ((try clear hK) <;> (try simp only [WKe, *]) <;> repeat (first | with_reducible exact EntR.done | refine S.e ?_ | (refine S.f ?_ <;> (try simp only [WKe, ↓reduceIte, reduceCtorEq, Int.reduceEq, *])) | with_reducible apply EntR.ex | refine EntR.drop (F := F) ?_ | refine EntR.drop ?_))

end Go.Proofs.YtgkhjgpgdfbdpaaDoor

namespace Go.Proofs.YtgkhjgpgdfbdpaaDoor
open Go Go.Wk
set_option maxHeartbeats 6400000
set_option maxRecDepth 100000

instance : ElT 43 Int := ⟨⟩
instance : ElT 147 Str := ⟨⟩
theorem argsR_eq (no : Int) : argsA no = (if no = 1 ∨ no = 3 ∨ no = 8 ∨ no = 26 then 0 else if no = 2 ∨ no = 4 ∨ no = 5 ∨ no = 6 ∨ no = 14 ∨ no = 15 ∨ no = 16 ∨ no = 22 ∨ no = 23 ∨ no = 24 ∨ no = 27 then 1 else if no = 7 ∨ no = 10 ∨ no = 25 then 2 else if no = 9 ∨ no = 20 then 3 else 4) := by
  unfold argsA
  by_cases h : isA no
  · rw [kindA_yes h]
    obtain ⟨k, hk, rfl⟩ := isA_cases h
    iterate 27 (rcases k with _ | k; · rfl)
    omega
  · rw [kindA_no h]
    unfold isA at h
    repeat (rw [if_neg (by omega)])
theorem argsA_le (no : Int) : 0 ≤ argsA no ∧ argsA no ≤ 4 := by rw [argsR_eq]; (repeat' split) <;> omega
attribute [local irreducible] BrK GenK EGenK EUnitK CallK FnK CallV GuardO GuardC CondW opX opK opKc chkR eqR seqK blkK endL WL WD W LoopW BinK Tr drewK resL PickK NotK NilK ExtrK getK Instr.storeAt Instr.loadAt Instr.fieldAt Instr.indexAt Instr.lookup Instr.mapUpdate Instr.box Instr.alloc Instr.build Instr.buildSlice Instr.makeSlice Instr.makeMap Instr.sliceAt Instr.field Instr.index Instr.makeInterface Instr.typeAssert Builtin.len_ Builtin.append_ Builtin.cap_ Builtin.min_ Builtin.max_ Builtin.copy_ Builtin.clear_ convert binOp mp blk rob sl sep ex fact old
attribute [local irreducible] NegK kindsA flat
theorem argsR_ok {no : Int} : Trip Tryd.prog 104 [.int .i64 no].toArray [] fun v l' => v = .int .i64 (argsA no) ∧ l' = [] := by
  intro F K hK
  simp only [List.nil_append]
  have fin : ∀ (b : Int) (l : List Asrt), b = argsA no → EntR [] l F → Tr l (K (.int .i64 b)) := fun b l h he => Tr.fin hK ⟨by rw [h], rfl⟩ he
  (refine Tr.enter (rs := [.tmp 2]) mixed fn104 rfl (by simp +arith [Tryd.ntmps104]) fun u => ?_; simp only [cd104, Tryd.f104])
  ((try simp only [WKb, ↓reduceIte, Nat.reduceEqDiff]) <;> (repeat' ((first
    | (refine G.tr ?_; first | refine S.a ?_ | refine S.t ?_ | refine Tr.brK ?_ ?_ | refine S.n fun _ => ?_ | refine S.i fun hix => ?_ | (refine S.g fun hb => ?_; (try simp only [hb])) | (refine S.s (fun hb => ?_) (fun hb => ?_) <;> ((try simp only [hb]) <;> (try (have hp := hb; simp only [WKs] at hp; (try have hq := Int.not_le.2 hp); (try have hq := Int.not_lt.2 hp))))))
    | ((fail_if_success refine G.tr ?_); exact G.prop S.p)
    | fail) <;> (try simp only [WKb, ↓reduceIte, Nat.reduceEqDiff]))))
  all_goals
    refine fin _ _ (by rw [argsR_eq]; (try simp only [decide_eq_true_eq, decide_eq_false_iff_not] at *) <;> first | (simp only [*]; simp; done) | (simp [*]; done) | ((repeat' split) <;> omega)) ?_
    ((try clear hK) <;> (try simp only [WKe, ↓reduceIte, reduceCtorEq, Int.reduceEq, *]) <;> repeat (first | with_reducible exact EntR.done | refine S.e ?_ | (refine S.f ?_ <;> (try simp only [WKe, ↓reduceIte, reduceCtorEq, Int.reduceEq, *])) | with_reducible apply EntR.ex | refine EntR.drop (F := F) ?_ | refine EntR.drop ?_))

end Go.Proofs.YtgkhjgpgdfbdpaaDoor

namespace Go.Proofs.YtgkhjgpgdfbdpaaDoor
open Go Go.Wk
set_option maxHeartbeats 6400000
set_option maxRecDepth 100000

instance : ElT 154 KindC := ⟨⟩
theorem name_inj {i j : Int} (hi : isA i) (hj : isA j) (h : nameA i = nameA j) : i = j := by
  obtain ⟨a, ha, rfl⟩ := isA_cases hi
  obtain ⟨b, hb, rfl⟩ := isA_cases hj
  have : ∀ a, a < 27 → ∀ b, b < 27 → nameA ((a + 1 : Nat) : Int) = nameA ((b + 1 : Nat) : Int) → a = b := by decide +kernel
  rw [this a ha b hb h]
theorem name_ne {i : Int} (hi : isA i) : nameA i ≠ [] := by
  obtain ⟨a, ha, rfl⟩ := isA_cases hi
  have : ∀ a, a < 27 → nameA ((a + 1 : Nat) : Int) ≠ [] := by decide +kernel
  exact this a ha
/-- A name's number. -/
def numberA (name : List UInt8) : Int := match (List.range 27).find? fun k : Nat => decide (nameA ((k + 1 : Nat) : Int) = name) with
  | some k => ((k + 1 : Nat) : Int)
  | none => 0
theorem numberA_eq {k : Int} {name : List UInt8} (hk : isA k) (h : nameA k = name) : numberA name = k := by
  unfold numberA
  split
  · rename_i j hj
    have h1 := List.find?_some hj
    have h2 := List.mem_range.1 (List.mem_of_find?_eq_some hj)
    simp only [decide_eq_true_eq] at h1
    exact name_inj (by unfold isA; omega) hk (h1.trans h.symm)
  · rename_i hn
    obtain ⟨a, ha, rfl⟩ := isA_cases hk
    have := List.find?_eq_none.1 hn a (List.mem_range.2 ha)
    simp only [decide_eq_true_eq] at this
    exact absurd h this
theorem numberA_zero {name : List UInt8} (h : ∀ k, isA k → nameA k ≠ name) : numberA name = 0 := by
  unfold numberA
  split
  · rename_i j hj
    have h1 := List.find?_some hj
    have h2 := List.mem_range.1 (List.mem_of_find?_eq_some hj)
    simp only [decide_eq_true_eq] at h1
    exact absurd h1 (h _ (by unfold isA; omega))
  · rfl
theorem numberA_spec (name : List UInt8) : (numberA name = 0 ∧ ∀ k, isA k → nameA k ≠ name) ∨ (isA (numberA name) ∧ nameA (numberA name) = name) := by
  by_cases h : ∃ k, isA k ∧ nameA k = name
  · obtain ⟨k, h1, h2⟩ := h
    have := numberA_eq h1 h2
    exact .inr ⟨by rw [this]; exact h1, by rw [this]; exact h2⟩
  · have hz : ∀ k, isA k → nameA k ≠ name := fun k h1 h2 => h ⟨k, h1, h2⟩
    exact .inl ⟨numberA_zero hz, hz⟩
def namesA : List Str := kindsA.tail.map fun k => ⟨k.name⟩
theorem names_ix {no : Int} (h : isA no) : (ix namesA (no - 1)).d = nameA no := by
  obtain ⟨k, hk, rfl⟩ := isA_cases h
  have : ∀ k, k < 27 → (ix namesA (((k + 1 : Nat) : Int) - 1)).d = nameA ((k + 1 : Nat) : Int) := by decide +kernel
  exact this k hk
attribute [local irreducible] BrK GenK EGenK EUnitK CallK FnK CallV GuardO GuardC CondW opX opK opKc chkR eqR seqK blkK endL WL WD W LoopW BinK Tr drewK resL PickK NotK NilK ExtrK getK Instr.storeAt Instr.loadAt Instr.fieldAt Instr.indexAt Instr.lookup Instr.mapUpdate Instr.box Instr.alloc Instr.build Instr.buildSlice Instr.makeSlice Instr.makeMap Instr.sliceAt Instr.field Instr.index Instr.makeInterface Instr.typeAssert Builtin.len_ Builtin.append_ Builtin.cap_ Builtin.min_ Builtin.max_ Builtin.copy_ Builtin.clear_ convert binOp mp blk rob sl sep ex fact old
attribute [local irreducible] NegK
theorem nameR_ok {no : Int} : Trip Tryd.prog 60 [.int .i64 no].toArray [] fun v l' => v = .string (bstr (nameA no)) ∧ l' = [] := by
  intro F K hK
  simp only [List.nil_append]
  (refine Tr.enter (rs := [.tmp 2]) mixed fn60 rfl (by simp +arith [Tryd.ntmps60]) fun u => ?_; simp only [cd60, Tryd.f60])
  by_cases h : isA no
  · have ⟨h1, h2⟩ := h
    have hw : IntKind.i64.wrap (no - 1) = no - 1 := wrapId (by omega) (by omega)
    have hd : decide (isA no) = true := decide_eq_true h
    have hn := names_ix h
    ((try simp only [WKb, ↓reduceIte, Nat.reduceEqDiff, WKt]) <;> (repeat' ((first
    | (refine G.tr ?_; first | refine S.a ?_ | refine S.t ?_ | refine Tr.brK ?_ ?_ | (refine G.call 59 ?_; refine S.c ?_ (h := isR_ok)) | refine S.n fun _ => ?_ | refine S.i fun hix => ?_ | (refine S.g fun hb => ?_; (try simp only [hb])) | (refine S.s (fun hb => ?_) (fun hb => ?_) <;> ((try simp only [hb]) <;> (try (have hp := hb; simp only [WKs] at hp; (try have hq := Int.not_le.2 hp); (try have hq := Int.not_lt.2 hp))))))
    | rintro _ _ ⟨rfl, rfl⟩
    | ((fail_if_success refine G.tr ?_); exact G.prop S.p)
    | fail) <;> (try simp only [WKb, ↓reduceIte, Nat.reduceEqDiff, hd, hw]))))
    all_goals
      refine Tr.fin hK ⟨by rw [← hn]; try rfl, rfl⟩ ?_
      ((try clear hK) <;> (try simp only [WKe, *]) <;> repeat (first | with_reducible exact EntR.done | refine S.e ?_ | (refine S.f ?_ <;> (try simp only [WKe, ↓reduceIte, reduceCtorEq, Int.reduceEq, *])) | with_reducible apply EntR.ex | refine EntR.drop (F := F) ?_ | refine EntR.drop ?_))
  · have hd : decide (isA no) = false := decide_eq_false h
    have hy := kindA_no h
    ((try simp only [WKb, ↓reduceIte, Nat.reduceEqDiff, WKt]) <;> (repeat' ((first
    | (refine G.tr ?_; first | refine S.a ?_ | refine S.t ?_ | refine Tr.brK ?_ ?_ | (refine G.call 59 ?_; refine S.c ?_ (h := isR_ok)) | refine S.n fun _ => ?_ | refine S.i fun hix => ?_ | (refine S.g fun hb => ?_; (try simp only [hb])) | (refine S.s (fun hb => ?_) (fun hb => ?_) <;> ((try simp only [hb]) <;> (try (have hp := hb; simp only [WKs] at hp; (try have hq := Int.not_le.2 hp); (try have hq := Int.not_lt.2 hp))))))
    | rintro _ _ ⟨rfl, rfl⟩
    | ((fail_if_success refine G.tr ?_); exact G.prop S.p)
    | fail) <;> (try simp only [WKb, ↓reduceIte, hd]))))
    all_goals
      refine Tr.fin hK ⟨by unfold nameA; rw [hy], rfl⟩ ?_
      ((try clear hK) <;> (try simp only [WKe, *]) <;> repeat (first | with_reducible exact EntR.done | refine S.e ?_ | (refine S.f ?_ <;> (try simp only [WKe, ↓reduceIte, reduceCtorEq, Int.reduceEq, *])) | with_reducible apply EntR.ex | refine EntR.drop (F := F) ?_ | refine EntR.drop ?_))

theorem numberR_ok {name : List UInt8} : Trip Tryd.prog 108 [.string (bstr name)].toArray [] fun v l' => v = .int .i64 (numberA name) ∧ l' = [] := by
  intro F K hK
  simp only [List.nil_append]
  (refine Tr.enter (rs := [.tmp 2]) mixed fn108 rfl (by simp +arith [Tryd.ntmps108]) fun u => ?_; simp only [cd108, Tryd.f108])
  ((try simp only [WKb]) <;> (repeat' ((first
    | (refine G.tr ?_; first | refine S.a ?_ | refine S.t ?_ | refine Tr.brK ?_ ?_ | (refine G.call 60 ?_; refine S.c ?_ (h := nameR_ok)) | refine S.n fun _ => ?_ | refine S.i fun hix => ?_ | (refine S.g fun hb => ?_; (try simp only [hb])) | (refine S.s (fun hb => ?_) (fun hb => ?_) <;> ((try simp only [hb]) <;> (try (have hp := hb; simp only [WKs] at hp; (try have hq := Int.not_le.2 hp); (try have hq := Int.not_lt.2 hp))))))
    | rintro _ _ ⟨rfl, rfl⟩
    | ((fail_if_success refine G.tr ?_); exact G.prop S.p)
    | fail) <;> (try simp only [WKb, WKh, ↓reduceIte, Nat.reduceEqDiff, Nat.reduceAdd, Nat.reduceSub, Int.reduceEq, Int.reduceLT, Int.reduceLE, WKt, pl108]))))
  refine Tr.loopE (α := Nat) [2, 3] [0] (fun k => [.int .i64 0, .int .i64 ((k : Int) + 1)]) (fun _ => []) (fun k => k ≤ 27 ∧ ∀ j : Nat, j < k → nameA ((j + 1 : Nat) : Int) ≠ name) (fun k => 27 - k) 0 (by (repeat (first | exact TakeL.nil | (apply TakeL.cons; focus ((first | exact TakeA.dupS | exact TakeA.dupF | ((repeat (first | with_reducible exact TakeA.here | exact TakeA.fam (by omega) (by omega) | with_reducible apply TakeA.next)); done) | ((repeat (first | exact TakeA.here | apply TakeA.next)); done) | exact TakeA.famNil | exact TakeA.nilS))) | fail)); done) rfl ⟨by omega, fun j hj => by omega⟩ fun k u hx => ?_
  obtain ⟨hk, hn⟩ := hx
  have hw : IntKind.i64.wrap ((k : Int) + 1 + 1) = ((k + 1 : Nat) : Int) + 1 := by rw [wrapId (by omega) (by omega)]; omega
  by_cases hin : k < 27
  · by_cases he : nameA ((k : Int) + 1) = name
    · have hz := numberA_eq (k := (k : Int) + 1) (by unfold isA; omega) he
      ((try simp only [WKb, ↓reduceIte, Nat.reduceEqDiff]) <;> (repeat' ((first
    | (refine G.tr ?_; first | refine S.a ?_ | refine S.t ?_ | refine Tr.brK ?_ ?_ | (refine G.call 60 ?_; refine S.c ?_ (h := nameR_ok)) | refine S.n fun _ => ?_ | refine S.i fun hix => ?_ | (refine S.g fun hb => ?_; (try simp only [hb])) | (refine S.s (fun hb => ?_) (fun hb => ?_) <;> ((try simp only [hb]) <;> (try (have hp := hb; simp only [WKs] at hp; (try have hq := Int.not_le.2 hp); (try have hq := Int.not_lt.2 hp))))))
    | rintro _ _ ⟨rfl, rfl⟩
    | ((fail_if_success refine G.tr ?_); exact G.prop S.p)
    | fail) <;> (try simp only [WKb, WKh, ↓reduceIte, Nat.reduceEqDiff, he]))))
      all_goals
        refine Tr.fin hK ⟨by rw [hz], rfl⟩ ?_
        ((try clear hK) <;> (try simp only [WKe, *]) <;> repeat (first | with_reducible exact EntR.done | refine S.e ?_ | (refine S.f ?_ <;> (try simp only [WKe, ↓reduceIte, reduceCtorEq, Int.reduceEq, *])) | with_reducible apply EntR.ex | refine EntR.drop (F := F) ?_ | refine EntR.drop ?_))
    · have hn' : ∀ j : Nat, j < k + 1 → nameA ((j + 1 : Nat) : Int) ≠ name := fun j hj => by
        by_cases hjk : j < k
        · exact hn j hjk
        · have : j = k := by omega
          subst this; exact he
      ((try simp only [WKb, ↓reduceIte, Nat.reduceEqDiff]) <;> (repeat' ((first
    | (refine G.tr ?_; first | refine S.a ?_ | refine S.t ?_ | refine Tr.brK ?_ ?_ | (refine G.call 60 ?_; refine S.c ?_ (h := nameR_ok)) | refine S.n fun _ => ?_ | refine S.i fun hix => ?_ | (refine S.g fun hb => ?_; (try simp only [hb])) | (refine S.s (fun hb => ?_) (fun hb => ?_) <;> ((try simp only [hb]) <;> (try (have hp := hb; simp only [WKs] at hp; (try have hq := Int.not_le.2 hp); (try have hq := Int.not_lt.2 hp))))))
    | rintro _ _ ⟨rfl, rfl⟩
    | ((fail_if_success refine G.tr ?_); exact G.prop S.p)
    | fail) <;> (try simp only [WKb, WKh, ↓reduceIte, Nat.reduceEqDiff, hw]))))
      all_goals (apply Tr.againE (k + 1); (focus (simp only [WKb, ↓reduceIte, Nat.reduceEqDiff])); (focus ((try simp only [WKb, ↓reduceIte, Nat.reduceEqDiff]); (all_goals ((repeat (refine cons_eq (by first | rfl | (simp [*]; done)) ?_)); rfl)); done)); (focus (first | omega | assumption | (simp only []; omega) | (refine ⟨by omega, by assumption⟩) | (simp only []; refine ⟨by omega, by assumption⟩) | ((try simp only []); (repeat' (first | omega | assumption | apply hn' | refine And.intro ?_ ?_)); done))); (focus (first | omega | (simp only []; omega))); (focus (((try clear hK) <;> (try simp only [WKe, *]) <;> repeat (first | with_reducible exact EntR.done | refine S.e ?_ | (refine S.f ?_ <;> (try simp only [WKe, ↓reduceIte, reduceCtorEq, Int.reduceEq, *])) | with_reducible apply EntR.ex | refine EntR.drop (F := F) ?_ | refine EntR.drop ?_)))))
  · have hz : numberA name = 0 := numberA_zero fun j hj h => by
      obtain ⟨a, ha, rfl⟩ := isA_cases hj
      exact hn a (by omega) h
    ((try simp only [WKb, ↓reduceIte, Nat.reduceEqDiff]) <;> (repeat' ((first
    | (refine G.tr ?_; first | refine S.a ?_ | refine S.t ?_ | refine Tr.brK ?_ ?_ | (refine G.call 60 ?_; refine S.c ?_ (h := nameR_ok)) | refine S.n fun _ => ?_ | refine S.i fun hix => ?_ | (refine S.g fun hb => ?_; (try simp only [hb])) | (refine S.s (fun hb => ?_) (fun hb => ?_) <;> ((try simp only [hb]) <;> (try (have hp := hb; simp only [WKs] at hp; (try have hq := Int.not_le.2 hp); (try have hq := Int.not_lt.2 hp))))))
    | rintro _ _ ⟨rfl, rfl⟩
    | ((fail_if_success refine G.tr ?_); exact G.prop S.p)
    | fail) <;> (try simp only [WKb, ↓reduceIte]))))
    all_goals
      refine Tr.fin hK ⟨by rw [hz], rfl⟩ ?_
      ((try clear hK) <;> (try simp only [WKe, *]) <;> repeat (first | with_reducible exact EntR.done | refine S.e ?_ | (refine S.f ?_ <;> (try simp only [WKe, ↓reduceIte, reduceCtorEq, Int.reduceEq, *])) | with_reducible apply EntR.ex | refine EntR.drop (F := F) ?_ | refine EntR.drop ?_))

abbrev nmB (b : Nat) (name : List UInt8) : Asrt := blk b (.cells [.string (bstr name)].toArray 9 (0, 0))
theorem same_ok {k : KindC} {b : Nat} {name : List UInt8} : Trip Tryd.prog 90 [.agg (En.enc k).toArray, .pointer (some ⟨b, 0, none⟩)].toArray [nmB b name] fun v l' => v = .bool (decide (k.name = name)) ∧ l' = [nmB b name] := by
  intro F K hK
  simp only [List.cons_append, List.nil_append]
  obtain ⟨kn, ka⟩ := k
  (refine Tr.enter (rs := [.tmp 3]) mixed fn90 rfl (by simp +arith [Tryd.ntmps90]) fun u => ?_; simp only [cd90, Tryd.f90])
  ((try simp only [WKb, ↓reduceIte, Nat.reduceEqDiff, Nat.reduceAdd]) <;> (repeat' ((first
    | (refine G.tr ?_; first | refine S.a ?_ | refine S.t ?_ | refine Tr.brK ?_ ?_ | refine S.n fun _ => ?_ | refine S.i fun hix => ?_ | (refine S.g fun hb => ?_; (try simp only [hb])) | (refine S.s (fun hb => ?_) (fun hb => ?_) <;> ((try simp only [hb]) <;> (try (have hp := hb; simp only [WKs] at hp; (try have hq := Int.not_le.2 hp); (try have hq := Int.not_lt.2 hp))))))
    | ((fail_if_success refine G.tr ?_); exact G.prop S.p)
    | fail) <;> (try simp only [WKb, WKh, ↓reduceIte, Nat.reduceEqDiff]))))
  all_goals
    refine Tr.fin hK ⟨rfl, rfl⟩ ?_
    ((try clear hK) <;> (try simp only [WKe, *]) <;> repeat (first | with_reducible exact EntR.done | refine S.e ?_ | (refine S.f ?_ <;> (try simp only [WKe, ↓reduceIte, reduceCtorEq, Int.reduceEq, *])) | with_reducible apply EntR.ex | refine EntR.drop (F := F) ?_ | refine EntR.drop ?_))

theorem kinds_name {k : Nat} (h : k < 27) : (ix kindsA ((k + 1 : Nat) : Int)).name = nameA ((k + 1 : Nat) : Int) := by
  unfold nameA
  rw [kindA_yes (by unfold isA; omega)]
theorem kinds_zero : (ix kindsA 0).name = [] := rfl
theorem flat56 : (flat kindsA).length = 56 := rfl
attribute [local irreducible] kindsA flat
theorem indexFn_ok {s : SV} {b : Nat} {name : List UInt8} : Trip Tryd.prog 89 [s.v, .func (.func 90) #[] [.pointer (some ⟨b, 0, none⟩)].toArray].toArray [sl false s.v kindsA, nmB b name]
    fun v l' => ∃ n : Int, (if 0 < n then n else 0) = numberA name ∧ v = .int .i64 n ∧ l' = [] := by
  intro F K hK
  simp only [List.cons_append, List.nil_append]
  have hkl := kinds_len
  
  (refine Tr.enter (rs := [.tmp 4]) mixed fn89 rfl (by simp +arith [Tryd.ntmps89]) fun u => ?_; simp only [cd89, Tryd.f89])
  
  ((try simp only [WKb, ↓reduceIte, Nat.reduceEqDiff, Nat.reduceAdd]) <;> (repeat' ((first
    | (refine G.tr ?_; first | refine S.a ?_ | refine S.t ?_ | refine Tr.brK ?_ ?_ | (refine G.call 90 ?_; refine S.c ?_ (h := same_ok)) | refine S.n fun _ => ?_ | refine S.i fun hix => ?_ | (refine S.g fun hb => ?_; (try simp only [hb])) | (refine S.s (fun hb => ?_) (fun hb => ?_) <;> ((try simp only [hb]) <;> (try (have hp := hb; simp only [WKs] at hp; (try have hq := Int.not_le.2 hp); (try have hq := Int.not_lt.2 hp))))))
    | rintro _ _ ⟨rfl, rfl⟩
    | ((fail_if_success refine G.tr ?_); exact G.prop S.p)
    | fail) <;> (try simp only [WKb]))))
  refine Tr.loopE (α := Nat) [4, 8] [0, 1, 7] (fun k => [.int .i64 0, .int .i64 k]) (fun _ => [sl false s.v kindsA, nmB b name]) (fun k => k ≤ 28 ∧ ∀ j : Nat, j < k → (ix kindsA (j : Int)).name ≠ name) (fun k => 28 - k) 0 (by (repeat (first | exact TakeL.nil | (apply TakeL.cons; focus ((first | exact TakeA.dupS | exact TakeA.dupF | ((repeat (first | with_reducible exact TakeA.here | exact TakeA.fam (by omega) (by omega) | with_reducible apply TakeA.next)); done) | ((repeat (first | exact TakeA.here | apply TakeA.next)); done) | exact TakeA.famNil | exact TakeA.nilS))) | fail)); done) rfl ⟨by omega, fun j hj => by omega⟩ fun k u hx => ?_
  obtain ⟨hk, hn⟩ := hx
  have hw := wrapSucc (k := k) (by omega)
  by_cases hin : k < 28
  · by_cases he : (ix kindsA (k : Int)).name = name
    · have hz : (if 0 < (k : Int) then (k : Int) else 0) = numberA name := by
        rcases k with _ | k
        · have : numberA name = 0 := numberA_zero fun j hj h => by
            rw [show ((0 : Nat) : Int) = 0 from rfl, kinds_zero] at he
            exact name_ne hj (h.trans he.symm)
          rw [this]; rfl
        · rw [kinds_name (by omega)] at he
          rw [numberA_eq (k := ((k + 1 : Nat) : Int)) (by unfold isA; omega) he, if_pos (by omega)]
      have hd : decide ((ix kindsA (k : Int)).name = name) = true := decide_eq_true he
      ((try simp only [WKb, ↓reduceIte, Nat.reduceEqDiff]) <;> (repeat' ((first
    | (refine G.tr ?_; first | refine S.a ?_ | refine S.t ?_ | refine Tr.brK ?_ ?_ | (refine G.call 90 ?_; refine S.c ?_ (h := same_ok)) | refine S.n fun _ => ?_ | refine S.i fun hix => ?_ | (refine S.g fun hb => ?_; (try simp only [hb])) | (refine S.s (fun hb => ?_) (fun hb => ?_) <;> ((try simp only [hb]) <;> (try (have hp := hb; simp only [WKs] at hp; (try have hq := Int.not_le.2 hp); (try have hq := Int.not_lt.2 hp))))))
    | rintro _ _ ⟨rfl, rfl⟩
    | ((fail_if_success refine G.tr ?_); exact G.prop S.p)
    | fail) <;> (try simp only [WKb, ↓reduceIte, Nat.reduceEqDiff, hd]))))
      all_goals
        apply Tr.fin hK ⟨_, hz, rfl, rfl⟩
        ((try clear hK) <;> (try simp only [WKe, *]) <;> repeat (first | with_reducible exact EntR.done | refine S.e ?_ | (refine S.f ?_ <;> (try simp only [WKe, ↓reduceIte, reduceCtorEq, Int.reduceEq, *])) | with_reducible apply EntR.ex | refine EntR.drop (F := F) ?_ | refine EntR.drop ?_))
    · have hn' : ∀ j : Nat, j < k + 1 → (ix kindsA (j : Int)).name ≠ name := fun j hj => by
        by_cases hjk : j < k
        · exact hn j hjk
        · have : j = k := by omega
          subst this; exact he
      have hd : decide ((ix kindsA (k : Int)).name = name) = false := decide_eq_false he
      ((try simp only [WKb, ↓reduceIte, Nat.reduceEqDiff]) <;> (repeat' ((first
    | (refine G.tr ?_; first | refine S.a ?_ | refine S.t ?_ | refine Tr.brK ?_ ?_ | (refine G.call 90 ?_; refine S.c ?_ (h := same_ok)) | refine S.n fun _ => ?_ | refine S.i fun hix => ?_ | (refine S.g fun hb => ?_; (try simp only [hb])) | (refine S.s (fun hb => ?_) (fun hb => ?_) <;> ((try simp only [hb]) <;> (try (have hp := hb; simp only [WKs] at hp; (try have hq := Int.not_le.2 hp); (try have hq := Int.not_lt.2 hp))))))
    | rintro _ _ ⟨rfl, rfl⟩
    | ((fail_if_success refine G.tr ?_); exact G.prop S.p)
    | fail) <;> (try simp only [WKb, ↓reduceIte, Nat.reduceEqDiff, hw, hd]))))
      all_goals (apply Tr.againE (k + 1); (focus (simp only [WKb, ↓reduceIte, Nat.reduceEqDiff])); (focus ((try simp only [WKb, ↓reduceIte, Nat.reduceEqDiff]); (all_goals ((repeat (refine cons_eq (by first | rfl | (simp [*]; done)) ?_)); rfl)); done)); (focus (first | omega | assumption | (simp only []; omega) | (refine ⟨by omega, by assumption⟩) | (simp only []; refine ⟨by omega, by assumption⟩) | ((try simp only []); (repeat' (first | omega | assumption | apply hn' | refine And.intro ?_ ?_)); done))); (focus (first | omega | (simp only []; omega))); (focus (((try clear hK) <;> (try simp only [WKe, *]) <;> repeat (first | with_reducible exact EntR.done | refine S.e ?_ | (refine S.f ?_ <;> (try simp only [WKe, ↓reduceIte, reduceCtorEq, Int.reduceEq, *])) | with_reducible apply EntR.ex | refine EntR.drop (F := F) ?_ | refine EntR.drop ?_)))))
  · have hz : (if 0 < (-1 : Int) then (-1 : Int) else 0) = numberA name := by
      have : numberA name = 0 := numberA_zero fun j hj h => by
        obtain ⟨a, ha, rfl⟩ := isA_cases hj
        exact hn (a + 1) (by omega) ((kinds_name ha).trans h)
      rw [this]; rfl
    ((try simp only [WKb, ↓reduceIte, Nat.reduceEqDiff]) <;> (repeat' ((first
    | (refine G.tr ?_; first | refine S.a ?_ | refine S.t ?_ | refine Tr.brK ?_ ?_ | (refine G.call 90 ?_; refine S.c ?_ (h := same_ok)) | refine S.n fun _ => ?_ | refine S.i fun hix => ?_ | (refine S.g fun hb => ?_; (try simp only [hb])) | (refine S.s (fun hb => ?_) (fun hb => ?_) <;> ((try simp only [hb]) <;> (try (have hp := hb; simp only [WKs] at hp; (try have hq := Int.not_le.2 hp); (try have hq := Int.not_lt.2 hp))))))
    | rintro _ _ ⟨rfl, rfl⟩
    | ((fail_if_success refine G.tr ?_); exact G.prop S.p)
    | fail) <;> (try simp only [WKb, ↓reduceIte]))))
    all_goals
      apply Tr.fin hK ⟨_, hz, rfl, rfl⟩
      ((try clear hK) <;> (try simp only [WKe, *]) <;> repeat (first | with_reducible exact EntR.done | refine S.e ?_ | (refine S.f ?_ <;> (try simp only [WKe, ↓reduceIte, reduceCtorEq, Int.reduceEq, *])) | with_reducible apply EntR.ex | refine EntR.drop (F := F) ?_ | refine EntR.drop ?_))

theorem number_of_ok {name : List UInt8} : Trip Tryd.prog 50 [.string (bstr name)].toArray [] fun v l' => v = .int .i64 (numberA name) ∧ l' = [] := by
  intro F K hK
  simp only [List.nil_append]
  have hkl := kinds_len
  (refine Tr.enter (rs := [.tmp 2]) mixed fn50 rfl (by simp +arith [Tryd.ntmps50]) fun u => ?_; simp only [cd50, Tryd.f50])
  ((try simp only [WKb, ↓reduceIte]) <;> (repeat' ((first
    | (refine G.tr ?_; first | refine S.a ?_ | refine S.t ?_ | refine Tr.brK ?_ ?_ | (refine G.call 88 ?_; refine S.c ?_ (h := kinds_ok)) | (refine G.call 89 ?_; refine S.c ?_ (h := indexFn_ok)) | refine S.n fun _ => ?_ | refine S.i fun hix => ?_ | (refine S.g fun hb => ?_; (try simp only [hb])) | (refine S.s (fun hb => ?_) (fun hb => ?_) <;> ((try simp only [hb]) <;> (try (have hp := hb; simp only [WKs] at hp; (try have hq := Int.not_le.2 hp); (try have hq := Int.not_lt.2 hp))))))
    | rintro _ _ ⟨rfl, rfl⟩
    | rintro _ _ ⟨_, hidx, rfl, rfl⟩
    | (refine Tr.cutArr (xs := kindsA) (by (repeat (first | exact TakeA.here | apply TakeA.next)); done) (by rfl) kinds_len (by omega) ?_)
    | (refine G.store ?_; refine A.stW (vs := flat kindsA) (by rfl) flat56 (flat_one _) (by rfl) ?_)
    | ((fail_if_success refine G.tr ?_); exact G.prop S.p)
    | fail) <;> (try simp only [WKb, WKh, ↓reduceIte, Nat.reduceEqDiff, WKt]))))
  all_goals
    refine Tr.fin hK ⟨by rw [← hidx], rfl⟩ ?_
    ((try clear hK) <;> (try simp only [WKe, *]) <;> repeat (first | with_reducible exact EntR.done | refine S.e ?_ | (refine S.f ?_ <;> (try simp only [WKe, ↓reduceIte, reduceCtorEq, Int.reduceEq, *])) | with_reducible apply EntR.ex | refine EntR.drop (F := F) ?_ | refine EntR.drop ?_))

end Go.Proofs.YtgkhjgpgdfbdpaaDoor

namespace Go.Proofs.YtgkhjgpgdfbdpaaDoor
open Go Go.Wk
set_option maxHeartbeats 6400000
set_option maxRecDepth 100000

abbrev mxB (m : Int) : Asrt := sl true (mxV 0) [m]
def wordsS (s : List UInt8) : List Str := (wordsA 32 s).map Str.mk
theorem split_ok {s : List UInt8} {m : Int} (hs : s.length ≤ 4294967280) : Trip Tryd.prog 97 [.string (bstr s), .string (bstr [32])].toArray [mxB m] fun v l' => ∃ t : SV, v = t.v ∧ l' = [sl false t.v (wordsS s)] := trip_split Tryd.strings_Split hs

theorem join_ok {ro : Bool} {v : Value} {xs : List Str} (h0 : 0 < xs.length) (hn : xs.length ≤ 140737488355328) (hl : (joinA 32 (xs.map Str.d)).length ≤ 140737488355328) :
    Trip Tryd.prog 86 [v, .string (bstr [32])].toArray [sl ro v xs] fun v l' => v = .string (bstr (joinA 32 (xs.map Str.d))) ∧ l' = [] := trip_join Tryd.strings_Join h0 hn hl

attribute [local irreducible] BrK GenK EGenK EUnitK CallK FnK CallV GuardO GuardC CondW opX opK opKc chkR eqR seqK blkK endL WL WD W LoopW BinK Tr drewK resL PickK NotK NilK ExtrK getK Instr.storeAt Instr.loadAt Instr.fieldAt Instr.indexAt Instr.lookup Instr.mapUpdate Instr.box Instr.alloc Instr.build Instr.buildSlice Instr.makeSlice Instr.makeMap Instr.sliceAt Instr.field Instr.index Instr.makeInterface Instr.typeAssert Builtin.len_ Builtin.append_ Builtin.cap_ Builtin.min_ Builtin.max_ Builtin.copy_ Builtin.clear_ convert binOp mp blk rob sl sep ex fact old
attribute [local irreducible] NegK mxV
theorem wordsR_ok {s : List UInt8} (hs : s.length ≤ 1000000) : Trip Tryd.prog 98 [.string (bstr s)].toArray [] fun v l' => ∃ t : SV, v = t.v ∧ l' = [sl false t.v (wordsS s)] := by
  intro F K hK
  simp only [List.nil_append]
  (refine Tr.enter (rs := [.tmp 2]) mixed fn98 rfl (by simp +arith [Tryd.ntmps98]) fun u => ?_; simp only [cd98, Tryd.f98])
  ((try simp only [WKb]) <;> (repeat' ((first
    | (refine G.tr ?_; first | refine S.a ?_ | refine S.t ?_ | refine Tr.brK ?_ ?_ | refine S.n fun _ => ?_ | refine S.i fun hix => ?_ | (refine S.g fun hb => ?_; (try simp only [hb])) | (refine S.s (fun hb => ?_) (fun hb => ?_) <;> ((try simp only [hb]) <;> (try (have hp := hb; simp only [WKs] at hp; (try have hq := Int.not_le.2 hp); (try have hq := Int.not_lt.2 hp))))))
    | ((fail_if_success refine G.tr ?_); exact G.prop S.p)
    | fail) <;> (try simp only [WKb, WKh, ↓reduceIte, Nat.reduceEqDiff, Nat.reduceAdd, Nat.reduceSub, Int.reduceEq, Int.reduceLT, Int.reduceLE, WKt, pl98]))))
  refine Tr.nilSl (α := Str) ?_
  refine Tr.loopE (α := Nat × SV × List Str × Nat) [3, 4, 5] [0, 2] (fun x => [x.2.1.v, .int .i64 x.2.2.2, .int .i64 x.1]) (fun x => [sl false x.2.1.v x.2.2.1])
    (fun x => x.1 ≤ s.length + 1 ∧ x.2.2.1.length ≤ x.1 ∧ x.2.2.2 ≤ x.1 ∧ (x.1 ≤ s.length → x.2.2.1 ++ (wordsA 32 (s.drop x.2.2.2)).map Str.mk = wordsS s ∧ ∀ j : Nat, x.2.2.2 ≤ j → j < x.1 → bix s (j : Int) ≠ 32) ∧ (s.length < x.1 → x.2.2.1 = wordsS s)) (fun x => s.length + 1 - x.1)
    (0, ⟨none, 0, 0⟩, [], 0) (by (repeat (first | exact TakeL.nil | (apply TakeL.cons; focus ((first | exact TakeA.dupS | exact TakeA.dupF | ((repeat (first | with_reducible exact TakeA.here | exact TakeA.fam (by omega) (by omega) | with_reducible apply TakeA.next)); done) | ((repeat (first | exact TakeA.here | apply TakeA.next)); done) | exact TakeA.famNil | exact TakeA.nilS))) | fail)); done) rfl ⟨Nat.zero_le _, Nat.le_refl _, Nat.le_refl _, fun _ => ⟨rfl, fun j _ h => absurd h (Nat.not_lt_zero _)⟩, fun h => absurd h (Nat.not_lt_zero _)⟩ fun x u hx => ?_
  obtain ⟨k, t, ws, p⟩ := x
  simp only at hx ⊢
  obtain ⟨hk, hwl, hpk, hI, hJ⟩ := hx
  have hw := wrapSucc (k := k) (by omega)
  by_cases hin : k < s.length
  · obtain ⟨hI1, hI2⟩ := hI (by omega)
    have hl' : ∀ x : Str, (ws ++ [x]).length ≤ k + 1 := fun x => by simp; omega
    by_cases hb : bix s (k : Int) = 32
    · have hst := words_step hpk hin hI2 hb
      have hn1 : k + 1 ≤ s.length → ws ++ [⟨(s.take k).drop p⟩] ++ (wordsA 32 (s.drop (k + 1))).map Str.mk = wordsS s ∧ ∀ j : Nat, k + 1 ≤ j → j < k + 1 → bix s (j : Int) ≠ 32 := fun _ => by
        refine ⟨?_, fun j h1 h2 => by omega⟩
        rw [← hI1, hst]; simp
      have hn2 : s.length < k + 1 → ws ++ [⟨(s.take k).drop p⟩] = wordsS s := fun h => by omega
      have hd : (((bix s (k : Int)).toNat : Int) = 32) = True := by rw [hb]; simp
      clear hI1 hI hJ
      ((try simp only [WKb, ↓reduceIte, Nat.reduceEqDiff, WKt]) <;> (repeat' ((first
    | (refine G.tr ?_; first | refine S.a ?_ | refine S.t ?_ | refine Tr.brK ?_ ?_ | refine S.n fun _ => ?_ | refine S.i fun hix => ?_ | (refine S.g fun hb => ?_; (try simp only [hb])) | (refine S.s (fun hb => ?_) (fun hb => ?_) <;> ((try simp only [hb]) <;> (try (have hp := hb; simp only [WKs] at hp; (try have hq := Int.not_le.2 hp); (try have hq := Int.not_lt.2 hp))))))
    | ((fail_if_success refine G.tr ?_); exact G.prop S.p)
    | fail) <;> (try simp only [WKb, ↓reduceIte, Nat.reduceEqDiff, WKt, hw, hd, Int.toNat_natCast]))))
      all_goals (apply Tr.againE ((k + 1, _, _, _)); (focus (simp only [WKb, ↓reduceIte, Nat.reduceEqDiff])); (focus ((try simp only [WKb, ↓reduceIte, Nat.reduceEqDiff]); (all_goals ((repeat (refine cons_eq (by first | rfl | (simp [*]; done)) ?_)); rfl)); done)); (focus (first | omega | assumption | (simp only []; omega) | (refine ⟨by omega, by assumption⟩) | (simp only []; refine ⟨by omega, by assumption⟩) | ((try simp only []); (repeat' (first | omega | assumption | apply hn1 | apply hn2 | apply hl' | refine And.intro ?_ ?_)); done))); (focus (first | omega | (simp only []; omega))); (focus (((try clear hK) <;> (try simp only [WKe, *]) <;> repeat (first | with_reducible exact EntR.done | refine S.e ?_ | (refine S.f ?_ <;> (try simp only [WKe, ↓reduceIte, reduceCtorEq, Int.reduceEq, *])) | with_reducible apply EntR.ex | refine EntR.drop (F := F) ?_ | refine EntR.drop ?_)))))
    · have hn1 : k + 1 ≤ s.length → ws ++ (wordsA 32 (s.drop p)).map Str.mk = wordsS s ∧ ∀ j : Nat, p ≤ j → j < k + 1 → bix s (j : Int) ≠ 32 := fun _ => by
        refine ⟨hI1, fun j h1 h2 => ?_⟩
        by_cases hjk : j < k
        · exact hI2 j h1 hjk
        · have : j = k := by omega
          subst this; exact hb
      have hn2 : s.length < k + 1 → ws = wordsS s := fun h => by omega
      have hd : (((bix s (k : Int)).toNat : Int) = 32) = False := eq_false fun h => hb (UInt8.toNat_inj.1 (by have : (32 : UInt8).toNat = 32 := rfl; omega))
      have hwl' : ws.length ≤ k + 1 := by omega
      have hpk' : p ≤ k + 1 := by omega
      clear hI1 hI hJ
      ((try simp only [WKb, ↓reduceIte, Nat.reduceEqDiff, WKt]) <;> (repeat' ((first
    | (refine G.tr ?_; first | refine S.a ?_ | refine S.t ?_ | refine Tr.brK ?_ ?_ | refine S.n fun _ => ?_ | refine S.i fun hix => ?_ | (refine S.g fun hb => ?_; (try simp only [hb])) | (refine S.s (fun hb => ?_) (fun hb => ?_) <;> ((try simp only [hb]) <;> (try (have hp := hb; simp only [WKs] at hp; (try have hq := Int.not_le.2 hp); (try have hq := Int.not_lt.2 hp))))))
    | ((fail_if_success refine G.tr ?_); exact G.prop S.p)
    | fail) <;> (try simp only [WKb, ↓reduceIte, Nat.reduceEqDiff, WKt, hw, hd]))))
      all_goals (apply Tr.againE ((k + 1, _, _, _)); (focus (simp only [WKb, ↓reduceIte, Nat.reduceEqDiff])); (focus ((try simp only [WKb, ↓reduceIte, Nat.reduceEqDiff]); (all_goals ((repeat (refine cons_eq (by first | rfl | (simp [*]; done)) ?_)); rfl)); done)); (focus (first | omega | assumption | (simp only []; omega) | (refine ⟨by omega, by assumption⟩) | (simp only []; refine ⟨by omega, by assumption⟩) | ((try simp only []); (repeat' (first | omega | assumption | apply hn1 | apply hn2 | apply hwl' | apply hpk' | refine And.intro ?_ ?_)); done))); (focus (first | omega | (simp only []; omega))); (focus (((try clear hK) <;> (try simp only [WKe, *]) <;> repeat (first | with_reducible exact EntR.done | refine S.e ?_ | (refine S.f ?_ <;> (try simp only [WKe, ↓reduceIte, reduceCtorEq, Int.reduceEq, *])) | with_reducible apply EntR.ex | refine EntR.drop (F := F) ?_ | refine EntR.drop ?_)))))
  · by_cases he : k = s.length
    · obtain ⟨hI1, hI2⟩ := hI (by omega)
      subst he
      have hst := words_last hpk hI2
      have hl' : ∀ x : Str, (ws ++ [x]).length ≤ s.length + 1 := fun x => by simp; omega
      have hn1 : s.length + 1 ≤ s.length → ws ++ [⟨(s.take s.length).drop p⟩] ++ (wordsA 32 (s.drop (s.length + 1))).map Str.mk = wordsS s ∧ ∀ j : Nat, s.length + 1 ≤ j → j < s.length + 1 → bix s (j : Int) ≠ 32 := fun h => by omega
      have hn2 : s.length < s.length + 1 → ws ++ [⟨(s.take s.length).drop p⟩] = wordsS s := fun _ => by
        rw [← hI1, hst]; simp
      clear hI1 hI hJ
      ((try simp only [WKb, ↓reduceIte, Nat.reduceEqDiff, WKt]) <;> (repeat' ((first
    | (refine G.tr ?_; first | refine S.a ?_ | refine S.t ?_ | refine Tr.brK ?_ ?_ | refine S.n fun _ => ?_ | refine S.i fun hix => ?_ | (refine S.g fun hb => ?_; (try simp only [hb])) | (refine S.s (fun hb => ?_) (fun hb => ?_) <;> ((try simp only [hb]) <;> (try (have hp := hb; simp only [WKs] at hp; (try have hq := Int.not_le.2 hp); (try have hq := Int.not_lt.2 hp))))))
    | ((fail_if_success refine G.tr ?_); exact G.prop S.p)
    | fail) <;> (try simp only [WKb, ↓reduceIte, Nat.reduceEqDiff, WKt, hw, Int.toNat_natCast]))))
      all_goals (apply Tr.againE ((s.length + 1, _, _, _)); (focus (simp only [WKb, ↓reduceIte, Nat.reduceEqDiff])); (focus ((try simp only [WKb, ↓reduceIte, Nat.reduceEqDiff]); (all_goals ((repeat (refine cons_eq (by first | rfl | (simp [*]; done)) ?_)); rfl)); done)); (focus (first | omega | assumption | (simp only []; omega) | (refine ⟨by omega, by assumption⟩) | (simp only []; refine ⟨by omega, by assumption⟩) | ((try simp only []); (repeat' (first | omega | assumption | apply hn1 | apply hn2 | apply hl' | refine And.intro ?_ ?_)); done))); (focus (first | omega | (simp only []; omega))); (focus (((try clear hK) <;> (try simp only [WKe, *]) <;> repeat (first | with_reducible exact EntR.done | refine S.e ?_ | (refine S.f ?_ <;> (try simp only [WKe, ↓reduceIte, reduceCtorEq, Int.reduceEq, *])) | with_reducible apply EntR.ex | refine EntR.drop (F := F) ?_ | refine EntR.drop ?_)))))
    · have hfin := hJ (by omega)
      ((try simp only [WKb, ↓reduceIte, Nat.reduceEqDiff, WKt]) <;> (repeat' ((first
    | (refine G.tr ?_; first | refine S.a ?_ | refine S.t ?_ | refine Tr.brK ?_ ?_ | refine S.n fun _ => ?_ | refine S.i fun hix => ?_ | (refine S.g fun hb => ?_; (try simp only [hb])) | (refine S.s (fun hb => ?_) (fun hb => ?_) <;> ((try simp only [hb]) <;> (try (have hp := hb; simp only [WKs] at hp; (try have hq := Int.not_le.2 hp); (try have hq := Int.not_lt.2 hp))))))
    | ((fail_if_success refine G.tr ?_); exact G.prop S.p)
    | fail) <;> (try simp only [WKb, ↓reduceIte, Nat.reduceEqDiff]))))
      all_goals
        apply Tr.fin hK ⟨_, rfl, rfl⟩
        ((try clear hK) <;> (try simp only [WKe, *]) <;> repeat (first | with_reducible exact EntR.done | refine S.e ?_ | (refine S.f ?_ <;> (try simp only [WKe, hfin, ↓reduceIte, reduceCtorEq, Int.reduceEq, *])) | with_reducible apply EntR.ex | refine EntR.drop (F := F) ?_ | refine EntR.drop ?_))

end Go.Proofs.YtgkhjgpgdfbdpaaDoor

namespace Go.Proofs.YtgkhjgpgdfbdpaaDoor
open Go Go.Wk
set_option maxHeartbeats 6400000
set_option maxRecDepth 100000

abbrev rdB (b : Nat) (s : SV) (bad : Bool) : Asrt := blk b (.cells [s.v, .bool bad].toArray 222 (0, 0))
theorem numA_nil : numA [] = none := numA_none.2 fun n _ h => decA_ne n h
theorem ix_nil0 : (ix ([] : List Str) 0).d = [] := rfl
/-- A call's words: its number, and what stands behind. -/
noncomputable def callA (ws : List Str) : Option Int × List Str :=
  if (ix ws 0).d = [99, 97, 108, 108] then ((match numA (ix (ws.drop 1) 0).d with
    | some n => if isA n then none else some n
    | none => none), (ws.drop 1).drop 1)
  else (if numberA (ix ws 0).d = 0 then none else some (numberA (ix ws 0).d), ws.drop 1)
attribute [local irreducible] BrK GenK EGenK EUnitK CallK FnK CallV GuardO GuardC CondW opX opK opKc chkR eqR seqK blkK endL WL WD W LoopW BinK Tr drewK resL PickK NotK NilK ExtrK getK Instr.storeAt Instr.loadAt Instr.fieldAt Instr.indexAt Instr.lookup Instr.mapUpdate Instr.box Instr.alloc Instr.build Instr.buildSlice Instr.makeSlice Instr.makeMap Instr.sliceAt Instr.field Instr.index Instr.makeInterface Instr.typeAssert Builtin.len_ Builtin.append_ Builtin.cap_ Builtin.min_ Builtin.max_ Builtin.copy_ Builtin.clear_ convert binOp mp blk rob sl sep ex fact old
attribute [local irreducible] NegK mxV
theorem next_ok {b : Nat} {s : SV} {bad : Bool} {ws : List Str} : Trip Tryd.prog 177 [.pointer (some ⟨b, 0, none⟩)].toArray [rdB b s bad, sl true s.v ws]
    fun v l' => ∃ s2 : SV, v = .string (bstr (ix ws 0).d) ∧ l' = [rdB b s2 (bad || decide (ws = [])), sl true s2.v (ws.drop 1)] := by
  intro F K hK
  simp only [List.cons_append, List.nil_append]
  (refine Tr.enter (rs := [.tmp 2]) mixed fn177 rfl (by simp +arith [Tryd.ntmps177]) fun u => ?_; simp only [cd177, Tryd.f177])
  by_cases h : ws = []
  · subst h
    ((try simp only [WKb, ↓reduceIte, Nat.reduceEqDiff, WKt]) <;> (repeat' ((first
    | (refine G.tr ?_; first | refine S.a ?_ | refine S.t ?_ | refine Tr.brK ?_ ?_ | refine S.n fun _ => ?_ | refine S.i fun hix => ?_ | (refine S.g fun hb => ?_; (try simp only [hb])) | (refine S.s (fun hb => ?_) (fun hb => ?_) <;> ((try simp only [hb]) <;> (try (have hp := hb; simp only [WKs] at hp; (try have hq := Int.not_le.2 hp); (try have hq := Int.not_lt.2 hp))))))
    | ((fail_if_success refine G.tr ?_); exact G.prop S.p)
    | fail) <;> (try simp only [WKb, ↓reduceIte, Nat.reduceEqDiff, Nat.reduceAdd]))))
    all_goals
      apply Tr.fin hK ⟨_, rfl, rfl⟩
      ((try clear hK) <;> (try simp only [WKe, *]) <;> repeat (first | with_reducible exact EntR.done | refine S.e ?_ | (refine S.f ?_ <;> (try simp only [WKe, ↓reduceIte, reduceCtorEq, Int.reduceEq, *])) | with_reducible apply EntR.ex | refine EntR.drop (F := F) ?_ | refine EntR.drop ?_))
  · have hl : 0 < ws.length := List.length_pos_iff.2 h
    have hd : decide ((ws.length : Int) = 0) = false := by simp; omega
    have hw : decide (ws = []) = false := decide_eq_false h
    ((try simp only [WKb, ↓reduceIte, Nat.reduceEqDiff, WKt]) <;> (repeat' ((first
    | (refine G.tr ?_; first | refine S.a ?_ | refine S.t ?_ | refine Tr.brK ?_ ?_ | refine S.n fun _ => ?_ | refine S.i fun hix => ?_ | (refine S.g fun hb => ?_; (try simp only [hb])) | (refine S.s (fun hb => ?_) (fun hb => ?_) <;> ((try simp only [hb]) <;> (try (have hp := hb; simp only [WKs] at hp; (try have hq := Int.not_le.2 hp); (try have hq := Int.not_lt.2 hp))))))
    | ((fail_if_success refine G.tr ?_); exact G.prop S.p)
    | fail) <;> (try simp only [WKb, ↓reduceIte, Nat.reduceEqDiff, hd]))))
    all_goals
      apply Tr.fin hK ⟨_, rfl, rfl⟩
      ((try clear hK) <;> (try simp only [WKe, *]) <;> repeat (first | with_reducible exact EntR.done | refine S.e ?_ | (refine S.f ?_ <;> (try simp only [WKe, hw, ↓reduceIte, reduceCtorEq, Int.reduceEq, *])) | with_reducible apply EntR.ex | refine EntR.drop (F := F) ?_ | refine EntR.drop ?_))

theorem wnumber_ok {b : Nat} {s : SV} {bad : Bool} {ws : List Str} (hb : (ix ws 0).d.length ≤ 1000000) : Trip Tryd.prog 139 [.pointer (some ⟨b, 0, none⟩)].toArray [rdB b s bad, sl true s.v ws]
    fun v l' => ∃ (s2 : SV) (n : Int), I64 n ∧ (∀ m, numA (ix ws 0).d = some m → n = m) ∧ v = .int .i64 n ∧ l' = [rdB b s2 (bad || !(numA (ix ws 0).d).isSome), sl true s2.v (ws.drop 1)] := by
  intro F K hK
  simp only [List.cons_append, List.nil_append]
  have hx : (bad || !(numA (ix ws 0).d).isSome) = (if bad = true ∨ ws = [] then true else !(numA (ix ws 0).d).isSome) := by
    by_cases h : ws = []
    · subst h; simp [ix_nil0, numA_nil]
    · cases bad <;> simp [h]
  (refine Tr.enter (rs := [.tmp 2]) mixed fn139 rfl (by simp +arith [Tryd.ntmps139]) fun u => ?_; simp only [cd139, Tryd.f139])
  ((try simp only [WKb, ↓reduceIte, Nat.reduceEqDiff]) <;> (repeat' ((first
    | (refine G.tr ?_; first | refine S.a ?_ | refine S.t ?_ | refine Tr.brK ?_ ?_ | (refine G.call 177 ?_; refine S.c ?_ (h := next_ok)) | (refine G.call 176 ?_; refine S.c ?_ (h := number_ok ?_)) | refine S.n fun _ => ?_ | refine S.i fun hix => ?_ | (refine S.g fun hb => ?_; (try simp only [hb])) | (refine S.s (fun hb => ?_) (fun hb => ?_) <;> ((try simp only [hb]) <;> (try (have hp := hb; simp only [WKs] at hp; (try have hq := Int.not_le.2 hp); (try have hq := Int.not_lt.2 hp))))))
    | rintro _ _ ⟨_, rfl, rfl⟩
    | rintro _ _ ⟨_, hi64, hnum, rfl, rfl⟩
    | ((fail_if_success refine G.tr ?_); exact G.prop S.p)
    | fail) <;> (try simp only [WKb, ↓reduceIte, Nat.reduceEqDiff, Nat.reduceAdd]))))
  all_goals
    apply Tr.fin hK ⟨_, _, hi64, hnum, rfl, rfl⟩
    ((try clear hK) <;> (try simp only [WKe, ↓reduceIte, *]) <;> repeat (first | with_reducible exact EntR.done | refine S.e ?_ | (refine S.f ?_ <;> (try simp only [WKe, hx, hp, ↓reduceIte, reduceCtorEq, Int.reduceEq, *])) | with_reducible apply EntR.ex | refine EntR.drop (F := F) ?_ | refine EntR.drop ?_))

theorem wcall_ok {b : Nat} {s : SV} {bad : Bool} {ws : List Str} (hb1 : (ix (ws.drop 1) 0).d.length ≤ 1000000) : Trip Tryd.prog 140 [.pointer (some ⟨b, 0, none⟩)].toArray [rdB b s bad, sl true s.v ws]
    fun v l' => ∃ (s2 : SV) (n : Int), I64 n ∧ (∀ m, (callA ws).1 = some m → n = m) ∧ v = .int .i64 n ∧ l' = [rdB b s2 (bad || !(callA ws).1.isSome), sl true s2.v (callA ws).2] := by
  intro F K hK
  simp only [List.cons_append, List.nil_append]
  (refine Tr.enter (rs := [.tmp 2]) mixed fn140 rfl (by simp +arith [Tryd.ntmps140]) fun u => ?_; simp only [cd140, Tryd.f140])
  by_cases hc : (ix ws 0).d = [99, 97, 108, 108]
  · have hne : ws ≠ [] := fun h => by subst h; rw [ix_nil0] at hc; cases hc
    have hd : decide (ws = []) = false := decide_eq_false hne
    have hcs : callA ws = ((match numA (ix (ws.drop 1) 0).d with
      | some n => if isA n then none else some n
      | none => none), (ws.drop 1).drop 1) := if_pos hc
    have hcd : decide ((ix ws 0).d = [99, 97, 108, 108]) = true := decide_eq_true hc
    ((try simp only [WKb, ↓reduceIte, Nat.reduceEqDiff, WKt]) <;> (repeat' ((first
    | (refine G.tr ?_; first | refine S.a ?_ | refine S.t ?_ | refine Tr.brK ?_ ?_ | (refine G.call 177 ?_; refine S.c ?_ (h := next_ok)) | (refine G.call 139 ?_; refine S.c ?_ (h := wnumber_ok ?_)) | (refine G.call 54 ?_; refine S.c ?_ (h := is_ok)) | (refine G.call 50 ?_; refine S.c ?_ (h := number_of_ok)) | refine S.n fun _ => ?_ | refine S.i fun hix => ?_ | (refine S.g fun hb => ?_; (try simp only [hb])) | (refine S.s (fun hb => ?_) (fun hb => ?_) <;> ((try simp only [hb]) <;> (try (have hp := hb; simp only [WKs] at hp; (try have hq := Int.not_le.2 hp); (try have hq := Int.not_lt.2 hp))))))
    | rintro _ _ ⟨rfl, rfl⟩
    | rintro _ _ ⟨_, rfl, rfl⟩
    | rintro _ _ ⟨_, _, hi64, hnum, rfl, rfl⟩
    | ((fail_if_success refine G.tr ?_); exact G.prop S.p)
    | fail) <;> (try simp only [WKb, WKh, ↓reduceIte, Nat.reduceEqDiff, Nat.reduceAdd, hcd, hd]))))
    all_goals
      rename_i s2 n
      have hn : ∀ m, (callA ws).1 = some m → n = m := fun m hm => by
        rw [hcs] at hm
        simp only at hm
        split at hm
        · rename_i j hj
          split at hm
          · cases hm
          · exact (hnum _ hj).trans (Option.some.inj hm)
        · cases hm
      have hx : (bad || !(callA ws).1.isSome) = (if bad = true ∨ (numA (ix (ws.drop 1) 0).d).isSome = false then true else decide (isA n)) := by
        rw [hcs]
        simp only
        cases hj : numA (ix (ws.drop 1) 0).d with
        | none => simp
        | some j =>
          have := hnum _ hj
          subst this
          cases bad <;> by_cases hi : isA n <;> simp [hi]
      have h2 : (callA ws).2 = (ws.drop 1).drop 1 := by rw [hcs]
      first
        | have hx2 : (bad || !(callA ws).1.isSome) = true := by rw [hx, if_pos (by simpa using hp)]
        | have hx2 : (bad || !(callA ws).1.isSome) = decide (isA n) := by
            rw [hx, if_neg (fun h => by (try simp at hp); simp [hp.1, hp.2] at h)]
      clear hcs hx hp hb
      apply Tr.fin hK ⟨_, _, hi64, hn, rfl, rfl⟩
      ((try clear hK) <;> (try simp only [WKe, *]) <;> repeat (first | with_reducible exact EntR.done | refine S.e ?_ | (refine S.f ?_ <;> (try simp only [WKe, hx2, h2, ↓reduceIte, reduceCtorEq, Int.reduceEq, *])) | with_reducible apply EntR.ex | refine EntR.drop (F := F) ?_ | refine EntR.drop ?_))
  · have hcs : callA ws = (if numberA (ix ws 0).d = 0 then none else some (numberA (ix ws 0).d), ws.drop 1) := if_neg hc
    have hcd : decide ((ix ws 0).d = [99, 97, 108, 108]) = false := decide_eq_false hc
    have hi : I64 (numberA (ix ws 0).d) := by
      rcases numberA_spec (ix ws 0).d with ⟨h, _⟩ | ⟨h, _⟩
      · rw [h]; unfold I64; omega
      · have := h.1; have := h.2; unfold I64; omega
    have hn : ∀ m, (callA ws).1 = some m → numberA (ix ws 0).d = m := fun m hm => by
      rw [hcs] at hm
      simp only at hm
      split at hm
      · cases hm
      · exact Option.some.inj hm
    have h2 : (callA ws).2 = ws.drop 1 := by rw [hcs]
    have hz : ws = [] → numberA (ix ws 0).d = 0 := fun h => by
      subst h
      rw [ix_nil0]
      exact numberA_zero fun k hk => name_ne hk
    have hx : (bad || !(callA ws).1.isSome) = (if bad = true ∨ ws = [] then true else decide (numberA (ix ws 0).d = 0)) := by
      rw [hcs]
      simp only
      by_cases h : ws = []
      · rw [if_pos (show bad = true ∨ ws = [] from .inr h), if_pos (hz h)]; simp
      · by_cases h0 : numberA (ix ws 0).d = 0
        · rw [if_pos h0]; simp [h0]
        · rw [if_neg h0]; cases bad <;> simp [h, h0]
    ((try simp only [WKb, ↓reduceIte, Nat.reduceEqDiff, WKt]) <;> (repeat' ((first
    | (refine G.tr ?_; first | refine S.a ?_ | refine S.t ?_ | refine Tr.brK ?_ ?_ | (refine G.call 177 ?_; refine S.c ?_ (h := next_ok)) | (refine G.call 139 ?_; refine S.c ?_ (h := wnumber_ok ?_)) | (refine G.call 54 ?_; refine S.c ?_ (h := is_ok)) | (refine G.call 50 ?_; refine S.c ?_ (h := number_of_ok)) | refine S.n fun _ => ?_ | refine S.i fun hix => ?_ | (refine S.g fun hb => ?_; (try simp only [hb])) | (refine S.s (fun hb => ?_) (fun hb => ?_) <;> ((try simp only [hb]) <;> (try (have hp := hb; simp only [WKs] at hp; (try have hq := Int.not_le.2 hp); (try have hq := Int.not_lt.2 hp))))))
    | rintro _ _ ⟨rfl, rfl⟩
    | rintro _ _ ⟨_, rfl, rfl⟩
    | rintro _ _ ⟨_, _, hi64, hnum, rfl, rfl⟩
    | ((fail_if_success refine G.tr ?_); exact G.prop S.p)
    | fail) <;> (try simp only [WKb, WKh, ↓reduceIte, Nat.reduceEqDiff, Nat.reduceAdd, hcd]))))
    all_goals
      first
        | have hx2 : (bad || !(callA ws).1.isSome) = true := by rw [hx, if_pos (by simpa using hp)]
        | have hx2 : (bad || !(callA ws).1.isSome) = decide (numberA (ix ws 0).d = 0) := by
            rw [hx, if_neg (fun h => by (try simp at hp); simp [hp.1, hp.2] at h)]
      clear hcs hx hp hb
      apply Tr.fin hK ⟨_, _, hi, hn, rfl, rfl⟩
      ((try clear hK) <;> (try simp only [WKe, *]) <;> repeat (first | with_reducible exact EntR.done | refine S.e ?_ | (refine S.f ?_ <;> (try simp only [WKe, hx2, h2, ↓reduceIte, reduceCtorEq, Int.reduceEq, *])) | with_reducible apply EntR.ex | refine EntR.drop (F := F) ?_ | refine EntR.drop ?_))

end Go.Proofs.YtgkhjgpgdfbdpaaDoor
