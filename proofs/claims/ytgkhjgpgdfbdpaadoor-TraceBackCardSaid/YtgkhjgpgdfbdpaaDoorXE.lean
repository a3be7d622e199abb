import Derived.Test.YtgkhjgpgdfbdpaaDoorXD
namespace Go.Proofs.YtgkhjgpgdfbdpaaDoor
open Go Go.Wk
set_option maxHeartbeats 6400000
set_option maxRecDepth 100000
/-- A call's name, and of how many numbers it is. -/
structure KindC where
  name : List UInt8
  args : Int
instance : Inhabited KindC := ⟨⟨[], 0⟩⟩
instance : En KindC := ⟨fun k => [.string (bstr k.name), .int .i64 k.args], 2, fun _ => rfl, fun _ => rfl, by decide⟩
def kindsA : List KindC := [⟨[], 0⟩, ⟨[112, 101, 114, 105, 111, 100, 105, 99, 45, 119, 97, 105, 116], 0⟩, ⟨[116, 105, 109, 101, 100, 45, 119, 97, 105, 116], 1⟩, ⟨[115, 117, 115, 112, 101, 110, 100], 0⟩, ⟨[114, 101, 115, 117, 109, 101], 1⟩, ⟨[115, 116, 97, 114, 116], 1⟩, ⟨[115, 116, 111, 112], 1⟩,
  ⟨[115, 101, 116, 45, 112, 114, 105, 111, 114, 105, 116, 121], 2⟩, ⟨[103, 101, 116, 45, 116, 105, 109, 101], 0⟩, ⟨[119, 114, 105, 116, 101, 45, 115, 97, 109, 112, 108, 105, 110, 103], 3⟩, ⟨[114, 101, 97, 100, 45, 115, 97, 109, 112, 108, 105, 110, 103], 2⟩, ⟨[115, 101, 110, 100], 4⟩, ⟨[114, 101, 99, 101, 105, 118, 101], 4⟩,
  ⟨[115, 101, 109, 45, 119, 97, 105, 116], 4⟩, ⟨[115, 101, 109, 45, 115, 105, 103, 110, 97, 108], 1⟩, ⟨[102, 108, 97, 103, 45, 115, 101, 116], 1⟩, ⟨[102, 108, 97, 103, 45, 114, 101, 115, 101, 116], 1⟩, ⟨[102, 108, 97, 103, 45, 119, 97, 105, 116], 4⟩, ⟨[112, 111, 111, 108, 45, 112, 117, 116], 4⟩, ⟨[112, 111, 111, 108, 45, 103, 101, 116], 4⟩,
  ⟨[115, 108, 97, 116, 101, 45, 115, 104, 111, 119], 3⟩, ⟨[115, 108, 97, 116, 101, 45, 114, 101, 97, 100], 4⟩, ⟨[115, 108, 97, 116, 101, 45, 99, 108, 101, 97, 114], 1⟩, ⟨[114, 97, 105, 115, 101, 45, 101, 114, 114, 111, 114], 1⟩, ⟨[108, 111, 97, 100], 1⟩, ⟨[115, 116, 111, 114, 101], 2⟩, ⟨[103, 101, 116, 45, 109, 111, 100, 101], 0⟩, ⟨[115, 101, 116, 45, 109, 111, 100, 101], 1⟩]
def isA (no : Int) : Prop := 1 ≤ no ∧ no < 28
instance (no : Int) : Decidable (isA no) := by unfold isA; infer_instance
def kindA (no : Int) : KindC := if isA no then ix kindsA no else ⟨[], 4⟩
def nameA (no : Int) : List UInt8 := (kindA no).name
def argsA (no : Int) : Int := (kindA no).args
def timedA (no : Int) : Prop := no = 11 ∨ no = 12 ∨ no = 13 ∨ no = 17 ∨ no = 18 ∨ no = 19 ∨ no = 21
instance (no : Int) : Decidable (timedA no) := by unfold timedA; infer_instance
theorem kindA_yes {no : Int} (h : isA no) : kindA no = ix kindsA no := if_pos h
theorem kindA_no {no : Int} (h : ¬ isA no) : kindA no = ⟨[], 4⟩ := if_neg h
theorem isA_cases {no : Int} (h : isA no) : ∃ k : Nat, k < 27 ∧ no = ((k + 1 : Nat) : Int) := ⟨(no - 1).toNat, by have := h.1; have := h.2; omega, by have := h.1; omega⟩

attribute [local irreducible] BrK GenK EGenK EUnitK CallK FnK CallV GuardO GuardC CondW opX opK opKc chkR eqR seqK blkK endL WL WD W LoopW BinK Tr drewK resL PickK NotK NilK ExtrK getK Instr.storeAt Instr.loadAt Instr.fieldAt Instr.indexAt Instr.lookup Instr.mapUpdate Instr.box Instr.alloc Instr.build Instr.buildSlice Instr.makeSlice Instr.makeMap Instr.sliceAt Instr.field Instr.index Instr.makeInterface Instr.typeAssert Builtin.len_ Builtin.append_ Builtin.cap_ Builtin.min_ Builtin.max_ Builtin.copy_ Builtin.clear_ convert binOp mp blk rob sl sep ex fact old
attribute [local irreducible] NegK
theorem is_ok {no : Int} : Trip Tryd.prog 54 [.int .i64 no].toArray [] fun v l' => v = .bool (decide (isA no)) ∧ l' = [] := by
  intro F K hK
  simp only [List.nil_append]
  (refine Tr.enter (rs := [.tmp 2]) mixed fn54 rfl (by simp +arith [Tryd.ntmps54]) fun u => ?_; simp only [cd54, Tryd.f54])
  by_cases h : isA no
  · have ⟨h1, h2⟩ := h
    ((try simp only [WKb, ↓reduceIte, Nat.reduceEqDiff]) <;> (repeat' ((first
    | (refine G.tr ?_; first | refine S.a ?_ | refine S.t ?_ | refine Tr.brK ?_ ?_ | refine S.n fun _ => ?_ | refine S.i fun hix => ?_ | (refine S.g fun hb => ?_; (try simp only [hb])) | (refine S.s (fun hb => ?_) (fun hb => ?_) <;> ((try simp only [hb]) <;> (try (have hp := hb; simp only [WKs] at hp; (try have hq := Int.not_le.2 hp); (try have hq := Int.not_lt.2 hp))))))
    | ((fail_if_success refine G.tr ?_); exact G.prop S.p)
    | fail) <;> (try simp only [WKb, ↓reduceIte, Nat.reduceEqDiff]))))
    all_goals
      refine Tr.fin hK ⟨(by first | (simp [*]; done) | (simp only [WKe, ↓reduceIte, reduceCtorEq, Int.reduceEq, eq_self, *, h, h2]; done) | (simp only [WKe, ↓reduceIte, reduceCtorEq, Int.reduceEq, *, h, h2]; rfl)), rfl⟩ ?_
      ((try clear hK) <;> (try simp only [WKe, *]) <;> repeat (first | with_reducible exact EntR.done | refine S.e ?_ | (refine S.f ?_ <;> (try simp only [WKe, ↓reduceIte, reduceCtorEq, Int.reduceEq, *])) | with_reducible apply EntR.ex | refine EntR.drop (F := F) ?_ | refine EntR.drop ?_))
  · have h' := h
    unfold isA at h'
    by_cases h1 : 1 ≤ no
    · have h2 : ¬ no < 28 := by omega
      ((try simp only [WKb, ↓reduceIte, Nat.reduceEqDiff]) <;> (repeat' ((first
    | (refine G.tr ?_; first | refine S.a ?_ | refine S.t ?_ | refine Tr.brK ?_ ?_ | refine S.n fun _ => ?_ | refine S.i fun hix => ?_ | (refine S.g fun hb => ?_; (try simp only [hb])) | (refine S.s (fun hb => ?_) (fun hb => ?_) <;> ((try simp only [hb]) <;> (try (have hp := hb; simp only [WKs] at hp; (try have hq := Int.not_le.2 hp); (try have hq := Int.not_lt.2 hp))))))
    | ((fail_if_success refine G.tr ?_); exact G.prop S.p)
    | fail) <;> (try simp only [WKb, ↓reduceIte, Nat.reduceEqDiff]))))
      all_goals
        refine Tr.fin hK ⟨(by first | (simp [*]; done) | (simp only [WKe, ↓reduceIte, reduceCtorEq, Int.reduceEq, eq_self, *, h, h2]; done) | (simp only [WKe, ↓reduceIte, reduceCtorEq, Int.reduceEq, *, h, h2]; rfl)), rfl⟩ ?_
        ((try clear hK) <;> (try simp only [WKe, *]) <;> repeat (first | with_reducible exact EntR.done | refine S.e ?_ | (refine S.f ?_ <;> (try simp only [WKe, ↓reduceIte, reduceCtorEq, Int.reduceEq, *])) | with_reducible apply EntR.ex | refine EntR.drop (F := F) ?_ | refine EntR.drop ?_))
    · ((try simp only [WKb, ↓reduceIte, Nat.reduceEqDiff]) <;> (repeat' ((first
    | (refine G.tr ?_; first | refine S.a ?_ | refine S.t ?_ | refine Tr.brK ?_ ?_ | refine S.n fun _ => ?_ | refine S.i fun hix => ?_ | (refine S.g fun hb => ?_; (try simp only [hb])) | (refine S.s (fun hb => ?_) (fun hb => ?_) <;> ((try simp only [hb]) <;> (try (have hp := hb; simp only [WKs] at hp; (try have hq := Int.not_le.2 hp); (try have hq := Int.not_lt.2 hp))))))
    | ((fail_if_success refine G.tr ?_); exact G.prop S.p)
    | fail) <;> (try simp only [WKb, ↓reduceIte, Nat.reduceEqDiff]))))
      all_goals
        refine Tr.fin hK ⟨(by first | (simp [*]; done) | (simp only [WKe, ↓reduceIte, reduceCtorEq, Int.reduceEq, eq_self, *, h]; done) | (simp only [WKe, ↓reduceIte, reduceCtorEq, Int.reduceEq, *, h]; rfl)), rfl⟩ ?_
        ((try clear hK) <;> (try simp only [WKe, *]) <;> repeat (first | with_reducible exact EntR.done | refine S.e ?_ | (refine S.f ?_ <;> (try simp only [WKe, ↓reduceIte, reduceCtorEq, Int.reduceEq, *])) | with_reducible apply EntR.ex | refine EntR.drop (F := F) ?_ | refine EntR.drop ?_))

theorem isR_ok {no : Int} : Trip Tryd.prog 59 [.int .i64 no].toArray [] fun v l' => v = .bool (decide (isA no)) ∧ l' = [] := by
  intro F K hK
  simp only [List.nil_append]
  (refine Tr.enter (rs := [.tmp 2]) mixed fn59 rfl (by simp +arith [Tryd.ntmps59]) fun u => ?_; simp only [cd59, Tryd.f59])
  by_cases h : isA no
  · have ⟨h1, h2⟩ := h
    ((try simp only [WKb, ↓reduceIte, Nat.reduceEqDiff]) <;> (repeat' ((first
    | (refine G.tr ?_; first | refine S.a ?_ | refine S.t ?_ | refine Tr.brK ?_ ?_ | refine S.n fun _ => ?_ | refine S.i fun hix => ?_ | (refine S.g fun hb => ?_; (try simp only [hb])) | (refine S.s (fun hb => ?_) (fun hb => ?_) <;> ((try simp only [hb]) <;> (try (have hp := hb; simp only [WKs] at hp; (try have hq := Int.not_le.2 hp); (try have hq := Int.not_lt.2 hp))))))
    | ((fail_if_success refine G.tr ?_); exact G.prop S.p)
    | fail) <;> (try simp only [WKb, ↓reduceIte, Nat.reduceEqDiff]))))
    all_goals
      refine Tr.fin hK ⟨(by first | (simp [*]; done) | (simp only [WKe, ↓reduceIte, reduceCtorEq, Int.reduceEq, eq_self, *, h, h2]; done) | (simp only [WKe, ↓reduceIte, reduceCtorEq, Int.reduceEq, *, h, h2]; rfl)), rfl⟩ ?_
      ((try clear hK) <;> (try simp only [WKe, *]) <;> repeat (first | with_reducible exact EntR.done | refine S.e ?_ | (refine S.f ?_ <;> (try simp only [WKe, ↓reduceIte, reduceCtorEq, Int.reduceEq, *])) | with_reducible apply EntR.ex | refine EntR.drop (F := F) ?_ | refine EntR.drop ?_))
  · have h' := h
    unfold isA at h'
    by_cases h1 : 1 ≤ no
    · have h2 : ¬ no < 28 := by omega
      ((try simp only [WKb, ↓reduceIte, Nat.reduceEqDiff]) <;> (repeat' ((first
    | (refine G.tr ?_; first | refine S.a ?_ | refine S.t ?_ | refine Tr.brK ?_ ?_ | refine S.n fun _ => ?_ | refine S.i fun hix => ?_ | (refine S.g fun hb => ?_; (try simp only [hb])) | (refine S.s (fun hb => ?_) (fun hb => ?_) <;> ((try simp only [hb]) <;> (try (have hp := hb; simp only [WKs] at hp; (try have hq := Int.not_le.2 hp); (try have hq := Int.not_lt.2 hp))))))
    | ((fail_if_success refine G.tr ?_); exact G.prop S.p)
    | fail) <;> (try simp only [WKb, ↓reduceIte, Nat.reduceEqDiff]))))
      all_goals
        refine Tr.fin hK ⟨(by first | (simp [*]; done) | (simp only [WKe, ↓reduceIte, reduceCtorEq, Int.reduceEq, eq_self, *, h, h2]; done) | (simp only [WKe, ↓reduceIte, reduceCtorEq, Int.reduceEq, *, h, h2]; rfl)), rfl⟩ ?_
        ((try clear hK) <;> (try simp only [WKe, *]) <;> repeat (first | with_reducible exact EntR.done | refine S.e ?_ | (refine S.f ?_ <;> (try simp only [WKe, ↓reduceIte, reduceCtorEq, Int.reduceEq, *])) | with_reducible apply EntR.ex | refine EntR.drop (F := F) ?_ | refine EntR.drop ?_))
    · ((try simp only [WKb, ↓reduceIte, Nat.reduceEqDiff]) <;> (repeat' ((first
    | (refine G.tr ?_; first | refine S.a ?_ | refine S.t ?_ | refine Tr.brK ?_ ?_ | refine S.n fun _ => ?_ | refine S.i fun hix => ?_ | (refine S.g fun hb => ?_; (try simp only [hb])) | (refine S.s (fun hb => ?_) (fun hb => ?_) <;> ((try simp only [hb]) <;> (try (have hp := hb; simp only [WKs] at hp; (try have hq := Int.not_le.2 hp); (try have hq := Int.not_lt.2 hp))))))
    | ((fail_if_success refine G.tr ?_); exact G.prop S.p)
    | fail) <;> (try simp only [WKb, ↓reduceIte, Nat.reduceEqDiff]))))
      all_goals
        refine Tr.fin hK ⟨(by first | (simp [*]; done) | (simp only [WKe, ↓reduceIte, reduceCtorEq, Int.reduceEq, eq_self, *, h]; done) | (simp only [WKe, ↓reduceIte, reduceCtorEq, Int.reduceEq, *, h]; rfl)), rfl⟩ ?_
        ((try clear hK) <;> (try simp only [WKe, *]) <;> repeat (first | with_reducible exact EntR.done | refine S.e ?_ | (refine S.f ?_ <;> (try simp only [WKe, ↓reduceIte, reduceCtorEq, Int.reduceEq, *])) | with_reducible apply EntR.ex | refine EntR.drop (F := F) ?_ | refine EntR.drop ?_))

theorem kinds_ok : Trip Tryd.prog 88 [].toArray [] fun v l' => v = .agg (flat kindsA).toArray ∧ l' = [] := by
  intro F K hK
  simp only [List.nil_append]
  (refine Tr.enter (rs := [.cell 0 151]) mixed fn88 rfl (by simp +arith [Tryd.ntmps88]) fun u => ?_; simp only [cd88, Tryd.f88])
  ((try simp only [WKb, WKt]) <;> (repeat' ((first
    | (refine G.tr ?_; first | refine S.a ?_ | refine S.t ?_ | refine Tr.brK ?_ ?_ | refine S.n fun _ => ?_ | refine S.i fun hix => ?_ | (refine S.g fun hb => ?_; (try simp only [hb])) | (refine S.s (fun hb => ?_) (fun hb => ?_) <;> ((try simp only [hb]) <;> (try (have hp := hb; simp only [WKs] at hp; (try have hq := Int.not_le.2 hp); (try have hq := Int.not_lt.2 hp))))))
    | ((fail_if_success refine G.tr ?_); exact G.prop S.p)
    | fail) <;> (try simp only [WKb, WKh, ↓reduceIte, Nat.reduceEqDiff, Nat.reduceAdd, WKt]))))
  all_goals
    refine Tr.fin hK ⟨rfl, rfl⟩ ?_
    ((try clear hK) <;> (try simp only [WKe, *]) <;> repeat (first | with_reducible exact EntR.done | refine S.e ?_ | (refine S.f ?_ <;> (try simp only [WKe, ↓reduceIte, reduceCtorEq, Int.reduceEq, *])) | with_reducible apply EntR.ex | refine EntR.drop (F := F) ?_ | refine EntR.drop ?_))

attribute [local irreducible] kindsA flat
theorem kinds_len : 28 = kindsA.length := by unfold kindsA; rfl
theorem of_ok {no : Int} : Trip Tryd.prog 93 [.int .i64 no].toArray [] fun v l' => v = .agg (En.enc (kindA no)).toArray ∧ l' = [] := by
  intro F K hK
  simp only [List.nil_append]
  have hkl := kinds_len
  (refine Tr.enter (rs := [.cell 2 150]) mixed fn93 rfl (by simp +arith [Tryd.ntmps93]) fun u => ?_; simp only [cd93, Tryd.f93])
  by_cases h : isA no
  · have ⟨h1, h2⟩ := h
    have hy := kindA_yes h
    have hd : decide (isA no) = true := decide_eq_true h
    ((try simp only [WKb]) <;> (repeat' ((first
    | (refine G.tr ?_; first | (refine G.aidx ?_; refine A.aidxE (xs := kindsA) (by omega) (by omega) kinds_len rfl ?_) | refine S.a ?_ | refine S.t ?_ | refine Tr.brK ?_ ?_ | (refine G.call 54 ?_; refine S.c ?_ (h := is_ok)) | (refine G.call 88 ?_; refine S.c ?_ (h := kinds_ok)) | refine S.n fun _ => ?_ | refine S.i fun hix => ?_ | (refine S.g fun hb => ?_; (try simp only [hb])) | (refine S.s (fun hb => ?_) (fun hb => ?_) <;> ((try simp only [hb]) <;> (try (have hp := hb; simp only [WKs] at hp; (try have hq := Int.not_le.2 hp); (try have hq := Int.not_lt.2 hp))))))
    | rintro _ _ ⟨rfl, rfl⟩
    | ((fail_if_success refine G.tr ?_); exact G.prop S.p)
    | fail) <;> (try simp only [WKb, ↓reduceIte, Nat.reduceEqDiff, WKt, hd]))))
    all_goals
      refine Tr.fin hK ⟨by rw [hy]; try rfl, rfl⟩ ?_
      ((try clear hK) <;> (try simp only [WKe, *]) <;> repeat (first | with_reducible exact EntR.done | refine S.e ?_ | (refine S.f ?_ <;> (try simp only [WKe, ↓reduceIte, reduceCtorEq, Int.reduceEq, *])) | with_reducible apply EntR.ex | refine EntR.drop (F := F) ?_ | refine EntR.drop ?_))
  · have hd : decide (isA no) = false := decide_eq_false h
    have hy := kindA_no h
    ((try simp only [WKb]) <;> (repeat' ((first
    | (refine G.tr ?_; first | refine S.a ?_ | refine S.t ?_ | refine Tr.brK ?_ ?_ | (refine G.call 54 ?_; refine S.c ?_ (h := is_ok)) | (refine G.call 88 ?_; refine S.c ?_ (h := kinds_ok)) | refine S.n fun _ => ?_ | refine S.i fun hix => ?_ | (refine S.g fun hb => ?_; (try simp only [hb])) | (refine S.s (fun hb => ?_) (fun hb => ?_) <;> ((try simp only [hb]) <;> (try (have hp := hb; simp only [WKs] at hp; (try have hq := Int.not_le.2 hp); (try have hq := Int.not_lt.2 hp))))))
    | rintro _ _ ⟨rfl, rfl⟩
    | ((fail_if_success refine G.tr ?_); exact G.prop S.p)
    | fail) <;> (try simp only [WKb, WKh, ↓reduceIte, Nat.reduceEqDiff, Nat.reduceAdd, WKt, hd]))))
    all_goals
      refine Tr.fin hK ⟨by rw [hy]; try rfl, rfl⟩ ?_
      ((try clear hK) <;> (try simp only [WKe, *]) <;> repeat (first | with_reducible exact EntR.done | refine S.e ?_ | (refine S.f ?_ <;> (try simp only [WKe, ↓reduceIte, reduceCtorEq, Int.reduceEq, *])) | with_reducible apply EntR.ex | refine EntR.drop (F := F) ?_ | refine EntR.drop ?_))

theorem name_ok {no : Int} : Trip Tryd.prog 55 [.int .i64 no].toArray [] fun v l' => v = .string (bstr (nameA no)) ∧ l' = [] := by
  intro F K hK
  simp only [List.nil_append]
  (refine Tr.enter (rs := [.tmp 2]) mixed fn55 rfl (by simp +arith [Tryd.ntmps55]) fun u => ?_; simp only [cd55, Tryd.f55])
  ((try simp only [WKb, ↓reduceIte, Nat.reduceEqDiff, WKt]) <;> (repeat' ((first
    | (refine G.tr ?_; first | refine S.a ?_ | refine S.t ?_ | refine Tr.brK ?_ ?_ | (refine G.call 93 ?_; refine S.c ?_ (h := of_ok)) | refine S.n fun _ => ?_ | refine S.i fun hix => ?_ | (refine S.g fun hb => ?_; (try simp only [hb])) | (refine S.s (fun hb => ?_) (fun hb => ?_) <;> ((try simp only [hb]) <;> (try (have hp := hb; simp only [WKs] at hp; (try have hq := Int.not_le.2 hp); (try have hq := Int.not_lt.2 hp))))))
    | rintro _ _ ⟨rfl, rfl⟩
    | ((fail_if_success refine G.tr ?_); exact G.prop S.p)
    | fail) <;> (try simp only [WKb, ↓reduceIte]))))
  all_goals
    refine Tr.fin hK ⟨rfl, rfl⟩ ?_
    ((try clear hK) <;> (try simp only [WKe, *]) <;> repeat (first | with_reducible exact EntR.done | refine S.e ?_ | (refine S.f ?_ <;> (try simp only [WKe, ↓reduceIte, reduceCtorEq, Int.reduceEq, *])) | with_reducible apply EntR.ex | refine EntR.drop (F := F) ?_ | refine EntR.drop ?_))

theorem args_ok {no : Int} : Trip Tryd.prog 103 [.int .i64 no].toArray [] fun v l' => v = .int .i64 (argsA no) ∧ l' = [] := by
  intro F K hK
  simp only [List.nil_append]
  (refine Tr.enter (rs := [.tmp 2]) mixed fn103 rfl (by simp +arith [Tryd.ntmps103]) fun u => ?_; simp only [cd103, Tryd.f103])
  ((try simp only [WKb, ↓reduceIte, Nat.reduceEqDiff]) <;> (repeat' ((first
    | (refine G.tr ?_; first | refine S.a ?_ | refine S.t ?_ | refine Tr.brK ?_ ?_ | (refine G.call 93 ?_; refine S.c ?_ (h := of_ok)) | refine S.n fun _ => ?_ | refine S.i fun hix => ?_ | (refine S.g fun hb => ?_; (try simp only [hb])) | (refine S.s (fun hb => ?_) (fun hb => ?_) <;> ((try simp only [hb]) <;> (try (have hp := hb; simp only [WKs] at hp; (try have hq := Int.not_le.2 hp); (try have hq := Int.not_lt.2 hp))))))
    | rintro _ _ ⟨rfl, rfl⟩
    | ((fail_if_success refine G.tr ?_); exact G.prop S.p)
    | fail) <;> (try simp only [WKb, ↓reduceIte]))))
  all_goals
    refine Tr.fin hK ⟨rfl, rfl⟩ ?_
    ((try clear hK) <;> (try simp only [WKe, *]) <;> repeat (first | with_reducible exact EntR.done | refine S.e ?_ | (refine S.f ?_ <;> (try simp only [WKe, ↓reduceIte, reduceCtorEq, Int.reduceEq, *])) | with_reducible apply EntR.ex | refine EntR.drop (F := F) ?_ | refine EntR.drop ?_))

end Go.Proofs.YtgkhjgpgdfbdpaaDoor
