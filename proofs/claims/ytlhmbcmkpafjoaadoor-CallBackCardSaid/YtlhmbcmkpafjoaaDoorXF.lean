import Derived.Test.YtlhmbcmkpafjoaaDoorXE
namespace Go.Proofs.YtlhmbcmkpafjoaaDoor
open Go Go.Wk
set_option maxHeartbeats 6400000
set_option maxRecDepth 100000

instance : ElT 52 Int := ⟨⟩
instance : ElT 40 Str := ⟨⟩
theorem argsR_eq (no : Int) : argsA no = (if no = 1 ∨ no = 3 ∨ no = 8 ∨ no = 26 then 0 else if no = 2 ∨ no = 4 ∨ no = 5 ∨ no = 6 ∨ no = 14 ∨ no = 15 ∨ no = 16 ∨ no = 22 ∨ no = 23 ∨ no = 24 ∨ no = 27 then 1 else if no = 7 ∨ no = 10 ∨ no = 25 then 2 else if no = 9 ∨ no = 20 then 3 else 4) := by
  unfold argsA
  by_cases h : isA no
  · rw [kindA_yes h]
    obtain ⟨k, hk, rfl⟩ := isA_cases h
    iterate 27 (rcases k with _ | k; · rfl)
    omega
  · rw [kindA_no h]
    unfold isA at h
    repeat (rw [if_neg (by omega)])
theorem argsA_le (no : Int) : 0 ≤ argsA no ∧ argsA no ≤ 4 := by rw [argsR_eq]; (repeat' split) <;> omega
attribute [local irreducible] BrK GenK EGenK EUnitK CallK FnK CallV GuardO GuardC CondW opX opK opKc chkR eqR seqK blkK endL WL WD W LoopW BinK Tr drewK resL PickK NotK NilK ExtrK getK Instr.storeAt Instr.loadAt Instr.fieldAt Instr.indexAt Instr.lookup Instr.mapUpdate Instr.box Instr.alloc Instr.build Instr.buildSlice Instr.makeSlice Instr.makeMap Instr.sliceAt Instr.field Instr.index Instr.makeInterface Instr.typeAssert Builtin.len_ Builtin.append_ Builtin.cap_ Builtin.min_ Builtin.max_ Builtin.copy_ Builtin.clear_ convert binOp mp blk rob sl sep ex fact old
attribute [local irreducible] NegK kindsA flat
theorem index_ok {ro : Bool} {s : SV} {xs : List Int} {x : Int} : Trip Tryd.prog 43 [s.v, .int .i64 x].toArray [sl ro s.v xs]
    fun v l' => ∃ n : Int, (x ∈ xs ↔ 0 ≤ n) ∧ v = .int .i64 n ∧ l' = [sl ro s.v xs] := by
  intro F K hK
  simp only [List.cons_append, List.nil_append]
  (refine Tr.enter (rs := [.tmp 4]) mixed fn43 rfl (by simp +arith [Tryd.ntmps43]) fun u => ?_; simp only [cd43, Tryd.f43])
  refine Tr.bound (ro := ro) (v := s.v) (xs := xs) (by (repeat (first | exact Has.here | apply Has.next)); done) fun hbd => ?_
  ((try simp only [WKb, ↓reduceIte, Nat.reduceEqDiff, Nat.reduceAdd]) <;> (repeat' ((first
    | (refine G.tr ?_; first | refine S.a ?_ | refine S.t ?_ | refine Tr.brK ?_ ?_ | refine S.n fun _ => ?_ | refine S.i fun hix => ?_ | (refine S.g fun hb => ?_; (try simp only [hb])) | (refine S.s (fun hb => ?_) (fun hb => ?_) <;> ((try simp only [hb]) <;> (try (have hp := hb; simp only [WKs] at hp; (try have hq := Int.not_le.2 hp); (try have hq := Int.not_lt.2 hp))))))
    | ((fail_if_success refine G.tr ?_); exact G.prop S.p)
    | fail) <;> (try simp only [WKb]))))
  refine Tr.loopE (α := Nat) [4, 8] [0, 1, 7] (fun k => [.int .i64 0, .int .i64 k]) (fun _ => [sl ro s.v xs]) (fun k => k ≤ xs.length ∧ ∀ j : Nat, j < k → ix xs (j : Int) ≠ x) (fun k => xs.length - k) 0 (by (repeat (first | exact TakeL.nil | (apply TakeL.cons; focus ((first | exact TakeA.dupS | exact TakeA.dupF | ((repeat (first | with_reducible exact TakeA.here | exact TakeA.fam (by omega) (by omega) | with_reducible apply TakeA.next)); done) | ((repeat (first | exact TakeA.here | apply TakeA.next)); done) | exact TakeA.famNil | exact TakeA.nilS))) | fail)); done) rfl ⟨by omega, fun j hj => by omega⟩ fun k u hx => ?_
  obtain ⟨hk, hn⟩ := hx
  by_cases hin : k < xs.length
  · have hw := wrapSucc (k := k) (by omega)
    by_cases he : ix xs (k : Int) = x
    · have hx : x ∈ xs := by
        have := ix_some (xs := xs) (k := (k : Int)) (by omega) (by omega)
        rw [he] at this
        exact List.mem_of_getElem? this
      have he' : x = ix xs (k : Int) := he.symm
      ((try simp only [WKb, ↓reduceIte, Nat.reduceEqDiff]) <;> (repeat' ((first
    | (refine G.tr ?_; first | refine S.a ?_ | refine S.t ?_ | refine Tr.brK ?_ ?_ | refine S.n fun _ => ?_ | refine S.i fun hix => ?_ | (refine S.g fun hb => ?_; (try simp only [hb])) | (refine S.s (fun hb => ?_) (fun hb => ?_) <;> ((try simp only [hb]) <;> (try (have hp := hb; simp only [WKs] at hp; (try have hq := Int.not_le.2 hp); (try have hq := Int.not_lt.2 hp))))))
    | ((fail_if_success refine G.tr ?_); exact G.prop S.p)
    | fail) <;> (try simp only [WKb, ↓reduceIte, Nat.reduceEqDiff]))))
      all_goals
        apply Tr.fin hK ⟨_, ⟨fun _ => by omega, fun _ => hx⟩, rfl, rfl⟩
        ((try clear hK) <;> (try simp only [WKe, *]) <;> repeat (first | with_reducible exact EntR.done | refine S.e ?_ | (refine S.f ?_ <;> (try simp only [WKe, ↓reduceIte, reduceCtorEq, Int.reduceEq, *])) | with_reducible apply EntR.ex | refine EntR.drop (F := F) ?_ | refine EntR.drop ?_))
    · have he' : ¬ x = ix xs (k : Int) := fun h => he h.symm
      have hn' : ∀ j : Nat, j < k + 1 → ix xs (j : Int) ≠ x := fun j hj => by
        by_cases hjk : j < k
        · exact hn j hjk
        · have : j = k := by omega
          subst this; exact he
      ((try simp only [WKb, ↓reduceIte, Nat.reduceEqDiff]) <;> (repeat' ((first
    | (refine G.tr ?_; first | refine S.a ?_ | refine S.t ?_ | refine Tr.brK ?_ ?_ | refine S.n fun _ => ?_ | refine S.i fun hix => ?_ | (refine S.g fun hb => ?_; (try simp only [hb])) | (refine S.s (fun hb => ?_) (fun hb => ?_) <;> ((try simp only [hb]) <;> (try (have hp := hb; simp only [WKs] at hp; (try have hq := Int.not_le.2 hp); (try have hq := Int.not_lt.2 hp))))))
    | ((fail_if_success refine G.tr ?_); exact G.prop S.p)
    | fail) <;> (try simp only [WKb, ↓reduceIte, Nat.reduceEqDiff, hw]))))
      all_goals (apply Tr.againE (k + 1); (focus (simp only [WKb, ↓reduceIte, Nat.reduceEqDiff])); (focus ((try simp only [WKb, ↓reduceIte, Nat.reduceEqDiff]); (all_goals ((repeat (refine cons_eq (by first | rfl | (simp [*]; done)) ?_)); rfl)); done)); (focus (first | omega | assumption | (simp only []; omega) | (refine ⟨by omega, by assumption⟩) | (simp only []; refine ⟨by omega, by assumption⟩) | ((try simp only []); (repeat' (first | omega | assumption | apply hn' | refine And.intro ?_ ?_)); done))); (focus (first | omega | (simp only []; omega))); (focus (((try clear hK) <;> (try simp only [WKe, *]) <;> repeat (first | with_reducible exact EntR.done | refine S.e ?_ | (refine S.f ?_ <;> (try simp only [WKe, ↓reduceIte, reduceCtorEq, Int.reduceEq, *])) | with_reducible apply EntR.ex | refine EntR.drop (F := F) ?_ | refine EntR.drop ?_)))))
  · have hke : k = xs.length := by omega
    subst hke
    have hx : ¬ x ∈ xs := fun h => by
      obtain ⟨j, hj⟩ := List.getElem?_of_mem h
      have hjl : j < xs.length := (List.getElem?_eq_some_iff.1 hj).1
      have := ix_some (xs := xs) (k := (j : Int)) (by omega) (by omega)
      rw [Int.toNat_natCast, hj] at this
      exact hn j hjl (Option.some.inj this).symm
    ((try simp only [WKb, ↓reduceIte, Nat.reduceEqDiff]) <;> (repeat' ((first
    | (refine G.tr ?_; first | refine S.a ?_ | refine S.t ?_ | refine Tr.brK ?_ ?_ | refine S.n fun _ => ?_ | refine S.i fun hix => ?_ | (refine S.g fun hb => ?_; (try simp only [hb])) | (refine S.s (fun hb => ?_) (fun hb => ?_) <;> ((try simp only [hb]) <;> (try (have hp := hb; simp only [WKs] at hp; (try have hq := Int.not_le.2 hp); (try have hq := Int.not_lt.2 hp))))))
    | ((fail_if_success refine G.tr ?_); exact G.prop S.p)
    | fail) <;> (try simp only [WKb, ↓reduceIte]))))
    all_goals
      apply Tr.fin hK ⟨-1, ⟨fun h => absurd h hx, fun h => by omega⟩, rfl, rfl⟩
      ((try clear hK) <;> (try simp only [WKe, *]) <;> repeat (first | with_reducible exact EntR.done | refine S.e ?_ | (refine S.f ?_ <;> (try simp only [WKe, ↓reduceIte, reduceCtorEq, Int.reduceEq, *])) | with_reducible apply EntR.ex | refine EntR.drop (F := F) ?_ | refine EntR.drop ?_))

theorem contains_ok {ro : Bool} {s : SV} {xs : List Int} {x : Int} : Trip Tryd.prog 32 [s.v, .int .i64 x].toArray [sl ro s.v xs] fun v l' => v = .bool (decide (x ∈ xs)) ∧ l' = [sl ro s.v xs] := by
  intro F K hK
  simp only [List.cons_append, List.nil_append]
  (refine Tr.enter (rs := [.tmp 4]) mixed fn32 rfl (by simp +arith [Tryd.ntmps32]) fun u => ?_; simp only [cd32, Tryd.f32])
  ((try simp only [WKb, ↓reduceIte, Nat.reduceEqDiff, Nat.reduceAdd]) <;> (repeat' ((first
    | (refine G.tr ?_; first | refine S.a ?_ | refine S.t ?_ | refine Tr.brK ?_ ?_ | (refine G.call 43 ?_; refine S.c ?_ (h := index_ok)) | refine S.n fun _ => ?_ | refine S.i fun hix => ?_ | (refine S.g fun hb => ?_; (try simp only [hb])) | (refine S.s (fun hb => ?_) (fun hb => ?_) <;> ((try simp only [hb]) <;> (try (have hp := hb; simp only [WKs] at hp; (try have hq := Int.not_le.2 hp); (try have hq := Int.not_lt.2 hp))))))
    | rintro _ _ ⟨_, hidx, rfl, rfl⟩
    | ((fail_if_success refine G.tr ?_); exact G.prop S.p)
    | fail) <;> (try simp only [WKb, ↓reduceIte]))))
  all_goals
    refine Tr.fin hK ⟨by simp only [hidx], rfl⟩ ?_
    ((try clear hK) <;> (try simp only [WKe, *]) <;> repeat (first | with_reducible exact EntR.done | refine S.e ?_ | (refine S.f ?_ <;> (try simp only [WKe, ↓reduceIte, reduceCtorEq, Int.reduceEq, *])) | with_reducible apply EntR.ex | refine EntR.drop (F := F) ?_ | refine EntR.drop ?_))

theorem timed_ok {no : Int} : Trip Tryd.prog 18 [.int .i64 no].toArray [] fun v l' => v = .bool (decide (timedA no)) ∧ l' = [] := by
  intro F K hK
  simp only [List.nil_append]
  have hm : (no ∈ ([11, 12, 13, 17, 18, 19, 21] : List Int)) = timedA no := by simp [timedA]
  (refine Tr.enter (rs := [.tmp 2]) mixed fn18 rfl (by simp +arith [Tryd.ntmps18]) fun u => ?_; simp only [cd18, Tryd.f18])
  ((try simp only [WKb]) <;> (repeat' ((first
    | (refine G.tr ?_; first | refine S.a ?_ | refine S.t ?_ | refine Tr.brK ?_ ?_ | (refine G.call 32 ?_; refine S.c ?_ (h := contains_ok)) | refine S.n fun _ => ?_ | refine S.i fun hix => ?_ | (refine S.g fun hb => ?_; (try simp only [hb])) | (refine S.s (fun hb => ?_) (fun hb => ?_) <;> ((try simp only [hb]) <;> (try (have hp := hb; simp only [WKs] at hp; (try have hq := Int.not_le.2 hp); (try have hq := Int.not_lt.2 hp))))))
    | rintro _ _ ⟨rfl, rfl⟩
    | ((fail_if_success refine G.tr ?_); exact G.prop S.p)
    | fail) <;> (try simp only [WKb, ↓reduceIte, Nat.reduceEqDiff]))))
  all_goals
    refine Tr.fin hK ⟨congrArg Value.bool (decide_eq_decide.2 (iff_of_eq hm)), rfl⟩ ?_
    ((try clear hK) <;> (try simp only [WKe, *]) <;> repeat (first | with_reducible exact EntR.done | refine S.e ?_ | (refine S.f ?_ <;> (try simp only [WKe, ↓reduceIte, reduceCtorEq, Int.reduceEq, *])) | with_reducible apply EntR.ex | refine EntR.drop (F := F) ?_ | refine EntR.drop ?_))

theorem timedR_ok {no : Int} : Trip Tryd.prog 19 [.int .i64 no].toArray [] fun v l' => v = .bool (decide (timedA no)) ∧ l' = [] := by
  intro F K hK
  simp only [List.nil_append]
  have fin : ∀ (b : Bool) (l : List Asrt), b = decide (timedA no) → EntR [] l F → Tr l (K (.bool b)) := fun b l h he => Tr.fin hK ⟨by rw [h], rfl⟩ he
  (refine Tr.enter (rs := [.tmp 2]) mixed fn19 rfl (by simp +arith [Tryd.ntmps19]) fun u => ?_; simp only [cd19, Tryd.f19])
  ((try simp only [WKb, ↓reduceIte, Nat.reduceEqDiff]) <;> (repeat' ((first
    | (refine G.tr ?_; first | refine S.a ?_ | refine S.t ?_ | refine Tr.brK ?_ ?_ | refine S.n fun _ => ?_ | refine S.i fun hix => ?_ | (refine S.g fun hb => ?_; (try simp only [hb])) | (refine S.s (fun hb => ?_) (fun hb => ?_) <;> ((try simp only [hb]) <;> (try (have hp := hb; simp only [WKs] at hp; (try have hq := Int.not_le.2 hp); (try have hq := Int.not_lt.2 hp))))))
    | ((fail_if_success refine G.tr ?_); exact G.prop S.p)
    | fail) <;> (try simp only [WKb, ↓reduceIte, Nat.reduceEqDiff]))))
  all_goals
    refine fin _ _ (by unfold timedA; (try simp only [decide_eq_true_eq, decide_eq_false_iff_not] at *) <;> first | rfl | (simp [*]; done) | (symm; simp; omega)) ?_
    ((try clear hK) <;> (try simp only [WKe, ↓reduceIte, reduceCtorEq, Int.reduceEq, *]) <;> repeat (first | with_reducible exact EntR.done | refine S.e ?_ | (refine S.f ?_ <;> (try simp only [WKe, ↓reduceIte, reduceCtorEq, Int.reduceEq, *])) | with_reducible apply EntR.ex | refine EntR.drop (F := F) ?_ | refine EntR.drop ?_))

theorem argsR_ok {no : Int} : Trip Tryd.prog 12 [.int .i64 no].toArray [] fun v l' => v = .int .i64 (argsA no) ∧ l' = [] := by
  intro F K hK
  simp only [List.nil_append]
  have fin : ∀ (b : Int) (l : List Asrt), b = argsA no → EntR [] l F → Tr l (K (.int .i64 b)) := fun b l h he => Tr.fin hK ⟨by rw [h], rfl⟩ he
  (refine Tr.enter (rs := [.tmp 2]) mixed fn12 rfl (by simp +arith [Tryd.ntmps12]) fun u => ?_; simp only [cd12, Tryd.f12])
  ((try simp only [WKb, ↓reduceIte, Nat.reduceEqDiff]) <;> (repeat' ((first
    | (refine G.tr ?_; first | refine S.a ?_ | refine S.t ?_ | refine Tr.brK ?_ ?_ | refine S.n fun _ => ?_ | refine S.i fun hix => ?_ | (refine S.g fun hb => ?_; (try simp only [hb])) | (refine S.s (fun hb => ?_) (fun hb => ?_) <;> ((try simp only [hb]) <;> (try (have hp := hb; simp only [WKs] at hp; (try have hq := Int.not_le.2 hp); (try have hq := Int.not_lt.2 hp))))))
    | ((fail_if_success refine G.tr ?_); exact G.prop S.p)
    | fail) <;> (try simp only [WKb, ↓reduceIte, Nat.reduceEqDiff]))))
  all_goals
    refine fin _ _ (by rw [argsR_eq]; (try simp only [decide_eq_true_eq, decide_eq_false_iff_not] at *) <;> first | (simp only [*]; simp; done) | (simp [*]; done) | ((repeat' split) <;> omega)) ?_
    ((try clear hK) <;> (try simp only [WKe, ↓reduceIte, reduceCtorEq, Int.reduceEq, *]) <;> repeat (first | with_reducible exact EntR.done | refine S.e ?_ | (refine S.f ?_ <;> (try simp only [WKe, ↓reduceIte, reduceCtorEq, Int.reduceEq, *])) | with_reducible apply EntR.ex | refine EntR.drop (F := F) ?_ | refine EntR.drop ?_))

end Go.Proofs.YtlhmbcmkpafjoaaDoor
