import Derived.Test.YtgkhjgpgdfbdpaaDoorXE
namespace Go.Proofs.YtgkhjgpgdfbdpaaDoor
open Go Go.Wk
set_option maxHeartbeats 6400000
set_option maxRecDepth 100000

instance : ElT 43 Int := ⟨⟩
instance : ElT 147 Str := ⟨⟩
theorem argsR_eq (no : Int) : argsA no = (if no = 1 ∨ no = 3 ∨ no = 8 ∨ no = 26 then 0 else if no = 2 ∨ no = 4 ∨ no = 5 ∨ no = 6 ∨ no = 14 ∨ no = 15 ∨ no = 16 ∨ no = 22 ∨ no = 23 ∨ no = 24 ∨ no = 27 then 1 else if no = 7 ∨ no = 10 ∨ no = 25 then 2 else if no = 9 ∨ no = 20 then 3 else 4) := by
  unfold argsA
  by_cases h : isA no
  · rw [kindA_yes h]
    obtain ⟨k, hk, rfl⟩ := isA_cases h
    iterate 27 (rcases k with _ | k; · rfl)
    omega
  · rw [kindA_no h]
    unfold isA at h
    repeat (rw [if_neg (by omega)])
theorem argsA_le (no : Int) : 0 ≤ argsA no ∧ argsA no ≤ 4 := by rw [argsR_eq]; (repeat' split) <;> omega
attribute [local irreducible] BrK GenK EGenK EUnitK CallK FnK CallV GuardO GuardC CondW opX opK opKc chkR eqR seqK blkK endL WL WD W LoopW BinK Tr drewK resL PickK NotK NilK ExtrK getK Instr.storeAt Instr.loadAt Instr.fieldAt Instr.indexAt Instr.lookup Instr.mapUpdate Instr.box Instr.alloc Instr.build Instr.buildSlice Instr.makeSlice Instr.makeMap Instr.sliceAt Instr.field Instr.index Instr.makeInterface Instr.typeAssert Builtin.len_ Builtin.append_ Builtin.cap_ Builtin.min_ Builtin.max_ Builtin.copy_ Builtin.clear_ convert binOp mp blk rob sl sep ex fact old
attribute [local irreducible] NegK kindsA flat
theorem argsR_ok {no : Int} : Trip Tryd.prog 104 [.int .i64 no].toArray [] fun v l' => v = .int .i64 (argsA no) ∧ l' = [] := by
  intro F K hK
  simp only [List.nil_append]
  have fin : ∀ (b : Int) (l : List Asrt), b = argsA no → EntR [] l F → Tr l (K (.int .i64 b)) := fun b l h he => Tr.fin hK ⟨by rw [h], rfl⟩ he
  (refine Tr.enter (rs := [.tmp 2]) mixed fn104 rfl (by simp +arith [Tryd.ntmps104]) fun u => ?_; simp only [cd104, Tryd.f104])
  ((try simp only [WKb, ↓reduceIte, Nat.reduceEqDiff]) <;> (repeat' ((first
    | (refine G.tr ?_; first | refine S.a ?_ | refine S.t ?_ | refine Tr.brK ?_ ?_ | refine S.n fun _ => ?_ | refine S.i fun hix => ?_ | (refine S.g fun hb => ?_; (try simp only [hb])) | (refine S.s (fun hb => ?_) (fun hb => ?_) <;> ((try simp only [hb]) <;> (try (have hp := hb; simp only [WKs] at hp; (try have hq := Int.not_le.2 hp); (try have hq := Int.not_lt.2 hp))))))
    | ((fail_if_success refine G.tr ?_); exact G.prop S.p)
    | fail) <;> (try simp only [WKb, ↓reduceIte, Nat.reduceEqDiff]))))
  all_goals
    refine fin _ _ (by rw [argsR_eq]; (try simp only [decide_eq_true_eq, decide_eq_false_iff_not] at *) <;> first | (simp only [*]; simp; done) | (simp [*]; done) | ((repeat' split) <;> omega)) ?_
    ((try clear hK) <;> (try simp only [WKe, ↓reduceIte, reduceCtorEq, Int.reduceEq, *]) <;> repeat (first | with_reducible exact EntR.done | refine S.e ?_ | (refine S.f ?_ <;> (try simp only [WKe, ↓reduceIte, reduceCtorEq, Int.reduceEq, *])) | with_reducible apply EntR.ex | refine EntR.drop (F := F) ?_ | refine EntR.drop ?_))

end Go.Proofs.YtgkhjgpgdfbdpaaDoor
