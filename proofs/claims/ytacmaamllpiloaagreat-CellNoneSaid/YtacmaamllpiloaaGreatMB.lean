import Derived.Test.YtacmaamllpiloaaGreatZ16
namespace Go.Proofs.YtacmaamllpiloaaGreat
open Go Go.Wk
set_option maxHeartbeats 3200000
set_option maxRecDepth 100000
def gA (acts : List Int) (k : Nat) (j : Int) : Int := if j < k then actA acts j else 0
abbrev monG (b : Nat) (acts : List Int) (k : Nat) : Asrt := monB b (gA acts k 0) (gA acts k 1) (gA acts k 2) (gA acts k 3) (gA acts k 4) 0 0 0 0 0 (-1) (-1)
theorem monG0 {b : Nat} {acts : List Int} : monG b acts 0 = monB b 0 0 0 0 0 0 0 0 0 0 (-1) (-1) := by simp [monG, gA]
theorem monG_next {b : Nat} {acts : List Int} : (monG b acts 1 = monB b (actA acts 0) 0 0 0 0 0 0 0 0 0 (-1) (-1)) ∧ (monG b acts 2 = monB b (actA acts 0) (actA acts 1) 0 0 0 0 0 0 0 0 (-1) (-1)) ∧ (monG b acts 3 = monB b (actA acts 0) (actA acts 1) (actA acts 2) 0 0 0 0 0 0 0 (-1) (-1))
    ∧ (monG b acts 4 = monB b (actA acts 0) (actA acts 1) (actA acts 2) (actA acts 3) 0 0 0 0 0 0 (-1) (-1)) ∧ (monG b acts 5 = monB b (actA acts 0) (actA acts 1) (actA acts 2) (actA acts 3) (actA acts 4) 0 0 0 0 0 (-1) (-1)) := by simp [monG, gA]
attribute [local irreducible] BrK GenK EGenK EUnitK CallK FnK CallV GuardO GuardC CondW opX opK opKc chkR eqR seqK blkK endL WL WD W LoopW BinK Tr drewK resL PickK NotK NilK ExtrK getK Instr.storeAt Instr.loadAt Instr.fieldAt Instr.indexAt Instr.lookup Instr.mapUpdate Instr.box Instr.alloc Instr.build Instr.buildSlice Instr.makeSlice Instr.makeMap Instr.sliceAt Instr.field Instr.index Instr.makeInterface Instr.typeAssert Builtin.len_ Builtin.append_ Builtin.cap_ Builtin.min_ Builtin.max_ Builtin.copy_ Builtin.clear_ convert binOp mp blk rob sl sep ex fact old
attribute [local irreducible] gA
theorem mnew_ok {ro : Bool} {v : Value} {acts : List Int} : Trip Tryz.prog 55 [v].toArray [sl ro v acts] fun u l' => ∃ b, u = .pointer (some ⟨b, 0, none⟩) ∧ l' = [monA b acts, sl ro v acts] := by
  intro F K hK
  simp only [List.cons_append, List.nil_append]
  (refine Tr.enter (rs := [.tmp 2]) mixed fn55 rfl (by simp +arith [Tryz.ntmps55]) fun u => ?_; simp only [cd55, Tryz.f55])
  have hX := @pl55.eq_def; repeat' (first | intro (nb : Nat) | refine S.x ?_ | fail)
  refine Tr.loopE (α := Nat) [7] [0, 2, 3] (fun k => [.int .i64 k]) (fun k => [monG nb acts k, sl ro v acts]) (fun k => k ≤ 5) (fun k => 5 - k) 0 (by show TakeL _ [monG nb acts 0, _] _; rw [monG0]; exact S.T) rfl (Nat.zero_le _) fun k u hk => ?_
  obtain ⟨e1, e2, e3, e4, e5⟩ := @monG_next nb acts
  by_cases hin : k < 5
  · have hkk : k = 0 ∨ k = 1 ∨ k = 2 ∨ k = 3 ∨ k = 4 := by omega
    by_cases hv : (k : Int) < acts.length ∧ 0 ≤ ix acts (k : Int) ∧ ix acts (k : Int) ≤ 4
    · obtain ⟨v1, v2, v3⟩ := hv
      have ha : actA acts (k : Int) = ix acts (k : Int) := by unfold actA; rw [if_neg (by omega), if_neg (by omega), if_neg (by omega)]
      rcases hkk with rfl | rfl | rfl | rfl | rfl
      · simp only [monG0]
        have hX := @pl55.eq_def; repeat' (first | refine S.x ?_ | (refine G.call 116 ?_; refine S.c ?_ (h := mis_ok)) | rintro _ _ ⟨rfl, rfl⟩ | intro hb | fail)
        all_goals
          refine S.R 1 (hL := ?_)
          show EntR [] _ (monG nb acts 1 :: sl ro v acts :: F)
          have ha : actA acts 0 = _ := ha
          rw [e1, ha]
          exact EntR.take TakeA.here (EntR.take TakeA.here EntR.done)
      · simp only [e1]
        have hX := @pl55.eq_def; repeat' (first | refine S.x ?_ | (refine G.call 116 ?_; refine S.c ?_ (h := mis_ok)) | rintro _ _ ⟨rfl, rfl⟩ | intro hb | fail)
        all_goals
          refine S.R 2 (hL := ?_)
          show EntR [] _ (monG nb acts 2 :: sl ro v acts :: F)
          have ha : actA acts 1 = _ := ha
          rw [e2, ha]
          exact EntR.take TakeA.here (EntR.take TakeA.here EntR.done)
      · simp only [e2]
        have hX := @pl55.eq_def; repeat' (first | refine S.x ?_ | (refine G.call 116 ?_; refine S.c ?_ (h := mis_ok)) | rintro _ _ ⟨rfl, rfl⟩ | intro hb | fail)
        all_goals
          refine S.R 3 (hL := ?_)
          show EntR [] _ (monG nb acts 3 :: sl ro v acts :: F)
          have ha : actA acts 2 = _ := ha
          rw [e3, ha]
          exact EntR.take TakeA.here (EntR.take TakeA.here EntR.done)
      · simp only [e3]
        have hX := @pl55.eq_def; repeat' (first | refine S.x ?_ | (refine G.call 116 ?_; refine S.c ?_ (h := mis_ok)) | rintro _ _ ⟨rfl, rfl⟩ | intro hb | fail)
        all_goals
          refine S.R 4 (hL := ?_)
          show EntR [] _ (monG nb acts 4 :: sl ro v acts :: F)
          have ha : actA acts 3 = _ := ha
          rw [e4, ha]
          exact EntR.take TakeA.here (EntR.take TakeA.here EntR.done)
      · simp only [e4]
        have hX := @pl55.eq_def; repeat' (first | refine S.x ?_ | (refine G.call 116 ?_; refine S.c ?_ (h := mis_ok)) | rintro _ _ ⟨rfl, rfl⟩ | intro hb | fail)
        all_goals
          refine S.R 5 (hL := ?_)
          show EntR [] _ (monG nb acts 5 :: sl ro v acts :: F)
          have ha : actA acts 4 = _ := ha
          rw [e5, ha]
          exact EntR.take TakeA.here (EntR.take TakeA.here EntR.done)
    · have ha : actA acts (k : Int) = 0 := by unfold actA; split <;> first | rfl | (split <;> first | rfl | (split <;> first | rfl | omega))
      rcases hkk with rfl | rfl | rfl | rfl | rfl
      · simp only [monG0]
        have hX := @pl55.eq_def; repeat' (first | refine S.x ?_ | refine S.y ?_ ?_ | (refine G.call 116 ?_; refine S.c ?_ (h := mis_ok)) | rintro _ _ ⟨rfl, rfl⟩ | intro hb | fail)
        all_goals
          refine S.R 1 (hL := ?_)
          show EntR [] _ (monG nb acts 1 :: sl ro v acts :: F)
          have ha : actA acts 0 = _ := ha
          rw [e1, ha]
          exact EntR.take TakeA.here (EntR.take TakeA.here EntR.done)
      · simp only [e1]
        have hX := @pl55.eq_def; repeat' (first | refine S.x ?_ | refine S.y ?_ ?_ | (refine G.call 116 ?_; refine S.c ?_ (h := mis_ok)) | rintro _ _ ⟨rfl, rfl⟩ | intro hb | fail)
        all_goals
          refine S.R 2 (hL := ?_)
          show EntR [] _ (monG nb acts 2 :: sl ro v acts :: F)
          have ha : actA acts 1 = _ := ha
          rw [e2, ha]
          exact EntR.take TakeA.here (EntR.take TakeA.here EntR.done)
      · simp only [e2]
        have hX := @pl55.eq_def; repeat' (first | refine S.x ?_ | refine S.y ?_ ?_ | (refine G.call 116 ?_; refine S.c ?_ (h := mis_ok)) | rintro _ _ ⟨rfl, rfl⟩ | intro hb | fail)
        all_goals
          refine S.R 3 (hL := ?_)
          show EntR [] _ (monG nb acts 3 :: sl ro v acts :: F)
          have ha : actA acts 2 = _ := ha
          rw [e3, ha]
          exact EntR.take TakeA.here (EntR.take TakeA.here EntR.done)
      · simp only [e3]
        have hX := @pl55.eq_def; repeat' (first | refine S.x ?_ | refine S.y ?_ ?_ | (refine G.call 116 ?_; refine S.c ?_ (h := mis_ok)) | rintro _ _ ⟨rfl, rfl⟩ | intro hb | fail)
        all_goals
          refine S.R 4 (hL := ?_)
          show EntR [] _ (monG nb acts 4 :: sl ro v acts :: F)
          have ha : actA acts 3 = _ := ha
          rw [e4, ha]
          exact EntR.take TakeA.here (EntR.take TakeA.here EntR.done)
      · simp only [e4]
        have hX := @pl55.eq_def; repeat' (first | refine S.x ?_ | refine S.y ?_ ?_ | (refine G.call 116 ?_; refine S.c ?_ (h := mis_ok)) | rintro _ _ ⟨rfl, rfl⟩ | intro hb | fail)
        all_goals
          refine S.R 5 (hL := ?_)
          show EntR [] _ (monG nb acts 5 :: sl ro v acts :: F)
          have ha : actA acts 4 = _ := ha
          rw [e5, ha]
          exact EntR.take TakeA.here (EntR.take TakeA.here EntR.done)
  · have hke : k = 5 := by omega
    subst hke
    rw [e5]
    have hX := @pl55.eq_def; repeat' (first | refine S.x ?_ | fail)
    all_goals
      refine Tr.fin hK ⟨_, rfl, rfl⟩ ?_
      exact EntR.ex ⟨0, 0, 0, 0, 0, -1, -1⟩ (EntR.take TakeA.here (EntR.take TakeA.here EntR.done))
end Go.Proofs.YtacmaamllpiloaaGreat
