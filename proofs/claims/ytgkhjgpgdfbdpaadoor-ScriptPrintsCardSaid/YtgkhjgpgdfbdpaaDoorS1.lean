import Derived.Test.YtgkhjgpgdfbdpaaDoorSyx
namespace Go.Proofs.YtgkhjgpgdfbdpaaDoor
open Go Go.Wk
set_option maxHeartbeats 6400000
set_option maxRecDepth 100000

attribute [local irreducible] BrK GenK EGenK EUnitK CallK FnK CallV GuardO GuardC CondW opX opK opKc chkR eqR seqK blkK endL WL WD W LoopW BinK Tr drewK resL PickK NotK NilK ExtrK getK Instr.storeAt Instr.loadAt Instr.fieldAt Instr.indexAt Instr.lookup Instr.mapUpdate Instr.box Instr.alloc Instr.build Instr.buildSlice Instr.makeSlice Instr.makeMap Instr.sliceAt Instr.field Instr.index Instr.makeInterface Instr.typeAssert Builtin.len_ Builtin.append_ Builtin.cap_ Builtin.min_ Builtin.max_ Builtin.copy_ Builtin.clear_ convert binOp mp blk rob sl sep ex fact old
attribute [local irreducible] NegK mxV bufT bldB nz stB stepsN
open Classical in
theorem prints29_ok {ps fs : SV} {progs : List ProgS} {frames : List FrameC} {m : Int} (hps : ∀ p ∈ progs, ∀ q ∈ p.d, ∀ s ∈ q.d, s.ok) (hfs : ∀ f ∈ frames, f.ok) : Trip Tryd.prog 7 [.agg [ps.v, fs.v].toArray].toArray [mxB m, sl true ps.v progs, famProg true progs, sl true fs.v frames] fun u l' => u = .bool true ∧ l' = [famProg true progs] := by
  intro F K hK
  simp only [List.cons_append, List.nil_append]
  refine Tr.bound (ro := true) (v := ps.v) (xs := progs) (by (repeat (first | exact Has.here | apply Has.next)); done) fun hbd => ?_
  (refine Tr.enter (rs := [.tmp 2]) mixed fn7 rfl (by simp +arith [Tryd.ntmps7]) fun u => ?_; simp only [cd7, Tryd.f7])
  by_cases h : fewS progs frames
  · have hlen := few_len h (okT_of hps hfs)
    have hless := few_less h
    have hst := few_steps h
    have hfl : frames.length ≤ 1000000 := by have := h.2.1; omega
    have hd : decide (fewS progs frames) = true := decide_eq_true h
    ((try simp only [WKb, ↓reduceIte]) <;> (repeat' ((first
    | (refine G.tr ?_; first | refine S.a ?_ | refine S.t ?_ | refine Tr.brK ?_ ?_ | (refine G.call 28 ?_; refine S.c ?_ (h := few_ok)) | (refine G.call 29 ?_; refine S.c ?_ (h := works29_ok)) | (refine G.call 30 ?_; refine S.c ?_ (h := sprint_ok (by assumption) (by assumption))) | (refine G.call 31 ?_; refine S.c ?_ (h := print29_ok (by assumption) (by assumption) (by assumption))) | (refine G.call 33 ?_; refine S.c ?_ (h := snormAll_ok (by first | assumption | exact norm_less (by assumption) (by assumption)) (by omega))) | (refine G.call 34 ?_; refine S.c ?_ (h := snormAllR_ok (by assumption) (by omega))) | (refine G.call 32 ?_; refine S.c ?_ (h := same29_ok (by assumption) (by assumption))) | (refine G.call 35 ?_; refine S.c ?_ (h := steps_ok ?_)) | refine S.n fun _ => ?_ | refine S.i fun hix => ?_ | (refine S.g fun hb => ?_; (try simp only [hb])) | (refine S.s (fun hb => ?_) (fun hb => ?_) <;> ((try simp only [hb]) <;> (try (have hp := hb; simp only [WKs] at hp; (try have hq := Int.not_le.2 hp); (try have hq := Int.not_lt.2 hp))))))
    | rintro _ _ ⟨rfl, rfl⟩
    | rintro _ _ ⟨_, _, (hnmB : progsD _ = _), rfl, rfl⟩
    | rintro _ _ ⟨_, _, _, (hnmA : progsD _ = _), rfl, rfl⟩
    | ((fail_if_success refine G.tr ?_); exact G.prop S.p)
    | fail) <;> (try simp only [WKb, ↓reduceIte, Nat.reduceEqDiff, hd]))))
    rename_i sb
    have hz0 : stepsN (progs.take 0) = 0 := by unfold stepsN; rfl
    refine Tr.loopE (α := Nat) [7, 8] [1, 2, 3, 4, 5, 6] (fun k => [.int .i64 (stepsN (progs.take k) : Int), .int .i64 k]) (fun _ => [blk sb (.cells [ps.v, fs.v].toArray 48 (0, 0)), famProg true progs]) (fun k => k ≤ progs.length) (fun k => progs.length - k) 0 (by (repeat (first | exact TakeL.nil | (apply TakeL.cons; focus ((first | exact TakeA.dupS | exact TakeA.dupF | ((repeat (first | with_reducible exact TakeA.here | exact TakeA.fam (by omega) (by omega) | with_reducible apply TakeA.next)); done) | ((repeat (first | exact TakeA.here | apply TakeA.next)); done) | exact TakeA.famNil | exact TakeA.nilS))) | fail)); done) (by rw [hz0]; rfl) (Nat.zero_le _) fun k u hk => ?_
    by_cases hin : k < progs.length
    · have hw := wrapSucc (k := k) (by omega)
      simp only [List.cons_append, List.nil_append]
      refine Tr.famAt (xs := progs) (k : Int) (by (repeat (first | exact TakeA.here | apply TakeA.next)); done) (by omega) (by omega) ?_
      refine Tr.sep_iff.2 ?_
      refine Tr.bound (ro := true) (v := (ix progs (k : Int)).s.v) (xs := (ix progs (k : Int)).d) (by (repeat (first | exact Has.here | apply Has.next)); done) fun hbd1 => ?_
      ((try simp only [WKb, ↓reduceIte, Nat.reduceEqDiff]) <;> (repeat' ((first
    | (refine G.tr ?_; first | refine S.a ?_ | refine S.t ?_ | refine Tr.brK ?_ ?_ | (refine G.call 28 ?_; refine S.c ?_ (h := few_ok)) | (refine G.call 29 ?_; refine S.c ?_ (h := works29_ok)) | (refine G.call 30 ?_; refine S.c ?_ (h := sprint_ok (by assumption) (by assumption))) | (refine G.call 31 ?_; refine S.c ?_ (h := print29_ok (by assumption) (by assumption) (by assumption))) | (refine G.call 33 ?_; refine S.c ?_ (h := snormAll_ok (by first | assumption | exact norm_less (by assumption) (by assumption)) (by omega))) | (refine G.call 34 ?_; refine S.c ?_ (h := snormAllR_ok (by assumption) (by omega))) | (refine G.call 32 ?_; refine S.c ?_ (h := same29_ok (by assumption) (by assumption))) | (refine G.call 35 ?_; refine S.c ?_ (h := steps_ok ?_)) | refine S.n fun _ => ?_ | refine S.i fun hix => ?_ | (refine S.g fun hb => ?_; (try simp only [hb])) | (refine S.s (fun hb => ?_) (fun hb => ?_) <;> ((try simp only [hb]) <;> (try (have hp := hb; simp only [WKs] at hp; (try have hq := Int.not_le.2 hp); (try have hq := Int.not_lt.2 hp))))))
    | rintro _ _ ⟨rfl, rfl⟩
    | rintro _ _ ⟨_, _, (hnmB : progsD _ = _), rfl, rfl⟩
    | rintro _ _ ⟨_, _, _, (hnmA : progsD _ = _), rfl, rfl⟩
    | ((fail_if_success refine G.tr ?_); exact G.prop S.p)
    | fail) <;> (try simp only [WKb, ↓reduceIte, Nat.reduceEqDiff]))))
      refine Tr.loopE (α := Nat) [7, 9] [1, 2, 3, 4, 5, 6, 8] (fun j => [.int .i64 (stB progs k j : Int), .int .i64 j]) (fun j => [blk sb (.cells [ps.v, fs.v].toArray 48 (0, 0)), famProc true (ix progs (k : Int)).d]) (fun j => j ≤ (ix progs (k : Int)).d.length) (fun j => (ix progs (k : Int)).d.length - j) 0 (by (repeat (first | exact TakeL.nil | (apply TakeL.cons; focus ((first | exact TakeA.dupS | exact TakeA.dupF | ((repeat (first | with_reducible exact TakeA.here | exact TakeA.fam (by omega) (by omega) | with_reducible apply TakeA.next)); done) | ((repeat (first | exact TakeA.here | apply TakeA.next)); done) | exact TakeA.famNil | exact TakeA.nilS))) | fail)); done) (by rw [stB_zero]; rfl) (Nat.zero_le _) fun j u hj => ?_
      by_cases hin1 : j < (ix progs (k : Int)).d.length
      · have hwk := hw
        have hw := wrapSucc (k := j) (by omega)
        have hnx := stB_next hin1
        have hle := stB_le hin (j + 1)
        have hws : IntKind.i64.wrap ((stB progs k j : Int) + ((ix (ix progs (k : Int)).d (j : Int)).d.length : Int)) = (stB progs k (j + 1) : Int) := by rw [wrapId (by omega) (by omega)]; omega
        simp only [List.cons_append, List.nil_append]
        refine Tr.famAt (xs := (ix progs (k : Int)).d) (j : Int) (by (repeat (first | exact TakeA.here | apply TakeA.next)); done) (by omega) (by omega) ?_
        ((try simp only [WKb, ↓reduceIte, Nat.reduceEqDiff]) <;> (repeat' ((first
    | (refine G.tr ?_; first | refine S.a ?_ | refine S.t ?_ | refine Tr.brK ?_ ?_ | (refine G.call 28 ?_; refine S.c ?_ (h := few_ok)) | (refine G.call 29 ?_; refine S.c ?_ (h := works29_ok)) | (refine G.call 30 ?_; refine S.c ?_ (h := sprint_ok (by assumption) (by assumption))) | (refine G.call 31 ?_; refine S.c ?_ (h := print29_ok (by assumption) (by assumption) (by assumption))) | (refine G.call 33 ?_; refine S.c ?_ (h := snormAll_ok (by first | assumption | exact norm_less (by assumption) (by assumption)) (by omega))) | (refine G.call 34 ?_; refine S.c ?_ (h := snormAllR_ok (by assumption) (by omega))) | (refine G.call 32 ?_; refine S.c ?_ (h := same29_ok (by assumption) (by assumption))) | (refine G.call 35 ?_; refine S.c ?_ (h := steps_ok ?_)) | refine S.n fun _ => ?_ | refine S.i fun hix => ?_ | (refine S.g fun hb => ?_; (try simp only [hb])) | (refine S.s (fun hb => ?_) (fun hb => ?_) <;> ((try simp only [hb]) <;> (try (have hp := hb; simp only [WKs] at hp; (try have hq := Int.not_le.2 hp); (try have hq := Int.not_lt.2 hp))))))
    | rintro _ _ ⟨rfl, rfl⟩
    | rintro _ _ ⟨_, _, (hnmB : progsD _ = _), rfl, rfl⟩
    | rintro _ _ ⟨_, _, _, (hnmA : progsD _ = _), rfl, rfl⟩
    | ((fail_if_success refine G.tr ?_); exact G.prop S.p)
    | fail) <;> (try simp only [WKb, ↓reduceIte, Nat.reduceEqDiff, hw, hws]))))
        all_goals
          refine foldProc hin1 (by (repeat (first | exact TakeA.here | apply TakeA.next)); done) (by (repeat (first | exact TakeA.here | apply TakeA.next)); done) ?_
          clear hnx
          (apply Tr.againE (j + 1); (focus (simp only [WKb, ↓reduceIte, Nat.reduceEqDiff])); (focus ((try simp only [WKb, ↓reduceIte, Nat.reduceEqDiff]); (all_goals ((repeat (refine cons_eq (by first | rfl | (simp [*]; done)) ?_)); rfl)); done)); (focus (first | omega | assumption | (simp only []; omega) | (refine ⟨by omega, by assumption⟩) | (simp only []; refine ⟨by omega, by assumption⟩) | ((try simp only []); (repeat' (first | omega | assumption | refine And.intro ?_ ?_)); done))); (focus (first | omega | (simp only []; omega))); (focus (((try clear hK) <;> (try simp only [WKe, *]) <;> repeat (first | with_reducible exact EntR.done | refine S.e ?_ | (refine S.f ?_ <;> (try simp only [WKe, ↓reduceIte, reduceCtorEq, Int.reduceEq, *])) | with_reducible apply EntR.ex | refine EntR.drop (F := F) ?_ | refine EntR.drop ?_)))))
      · have hje : j = (ix progs (k : Int)).d.length := by omega
        subst hje
        have hz3 := stB_end hin
        ((try simp only [WKb, ↓reduceIte, Nat.reduceEqDiff, hz3]) <;> (repeat' ((first
    | (refine G.tr ?_; first | refine S.a ?_ | refine S.t ?_ | refine Tr.brK ?_ ?_ | (refine G.call 28 ?_; refine S.c ?_ (h := few_ok)) | (refine G.call 29 ?_; refine S.c ?_ (h := works29_ok)) | (refine G.call 30 ?_; refine S.c ?_ (h := sprint_ok (by assumption) (by assumption))) | (refine G.call 31 ?_; refine S.c ?_ (h := print29_ok (by assumption) (by assumption) (by assumption))) | (refine G.call 33 ?_; refine S.c ?_ (h := snormAll_ok (by first | assumption | exact norm_less (by assumption) (by assumption)) (by omega))) | (refine G.call 34 ?_; refine S.c ?_ (h := snormAllR_ok (by assumption) (by omega))) | (refine G.call 32 ?_; refine S.c ?_ (h := same29_ok (by assumption) (by assumption))) | (refine G.call 35 ?_; refine S.c ?_ (h := steps_ok ?_)) | refine S.n fun _ => ?_ | refine S.i fun hix => ?_ | (refine S.g fun hb => ?_; (try simp only [hb])) | (refine S.s (fun hb => ?_) (fun hb => ?_) <;> ((try simp only [hb]) <;> (try (have hp := hb; simp only [WKs] at hp; (try have hq := Int.not_le.2 hp); (try have hq := Int.not_lt.2 hp))))))
    | rintro _ _ ⟨rfl, rfl⟩
    | rintro _ _ ⟨_, _, (hnmB : progsD _ = _), rfl, rfl⟩
    | rintro _ _ ⟨_, _, _, (hnmA : progsD _ = _), rfl, rfl⟩
    | ((fail_if_success refine G.tr ?_); exact G.prop S.p)
    | fail) <;> (try simp only [WKb, ↓reduceIte, Nat.reduceEqDiff, hw]))))
        all_goals
          refine foldProg hin (by (repeat (first | exact TakeA.here | apply TakeA.next)); done) (by (repeat (first | exact TakeA.here | apply TakeA.next)); done) (by (repeat (first | exact TakeA.here | apply TakeA.next)); done) ?_
          (apply Tr.againE (k + 1); (focus (simp only [WKb, ↓reduceIte, Nat.reduceEqDiff])); (focus ((try simp only [WKb, ↓reduceIte, Nat.reduceEqDiff]); (all_goals ((repeat (refine cons_eq (by first | rfl | (simp [*]; done)) ?_)); rfl)); done)); (focus (first | omega | assumption | (simp only []; omega) | (refine ⟨by omega, by assumption⟩) | (simp only []; refine ⟨by omega, by assumption⟩) | ((try simp only []); (repeat' (first | omega | assumption | refine And.intro ?_ ?_)); done))); (focus (first | omega | (simp only []; omega))); (focus (((try clear hK) <;> (try simp only [WKe, *]) <;> repeat (first | with_reducible exact EntR.done | refine S.e ?_ | (refine S.f ?_ <;> (try simp only [WKe, ↓reduceIte, reduceCtorEq, Int.reduceEq, *])) | with_reducible apply EntR.ex | refine EntR.drop (F := F) ?_ | refine EntR.drop ?_)))))
    · have hke : k = progs.length := by omega
      subst hke
      have htl : progs.take progs.length = progs := List.take_length
      ((try simp only [WKb, ↓reduceIte, Nat.reduceEqDiff, htl]) <;> (repeat' ((first
    | (refine G.tr ?_; first | refine S.a ?_ | refine S.t ?_ | refine Tr.brK ?_ ?_ | (refine G.call 28 ?_; refine S.c ?_ (h := few_ok)) | (refine G.call 29 ?_; refine S.c ?_ (h := works29_ok)) | (refine G.call 30 ?_; refine S.c ?_ (h := sprint_ok (by assumption) (by assumption))) | (refine G.call 31 ?_; refine S.c ?_ (h := print29_ok (by assumption) (by assumption) (by assumption))) | (refine G.call 33 ?_; refine S.c ?_ (h := snormAll_ok (by first | assumption | exact norm_less (by assumption) (by assumption)) (by omega))) | (refine G.call 34 ?_; refine S.c ?_ (h := snormAllR_ok (by assumption) (by omega))) | (refine G.call 32 ?_; refine S.c ?_ (h := same29_ok (by assumption) (by assumption))) | (refine G.call 35 ?_; refine S.c ?_ (h := steps_ok ?_)) | refine S.n fun _ => ?_ | refine S.i fun hix => ?_ | (refine S.g fun hb => ?_; (try simp only [hb])) | (refine S.s (fun hb => ?_) (fun hb => ?_) <;> ((try simp only [hb]) <;> (try (have hp := hb; simp only [WKs] at hp; (try have hq := Int.not_le.2 hp); (try have hq := Int.not_lt.2 hp))))))
    | rintro _ _ ⟨rfl, rfl⟩
    | rintro _ _ ⟨_, _, (hnmB : progsD _ = _), rfl, rfl⟩
    | rintro _ _ ⟨_, _, _, (hnmA : progsD _ = _), rfl, rfl⟩
    | ((fail_if_success refine G.tr ?_); exact G.prop S.p)
    | fail) <;> (try simp only [WKb, WKh, ↓reduceIte, Nat.reduceEqDiff, pl7]))))
      all_goals first
        | exact absurd (show sameS _ _ _ _ from ⟨hnmA.trans hnmB.symm, rfl⟩) hp
        | (refine Tr.fin hK ⟨rfl, rfl⟩ ?_; ((try clear hK) <;> (try simp only [WKe, *]) <;> repeat (first | with_reducible exact EntR.done | refine S.e ?_ | (refine S.f ?_ <;> (try simp only [WKe, ↓reduceIte, reduceCtorEq, Int.reduceEq, *])) | with_reducible apply EntR.ex | refine EntR.drop (F := F) ?_ | refine EntR.drop ?_)))
  · have hd : decide (fewS progs frames) = false := decide_eq_false h
    ((try simp only [WKb, ↓reduceIte]) <;> (repeat' ((first
    | (refine G.tr ?_; first | refine S.a ?_ | refine S.t ?_ | refine Tr.brK ?_ ?_ | (refine G.call 28 ?_; refine S.c ?_ (h := few_ok)) | (refine G.call 29 ?_; refine S.c ?_ (h := works29_ok)) | (refine G.call 30 ?_; refine S.c ?_ (h := sprint_ok (by assumption) (by assumption))) | (refine G.call 31 ?_; refine S.c ?_ (h := print29_ok (by assumption) (by assumption) (by assumption))) | (refine G.call 33 ?_; refine S.c ?_ (h := snormAll_ok (by first | assumption | exact norm_less (by assumption) (by assumption)) (by omega))) | (refine G.call 34 ?_; refine S.c ?_ (h := snormAllR_ok (by assumption) (by omega))) | (refine G.call 32 ?_; refine S.c ?_ (h := same29_ok (by assumption) (by assumption))) | (refine G.call 35 ?_; refine S.c ?_ (h := steps_ok ?_)) | refine S.n fun _ => ?_ | refine S.i fun hix => ?_ | (refine S.g fun hb => ?_; (try simp only [hb])) | (refine S.s (fun hb => ?_) (fun hb => ?_) <;> ((try simp only [hb]) <;> (try (have hp := hb; simp only [WKs] at hp; (try have hq := Int.not_le.2 hp); (try have hq := Int.not_lt.2 hp))))))
    | rintro _ _ ⟨rfl, rfl⟩
    | rintro _ _ ⟨_, _, (hnmB : progsD _ = _), rfl, rfl⟩
    | rintro _ _ ⟨_, _, _, (hnmA : progsD _ = _), rfl, rfl⟩
    | ((fail_if_success refine G.tr ?_); exact G.prop S.p)
    | fail) <;> (try simp only [WKb, ↓reduceIte, Nat.reduceEqDiff, hd]))))
    all_goals
      refine Tr.fin hK ⟨rfl, rfl⟩ ?_
      ((try clear hK) <;> (try simp only [WKe, *]) <;> repeat (first | with_reducible exact EntR.done | refine S.e ?_ | (refine S.f ?_ <;> (try simp only [WKe, ↓reduceIte, reduceCtorEq, Int.reduceEq, *])) | with_reducible apply EntR.ex | refine EntR.drop (F := F) ?_ | refine EntR.drop ?_))
end Go.Proofs.YtgkhjgpgdfbdpaaDoor
