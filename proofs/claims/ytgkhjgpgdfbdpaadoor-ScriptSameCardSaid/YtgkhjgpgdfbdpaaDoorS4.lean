import Derived.Test.YtgkhjgpgdfbdpaaDoorSyx
namespace Go.Proofs.YtgkhjgpgdfbdpaaDoor
open Go Go.Wk
set_option maxHeartbeats 6400000
set_option maxRecDepth 100000

attribute [local irreducible] BrK GenK EGenK EUnitK CallK FnK CallV GuardO GuardC CondW opX opK opKc chkR eqR seqK blkK endL WL WD W LoopW BinK Tr drewK resL PickK NotK NilK ExtrK getK Instr.storeAt Instr.loadAt Instr.fieldAt Instr.indexAt Instr.lookup Instr.mapUpdate Instr.box Instr.alloc Instr.build Instr.buildSlice Instr.makeSlice Instr.makeMap Instr.sliceAt Instr.field Instr.index Instr.makeInterface Instr.typeAssert Builtin.len_ Builtin.append_ Builtin.cap_ Builtin.min_ Builtin.max_ Builtin.copy_ Builtin.clear_ convert binOp mp blk rob sl sep ex fact old
attribute [local irreducible] NegK mxV bufT bldB nz stB stepsN
open Classical in
theorem same29law_ok {p1 f1 p2 f2 : SV} {xs ys : List ProgS} {fx fy : List FrameC} {m : Int} (hfx : ∀ f ∈ fx, f.ok) (hfy : ∀ f ∈ fy, f.ok) : Trip Tryd.prog 10 [.agg [p1.v, f1.v].toArray, .agg [p2.v, f2.v].toArray].toArray [mxB m, sl true p1.v xs, famProg true xs, sl true f1.v fx, sl true p2.v ys, famProg true ys, sl true f2.v fy] fun u l' => u = .bool true ∧ l' = [famProg true xs, famProg true ys] := by
  intro F K hK
  simp only [List.cons_append, List.nil_append]
  refine Tr.dupProg (xs := xs) (by (repeat (first | exact TakeA.here | apply TakeA.next)); done) ?_
  (refine Tr.enter (rs := [.tmp 4]) mixed fn10 rfl (by simp +arith [Tryd.ntmps10]) fun u => ?_; simp only [cd10, Tryd.f10])
  by_cases ha : fewS xs fx
  · have hda : decide (fewS xs fx) = true := decide_eq_true ha
    by_cases hb : fewS ys fy
    · have hdb : decide (fewS ys fy) = true := decide_eq_true hb
      have hless := few_less ha
      have hfl : fx.length ≤ 1000000 := by have := ha.2.1; omega
      have hself : decide (sameS xs xs fx fx) = true := decide_eq_true ⟨rfl, rfl⟩
      ((try simp only [WKb, ↓reduceIte, Nat.reduceEqDiff, Nat.reduceAdd]) <;> (repeat' ((first
    | (refine G.tr ?_; first | refine S.a ?_ | refine S.t ?_ | refine Tr.brK ?_ ?_ | (refine G.call 28 ?_; refine S.c ?_ (h := few_ok)) | (refine G.call 29 ?_; refine S.c ?_ (h := works29_ok)) | (refine G.call 33 ?_; refine S.c ?_ (h := snormAll_ok (by first | assumption | exact norm_less (by assumption) (by assumption)) (by omega))) | (refine G.call 38 ?_; refine S.c ?_ (h := ssame_ok)) | (refine G.call 32 ?_; refine S.c ?_ (h := same29_ok (by assumption) (by assumption))) | refine S.n fun _ => ?_ | refine S.i fun hix => ?_ | (refine S.g fun hb => ?_; (try simp only [hb])) | (refine S.s (fun hb => ?_) (fun hb => ?_) <;> ((try simp only [hb]) <;> (try (have hp := hb; simp only [WKs] at hp; (try have hq := Int.not_le.2 hp); (try have hq := Int.not_lt.2 hp))))))
    | rintro _ _ ⟨rfl, rfl⟩
    | rintro _ _ ⟨_, _, _, (hnmA : progsD _ = _), rfl, rfl⟩
    | ((fail_if_success refine G.tr ?_); exact G.prop S.p)
    | fail) <;> (try simp only [WKb, ↓reduceIte, Nat.reduceEqDiff, pl10, hda, hdb, hself]))))
      all_goals first
        | exact hp (norm_same (by assumption) (by assumption))
        | exact absurd (norm_same (by assumption) (by assumption)) hp
        | (refine Tr.fin hK ⟨rfl, rfl⟩ ?_; ((try clear hK) <;> (try simp only [WKe, *]) <;> repeat (first | with_reducible exact EntR.done | refine S.e ?_ | (refine S.f ?_ <;> (try simp only [WKe, ↓reduceIte, reduceCtorEq, Int.reduceEq, *])) | with_reducible apply EntR.ex | refine EntR.drop (F := F) ?_ | refine EntR.drop ?_)))
    · have hdb : decide (fewS ys fy) = false := decide_eq_false hb
      ((try simp only [WKb, ↓reduceIte, Nat.reduceEqDiff, Nat.reduceAdd]) <;> (repeat' ((first
    | (refine G.tr ?_; first | refine S.a ?_ | refine S.t ?_ | refine Tr.brK ?_ ?_ | (refine G.call 28 ?_; refine S.c ?_ (h := few_ok)) | (refine G.call 29 ?_; refine S.c ?_ (h := works29_ok)) | (refine G.call 33 ?_; refine S.c ?_ (h := snormAll_ok (by first | assumption | exact norm_less (by assumption) (by assumption)) (by omega))) | (refine G.call 38 ?_; refine S.c ?_ (h := ssame_ok)) | (refine G.call 32 ?_; refine S.c ?_ (h := same29_ok (by assumption) (by assumption))) | refine S.n fun _ => ?_ | refine S.i fun hix => ?_ | (refine S.g fun hb => ?_; (try simp only [hb])) | (refine S.s (fun hb => ?_) (fun hb => ?_) <;> ((try simp only [hb]) <;> (try (have hp := hb; simp only [WKs] at hp; (try have hq := Int.not_le.2 hp); (try have hq := Int.not_lt.2 hp))))))
    | rintro _ _ ⟨rfl, rfl⟩
    | rintro _ _ ⟨_, _, _, (hnmA : progsD _ = _), rfl, rfl⟩
    | ((fail_if_success refine G.tr ?_); exact G.prop S.p)
    | fail) <;> (try simp only [WKb, ↓reduceIte, Nat.reduceEqDiff, hda, hdb]))))
      all_goals
        refine Tr.fin hK ⟨rfl, rfl⟩ ?_
        ((try clear hK) <;> (try simp only [WKe, *]) <;> repeat (first | with_reducible exact EntR.done | refine S.e ?_ | (refine S.f ?_ <;> (try simp only [WKe, ↓reduceIte, reduceCtorEq, Int.reduceEq, *])) | with_reducible apply EntR.ex | refine EntR.drop (F := F) ?_ | refine EntR.drop ?_))
  · have hd : decide (fewS xs fx) = false := decide_eq_false ha
    ((try simp only [WKb, ↓reduceIte, Nat.reduceEqDiff, Nat.reduceAdd]) <;> (repeat' ((first
    | (refine G.tr ?_; first | refine S.a ?_ | refine S.t ?_ | refine Tr.brK ?_ ?_ | (refine G.call 28 ?_; refine S.c ?_ (h := few_ok)) | (refine G.call 29 ?_; refine S.c ?_ (h := works29_ok)) | (refine G.call 33 ?_; refine S.c ?_ (h := snormAll_ok (by first | assumption | exact norm_less (by assumption) (by assumption)) (by omega))) | (refine G.call 38 ?_; refine S.c ?_ (h := ssame_ok)) | (refine G.call 32 ?_; refine S.c ?_ (h := same29_ok (by assumption) (by assumption))) | refine S.n fun _ => ?_ | refine S.i fun hix => ?_ | (refine S.g fun hb => ?_; (try simp only [hb])) | (refine S.s (fun hb => ?_) (fun hb => ?_) <;> ((try simp only [hb]) <;> (try (have hp := hb; simp only [WKs] at hp; (try have hq := Int.not_le.2 hp); (try have hq := Int.not_lt.2 hp))))))
    | rintro _ _ ⟨rfl, rfl⟩
    | rintro _ _ ⟨_, _, _, (hnmA : progsD _ = _), rfl, rfl⟩
    | ((fail_if_success refine G.tr ?_); exact G.prop S.p)
    | fail) <;> (try simp only [WKb, ↓reduceIte, Nat.reduceEqDiff, hd]))))
    all_goals
      refine Tr.fin hK ⟨rfl, rfl⟩ ?_
      ((try clear hK) <;> (try simp only [WKe, *]) <;> repeat (first | with_reducible exact EntR.done | refine S.e ?_ | (refine S.f ?_ <;> (try simp only [WKe, ↓reduceIte, reduceCtorEq, Int.reduceEq, *])) | with_reducible apply EntR.ex | refine EntR.drop (F := F) ?_ | refine EntR.drop ?_))
end Go.Proofs.YtgkhjgpgdfbdpaaDoor
