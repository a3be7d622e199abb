import Derived.Test.YtgkhjgpgdfbdpaaDoorSyx
namespace Go.Proofs.YtgkhjgpgdfbdpaaDoor
open Go Go.Wk
set_option maxHeartbeats 6400000
set_option maxRecDepth 100000

attribute [local irreducible] BrK GenK EGenK EUnitK CallK FnK CallV GuardO GuardC CondW opX opK opKc chkR eqR seqK blkK endL WL WD W LoopW BinK Tr drewK resL PickK NotK NilK ExtrK getK Instr.storeAt Instr.loadAt Instr.fieldAt Instr.indexAt Instr.lookup Instr.mapUpdate Instr.box Instr.alloc Instr.build Instr.buildSlice Instr.makeSlice Instr.makeMap Instr.sliceAt Instr.field Instr.index Instr.makeInterface Instr.typeAssert Builtin.len_ Builtin.append_ Builtin.cap_ Builtin.min_ Builtin.max_ Builtin.copy_ Builtin.clear_ convert binOp mp blk rob sl sep ex fact old
attribute [local irreducible] NegK mxV bufT bldB nz stB stepsN
open Classical in
theorem back29_ok {ps fs : SV} {progs : List ProgS} {frames : List FrameC} {m : Int} (hps : ∀ p ∈ progs, ∀ q ∈ p.d, ∀ s ∈ q.d, s.ok) (hfs : ∀ f ∈ frames, f.ok) : Trip Tryd.prog 9 [.agg [ps.v, fs.v].toArray].toArray [mxB m, sl true ps.v progs, famProg true progs, sl true fs.v frames] fun u l' => u = .bool true ∧ l' = [famProg true progs] := by
  intro F K hK
  simp only [List.cons_append, List.nil_append]
  (refine Tr.enter (rs := [.tmp 2]) mixed fn9 rfl (by simp +arith [Tryd.ntmps9]) fun u => ?_; simp only [cd9, Tryd.f9])
  by_cases h : fewS progs frames
  · have hok := okT_of hps hfs
    have hlen := few_len h hok
    have hless := few_less h
    have hfl : frames.length ≤ 1000000 := by have := h.2.1; omega
    have hd : decide (fewS progs frames) = true := decide_eq_true h
    by_cases hb2 : (textL (linesL (progsD progs) frames)).length ≤ 65536
    · have hpr : printS (linesL (progsD progs) frames) = (textL (linesL (progsD progs) frames), 0) := if_neg (by omega)
      have hrd := readT_print hok hb2
      ((try simp only [WKb, ↓reduceIte, WKt]) <;> (repeat' ((first
    | (refine G.tr ?_; first | refine S.a ?_ | refine S.t ?_ | refine Tr.brK ?_ ?_ | (refine G.call 28 ?_; refine S.c ?_ (h := few_ok)) | (refine G.call 29 ?_; refine S.c ?_ (h := works29_ok)) | (refine G.call 30 ?_; first | refine S.c ?_ (h := sprintR_ok (by assumption) (by assumption)) | refine S.c ?_ (h := sprint_ok (by assumption) (by assumption))) | (refine G.call 36 ?_; refine S.c ?_ (h := sread_ok)) | (refine G.call 34 ?_; refine S.c ?_ (h := snormAllR_ok (by assumption) (by omega))) | (refine G.call 32 ?_; refine S.c ?_ (h := same29_ok (by assumption) (by assumption))) | (refine G.call 33 ?_; refine S.c ?_ (h := snormAll_ok (by first | assumption | exact norm_less (by assumption) (by assumption)) (by omega))) | (refine G.call 38 ?_; refine S.c ?_ (h := ssame_ok)) | refine S.n fun _ => ?_ | refine S.i fun hix => ?_ | (refine S.g fun hb => ?_; (try simp only [hb])) | (refine S.s (fun hb => ?_) (fun hb => ?_) <;> ((try simp only [hb]) <;> (try (have hp := hb; simp only [WKs] at hp; (try have hq := Int.not_le.2 hp); (try have hq := Int.not_lt.2 hp))))))
    | rintro _ _ ⟨rfl, rfl⟩
    | rintro _ _ ⟨_, _, (hnmB : progsD _ = _), rfl, rfl⟩
    | rintro _ _ ⟨_, _, _, (hrp : progsD _ = _), rfl, rfl⟩
    | rintro _ _ ⟨_, _, _, (hnmA : progsD _ = _), rfl, rfl⟩
    | ((fail_if_success refine G.tr ?_); exact G.prop S.p)
    | fail) <;> (try simp only [WKb, ↓reduceIte, Nat.reduceEqDiff, pl9, hd, hpr, hrd]))))
      all_goals first
        | exact hp ⟨Eq.trans (b := normD (progsD progs)) (by assumption) (Eq.symm (by assumption)), rfl⟩
        | exact absurd (show sameS _ _ _ _ from ⟨Eq.trans (b := normD (progsD progs)) (by assumption) (Eq.symm (by assumption)), rfl⟩) hp
        | (refine Tr.fin hK ⟨rfl, rfl⟩ ?_; ((try clear hK) <;> (try simp only [WKe, *]) <;> repeat (first | with_reducible exact EntR.done | refine S.e ?_ | (refine S.f ?_ <;> (try simp only [WKe, ↓reduceIte, reduceCtorEq, Int.reduceEq, *])) | with_reducible apply EntR.ex | refine EntR.drop (F := F) ?_ | refine EntR.drop ?_)))
    · have hpr : printS (linesL (progsD progs) frames) = ([], 3) := if_pos (by omega)
      ((try simp only [WKb, ↓reduceIte, WKt]) <;> (repeat' ((first
    | (refine G.tr ?_; first | refine S.a ?_ | refine S.t ?_ | refine Tr.brK ?_ ?_ | (refine G.call 28 ?_; refine S.c ?_ (h := few_ok)) | (refine G.call 29 ?_; refine S.c ?_ (h := works29_ok)) | (refine G.call 30 ?_; first | refine S.c ?_ (h := sprintR_ok (by assumption) (by assumption)) | refine S.c ?_ (h := sprint_ok (by assumption) (by assumption))) | (refine G.call 36 ?_; refine S.c ?_ (h := sread_ok)) | (refine G.call 34 ?_; refine S.c ?_ (h := snormAllR_ok (by assumption) (by omega))) | (refine G.call 32 ?_; refine S.c ?_ (h := same29_ok (by assumption) (by assumption))) | (refine G.call 33 ?_; refine S.c ?_ (h := snormAll_ok (by first | assumption | exact norm_less (by assumption) (by assumption)) (by omega))) | (refine G.call 38 ?_; refine S.c ?_ (h := ssame_ok)) | refine S.n fun _ => ?_ | refine S.i fun hix => ?_ | (refine S.g fun hb => ?_; (try simp only [hb])) | (refine S.s (fun hb => ?_) (fun hb => ?_) <;> ((try simp only [hb]) <;> (try (have hp := hb; simp only [WKs] at hp; (try have hq := Int.not_le.2 hp); (try have hq := Int.not_lt.2 hp))))))
    | rintro _ _ ⟨rfl, rfl⟩
    | rintro _ _ ⟨_, _, (hnmB : progsD _ = _), rfl, rfl⟩
    | rintro _ _ ⟨_, _, _, (hrp : progsD _ = _), rfl, rfl⟩
    | rintro _ _ ⟨_, _, _, (hnmA : progsD _ = _), rfl, rfl⟩
    | ((fail_if_success refine G.tr ?_); exact G.prop S.p)
    | fail) <;> (try simp only [WKb, WKh, ↓reduceIte, Nat.reduceEqDiff, Int.reduceEq, hd, hpr]))))
      all_goals
        refine Tr.fin hK ⟨rfl, rfl⟩ ?_
        ((try clear hK) <;> (try simp only [WKe, *]) <;> repeat (first | with_reducible exact EntR.done | refine S.e ?_ | (refine S.f ?_ <;> (try simp only [WKe, ↓reduceIte, reduceCtorEq, Int.reduceEq, *])) | with_reducible apply EntR.ex | refine EntR.drop (F := F) ?_ | refine EntR.drop ?_))
  · have hd : decide (fewS progs frames) = false := decide_eq_false h
    ((try simp only [WKb, ↓reduceIte, WKt]) <;> (repeat' ((first
    | (refine G.tr ?_; first | refine S.a ?_ | refine S.t ?_ | refine Tr.brK ?_ ?_ | (refine G.call 28 ?_; refine S.c ?_ (h := few_ok)) | (refine G.call 29 ?_; refine S.c ?_ (h := works29_ok)) | (refine G.call 30 ?_; first | refine S.c ?_ (h := sprintR_ok (by assumption) (by assumption)) | refine S.c ?_ (h := sprint_ok (by assumption) (by assumption))) | (refine G.call 36 ?_; refine S.c ?_ (h := sread_ok)) | (refine G.call 34 ?_; refine S.c ?_ (h := snormAllR_ok (by assumption) (by omega))) | (refine G.call 32 ?_; refine S.c ?_ (h := same29_ok (by assumption) (by assumption))) | (refine G.call 33 ?_; refine S.c ?_ (h := snormAll_ok (by first | assumption | exact norm_less (by assumption) (by assumption)) (by omega))) | (refine G.call 38 ?_; refine S.c ?_ (h := ssame_ok)) | refine S.n fun _ => ?_ | refine S.i fun hix => ?_ | (refine S.g fun hb => ?_; (try simp only [hb])) | (refine S.s (fun hb => ?_) (fun hb => ?_) <;> ((try simp only [hb]) <;> (try (have hp := hb; simp only [WKs] at hp; (try have hq := Int.not_le.2 hp); (try have hq := Int.not_lt.2 hp))))))
    | rintro _ _ ⟨rfl, rfl⟩
    | rintro _ _ ⟨_, _, (hnmB : progsD _ = _), rfl, rfl⟩
    | rintro _ _ ⟨_, _, _, (hrp : progsD _ = _), rfl, rfl⟩
    | rintro _ _ ⟨_, _, _, (hnmA : progsD _ = _), rfl, rfl⟩
    | ((fail_if_success refine G.tr ?_); exact G.prop S.p)
    | fail) <;> (try simp only [WKb, ↓reduceIte, Nat.reduceEqDiff, hd]))))
    all_goals
      refine Tr.fin hK ⟨rfl, rfl⟩ ?_
      ((try clear hK) <;> (try simp only [WKe, *]) <;> repeat (first | with_reducible exact EntR.done | refine S.e ?_ | (refine S.f ?_ <;> (try simp only [WKe, ↓reduceIte, reduceCtorEq, Int.reduceEq, *])) | with_reducible apply EntR.ex | refine EntR.drop (F := F) ?_ | refine EntR.drop ?_))
end Go.Proofs.YtgkhjgpgdfbdpaaDoor
