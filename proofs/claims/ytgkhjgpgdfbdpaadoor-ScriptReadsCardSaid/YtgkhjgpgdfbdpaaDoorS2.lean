import Derived.Test.YtgkhjgpgdfbdpaaDoorSyx
namespace Go.Proofs.YtgkhjgpgdfbdpaaDoor
open Go Go.Wk
set_option maxHeartbeats 6400000
set_option maxRecDepth 100000

attribute [local irreducible] BrK GenK EGenK EUnitK CallK FnK CallV GuardO GuardC CondW opX opK opKc chkR eqR seqK blkK endL WL WD W LoopW BinK Tr drewK resL PickK NotK NilK ExtrK getK Instr.storeAt Instr.loadAt Instr.fieldAt Instr.indexAt Instr.lookup Instr.mapUpdate Instr.box Instr.alloc Instr.build Instr.buildSlice Instr.makeSlice Instr.makeMap Instr.sliceAt Instr.field Instr.index Instr.makeInterface Instr.typeAssert Builtin.len_ Builtin.append_ Builtin.cap_ Builtin.min_ Builtin.max_ Builtin.copy_ Builtin.clear_ convert binOp mp blk rob sl sep ex fact old
attribute [local irreducible] NegK mxV bufT bldB nz stB stepsN

theorem reads29_ok {s : List UInt8} {m : Int} : Trip Tryd.prog 8 [.string (bstr s)].toArray [mxB m] fun u l' => u = .bool true ∧ l' = [] := by
  intro F K hK
  simp only [List.cons_append, List.nil_append]
  (refine Tr.enter (rs := [.tmp 2]) mixed fn8 rfl (by simp +arith [Tryd.ntmps8]) fun u => ?_; simp only [cd8, Tryd.f8])
  by_cases h : s.length ≤ 4000
  · have hfr := @frames_ok s
    rcases @readT_cases s with ⟨h1, h2, h3, h4, h5⟩ | ⟨h1, h2⟩
    · have hg : goodT s := ⟨h3, h4, h5⟩
      ((try simp only [WKb, ↓reduceIte, Nat.reduceEqDiff, WKt]) <;> (repeat' ((first
    | (refine G.tr ?_; first | refine S.a ?_ | refine S.t ?_ | refine Tr.brK ?_ ?_ | (refine G.call 29 ?_; refine S.c ?_ (h := works29_ok)) | (refine G.call 36 ?_; refine S.c ?_ (h := sread_ok)) | (refine G.call 37 ?_; refine S.c ?_ (h := sreadR_ok)) | (refine G.call 32 ?_; refine S.c ?_ (h := same29_ok (by assumption) (by assumption))) | (refine G.call 30 ?_; first | refine S.c ?_ (h := sprintR_ok (by assumption) (by assumption)) | refine S.c ?_ (h := sprint_ok (by assumption) (by assumption))) | refine S.n fun _ => ?_ | refine S.i fun hix => ?_ | (refine S.g fun hb => ?_; (try simp only [hb])) | (refine S.s (fun hb => ?_) (fun hb => ?_) <;> ((try simp only [hb]) <;> (try (have hp := hb; simp only [WKs] at hp; (try have hq := Int.not_le.2 hp); (try have hq := Int.not_lt.2 hp))))))
    | rintro _ _ ⟨rfl, rfl⟩
    | rintro _ _ ⟨_, _, _, (hrp : progsD _ = _), rfl, rfl⟩
    | rintro _ _ ⟨_, _, _, (hrq : progsD _ = _), rfl, rfl⟩
    | ((fail_if_success refine G.tr ?_); exact G.prop S.p)
    | fail) <;> (try simp only [WKb, WKh, ↓reduceIte, Nat.reduceEqDiff, h1, h2]))))
      all_goals first
        | exact absurd (show sameS _ _ _ _ from ⟨Eq.trans (b := (readT s).1.1) (by assumption) (Eq.symm (by assumption)), rfl⟩) hp
        | (refine Tr.fin hK ⟨rfl, rfl⟩ ?_; ((try clear hK) <;> (try simp only [WKe, *]) <;> repeat (first | with_reducible exact EntR.done | refine S.e ?_ | (refine S.f ?_ <;> (try simp only [WKe, ↓reduceIte, reduceCtorEq, Int.reduceEq, *])) | with_reducible apply EntR.ex | refine EntR.drop (F := F) ?_ | refine EntR.drop ?_)))
    · have hd : decide ((readT s).2.2 = 0) = false := decide_eq_false h1
      ((try simp only [WKb, ↓reduceIte, Nat.reduceEqDiff, WKt]) <;> (repeat' ((first
    | (refine G.tr ?_; first | refine S.a ?_ | refine S.t ?_ | refine Tr.brK ?_ ?_ | (refine G.call 29 ?_; refine S.c ?_ (h := works29_ok)) | (refine G.call 36 ?_; refine S.c ?_ (h := sread_ok)) | (refine G.call 37 ?_; refine S.c ?_ (h := sreadR_ok)) | (refine G.call 32 ?_; refine S.c ?_ (h := same29_ok (by assumption) (by assumption))) | (refine G.call 30 ?_; first | refine S.c ?_ (h := sprintR_ok (by assumption) (by assumption)) | refine S.c ?_ (h := sprint_ok (by assumption) (by assumption))) | refine S.n fun _ => ?_ | refine S.i fun hix => ?_ | (refine S.g fun hb => ?_; (try simp only [hb])) | (refine S.s (fun hb => ?_) (fun hb => ?_) <;> ((try simp only [hb]) <;> (try (have hp := hb; simp only [WKs] at hp; (try have hq := Int.not_le.2 hp); (try have hq := Int.not_lt.2 hp))))))
    | rintro _ _ ⟨rfl, rfl⟩
    | rintro _ _ ⟨_, _, _, (hrp : progsD _ = _), rfl, rfl⟩
    | rintro _ _ ⟨_, _, _, (hrq : progsD _ = _), rfl, rfl⟩
    | ((fail_if_success refine G.tr ?_); exact G.prop S.p)
    | fail) <;> (try simp only [WKb, ↓reduceIte, Nat.reduceEqDiff, hd]))))
      all_goals first
        | exact absurd (show sameS _ _ _ _ from ⟨Eq.trans (b := (readT s).1.1) (by assumption) (Eq.symm (by assumption)), rfl⟩) hp
        | (refine Tr.fin hK ⟨rfl, rfl⟩ ?_; ((try clear hK) <;> (try simp only [WKe, *]) <;> repeat (first | with_reducible exact EntR.done | refine S.e ?_ | (refine S.f ?_ <;> (try simp only [WKe, ↓reduceIte, reduceCtorEq, Int.reduceEq, *])) | with_reducible apply EntR.ex | refine EntR.drop (F := F) ?_ | refine EntR.drop ?_)))
  · have h' : (4000 : Int) < s.length := by omega
    ((try simp only [WKb, ↓reduceIte, Nat.reduceEqDiff, WKt]) <;> (repeat' ((first
    | (refine G.tr ?_; first | refine S.a ?_ | refine S.t ?_ | refine Tr.brK ?_ ?_ | (refine G.call 29 ?_; refine S.c ?_ (h := works29_ok)) | (refine G.call 36 ?_; refine S.c ?_ (h := sread_ok)) | (refine G.call 37 ?_; refine S.c ?_ (h := sreadR_ok)) | (refine G.call 32 ?_; refine S.c ?_ (h := same29_ok (by assumption) (by assumption))) | (refine G.call 30 ?_; first | refine S.c ?_ (h := sprintR_ok (by assumption) (by assumption)) | refine S.c ?_ (h := sprint_ok (by assumption) (by assumption))) | refine S.n fun _ => ?_ | refine S.i fun hix => ?_ | (refine S.g fun hb => ?_; (try simp only [hb])) | (refine S.s (fun hb => ?_) (fun hb => ?_) <;> ((try simp only [hb]) <;> (try (have hp := hb; simp only [WKs] at hp; (try have hq := Int.not_le.2 hp); (try have hq := Int.not_lt.2 hp))))))
    | rintro _ _ ⟨rfl, rfl⟩
    | rintro _ _ ⟨_, _, _, (hrp : progsD _ = _), rfl, rfl⟩
    | rintro _ _ ⟨_, _, _, (hrq : progsD _ = _), rfl, rfl⟩
    | ((fail_if_success refine G.tr ?_); exact G.prop S.p)
    | fail) <;> (try simp only [WKb, ↓reduceIte]))))
    all_goals
      refine Tr.fin hK ⟨rfl, rfl⟩ ?_
      ((try clear hK) <;> (try simp only [WKe, *]) <;> repeat (first | with_reducible exact EntR.done | refine S.e ?_ | (refine S.f ?_ <;> (try simp only [WKe, ↓reduceIte, reduceCtorEq, Int.reduceEq, *])) | with_reducible apply EntR.ex | refine EntR.drop (F := F) ?_ | refine EntR.drop ?_))
end Go.Proofs.YtgkhjgpgdfbdpaaDoor
