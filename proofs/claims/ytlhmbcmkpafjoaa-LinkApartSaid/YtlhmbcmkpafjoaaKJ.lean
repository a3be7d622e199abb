import Derived.Test.YtlhmbcmkpafjoaaTb2
import Derived.Test.YtlhmbcmkpafjoaaCG
namespace Go.Proofs.Ytlhmbcmkpafjoaa
open Go Go.Wk
set_option maxHeartbeats 6400000
set_option maxRecDepth 100000
attribute [local irreducible] BrK GenK EGenK EUnitK CallK FnK CallV GuardO GuardC CondW opX opK opKc chkR eqR seqK blkK endL WL WD W LoopW BinK Tr drewK resL PickK NotK NilK ExtrK getK Instr.storeAt Instr.loadAt Instr.fieldAt Instr.indexAt Instr.lookup Instr.mapUpdate Instr.box Instr.alloc Instr.build Instr.buildSlice Instr.makeSlice Instr.makeMap Instr.sliceAt Instr.field Instr.index Instr.makeInterface Instr.typeAssert Builtin.len_ Builtin.append_ Builtin.cap_ Builtin.min_ Builtin.max_ Builtin.copy_ Builtin.clear_ convert binOp mp blk rob sl sep ex fact old
theorem short08_ok {u0 : Value} {c : ConfC} [hd : DeA u0 c] {ps : List PartD} {chs : List ChanC} {ms : List ModeD} {ls : List LevelC} {ns : List NapC} {ds us : List Int} :
    Trip Try.prog 23 [u0].toArray [sl true c.parts.v ps, fzl ps, sl true c.chans.v chs, sl true c.modes.v ms, fzl ms, sl true c.levels.v ls, sl true c.naps.v ns, sl true c.down.v ds, sl true c.up.v us]
    fun v l' => ∃ b : Bool, (b = true → ps.length ≤ 100 ∧ chs.length ≤ 100) ∧ v = .bool b ∧ l' = [] := by
  obtain rfl := hd.h
  intro F K hK
  simp only [List.cons_append, List.nil_append]
  obtain ⟨c1, c2, c3, c4, c5, c6, c7, c8, c9, c10, c11, c12, c13⟩ := c
  (refine Tr.enter (rs := [.tmp 2]) mixed fn23 rfl (by simp +arith [Try.ntmps23]) fun u => ?_; simp only [cd23, Try.f23])
  by_cases h1 : ps.length ≤ 100
  · by_cases h2 : chs.length ≤ 100
    · by_cases h3 : ms.length ≤ 100
      · by_cases h4 : ls.length ≤ 100 ∧ ns.length ≤ 100 ∧ ds.length ≤ 100 ∧ us.length ≤ 100
        · obtain ⟨h4, h5, h6, h7⟩ := h4
          ((try simp only [WKb, ↓reduceIte]) <;> (repeat' ((first
    | (refine G.tr ?_; first | refine S.a ?_ | refine Tr.brK ?_ ?_ | refine S.n fun _ => ?_ | refine S.i fun hix => ?_ | (refine S.g fun hb => ?_; (try simp only [hb])) | (refine S.s (fun hb => ?_) (fun hb => ?_) <;> ((try simp only [hb]) <;> (try (have hp := hb; simp only [WKs] at hp; (try have hq := Int.not_le.2 hp); (try have hq := Int.not_lt.2 hp))))))
    | ((fail_if_success refine G.tr ?_); exact G.prop S.p)
    | fail) <;> (try simp only [WKb, ↓reduceIte, Nat.reduceEqDiff, Nat.reduceAdd]))))
          refine Tr.loopE (α := Nat) [2, 3] [1] (fun k => [.bool false, .int .i64 k]) (fun _ => []) (fun k => k ≤ ps.length) (fun k => ps.length - k) 0 (by (repeat (first | exact TakeL.nil | (apply TakeL.cons; focus ((first | exact TakeA.dupS | exact TakeA.dupF | ((repeat (first | with_reducible exact TakeA.here | exact TakeA.fam (by omega) (by omega) | with_reducible apply TakeA.next)); done) | ((repeat (first | exact TakeA.here | apply TakeA.next)); done) | exact TakeA.famNil | exact TakeA.nilS))) | fail)); done) rfl (by omega) fun k u hk => ?_
          have hw := wrapSucc (k := k) (by omega)
          by_cases hin : k < ps.length
          · ((try simp only [WKb, ↓reduceIte, Nat.reduceEqDiff]) <;> (repeat' ((first
    | (refine G.tr ?_; first | refine S.a ?_ | refine Tr.brK ?_ ?_ | refine S.n fun _ => ?_ | refine S.i fun hix => ?_ | (refine S.g fun hb => ?_; (try simp only [hb])) | (refine S.s (fun hb => ?_) (fun hb => ?_) <;> ((try simp only [hb]) <;> (try (have hp := hb; simp only [WKs] at hp; (try have hq := Int.not_le.2 hp); (try have hq := Int.not_lt.2 hp))))))
    | ((fail_if_success refine G.tr ?_); exact G.prop S.p)
    | fail) <;> (try simp only [WKb, ↓reduceIte, Nat.reduceEqDiff, hw]))))
            all_goals first
              | (apply Tr.againE (k + 1); (focus (simp only [WKb, ↓reduceIte, Nat.reduceEqDiff])); (focus ((try simp only [WKb, ↓reduceIte, Nat.reduceEqDiff]); (all_goals ((repeat (refine cons_eq (by first | rfl | (simp [*]; done)) ?_)); rfl)); done)); (focus (first | omega | assumption | (simp only []; omega) | (refine ⟨by omega, by assumption⟩) | (simp only []; refine ⟨by omega, by assumption⟩) | ((try simp only []); (repeat' (first | omega | assumption | refine And.intro ?_ ?_)); done))); (focus (first | omega | (simp only []; omega))); (focus (((try clear hK) <;> (try simp only [WKe, *]) <;> repeat (first | with_reducible exact EntR.done | refine S.e ?_ | (refine S.f ?_ <;> (try simp only [WKe, ↓reduceIte, reduceCtorEq, Int.reduceEq, *])) | with_reducible apply EntR.ex | refine EntR.drop (F := F) ?_ | refine EntR.drop ?_)))))
              | (apply Tr.fin hK ⟨false, (fun h => by cases h), rfl, rfl⟩; ((try clear hK) <;> (try simp only [WKe, *]) <;> repeat (first | with_reducible exact EntR.done | refine S.e ?_ | (refine S.f ?_ <;> (try simp only [WKe, ↓reduceIte, reduceCtorEq, Int.reduceEq, *])) | with_reducible apply EntR.ex | refine EntR.drop (F := F) ?_ | refine EntR.drop ?_)))
          · ((try simp only [WKb, ↓reduceIte, Nat.reduceEqDiff]) <;> (repeat' ((first
    | (refine G.tr ?_; first | refine S.a ?_ | refine Tr.brK ?_ ?_ | refine S.n fun _ => ?_ | refine S.i fun hix => ?_ | (refine S.g fun hb => ?_; (try simp only [hb])) | (refine S.s (fun hb => ?_) (fun hb => ?_) <;> ((try simp only [hb]) <;> (try (have hp := hb; simp only [WKs] at hp; (try have hq := Int.not_le.2 hp); (try have hq := Int.not_lt.2 hp))))))
    | ((fail_if_success refine G.tr ?_); exact G.prop S.p)
    | fail) <;> (try simp only [WKb, ↓reduceIte, Nat.reduceEqDiff]))))
            refine Tr.loopE (α := Nat) [2, 5] [1] (fun k => [.bool false, .int .i64 k]) (fun _ => []) (fun k => k ≤ ms.length) (fun k => ms.length - k) 0 (by (repeat (first | exact TakeL.nil | (apply TakeL.cons; focus ((first | exact TakeA.dupS | exact TakeA.dupF | ((repeat (first | with_reducible exact TakeA.here | exact TakeA.fam (by omega) (by omega) | with_reducible apply TakeA.next)); done) | ((repeat (first | exact TakeA.here | apply TakeA.next)); done) | exact TakeA.famNil | exact TakeA.nilS))) | fail)); done) rfl (by omega) fun j u hj => ?_
            have hw2 := wrapSucc (k := j) (by omega)
            by_cases hin2 : j < ms.length
            · ((try simp only [WKb, ↓reduceIte, Nat.reduceEqDiff]) <;> (repeat' ((first
    | (refine G.tr ?_; first | refine S.a ?_ | refine Tr.brK ?_ ?_ | refine S.n fun _ => ?_ | refine S.i fun hix => ?_ | (refine S.g fun hb => ?_; (try simp only [hb])) | (refine S.s (fun hb => ?_) (fun hb => ?_) <;> ((try simp only [hb]) <;> (try (have hp := hb; simp only [WKs] at hp; (try have hq := Int.not_le.2 hp); (try have hq := Int.not_lt.2 hp))))))
    | ((fail_if_success refine G.tr ?_); exact G.prop S.p)
    | fail) <;> (try simp only [WKb, ↓reduceIte, Nat.reduceEqDiff, hw2]))))
              all_goals first
                | (apply Tr.againE (j + 1); (focus (simp only [WKb, ↓reduceIte, Nat.reduceEqDiff])); (focus ((try simp only [WKb, ↓reduceIte, Nat.reduceEqDiff]); (all_goals ((repeat (refine cons_eq (by first | rfl | (simp [*]; done)) ?_)); rfl)); done)); (focus (first | omega | assumption | (simp only []; omega) | (refine ⟨by omega, by assumption⟩) | (simp only []; refine ⟨by omega, by assumption⟩) | ((try simp only []); (repeat' (first | omega | assumption | refine And.intro ?_ ?_)); done))); (focus (first | omega | (simp only []; omega))); (focus (((try clear hK) <;> (try simp only [WKe, *]) <;> repeat (first | with_reducible exact EntR.done | refine S.e ?_ | (refine S.f ?_ <;> (try simp only [WKe, ↓reduceIte, reduceCtorEq, Int.reduceEq, *])) | with_reducible apply EntR.ex | refine EntR.drop (F := F) ?_ | refine EntR.drop ?_)))))
                | (apply Tr.fin hK ⟨false, (fun h => by cases h), rfl, rfl⟩; ((try clear hK) <;> (try simp only [WKe, *]) <;> repeat (first | with_reducible exact EntR.done | refine S.e ?_ | (refine S.f ?_ <;> (try simp only [WKe, ↓reduceIte, reduceCtorEq, Int.reduceEq, *])) | with_reducible apply EntR.ex | refine EntR.drop (F := F) ?_ | refine EntR.drop ?_)))
            · ((try simp only [WKb, ↓reduceIte, Nat.reduceEqDiff]) <;> (repeat' ((first
    | (refine G.tr ?_; first | refine S.a ?_ | refine Tr.brK ?_ ?_ | refine S.n fun _ => ?_ | refine S.i fun hix => ?_ | (refine S.g fun hb => ?_; (try simp only [hb])) | (refine S.s (fun hb => ?_) (fun hb => ?_) <;> ((try simp only [hb]) <;> (try (have hp := hb; simp only [WKs] at hp; (try have hq := Int.not_le.2 hp); (try have hq := Int.not_lt.2 hp))))))
    | ((fail_if_success refine G.tr ?_); exact G.prop S.p)
    | fail) <;> (try simp only [WKb, ↓reduceIte, Nat.reduceEqDiff]))))
              all_goals
                apply Tr.fin hK ⟨true, (fun _ => ⟨h1, h2⟩), rfl, rfl⟩
                ((try clear hK) <;> (try simp only [WKe, *]) <;> repeat (first | with_reducible exact EntR.done | refine S.e ?_ | (refine S.f ?_ <;> (try simp only [WKe, ↓reduceIte, reduceCtorEq, Int.reduceEq, *])) | with_reducible apply EntR.ex | refine EntR.drop (F := F) ?_ | refine EntR.drop ?_))
        · ((try simp only [WKb, ↓reduceIte]) <;> (repeat' ((first
    | (refine G.tr ?_; first | refine S.a ?_ | refine Tr.brK ?_ ?_ | refine S.n fun _ => ?_ | refine S.i fun hix => ?_ | (refine S.g fun hb => ?_; (try simp only [hb])) | (refine S.s (fun hb => ?_) (fun hb => ?_) <;> ((try simp only [hb]) <;> (try (have hp := hb; simp only [WKs] at hp; (try have hq := Int.not_le.2 hp); (try have hq := Int.not_lt.2 hp))))))
    | ((fail_if_success refine G.tr ?_); exact G.prop S.p)
    | fail) <;> (try simp only [WKb, ↓reduceIte, Nat.reduceEqDiff, Nat.reduceAdd]))))
          all_goals first
            | (apply Tr.fin hK ⟨false, (fun h => by cases h), rfl, rfl⟩; ((try clear hK) <;> (try simp only [WKe, *]) <;> repeat (first | with_reducible exact EntR.done | refine S.e ?_ | (refine S.f ?_ <;> (try simp only [WKe, ↓reduceIte, reduceCtorEq, Int.reduceEq, *])) | with_reducible apply EntR.ex | refine EntR.drop (F := F) ?_ | refine EntR.drop ?_)))
            | (exfalso; omega)
      · ((try simp only [WKb, ↓reduceIte]) <;> (repeat' ((first
    | (refine G.tr ?_; first | refine S.a ?_ | refine Tr.brK ?_ ?_ | refine S.n fun _ => ?_ | refine S.i fun hix => ?_ | (refine S.g fun hb => ?_; (try simp only [hb])) | (refine S.s (fun hb => ?_) (fun hb => ?_) <;> ((try simp only [hb]) <;> (try (have hp := hb; simp only [WKs] at hp; (try have hq := Int.not_le.2 hp); (try have hq := Int.not_lt.2 hp))))))
    | ((fail_if_success refine G.tr ?_); exact G.prop S.p)
    | fail) <;> (try simp only [WKb, ↓reduceIte, Nat.reduceEqDiff]))))
        all_goals
          apply Tr.fin hK ⟨false, (fun h => by cases h), rfl, rfl⟩
          ((try clear hK) <;> (try simp only [WKe, *]) <;> repeat (first | with_reducible exact EntR.done | refine S.e ?_ | (refine S.f ?_ <;> (try simp only [WKe, ↓reduceIte, reduceCtorEq, Int.reduceEq, *])) | with_reducible apply EntR.ex | refine EntR.drop (F := F) ?_ | refine EntR.drop ?_))
    · ((try simp only [WKb, ↓reduceIte]) <;> (repeat' ((first
    | (refine G.tr ?_; first | refine S.a ?_ | refine Tr.brK ?_ ?_ | refine S.n fun _ => ?_ | refine S.i fun hix => ?_ | (refine S.g fun hb => ?_; (try simp only [hb])) | (refine S.s (fun hb => ?_) (fun hb => ?_) <;> ((try simp only [hb]) <;> (try (have hp := hb; simp only [WKs] at hp; (try have hq := Int.not_le.2 hp); (try have hq := Int.not_lt.2 hp))))))
    | ((fail_if_success refine G.tr ?_); exact G.prop S.p)
    | fail) <;> (try simp only [WKb, ↓reduceIte, Nat.reduceEqDiff]))))
      all_goals
        apply Tr.fin hK ⟨false, (fun h => by cases h), rfl, rfl⟩
        ((try clear hK) <;> (try simp only [WKe, *]) <;> repeat (first | with_reducible exact EntR.done | refine S.e ?_ | (refine S.f ?_ <;> (try simp only [WKe, ↓reduceIte, reduceCtorEq, Int.reduceEq, *])) | with_reducible apply EntR.ex | refine EntR.drop (F := F) ?_ | refine EntR.drop ?_))
  · ((try simp only [WKb, ↓reduceIte]) <;> (repeat' ((first
    | (refine G.tr ?_; first | refine S.a ?_ | refine Tr.brK ?_ ?_ | refine S.n fun _ => ?_ | refine S.i fun hix => ?_ | (refine S.g fun hb => ?_; (try simp only [hb])) | (refine S.s (fun hb => ?_) (fun hb => ?_) <;> ((try simp only [hb]) <;> (try (have hp := hb; simp only [WKs] at hp; (try have hq := Int.not_le.2 hp); (try have hq := Int.not_lt.2 hp))))))
    | ((fail_if_success refine G.tr ?_); exact G.prop S.p)
    | fail) <;> (try simp only [WKb, ↓reduceIte, Nat.reduceEqDiff]))))
    all_goals
      apply Tr.fin hK ⟨false, (fun h => by cases h), rfl, rfl⟩
      ((try clear hK) <;> (try simp only [WKe, *]) <;> repeat (first | with_reducible exact EntR.done | refine S.e ?_ | (refine S.f ?_ <;> (try simp only [WKe, ↓reduceIte, reduceCtorEq, Int.reduceEq, *])) | with_reducible apply EntR.ex | refine EntR.drop (F := F) ?_ | refine EntR.drop ?_))

theorem sameI_ok {s t : SV} {xs : List Int} : Trip Try.prog 29 [s.v, t.v].toArray [sl true s.v xs, sl true t.v xs] fun v l' => v = .bool true ∧ l' = [] := by
  intro F K hK
  simp only [List.cons_append, List.nil_append]
  refine Tr.bound (xs := xs) Has.here fun hbx => ?_
  (refine Tr.enter (rs := [.tmp 4]) mixed fn29 rfl (by simp +arith [Try.ntmps29]) fun u => ?_; simp only [cd29, Try.f29])
  ((try simp only [WKb, ↓reduceIte, Nat.reduceEqDiff, Nat.reduceAdd]) <;> (repeat' ((first
    | (refine G.tr ?_; first | refine S.a ?_ | refine Tr.brK ?_ ?_ | refine S.n fun _ => ?_ | refine S.i fun hix => ?_ | (refine S.g fun hb => ?_; (try simp only [hb])) | (refine S.s (fun hb => ?_) (fun hb => ?_) <;> ((try simp only [hb]) <;> (try (have hp := hb; simp only [WKs] at hp; (try have hq := Int.not_le.2 hp); (try have hq := Int.not_lt.2 hp))))))
    | ((fail_if_success refine G.tr ?_); exact G.prop S.p)
    | fail) <;> (try simp only [WKb, ↓reduceIte, Nat.reduceEqDiff]))))
  refine Tr.loopE (α := Nat) [4, 5] [0, 1] (fun k => [.bool false, .int .i64 k]) (fun _ => []) (fun k => k ≤ xs.length) (fun k => xs.length - k) 0 (by (repeat (first | exact TakeL.nil | (apply TakeL.cons; focus ((first | exact TakeA.dupS | exact TakeA.dupF | ((repeat (first | with_reducible exact TakeA.here | exact TakeA.fam (by omega) (by omega) | with_reducible apply TakeA.next)); done) | ((repeat (first | exact TakeA.here | apply TakeA.next)); done) | exact TakeA.famNil | exact TakeA.nilS))) | fail)); done) rfl (by omega) fun k u hk => ?_
  by_cases hin : k < xs.length
  · have hw := wrapSucc (k := k) (by omega)
    ((try simp only [WKb, ↓reduceIte, Nat.reduceEqDiff]) <;> (repeat' ((first
    | (refine G.tr ?_; first | refine S.a ?_ | refine Tr.brK ?_ ?_ | refine S.n fun _ => ?_ | refine S.i fun hix => ?_ | (refine S.g fun hb => ?_; (try simp only [hb])) | (refine S.s (fun hb => ?_) (fun hb => ?_) <;> ((try simp only [hb]) <;> (try (have hp := hb; simp only [WKs] at hp; (try have hq := Int.not_le.2 hp); (try have hq := Int.not_lt.2 hp))))))
    | ((fail_if_success refine G.tr ?_); exact G.prop S.p)
    | fail) <;> (try simp only [WKb, ↓reduceIte, Nat.reduceEqDiff, pl29, hw]))))
    all_goals (apply Tr.againE (k + 1); (focus (simp only [WKb, ↓reduceIte, Nat.reduceEqDiff])); (focus ((try simp only [WKb, ↓reduceIte, Nat.reduceEqDiff]); (all_goals ((repeat (refine cons_eq (by first | rfl | (simp [*]; done)) ?_)); rfl)); done)); (focus (first | omega | assumption | (simp only []; omega) | (refine ⟨by omega, by assumption⟩) | (simp only []; refine ⟨by omega, by assumption⟩) | ((try simp only []); (repeat' (first | omega | assumption | refine And.intro ?_ ?_)); done))); (focus (first | omega | (simp only []; omega))); (focus (((try clear hK) <;> (try simp only [WKe, *]) <;> repeat (first | with_reducible exact EntR.done | refine S.e ?_ | (refine S.f ?_ <;> (try simp only [WKe, ↓reduceIte, reduceCtorEq, Int.reduceEq, *])) | with_reducible apply EntR.ex | refine EntR.drop (F := F) ?_ | refine EntR.drop ?_)))))
  · ((try simp only [WKb, ↓reduceIte, Nat.reduceEqDiff]) <;> (repeat' ((first
    | (refine G.tr ?_; first | refine S.a ?_ | refine Tr.brK ?_ ?_ | refine S.n fun _ => ?_ | refine S.i fun hix => ?_ | (refine S.g fun hb => ?_; (try simp only [hb])) | (refine S.s (fun hb => ?_) (fun hb => ?_) <;> ((try simp only [hb]) <;> (try (have hp := hb; simp only [WKs] at hp; (try have hq := Int.not_le.2 hp); (try have hq := Int.not_lt.2 hp))))))
    | ((fail_if_success refine G.tr ?_); exact G.prop S.p)
    | fail) <;> (try simp only [WKb, ↓reduceIte, Nat.reduceEqDiff]))))
    all_goals
      refine Tr.fin hK ⟨rfl, rfl⟩ ?_
      ((try clear hK) <;> (try simp only [WKe, *]) <;> repeat (first | with_reducible exact EntR.done | refine S.e ?_ | (refine S.f ?_ <;> (try simp only [WKe, ↓reduceIte, reduceCtorEq, Int.reduceEq, *])) | with_reducible apply EntR.ex | refine EntR.drop (F := F) ?_ | refine EntR.drop ?_))
end Go.Proofs.Ytlhmbcmkpafjoaa
