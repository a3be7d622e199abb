import Derived.Test.YtlhmbcmkpafjoaaKL
namespace Go.Proofs.Ytlhmbcmkpafjoaa
open Go Go.Wk
set_option maxHeartbeats 6400000
set_option maxRecDepth 100000
theorem S.kL {P : Program} {f : FuncId} {args : Array Value} {pre : List Asrt} {post : Value → List Asrt → Prop} {l F : List Asrt} {K : Value → WP} (hk : ∀ v l', post v l' → Tr (l' ++ F) (K v)) (hp : TakeL l pre F := by
    (repeat (first | with_reducible exact TakeL.nil | (apply TakeL.cons; focus ((first | exact TakeA.dupS | exact TakeA.dupF | ((repeat (first | with_reducible exact TakeA.here | exact TakeA.fam (by omega) (by omega) | with_reducible apply TakeA.next)); done) | ((repeat (first | exact TakeA.here | apply TakeA.next)); done) | exact TakeA.famNil | exact TakeA.nilS))) | fail)); done) (h : Trip P f args pre post) : Tr l (CallK P f args K) := Tr.callC hp h hk
attribute [local irreducible] BrK GenK EGenK EUnitK CallK FnK CallV GuardO GuardC CondW opX opK opKc chkR eqR seqK blkK endL WL WD W LoopW BinK Tr drewK resL PickK NotK NilK ExtrK getK Instr.storeAt Instr.loadAt Instr.fieldAt Instr.indexAt Instr.lookup Instr.mapUpdate Instr.box Instr.alloc Instr.build Instr.buildSlice Instr.makeSlice Instr.makeMap Instr.sliceAt Instr.field Instr.index Instr.makeInterface Instr.typeAssert Builtin.len_ Builtin.append_ Builtin.cap_ Builtin.min_ Builtin.max_ Builtin.copy_ Builtin.clear_ convert binOp mp blk rob sl sep ex fact old
theorem lins_ok {c : ConfC} {ps : List PartD} {chs : List ChanC} {mds : List ModeD} {ls : List LevelC} {ns : List NapC} {ds us : List Int} {part : Int} {s : SV} {l : List MsgC} : Trip Try.prog 9 [.agg (En.enc c).toArray, .int .i64 part, s.v].toArray [sl true c.parts.v ps, fzl ps, sl true c.chans.v chs, sl true c.modes.v mds, fzl mds, sl true c.levels.v ls, sl true c.naps.v ns, sl true c.down.v ds, sl true c.up.v us, sl true s.v l, fzl l] fun v l' => v = .bool true ∧ l' = [] := by
  intro F K hK
  simp only [List.cons_append, List.nil_append]
  obtain ⟨c1, c2, c3, c4, c5, c6, c7, c8, c9, c10, c11, c12, c13⟩ := c
  have hSh := short08_ok (c := ⟨c1, c2, c3, c4, c5, c6, c7, c8, c9, c10, c11, c12, c13⟩) (hd := ⟨rfl⟩) (ps := ps) (chs := chs) (ms := mds) (ls := ls) (ns := ns) (ds := ds) (us := us)
  (refine Tr.enter (rs := [.tmp 6]) mixed fn9 rfl (by simp +arith [Try.ntmps9]) fun u => ?_; simp only [cd9, Try.f9])
  by_cases hl : l.length ≤ 100
  · ((try simp only [WKb, ↓reduceIte, Nat.reduceEqDiff, Nat.reduceAdd]) <;> (repeat' ((first
    | (refine G.tr ?_; first | (refine G.call 23 ?_; refine S.kL ?_ (h := hSh); rintro _ _ ⟨_, hshort, rfl, rfl⟩) | refine S.a ?_ | refine Tr.brK ?_ ?_ | (refine G.call 23 ?_; refine S.c ?_ (h := short08_ok)) | (refine G.call 24 ?_; refine S.c ?_ (h := works19_ok)) | (refine G.call 35 ?_; refine S.c ?_ (h := ins_ok ?_ ?_)) | (refine G.call 36 ?_; refine S.c ?_ (h := rins_ok ?_)) | refine S.n fun _ => ?_ | refine S.i fun hix => ?_ | (refine S.g fun hb => ?_; (try simp only [hb])) | (refine S.s (fun hb => ?_) (fun hb => ?_) <;> ((try simp only [hb]) <;> (try (have hp := hb; simp only [WKs] at hp; (try have hq := Int.not_le.2 hp); (try have hq := Int.not_lt.2 hp))))))
    | rintro _ _ ⟨rfl, rfl⟩
    | rintro _ _ ⟨_, hshort, rfl, rfl⟩
    | rintro _ _ ⟨_, _, hins, rfl, rfl⟩
    | rintro _ _ ⟨_, _, hrins, rfl, rfl⟩
    | ((fail_if_success refine G.tr ?_); exact G.prop S.p)
    | fail) <;> (try simp only [WKb, ↓reduceIte, Nat.reduceEqDiff]))))
    all_goals first
      | (refine Tr.fin hK ⟨(by first | (simp [*]; done) | (simp only [WKe, ↓reduceIte, reduceCtorEq, Int.reduceEq, eq_self, *]; done) | (simp only [WKe, ↓reduceIte, reduceCtorEq, Int.reduceEq, *]; rfl)), rfl⟩ ?_; ((try clear hK) <;> (try simp only [WKe, *]) <;> repeat (first | with_reducible exact EntR.done | refine S.e ?_ | (refine S.f ?_ <;> (try simp only [WKe, ↓reduceIte, reduceCtorEq, Int.reduceEq, *])) | with_reducible apply EntR.ex | refine EntR.drop (F := F) ?_ | refine EntR.drop ?_)))
      | skip
    refine Tr.loopE (α := Nat) [6, 7] [1, 2, 3] (fun k => [.bool false, .int .i64 k]) (fun _ => []) (fun k => k ≤ l.length ∧ ∀ j : Nat, j < k → (ix l (j : Int)).d.d.length ≤ 300) (fun k => l.length - k) 0 (by (repeat (first | exact TakeL.nil | (apply TakeL.cons; focus ((first | exact TakeA.dupS | exact TakeA.dupF | ((repeat (first | with_reducible exact TakeA.here | exact TakeA.fam (by omega) (by omega) | with_reducible apply TakeA.next)); done) | ((repeat (first | exact TakeA.here | apply TakeA.next)); done) | exact TakeA.famNil | exact TakeA.nilS))) | fail)); done) rfl ⟨by omega, fun j h => by omega⟩ fun k u hk => ?_
    obtain ⟨hk, hall⟩ := hk
    have hw := wrapSucc (k := k) (by omega)
    by_cases hin : k < l.length
    · by_cases hb : (ix l (k : Int)).d.d.length ≤ 300
      · have hnx : ∀ j : Nat, j < k + 1 → (ix l (j : Int)).d.d.length ≤ 300 := fun j hj => by
          by_cases e : j = k
          · rw [e]; exact hb
          · exact hall j (by omega)
        ((try simp only [WKb, ↓reduceIte, Nat.reduceEqDiff]) <;> (repeat' ((first
    | (refine G.tr ?_; first | refine S.a ?_ | refine Tr.brK ?_ ?_ | (refine G.call 23 ?_; refine S.c ?_ (h := short08_ok)) | (refine G.call 24 ?_; refine S.c ?_ (h := works19_ok)) | (refine G.call 35 ?_; refine S.c ?_ (h := ins_ok ?_ ?_)) | (refine G.call 36 ?_; refine S.c ?_ (h := rins_ok ?_)) | refine S.n fun _ => ?_ | refine S.i fun hix => ?_ | (refine S.g fun hb => ?_; (try simp only [hb])) | (refine S.s (fun hb => ?_) (fun hb => ?_) <;> ((try simp only [hb]) <;> (try (have hp := hb; simp only [WKs] at hp; (try have hq := Int.not_le.2 hp); (try have hq := Int.not_lt.2 hp))))))
    | rintro _ _ ⟨rfl, rfl⟩
    | rintro _ _ ⟨_, hshort, rfl, rfl⟩
    | rintro _ _ ⟨_, _, hins, rfl, rfl⟩
    | rintro _ _ ⟨_, _, hrins, rfl, rfl⟩
    | ((fail_if_success refine G.tr ?_); exact G.prop S.p)
    | fail) <;> (try simp only [WKb, ↓reduceIte, Nat.reduceEqDiff, hw]))))
        all_goals (apply Tr.againE (k + 1); (focus (simp only [WKb, ↓reduceIte, Nat.reduceEqDiff])); (focus ((try simp only [WKb, ↓reduceIte, Nat.reduceEqDiff]); (all_goals ((repeat (refine cons_eq (by first | rfl | (simp [*]; done)) ?_)); rfl)); done)); (focus (first | omega | assumption | (simp only []; omega) | (refine ⟨by omega, by assumption⟩) | (simp only []; refine ⟨by omega, by assumption⟩) | ((try simp only []); (repeat' (first | omega | assumption | apply hnx | refine And.intro ?_ ?_)); done))); (focus (first | omega | (simp only []; omega))); (focus (((try clear hK) <;> (try simp only [WKe, *]) <;> repeat (first | with_reducible exact EntR.done | refine S.e ?_ | (refine S.f ?_ <;> (try simp only [WKe, ↓reduceIte, reduceCtorEq, Int.reduceEq, *])) | with_reducible apply EntR.ex | refine EntR.drop (F := F) ?_ | refine EntR.drop ?_)))))
      · ((try simp only [WKb, ↓reduceIte, Nat.reduceEqDiff]) <;> (repeat' ((first
    | (refine G.tr ?_; first | refine S.a ?_ | refine Tr.brK ?_ ?_ | (refine G.call 23 ?_; refine S.c ?_ (h := short08_ok)) | (refine G.call 24 ?_; refine S.c ?_ (h := works19_ok)) | (refine G.call 35 ?_; refine S.c ?_ (h := ins_ok ?_ ?_)) | (refine G.call 36 ?_; refine S.c ?_ (h := rins_ok ?_)) | refine S.n fun _ => ?_ | refine S.i fun hix => ?_ | (refine S.g fun hb => ?_; (try simp only [hb])) | (refine S.s (fun hb => ?_) (fun hb => ?_) <;> ((try simp only [hb]) <;> (try (have hp := hb; simp only [WKs] at hp; (try have hq := Int.not_le.2 hp); (try have hq := Int.not_lt.2 hp))))))
    | rintro _ _ ⟨rfl, rfl⟩
    | rintro _ _ ⟨_, hshort, rfl, rfl⟩
    | rintro _ _ ⟨_, _, hins, rfl, rfl⟩
    | rintro _ _ ⟨_, _, hrins, rfl, rfl⟩
    | ((fail_if_success refine G.tr ?_); exact G.prop S.p)
    | fail) <;> (try simp only [WKb, ↓reduceIte, Nat.reduceEqDiff]))))
        all_goals
          refine Tr.fin hK ⟨(by first | (simp [*]; done) | (simp only [WKe, ↓reduceIte, reduceCtorEq, Int.reduceEq, eq_self, *]; done) | (simp only [WKe, ↓reduceIte, reduceCtorEq, Int.reduceEq, *]; rfl)), rfl⟩ ?_
          ((try clear hK) <;> (try simp only [WKe, *]) <;> repeat (first | with_reducible exact EntR.done | refine S.e ?_ | (refine S.f ?_ <;> (try simp only [WKe, ↓reduceIte, reduceCtorEq, Int.reduceEq, *])) | with_reducible apply EntR.ex | refine EntR.drop (F := F) ?_ | refine EntR.drop ?_))
    · have hbb : ∀ k : Nat, k < l.length → (ix l (k : Int)).d.d.length ≤ 1000 := fun j hj => by have := hall j (by omega); omega
      ((try simp only [WKb, ↓reduceIte, Nat.reduceEqDiff]) <;> (repeat' ((first
    | (refine G.tr ?_; first | (refine G.call 35 ?_; refine S.kL ?_ (h := ins_ok (c := ⟨c1, c2, c3, c4, c5, c6, c7, c8, c9, c10, c11, c12, c13⟩) (hd := ⟨rfl⟩) (chs := chs) (ms := l) (by omega) hbb); rintro _ _ ⟨_, _, hins, rfl, rfl⟩) | (refine G.call 36 ?_; refine S.kL ?_ (h := rins_ok (c := ⟨c1, c2, c3, c4, c5, c6, c7, c8, c9, c10, c11, c12, c13⟩) (hd := ⟨rfl⟩) (chs := chs) (ms := l) (by omega)); rintro _ _ ⟨_, _, hrins, rfl, rfl⟩) | (refine G.call 34 ?_; first | refine S.kL ?_ (h := rsame19_ok (hins.trans hrins.symm)) | refine Tr.freezeAt (α := MsgC) (by (repeat (first | exact TakeA.here | apply TakeA.next)); done) ?_) | refine S.a ?_ | refine Tr.brK ?_ ?_ | (refine G.call 23 ?_; refine S.c ?_ (h := short08_ok)) | (refine G.call 24 ?_; refine S.c ?_ (h := works19_ok)) | (refine G.call 35 ?_; refine S.c ?_ (h := ins_ok ?_ ?_)) | (refine G.call 36 ?_; refine S.c ?_ (h := rins_ok ?_)) | refine S.n fun _ => ?_ | refine S.i fun hix => ?_ | (refine S.g fun hb => ?_; (try simp only [hb])) | (refine S.s (fun hb => ?_) (fun hb => ?_) <;> ((try simp only [hb]) <;> (try (have hp := hb; simp only [WKs] at hp; (try have hq := Int.not_le.2 hp); (try have hq := Int.not_lt.2 hp))))))
    | rintro _ _ ⟨rfl, rfl⟩
    | rintro _ _ ⟨_, hshort, rfl, rfl⟩
    | rintro _ _ ⟨_, _, hins, rfl, rfl⟩
    | rintro _ _ ⟨_, _, hrins, rfl, rfl⟩
    | ((fail_if_success refine G.tr ?_); exact G.prop S.p)
    | fail) <;> (try simp only [WKb, ↓reduceIte, Nat.reduceEqDiff, pl9]))))
      all_goals
        refine Tr.fin hK ⟨(by first | (simp [*]; done) | (simp only [WKe, ↓reduceIte, reduceCtorEq, Int.reduceEq, eq_self, *]; done) | (simp only [WKe, ↓reduceIte, reduceCtorEq, Int.reduceEq, *]; rfl)), rfl⟩ ?_
        ((try clear hK) <;> (try simp only [WKe, *]) <;> repeat (first | with_reducible exact EntR.done | refine S.e ?_ | (refine S.f ?_ <;> (try simp only [WKe, ↓reduceIte, reduceCtorEq, Int.reduceEq, *])) | with_reducible apply EntR.ex | refine EntR.drop (F := F) ?_ | refine EntR.drop ?_))
  · ((try simp only [WKb, ↓reduceIte, Nat.reduceEqDiff, Nat.reduceAdd]) <;> (repeat' ((first
    | (refine G.tr ?_; first | (refine G.call 23 ?_; refine S.kL ?_ (h := hSh); rintro _ _ ⟨_, hshort, rfl, rfl⟩) | refine S.a ?_ | refine Tr.brK ?_ ?_ | (refine G.call 23 ?_; refine S.c ?_ (h := short08_ok)) | (refine G.call 24 ?_; refine S.c ?_ (h := works19_ok)) | (refine G.call 35 ?_; refine S.c ?_ (h := ins_ok ?_ ?_)) | (refine G.call 36 ?_; refine S.c ?_ (h := rins_ok ?_)) | refine S.n fun _ => ?_ | refine S.i fun hix => ?_ | (refine S.g fun hb => ?_; (try simp only [hb])) | (refine S.s (fun hb => ?_) (fun hb => ?_) <;> ((try simp only [hb]) <;> (try (have hp := hb; simp only [WKs] at hp; (try have hq := Int.not_le.2 hp); (try have hq := Int.not_lt.2 hp))))))
    | rintro _ _ ⟨rfl, rfl⟩
    | rintro _ _ ⟨_, hshort, rfl, rfl⟩
    | rintro _ _ ⟨_, _, hins, rfl, rfl⟩
    | rintro _ _ ⟨_, _, hrins, rfl, rfl⟩
    | ((fail_if_success refine G.tr ?_); exact G.prop S.p)
    | fail) <;> (try simp only [WKb, ↓reduceIte, Nat.reduceEqDiff]))))
    all_goals
      refine Tr.fin hK ⟨(by first | (simp [*]; done) | (simp only [WKe, ↓reduceIte, reduceCtorEq, Int.reduceEq, eq_self, *]; done) | (simp only [WKe, ↓reduceIte, reduceCtorEq, Int.reduceEq, *]; rfl)), rfl⟩ ?_
      ((try clear hK) <;> (try simp only [WKe, *]) <;> repeat (first | with_reducible exact EntR.done | refine S.e ?_ | (refine S.f ?_ <;> (try simp only [WKe, ↓reduceIte, reduceCtorEq, Int.reduceEq, *])) | with_reducible apply EntR.ex | refine EntR.drop (F := F) ?_ | refine EntR.drop ?_))
end Go.Proofs.Ytlhmbcmkpafjoaa
