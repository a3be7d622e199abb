import Derived.Test.YtlhmbcmkpafjoaaRH
namespace Go.Proofs.Ytlhmbcmkpafjoaa
open Go Go.Wk
set_option maxHeartbeats 6400000
set_option maxRecDepth 100000

attribute [local irreducible] BrK GenK EGenK EUnitK CallK FnK CallV GuardO GuardC CondW opX opK opKc chkR eqR seqK blkK endL WL WD W LoopW BinK Tr drewK resL PickK NotK NilK ExtrK getK Instr.storeAt Instr.loadAt Instr.fieldAt Instr.indexAt Instr.lookup Instr.mapUpdate Instr.box Instr.alloc Instr.build Instr.buildSlice Instr.makeSlice Instr.makeMap Instr.sliceAt Instr.field Instr.index Instr.makeInterface Instr.typeAssert Builtin.len_ Builtin.append_ Builtin.cap_ Builtin.min_ Builtin.max_ Builtin.copy_ Builtin.clear_ convert binOp mp blk rob sl sep ex fact old
attribute [local irreducible] chn CW chI
instance : ElT 37 Pt := ⟨⟩
instance : ElT 38 Pt := ⟨⟩
theorem ix_two (a b : Nat) : ix [Pt.mk (some a), Pt.mk (some b)] 0 = Pt.mk (some a) ∧ ix [Pt.mk (some a), Pt.mk (some b)] 1 = Pt.mk (some b) := ⟨rfl, rfl⟩
theorem plays04_ok {a b : Int} {s : SV} {l : List Act04} (ha : -128 ≤ a ∧ a ≤ 127) (hb : -128 ≤ b ∧ b ≤ 127) : Trip Try.prog 5 [.int .i8 a, .int .i8 b, s.v].toArray [sl true s.v l] fun v l' => v = .bool true ∧ l' = [] := by
  intro F K hK
  simp only [List.cons_append, List.nil_append]
  have hwa : IntKind.i64.wrap a = a := wrapId (by omega) (by omega)
  have hwb : IntKind.i64.wrap b = b := wrapId (by omega) (by omega)
  have hra := ringN_le a
  have hrb := ringN_le b
  (refine Tr.enter (rs := [.tmp 6]) mixed fn5 rfl (by simp +arith [Try.ntmps5]) fun u => ?_; simp only [cd5, Try.f5])
  ((try simp only [WKb, Nat.reduceAdd]) <;> (repeat' ((first
    | (refine G.tr ?_; first | refine S.a ?_ | refine Tr.brK ?_ ?_ | (refine G.call 15 ?_; refine S.c ?_ (h := works04_ok)) | (refine G.call 11 ?_; refine S.c ?_ (h := rnewI_ok)) | (refine G.call 17 ?_; refine S.c ?_ (h := fnew_ok)) | (refine G.call 18 ?_; refine S.c ?_ (h := done04_ok ?_ ?_ ?_ ?_)) | (refine G.call 19 ?_; refine S.c ?_ (h := like04_ok ?_ ?_)) | refine S.n fun _ => ?_ | refine S.i fun hix => ?_ | (refine S.g fun hb => ?_; (try simp only [hb])) | (refine S.s (fun hb => ?_) (fun hb => ?_) <;> ((try simp only [hb]) <;> (try (have hp := hb; simp only [WKs] at hp; (try have hq := Int.not_le.2 hp); (try have hq := Int.not_lt.2 hp))))))
    | rintro _ _ ⟨rfl, rfl⟩
    | rintro _ _ ⟨_, _, rfl, rfl⟩
    | rintro _ _ ⟨_, _, _, _, hx2, hy2, rfl, rfl⟩
    | ((fail_if_success refine G.tr ?_); exact G.prop S.p)
    | fail) <;> (try simp only [WKb, WKh, ↓reduceIte, Nat.reduceEqDiff, hwa, hwb]))))
  rename_i r0 c0 r1 c1 p u0 s0 u1 s1 q
  generalize ringN a = ca at hra ⊢
  generalize ringN b = cb at hrb ⊢
  refine Tr.loopE (α := Nat × SV × SV × List Int × List Int) [6, 9] [2, 7, 8] (fun x => [.bool false, .int .i64 x.1]) (fun x => [chI c0 ca x.2.2.2.1, chI c1 cb x.2.2.2.2, rfB u0 x.2.1 ca, sl false x.2.1.v x.2.2.2.1, rfB u1 x.2.2.1 cb, sl false x.2.2.1.v x.2.2.2.2])
    (fun x => x.1 ≤ 60 ∧ x.2.2.2.1.length ≤ ca ∧ x.2.2.2.2.length ≤ cb) (fun x => 60 - x.1) (0, s0, s1, [], []) (by (repeat (first | exact TakeL.nil | (apply TakeL.cons; focus ((first | exact TakeA.dupS | exact TakeA.dupF | ((repeat (first | with_reducible exact TakeA.here | exact TakeA.fam (by omega) (by omega) | with_reducible apply TakeA.next)); done) | ((repeat (first | exact TakeA.here | apply TakeA.next)); done) | exact TakeA.famNil | exact TakeA.nilS))) | fail)); done) rfl (by simp) fun x u hx => ?_
  obtain ⟨k, t0, t1, xs, ys⟩ := x
  simp only at hx ⊢
  obtain ⟨hk, hx0, hy0⟩ := hx
  have hw := wrapSucc (k := k) (by omega)
  have hi0 := (ix_two r0 r1).1
  have hi1 := (ix_two r0 r1).2
  have hj0 := (ix_two u0 u1).1
  have hj1 := (ix_two u0 u1).2
  have hws : IntKind.i64.wrap (1 - 0) = 1 := rfl
  have hws1 : IntKind.i64.wrap (1 - 1) = 0 := rfl
  by_cases hin : (k : Int) < l.length ∧ (k : Int) < 60
  · obtain ⟨hi1, hi2⟩ := hin
    by_cases hon : (ix l (k : Int)).on = 1
    · ((try simp only [WKb, ↓reduceIte, Nat.reduceEqDiff]) <;> (repeat' ((first
    | (refine G.tr ?_; first | refine S.a ?_ | refine Tr.brK ?_ ?_ | (refine G.call 15 ?_; refine S.c ?_ (h := works04_ok)) | (refine G.call 11 ?_; refine S.c ?_ (h := rnewI_ok)) | (refine G.call 17 ?_; refine S.c ?_ (h := fnew_ok)) | (refine G.call 18 ?_; refine S.c ?_ (h := done04_ok ?_ ?_ ?_ ?_)) | (refine G.call 19 ?_; refine S.c ?_ (h := like04_ok ?_ ?_)) | refine S.n fun _ => ?_ | refine S.i fun hix => ?_ | (refine S.g fun hb => ?_; (try simp only [hb])) | (refine S.s (fun hb => ?_) (fun hb => ?_) <;> ((try simp only [hb]) <;> (try (have hp := hb; simp only [WKs] at hp; (try have hq := Int.not_le.2 hp); (try have hq := Int.not_lt.2 hp))))))
    | rintro _ _ ⟨rfl, rfl⟩
    | rintro _ _ ⟨_, _, rfl, rfl⟩
    | rintro _ _ ⟨_, _, _, _, hx2, hy2, rfl, rfl⟩
    | ((fail_if_success refine G.tr ?_); exact G.prop S.p)
    | fail) <;> (try simp only [WKb, WKh, ↓reduceIte, Nat.reduceEqDiff, pl5, hw, hi0, hi1, hj0, hj1, hon, hws1]))))
      all_goals (apply Tr.againE ((k + 1, _, _, _, _)); (focus (simp only [WKb, ↓reduceIte, Nat.reduceEqDiff])); (focus ((try simp only [WKb, ↓reduceIte, Nat.reduceEqDiff]); (all_goals ((repeat (refine cons_eq (by first | rfl | (simp [*]; done)) ?_)); rfl)); done)); (focus (first | omega | assumption | (simp only []; omega) | (refine ⟨by omega, by assumption⟩) | (simp only []; refine ⟨by omega, by assumption⟩) | ((try simp only []); (repeat' (first | omega | assumption | refine And.intro ?_ ?_)); done))); (focus (first | omega | (simp only []; omega))); (focus (((try clear hK) <;> (try simp only [WKe, *]) <;> repeat (first | with_reducible exact EntR.done | refine S.e ?_ | (refine S.f ?_ <;> (try simp only [WKe, ↓reduceIte, reduceCtorEq, Int.reduceEq, *])) | with_reducible apply EntR.ex | refine EntR.drop (F := F) ?_ | refine EntR.drop ?_)))))
    · ((try simp only [WKb, ↓reduceIte, Nat.reduceEqDiff]) <;> (repeat' ((first
    | (refine G.tr ?_; first | refine S.a ?_ | refine Tr.brK ?_ ?_ | (refine G.call 15 ?_; refine S.c ?_ (h := works04_ok)) | (refine G.call 11 ?_; refine S.c ?_ (h := rnewI_ok)) | (refine G.call 17 ?_; refine S.c ?_ (h := fnew_ok)) | (refine G.call 18 ?_; refine S.c ?_ (h := done04_ok ?_ ?_ ?_ ?_)) | (refine G.call 19 ?_; refine S.c ?_ (h := like04_ok ?_ ?_)) | refine S.n fun _ => ?_ | refine S.i fun hix => ?_ | (refine S.g fun hb => ?_; (try simp only [hb])) | (refine S.s (fun hb => ?_) (fun hb => ?_) <;> ((try simp only [hb]) <;> (try (have hp := hb; simp only [WKs] at hp; (try have hq := Int.not_le.2 hp); (try have hq := Int.not_lt.2 hp))))))
    | rintro _ _ ⟨rfl, rfl⟩
    | rintro _ _ ⟨_, _, rfl, rfl⟩
    | rintro _ _ ⟨_, _, _, _, hx2, hy2, rfl, rfl⟩
    | ((fail_if_success refine G.tr ?_); exact G.prop S.p)
    | fail) <;> (try simp only [WKb, WKh, ↓reduceIte, Nat.reduceEqDiff, pl5, hw, hi0, hi1, hj0, hj1, hws]))))
      all_goals (apply Tr.againE ((k + 1, _, _, _, _)); (focus (simp only [WKb, ↓reduceIte, Nat.reduceEqDiff])); (focus ((try simp only [WKb, ↓reduceIte, Nat.reduceEqDiff]); (all_goals ((repeat (refine cons_eq (by first | rfl | (simp [*]; done)) ?_)); rfl)); done)); (focus (first | omega | assumption | (simp only []; omega) | (refine ⟨by omega, by assumption⟩) | (simp only []; refine ⟨by omega, by assumption⟩) | ((try simp only []); (repeat' (first | omega | assumption | refine And.intro ?_ ?_)); done))); (focus (first | omega | (simp only []; omega))); (focus (((try clear hK) <;> (try simp only [WKe, *]) <;> repeat (first | with_reducible exact EntR.done | refine S.e ?_ | (refine S.f ?_ <;> (try simp only [WKe, ↓reduceIte, reduceCtorEq, Int.reduceEq, *])) | with_reducible apply EntR.ex | refine EntR.drop (F := F) ?_ | refine EntR.drop ?_)))))
  · ((try simp only [WKb, ↓reduceIte, Nat.reduceEqDiff]) <;> (repeat' ((first
    | (refine G.tr ?_; first | refine S.a ?_ | refine Tr.brK ?_ ?_ | (refine G.call 15 ?_; refine S.c ?_ (h := works04_ok)) | (refine G.call 11 ?_; refine S.c ?_ (h := rnewI_ok)) | (refine G.call 17 ?_; refine S.c ?_ (h := fnew_ok)) | (refine G.call 18 ?_; refine S.c ?_ (h := done04_ok ?_ ?_ ?_ ?_)) | (refine G.call 19 ?_; refine S.c ?_ (h := like04_ok ?_ ?_)) | refine S.n fun _ => ?_ | refine S.i fun hix => ?_ | (refine S.g fun hb => ?_; (try simp only [hb])) | (refine S.s (fun hb => ?_) (fun hb => ?_) <;> ((try simp only [hb]) <;> (try (have hp := hb; simp only [WKs] at hp; (try have hq := Int.not_le.2 hp); (try have hq := Int.not_lt.2 hp))))))
    | rintro _ _ ⟨rfl, rfl⟩
    | rintro _ _ ⟨_, _, rfl, rfl⟩
    | rintro _ _ ⟨_, _, _, _, hx2, hy2, rfl, rfl⟩
    | ((fail_if_success refine G.tr ?_); exact G.prop S.p)
    | fail) <;> (try simp only [WKb, ↓reduceIte, Nat.reduceEqDiff]))))
    all_goals
      refine Tr.fin hK ⟨(by first | (simp [*]; done) | (simp only [WKe, ↓reduceIte, reduceCtorEq, Int.reduceEq, eq_self, *]; done) | (simp only [WKe, ↓reduceIte, reduceCtorEq, Int.reduceEq, *]; rfl)), rfl⟩ ?_
      ((try clear hK) <;> (try simp only [WKe, *]) <;> repeat (first | with_reducible exact EntR.done | refine S.e ?_ | (refine S.f ?_ <;> (try simp only [WKe, ↓reduceIte, reduceCtorEq, Int.reduceEq, *])) | with_reducible apply EntR.ex | refine EntR.drop (F := F) ?_ | refine EntR.drop ?_))
end Go.Proofs.Ytlhmbcmkpafjoaa
