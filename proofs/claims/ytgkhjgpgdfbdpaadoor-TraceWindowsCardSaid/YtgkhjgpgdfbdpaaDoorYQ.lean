import Derived.Test.YtgkhjgpgdfbdpaaDoorYM
namespace Go.Proofs.YtgkhjgpgdfbdpaaDoor
open Go Go.Wk
set_option maxHeartbeats 6400000
set_option maxRecDepth 100000

instance : Inhabited (SL EvC) := ⟨⟨⟨none, 0, 0⟩, []⟩⟩
theorem famBack {xs : List (SL EvC)} {k : Nat} {d : List EvC} {l l1 l2 : List Asrt} {X : WP} (hk : k < xs.length) (hd : d = (ix xs (k : Int)).d) (h1 : TakeA l (sl false (ix xs (k : Int)).s.v d) l1) (h2 : TakeA l1 (fam (fun x : SL EvC => sl false x.s.v x.d) (xs.eraseIdx (k : Int).toNat)) l2) (h : Tr (famB xs :: l2) X) : Tr l X := by
  subst hd
  have hf := fam_in (A := fun x : SL EvC => sl false x.s.v x.d) (xs := xs) (i := k) (x := ix xs (k : Int)) (l := l2) hk
  have hs : xs.set k (ix xs (k : Int)) = xs := by
    have := ix_some (xs := xs) (k := (k : Int)) (by omega) (by omega)
    rw [Int.toNat_natCast] at this
    obtain ⟨hlt, he⟩ := List.getElem?_eq_some_iff.1 this
    rw [← he]; simp
  rw [hs] at hf
  exact h.imp (Imp.trans h1 (Imp.trans (Imp.cons h2) hf))
attribute [local irreducible] BrK GenK EGenK EUnitK CallK FnK CallV GuardO GuardC CondW opX opK opKc chkR eqR seqK blkK endL WL WD W LoopW BinK Tr drewK resL PickK NotK NilK ExtrK getK Instr.storeAt Instr.loadAt Instr.fieldAt Instr.indexAt Instr.lookup Instr.mapUpdate Instr.box Instr.alloc Instr.build Instr.buildSlice Instr.makeSlice Instr.makeMap Instr.sliceAt Instr.field Instr.index Instr.makeInterface Instr.typeAssert Builtin.len_ Builtin.append_ Builtin.cap_ Builtin.min_ Builtin.max_ Builtin.copy_ Builtin.clear_ convert binOp mp blk rob sl sep ex fact old
attribute [local irreducible] NegK mxV bufT bldB okW valW kvsW lastW cntF faultsK faultsF winsW
theorem windows28_ok {v : Value} {xs : List EvC} {part : Int} {m : Int} (hok : ∀ e ∈ xs, e.ok) : Trip Tryd.prog 6 [v, .int .i64 part].toArray [mxB m, sl true v xs] fun u l' => u = .bool true ∧ l' = [] := by
  intro F K hK
  simp only [List.cons_append, List.nil_append]
  (refine Tr.enter (rs := [.tmp 4]) mixed fn6 rfl (by simp +arith [Tryd.ntmps6]) fun u => ?_; simp only [cd6, Tryd.f6])
  by_cases h : xs.length ≤ 300
  · ((try simp only [WKb, ↓reduceIte, Nat.reduceEqDiff, Nat.reduceAdd]) <;> (repeat' ((first
    | (refine G.tr ?_; first | refine S.a ?_ | refine S.t ?_ | refine Tr.brK ?_ ?_ | (refine G.call 13 ?_; refine S.c ?_ (h := works28_ok)) | (refine G.call 23 ?_; refine S.c ?_ (h := twindows_ok (by assumption) (by assumption))) | (refine G.call 24 ?_; refine S.c ?_ (h := twindowsR_ok (by assumption) (by assumption))) | (refine G.call 22 ?_; refine S.c ?_ (h := sameEv_ok)) | (refine G.call 26 ?_; refine S.c ?_ (h := tfaults_ok (by assumption))) | (refine G.call 27 ?_; refine S.c ?_ (h := tfaultsR_ok (by assumption))) | (refine G.call 25 ?_; refine S.c ?_ (h := sameInt_ok)) | refine S.n fun _ => ?_ | refine S.i fun hix => ?_ | (refine S.g fun hb => ?_; (try simp only [hb])) | (refine S.s (fun hb => ?_) (fun hb => ?_) <;> ((try simp only [hb]) <;> (try (have hp := hb; simp only [WKs] at hp; (try have hq := Int.not_le.2 hp); (try have hq := Int.not_lt.2 hp))))))
    | rintro _ _ ⟨rfl, rfl⟩
    | rintro _ _ ⟨_, rfl, rfl⟩
    | rintro _ _ ⟨_, _, hwinA, rfl, rfl⟩
    | rintro _ _ ⟨_, _, hwinB, rfl, rfl⟩
    | ((fail_if_success refine G.tr ?_); exact G.prop S.p)
    | fail) <;> (try simp only [WKb, ↓reduceIte, Nat.reduceEqDiff]))))
    · rename_i sa oa hA sb ob
      have hlen := congrArg List.length (hA.trans hwinA.symm)
      rw [List.length_map, List.length_map] at hlen
      exact absurd (congrArg Int.ofNat hlen) hp
    · rename_i sa oa hA sb ob
      have hab := hA.trans hwinA.symm
      have hlen := congrArg List.length hab
      rw [List.length_map, List.length_map] at hlen
      refine Tr.bound (ro := false) (v := sa.v) (xs := oa) (by (repeat (first | exact Has.here | apply Has.next)); done) fun hbd => ?_
      refine Tr.loopE (α := Nat) [4, 7] [0, 1, 5, 6] (fun k => [.bool false, .int .i64 k]) (fun _ => [sl false sa.v oa, famB oa, sl false sb.v ob, famB ob]) (fun k => k ≤ oa.length) (fun k => oa.length - k) 0 (by (repeat (first | exact TakeL.nil | (apply TakeL.cons; focus ((first | exact TakeA.dupS | exact TakeA.dupF | ((repeat (first | with_reducible exact TakeA.here | exact TakeA.fam (by omega) (by omega) | with_reducible apply TakeA.next)); done) | ((repeat (first | exact TakeA.here | apply TakeA.next)); done) | exact TakeA.famNil | exact TakeA.nilS))) | fail)); done) rfl (Nat.zero_le _) fun k u hk => ?_
      by_cases hin : k < oa.length
      · have hw := wrapSucc (k := k) (by omega)
        have hin2 : k < ob.length := by omega
        have hde : (ix ob (k : Int)).d = (ix oa (k : Int)).d := by
          have e1 := ix_some (xs := oa) (k := (k : Int)) (by omega) (by omega)
          have e2 := ix_some (xs := ob) (k := (k : Int)) (by omega) (by omega)
          have e3 := congrArg (fun l => l[((k : Int)).toNat]?) hab
          simp only [List.getElem?_map, e1, e2, Option.map_some] at e3
          exact (Option.some.inj e3).symm
        simp only [List.cons_append, List.nil_append]
        refine Tr.famAt (xs := oa) (k : Int) (by (repeat (first | exact TakeA.here | apply TakeA.next)); done) (by omega) (by omega) ?_
        refine Tr.famAt (xs := ob) (k : Int) (by (repeat (first | exact TakeA.here | apply TakeA.next)); done) (by omega) (by omega) ?_
        rw [hde]
        ((try simp only [WKb, ↓reduceIte, Nat.reduceEqDiff]) <;> (repeat' ((first
    | (refine G.tr ?_; first | refine S.a ?_ | refine S.t ?_ | refine Tr.brK ?_ ?_ | (refine G.call 13 ?_; refine S.c ?_ (h := works28_ok)) | (refine G.call 23 ?_; refine S.c ?_ (h := twindows_ok (by assumption) (by assumption))) | (refine G.call 24 ?_; refine S.c ?_ (h := twindowsR_ok (by assumption) (by assumption))) | (refine G.call 22 ?_; refine S.c ?_ (h := sameEv_ok)) | (refine G.call 26 ?_; refine S.c ?_ (h := tfaults_ok (by assumption))) | (refine G.call 27 ?_; refine S.c ?_ (h := tfaultsR_ok (by assumption))) | (refine G.call 25 ?_; refine S.c ?_ (h := sameInt_ok)) | refine S.n fun _ => ?_ | refine S.i fun hix => ?_ | (refine S.g fun hb => ?_; (try simp only [hb])) | (refine S.s (fun hb => ?_) (fun hb => ?_) <;> ((try simp only [hb]) <;> (try (have hp := hb; simp only [WKs] at hp; (try have hq := Int.not_le.2 hp); (try have hq := Int.not_lt.2 hp))))))
    | rintro _ _ ⟨rfl, rfl⟩
    | rintro _ _ ⟨_, rfl, rfl⟩
    | rintro _ _ ⟨_, _, hwinA, rfl, rfl⟩
    | rintro _ _ ⟨_, _, hwinB, rfl, rfl⟩
    | ((fail_if_success refine G.tr ?_); exact G.prop S.p)
    | fail) <;> (try simp only [WKb, ↓reduceIte, Nat.reduceEqDiff, pl6, hw]))))
        all_goals
          refine famBack (xs := oa) (k := k) hin rfl (by (repeat (first | exact TakeA.here | apply TakeA.next)); done) (by (repeat (first | exact TakeA.here | apply TakeA.next)); done) ?_
          refine famBack (xs := ob) (k := k) hin2 hde.symm (by (repeat (first | exact TakeA.here | apply TakeA.next)); done) (by (repeat (first | exact TakeA.here | apply TakeA.next)); done) ?_
          (apply Tr.againE (k + 1); (focus (simp only [WKb, ↓reduceIte, Nat.reduceEqDiff])); (focus ((try simp only [WKb, ↓reduceIte, Nat.reduceEqDiff]); (all_goals ((repeat (refine cons_eq (by first | rfl | (simp [*]; done)) ?_)); rfl)); done)); (focus (first | omega | assumption | (simp only []; omega) | (refine ⟨by omega, by assumption⟩) | (simp only []; refine ⟨by omega, by assumption⟩) | ((try simp only []); (repeat' (first | omega | assumption | refine And.intro ?_ ?_)); done))); (focus (first | omega | (simp only []; omega))); (focus (((try clear hK) <;> (try simp only [WKe, *]) <;> repeat (first | with_reducible exact EntR.done | refine S.e ?_ | (refine S.f ?_ <;> (try simp only [WKe, ↓reduceIte, reduceCtorEq, Int.reduceEq, *])) | with_reducible apply EntR.ex | refine EntR.drop (F := F) ?_ | refine EntR.drop ?_)))))
      · have hke : k = oa.length := by omega
        subst hke
        ((try simp only [WKb, ↓reduceIte, Nat.reduceEqDiff]) <;> (repeat' ((first
    | (refine G.tr ?_; first | refine S.a ?_ | refine S.t ?_ | refine Tr.brK ?_ ?_ | (refine G.call 13 ?_; refine S.c ?_ (h := works28_ok)) | (refine G.call 23 ?_; refine S.c ?_ (h := twindows_ok (by assumption) (by assumption))) | (refine G.call 24 ?_; refine S.c ?_ (h := twindowsR_ok (by assumption) (by assumption))) | (refine G.call 22 ?_; refine S.c ?_ (h := sameEv_ok)) | (refine G.call 26 ?_; refine S.c ?_ (h := tfaults_ok (by assumption))) | (refine G.call 27 ?_; refine S.c ?_ (h := tfaultsR_ok (by assumption))) | (refine G.call 25 ?_; refine S.c ?_ (h := sameInt_ok)) | refine S.n fun _ => ?_ | refine S.i fun hix => ?_ | (refine S.g fun hb => ?_; (try simp only [hb])) | (refine S.s (fun hb => ?_) (fun hb => ?_) <;> ((try simp only [hb]) <;> (try (have hp := hb; simp only [WKs] at hp; (try have hq := Int.not_le.2 hp); (try have hq := Int.not_lt.2 hp))))))
    | rintro _ _ ⟨rfl, rfl⟩
    | rintro _ _ ⟨_, rfl, rfl⟩
    | rintro _ _ ⟨_, _, hwinA, rfl, rfl⟩
    | rintro _ _ ⟨_, _, hwinB, rfl, rfl⟩
    | ((fail_if_success refine G.tr ?_); exact G.prop S.p)
    | fail) <;> (try simp only [WKb, ↓reduceIte, Nat.reduceEqDiff]))))
        all_goals
          refine Tr.fin hK ⟨rfl, rfl⟩ ?_
          ((try clear hK) <;> (try simp only [WKe, *]) <;> repeat (first | with_reducible exact EntR.done | refine S.e ?_ | (refine S.f ?_ <;> (try simp only [WKe, ↓reduceIte, reduceCtorEq, Int.reduceEq, *])) | with_reducible apply EntR.ex | refine EntR.drop (F := F) ?_ | refine EntR.drop ?_))
  · have h' : (300 : Int) < xs.length := by omega
    ((try simp only [WKb, ↓reduceIte, Nat.reduceEqDiff, Nat.reduceAdd]) <;> (repeat' ((first
    | (refine G.tr ?_; first | refine S.a ?_ | refine S.t ?_ | refine Tr.brK ?_ ?_ | (refine G.call 13 ?_; refine S.c ?_ (h := works28_ok)) | (refine G.call 23 ?_; refine S.c ?_ (h := twindows_ok (by assumption) (by assumption))) | (refine G.call 24 ?_; refine S.c ?_ (h := twindowsR_ok (by assumption) (by assumption))) | (refine G.call 22 ?_; refine S.c ?_ (h := sameEv_ok)) | (refine G.call 26 ?_; refine S.c ?_ (h := tfaults_ok (by assumption))) | (refine G.call 27 ?_; refine S.c ?_ (h := tfaultsR_ok (by assumption))) | (refine G.call 25 ?_; refine S.c ?_ (h := sameInt_ok)) | refine S.n fun _ => ?_ | refine S.i fun hix => ?_ | (refine S.g fun hb => ?_; (try simp only [hb])) | (refine S.s (fun hb => ?_) (fun hb => ?_) <;> ((try simp only [hb]) <;> (try (have hp := hb; simp only [WKs] at hp; (try have hq := Int.not_le.2 hp); (try have hq := Int.not_lt.2 hp))))))
    | rintro _ _ ⟨rfl, rfl⟩
    | rintro _ _ ⟨_, rfl, rfl⟩
    | rintro _ _ ⟨_, _, hwinA, rfl, rfl⟩
    | rintro _ _ ⟨_, _, hwinB, rfl, rfl⟩
    | ((fail_if_success refine G.tr ?_); exact G.prop S.p)
    | fail) <;> (try simp only [WKb, ↓reduceIte]))))
    all_goals
      refine Tr.fin hK ⟨rfl, rfl⟩ ?_
      ((try clear hK) <;> (try simp only [WKe, *]) <;> repeat (first | with_reducible exact EntR.done | refine S.e ?_ | (refine S.f ?_ <;> (try simp only [WKe, ↓reduceIte, reduceCtorEq, Int.reduceEq, *])) | with_reducible apply EntR.ex | refine EntR.drop (F := F) ?_ | refine EntR.drop ?_))
end Go.Proofs.YtgkhjgpgdfbdpaaDoor
