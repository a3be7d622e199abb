import Derived.Test.YtgkhjgpgdfbdpaaDoorSE
namespace Go.Proofs.YtgkhjgpgdfbdpaaDoor
open Go Go.Wk
set_option maxHeartbeats 6400000
set_option maxRecDepth 100000

def sumP (p : ProgS) : Nat := (p.d.map fun q => q.d.length).sum
def stepsN (progs : List ProgS) : Nat := (progs.map sumP).sum
def stB (progs : List ProgS) (k j : Nat) : Nat := stepsN (progs.take k) + (((ix progs (k : Int)).d.take j).map fun q => q.d.length).sum
theorem stB_zero {progs : List ProgS} {k : Nat} : stB progs k 0 = stepsN (progs.take k) := by simp [stB]
theorem stB_next {progs : List ProgS} {k j : Nat} (h : j < (ix progs (k : Int)).d.length) : stB progs k (j + 1) = stB progs k j + (ix (ix progs (k : Int)).d (j : Int)).d.length := by
  unfold stB
  rw [take_ix h, List.map_append, List.sum_append]
  simp; omega
theorem stB_end {progs : List ProgS} {k : Nat} (h : k < progs.length) : stB progs k (ix progs (k : Int)).d.length = stepsN (progs.take (k + 1)) := by
  unfold stB stepsN
  rw [take_ix h, List.take_length, List.map_append, List.sum_append]
  simp [sumP]
theorem stepsN_take {progs : List ProgS} (k : Nat) : stepsN (progs.take k) ≤ stepsN progs := by
  unfold stepsN
  have := List.take_append_drop k progs
  conv => rhs; rw [← this]
  rw [List.map_append, List.sum_append]; omega
theorem stB_le {progs : List ProgS} {k : Nat} (h : k < progs.length) (j : Nat) : stB progs k j ≤ stepsN progs := by
  refine Nat.le_trans ?_ (stepsN_take (k + 1))
  rw [← stB_end h]
  unfold stB
  have := List.take_append_drop j (ix progs (k : Int)).d
  rw [List.take_length]
  conv => rhs; rw [← this]
  rw [List.map_append, List.sum_append]; omega
attribute [local irreducible] BrK GenK EGenK EUnitK CallK FnK CallV GuardO GuardC CondW opX opK opKc chkR eqR seqK blkK endL WL WD W LoopW BinK Tr drewK resL PickK NotK NilK ExtrK getK Instr.storeAt Instr.loadAt Instr.fieldAt Instr.indexAt Instr.lookup Instr.mapUpdate Instr.box Instr.alloc Instr.build Instr.buildSlice Instr.makeSlice Instr.makeMap Instr.sliceAt Instr.field Instr.index Instr.makeInterface Instr.typeAssert Builtin.len_ Builtin.append_ Builtin.cap_ Builtin.min_ Builtin.max_ Builtin.copy_ Builtin.clear_ convert binOp mp blk rob sl sep ex fact old
attribute [local irreducible] NegK mxV bufT bldB nz stB stepsN
theorem cloneF_ok {ro : Bool} {s : SV} {xs : List FrameC} (hn : xs.length ≤ 1000000) : Trip Tryd.prog 69 [s.v].toArray [sl ro s.v xs]
    fun v l' => ∃ s' : SV, v = s'.v ∧ l' = [sl false s'.v xs, sl ro s.v xs] := by
  intro F K hK
  simp only [List.cons_append, List.nil_append]
  (refine Tr.enter (rs := [.tmp 2]) mixed fn69 rfl (by simp +arith [Tryd.ntmps69]) fun u => ?_; simp only [cd69, Tryd.f69])
  ((try simp only [WKb, WKh, ↓reduceIte, Nat.reduceEqDiff]) <;> (repeat' ((first
    | (refine G.tr ?_; first | refine S.a ?_ | refine S.t ?_ | refine Tr.brK ?_ ?_ | refine S.n fun _ => ?_ | refine S.i fun hix => ?_ | (refine S.g fun hb => ?_; (try simp only [hb])) | (refine S.s (fun hb => ?_) (fun hb => ?_) <;> ((try simp only [hb]) <;> (try (have hp := hb; simp only [WKs] at hp; (try have hq := Int.not_le.2 hp); (try have hq := Int.not_lt.2 hp))))))
    | ((fail_if_success refine G.tr ?_); exact G.prop S.p)
    | fail) <;> (try simp only [WKb, ↓reduceIte, Nat.reduceEqDiff]))))
  · refine Tr.slNil (ro := ro) (xs := xs) hb fun hx => ?_
    subst hx
    refine Tr.nilSl (α := FrameC) ?_
    refine Tr.fin hK ⟨⟨none, 0, 0⟩, rfl, rfl⟩ ?_
    ((try clear hK) <;> (try simp only [WKe, *]) <;> repeat (first | with_reducible exact EntR.done | refine S.e ?_ | (refine S.f ?_ <;> (try simp only [WKe, ↓reduceIte, reduceCtorEq, Int.reduceEq, *])) | with_reducible apply EntR.ex | refine EntR.drop (F := F) ?_ | refine EntR.drop ?_))
  · apply Tr.fin hK ⟨_, rfl, rfl⟩
    ((try clear hK) <;> (try simp only [WKe, *]) <;> repeat (first | with_reducible exact EntR.done | refine S.e ?_ | (refine S.f ?_ <;> (try simp only [WKe, ↓reduceIte, reduceCtorEq, Int.reduceEq, *])) | with_reducible apply EntR.ex | refine EntR.drop (F := F) ?_ | refine EntR.drop ?_))

theorem steps_ok {ro : Bool} {ps fs : SV} {progs : List ProgS} (hs : stepsN progs ≤ 1000000000) : Trip Tryd.prog 35 [.agg [ps.v, fs.v].toArray].toArray [sl ro ps.v progs, famProg ro progs]
    fun v l' => v = .int .i64 (stepsN progs : Int) ∧ l' = [sl ro ps.v progs, famProg ro progs] := by
  intro F K hK
  simp only [List.cons_append, List.nil_append]
  refine Tr.bound (ro := ro) (v := ps.v) (xs := progs) (by (repeat (first | exact Has.here | apply Has.next)); done) fun hbd => ?_
  (refine Tr.enter (rs := [.tmp 2]) mixed fn35 rfl (by simp +arith [Tryd.ntmps35]) fun u => ?_; simp only [cd35, Tryd.f35])
  ((try simp only [WKb, ↓reduceIte]) <;> (repeat' ((first
    | (refine G.tr ?_; first | refine S.a ?_ | refine S.t ?_ | refine Tr.brK ?_ ?_ | refine S.n fun _ => ?_ | refine S.i fun hix => ?_ | (refine S.g fun hb => ?_; (try simp only [hb])) | (refine S.s (fun hb => ?_) (fun hb => ?_) <;> ((try simp only [hb]) <;> (try (have hp := hb; simp only [WKs] at hp; (try have hq := Int.not_le.2 hp); (try have hq := Int.not_lt.2 hp))))))
    | ((fail_if_success refine G.tr ?_); exact G.prop S.p)
    | fail) <;> (try simp only [WKb, ↓reduceIte, Nat.reduceEqDiff]))))
  rename_i sb
  have hz0 : stepsN (progs.take 0) = 0 := by unfold stepsN; rfl
  refine Tr.loopE (α := Nat) [3, 11] [1, 2, 9, 10] (fun k => [.int .i64 (stepsN (progs.take k) : Int), .int .i64 k]) (fun _ => [sl ro ps.v progs, famProg ro progs]) (fun k => k ≤ progs.length) (fun k => progs.length - k) 0 (by (repeat (first | exact TakeL.nil | (apply TakeL.cons; focus ((first | exact TakeA.dupS | exact TakeA.dupF | ((repeat (first | with_reducible exact TakeA.here | exact TakeA.fam (by omega) (by omega) | with_reducible apply TakeA.next)); done) | ((repeat (first | exact TakeA.here | apply TakeA.next)); done) | exact TakeA.famNil | exact TakeA.nilS))) | fail)); done) (by rw [hz0]; rfl) (Nat.zero_le _) fun k u hk => ?_
  by_cases hin : k < progs.length
  · have hw := wrapSucc (k := k) (by omega)
    simp only [List.cons_append, List.nil_append]
    refine Tr.famAt (xs := progs) (k : Int) (by (repeat (first | exact TakeA.here | apply TakeA.next)); done) (by omega) (by omega) ?_
    refine Tr.sep_iff.2 ?_
    refine Tr.bound (ro := ro) (v := (ix progs (k : Int)).s.v) (xs := (ix progs (k : Int)).d) (by (repeat (first | exact Has.here | apply Has.next)); done) fun hbd1 => ?_
    ((try simp only [WKb, ↓reduceIte, Nat.reduceEqDiff]) <;> (repeat' ((first
    | (refine G.tr ?_; first | refine S.a ?_ | refine S.t ?_ | refine Tr.brK ?_ ?_ | refine S.n fun _ => ?_ | refine S.i fun hix => ?_ | (refine S.g fun hb => ?_; (try simp only [hb])) | (refine S.s (fun hb => ?_) (fun hb => ?_) <;> ((try simp only [hb]) <;> (try (have hp := hb; simp only [WKs] at hp; (try have hq := Int.not_le.2 hp); (try have hq := Int.not_lt.2 hp))))))
    | ((fail_if_success refine G.tr ?_); exact G.prop S.p)
    | fail) <;> (try simp only [WKb, ↓reduceIte, Nat.reduceEqDiff]))))
    refine Tr.loopE (α := Nat) [3, 17] [1, 2, 9, 10, 11, 15, 16] (fun j => [.int .i64 (stB progs k j : Int), .int .i64 j]) (fun j => [sl ro (ix progs (k : Int)).s.v (ix progs (k : Int)).d, famProc ro (ix progs (k : Int)).d]) (fun j => j ≤ (ix progs (k : Int)).d.length) (fun j => (ix progs (k : Int)).d.length - j) 0 (by (repeat (first | exact TakeL.nil | (apply TakeL.cons; focus ((first | exact TakeA.dupS | exact TakeA.dupF | ((repeat (first | with_reducible exact TakeA.here | exact TakeA.fam (by omega) (by omega) | with_reducible apply TakeA.next)); done) | ((repeat (first | exact TakeA.here | apply TakeA.next)); done) | exact TakeA.famNil | exact TakeA.nilS))) | fail)); done) (by rw [stB_zero]; rfl) (Nat.zero_le _) fun j u hj => ?_
    by_cases hin1 : j < (ix progs (k : Int)).d.length
    · have hwk := hw
      have hw := wrapSucc (k := j) (by omega)
      have hnx := stB_next hin1
      have hle := stB_le hin (j + 1)
      have hws : IntKind.i64.wrap ((stB progs k j : Int) + ((ix (ix progs (k : Int)).d (j : Int)).d.length : Int)) = (stB progs k (j + 1) : Int) := by rw [wrapId (by omega) (by omega)]; omega
      simp only [List.cons_append, List.nil_append]
      refine Tr.famAt (xs := (ix progs (k : Int)).d) (j : Int) (by (repeat (first | exact TakeA.here | apply TakeA.next)); done) (by omega) (by omega) ?_
      ((try simp only [WKb, ↓reduceIte, Nat.reduceEqDiff]) <;> (repeat' ((first
    | (refine G.tr ?_; first | refine S.a ?_ | refine S.t ?_ | refine Tr.brK ?_ ?_ | refine S.n fun _ => ?_ | refine S.i fun hix => ?_ | (refine S.g fun hb => ?_; (try simp only [hb])) | (refine S.s (fun hb => ?_) (fun hb => ?_) <;> ((try simp only [hb]) <;> (try (have hp := hb; simp only [WKs] at hp; (try have hq := Int.not_le.2 hp); (try have hq := Int.not_lt.2 hp))))))
    | ((fail_if_success refine G.tr ?_); exact G.prop S.p)
    | fail) <;> (try simp only [WKb, ↓reduceIte, Nat.reduceEqDiff, hw, hws]))))
      all_goals
        refine foldProc hin1 (by (repeat (first | exact TakeA.here | apply TakeA.next)); done) (by (repeat (first | exact TakeA.here | apply TakeA.next)); done) ?_
        clear hnx
        (apply Tr.againE (j + 1); (focus (simp only [WKb, ↓reduceIte, Nat.reduceEqDiff])); (focus ((try simp only [WKb, ↓reduceIte, Nat.reduceEqDiff]); (all_goals ((repeat (refine cons_eq (by first | rfl | (simp [*]; done)) ?_)); rfl)); done)); (focus (first | omega | assumption | (simp only []; omega) | (refine ⟨by omega, by assumption⟩) | (simp only []; refine ⟨by omega, by assumption⟩) | ((try simp only []); (repeat' (first | omega | assumption | refine And.intro ?_ ?_)); done))); (focus (first | omega | (simp only []; omega))); (focus (((try clear hK) <;> (try simp only [WKe, *]) <;> repeat (first | with_reducible exact EntR.done | refine S.e ?_ | (refine S.f ?_ <;> (try simp only [WKe, ↓reduceIte, reduceCtorEq, Int.reduceEq, *])) | with_reducible apply EntR.ex | refine EntR.drop (F := F) ?_ | refine EntR.drop ?_)))))
    · have hje : j = (ix progs (k : Int)).d.length := by omega
      subst hje
      have hz3 := stB_end hin
      ((try simp only [WKb, ↓reduceIte, Nat.reduceEqDiff, hz3]) <;> (repeat' ((first
    | (refine G.tr ?_; first | refine S.a ?_ | refine S.t ?_ | refine Tr.brK ?_ ?_ | refine S.n fun _ => ?_ | refine S.i fun hix => ?_ | (refine S.g fun hb => ?_; (try simp only [hb])) | (refine S.s (fun hb => ?_) (fun hb => ?_) <;> ((try simp only [hb]) <;> (try (have hp := hb; simp only [WKs] at hp; (try have hq := Int.not_le.2 hp); (try have hq := Int.not_lt.2 hp))))))
    | ((fail_if_success refine G.tr ?_); exact G.prop S.p)
    | fail) <;> (try simp only [WKb, ↓reduceIte, Nat.reduceEqDiff, hw]))))
      all_goals
        refine foldProg hin (by (repeat (first | exact TakeA.here | apply TakeA.next)); done) (by (repeat (first | exact TakeA.here | apply TakeA.next)); done) (by (repeat (first | exact TakeA.here | apply TakeA.next)); done) ?_
        (apply Tr.againE (k + 1); (focus (simp only [WKb, ↓reduceIte, Nat.reduceEqDiff])); (focus ((try simp only [WKb, ↓reduceIte, Nat.reduceEqDiff]); (all_goals ((repeat (refine cons_eq (by first | rfl | (simp [*]; done)) ?_)); rfl)); done)); (focus (first | omega | assumption | (simp only []; omega) | (refine ⟨by omega, by assumption⟩) | (simp only []; refine ⟨by omega, by assumption⟩) | ((try simp only []); (repeat' (first | omega | assumption | refine And.intro ?_ ?_)); done))); (focus (first | omega | (simp only []; omega))); (focus (((try clear hK) <;> (try simp only [WKe, *]) <;> repeat (first | with_reducible exact EntR.done | refine S.e ?_ | (refine S.f ?_ <;> (try simp only [WKe, ↓reduceIte, reduceCtorEq, Int.reduceEq, *])) | with_reducible apply EntR.ex | refine EntR.drop (F := F) ?_ | refine EntR.drop ?_)))))
  · have hke : k = progs.length := by omega
    subst hke
    have htl : progs.take progs.length = progs := List.take_length
    ((try simp only [WKb, ↓reduceIte, Nat.reduceEqDiff, htl]) <;> (repeat' ((first
    | (refine G.tr ?_; first | refine S.a ?_ | refine S.t ?_ | refine Tr.brK ?_ ?_ | refine S.n fun _ => ?_ | refine S.i fun hix => ?_ | (refine S.g fun hb => ?_; (try simp only [hb])) | (refine S.s (fun hb => ?_) (fun hb => ?_) <;> ((try simp only [hb]) <;> (try (have hp := hb; simp only [WKs] at hp; (try have hq := Int.not_le.2 hp); (try have hq := Int.not_lt.2 hp))))))
    | ((fail_if_success refine G.tr ?_); exact G.prop S.p)
    | fail) <;> (try simp only [WKb, ↓reduceIte, Nat.reduceEqDiff]))))
    all_goals
      refine Tr.fin hK ⟨rfl, rfl⟩ ?_
      ((try clear hK) <;> (try simp only [WKe, *]) <;> repeat (first | with_reducible exact EntR.done | refine S.e ?_ | (refine S.f ?_ <;> (try simp only [WKe, ↓reduceIte, reduceCtorEq, Int.reduceEq, *])) | with_reducible apply EntR.ex | refine EntR.drop (F := F) ?_ | refine EntR.drop ?_))

end Go.Proofs.YtgkhjgpgdfbdpaaDoor

namespace Go.Proofs.YtgkhjgpgdfbdpaaDoor
open Go Go.Wk
set_option maxHeartbeats 6400000
set_option maxRecDepth 100000

def normD (ps : List (List (List StepC))) : List (List (List StepC)) := ps.map fun p => p.map fun q => q.map normS
def lessS (progs : List ProgS) : Prop := progs.length ≤ 100000 ∧ ∀ p ∈ progs, p.d.length ≤ 100000 ∧ ∀ q ∈ p.d, q.d.length ≤ 100000
theorem snocProc {xs : List ProcS} {s : SV} {d : List StepC} {l l1 l2 : List Asrt} {X : WP} (h1 : TakeA l (sl false s.v d) l1) (h2 : TakeA l1 (famProc false xs) l2) (h : Tr (famProc false (xs ++ [⟨s, d⟩]) :: l2) X) : Tr l X :=
  h.imp (Imp.trans h1 (Imp.trans (Imp.cons h2) (fam_snoc (A := fun x : ProcS => sl false x.s.v x.d) (x := ⟨s, d⟩))))
theorem snocProg {xs : List ProgS} {s : SV} {d : List ProcS} {l l1 l2 l3 : List Asrt} {X : WP} (h1 : TakeA l (sl false s.v d) l1) (h3 : TakeA l1 (famProc false d) l3) (h2 : TakeA l3 (famProg false xs) l2) (h : Tr (famProg false (xs ++ [⟨s, d⟩]) :: l2) X) : Tr l X :=
  h.imp (Imp.trans h1 (Imp.trans (Imp.cons h3) (Imp.trans Imp.sepI (Imp.trans (Imp.cons h2) (fam_snoc (A := fun x : ProgS => sep (sl false x.s.v x.d) (famProc false x.d)) (x := ⟨s, d⟩))))))
theorem progsD_snoc {xs : List ProgS} {s : SV} {d : List ProcS} : progsD (xs ++ [⟨s, d⟩]) = progsD xs ++ [d.map SL.d] := by simp [progsD]
theorem normD_take {progs : List ProgS} {k : Nat} (h : k < progs.length) : normD (progsD (progs.take (k + 1))) = normD (progsD (progs.take k)) ++ [(ix progs (k : Int)).d.map fun q => q.d.map normS] := by
  rw [take_ix h]
  simp [normD, progsD]
attribute [local irreducible] BrK GenK EGenK EUnitK CallK FnK CallV GuardO GuardC CondW opX opK opKc chkR eqR seqK blkK endL WL WD W LoopW BinK Tr drewK resL PickK NotK NilK ExtrK getK Instr.storeAt Instr.loadAt Instr.fieldAt Instr.indexAt Instr.lookup Instr.mapUpdate Instr.box Instr.alloc Instr.build Instr.buildSlice Instr.makeSlice Instr.makeMap Instr.sliceAt Instr.field Instr.index Instr.makeInterface Instr.typeAssert Builtin.len_ Builtin.append_ Builtin.cap_ Builtin.min_ Builtin.max_ Builtin.copy_ Builtin.clear_ convert binOp mp blk rob sl sep ex fact old
attribute [local irreducible] NegK mxV bufT bldB nz stB stepsN
theorem snormAll_ok {ro : Bool} {ps fs : SV} {progs : List ProgS} {frames : List FrameC} (hless : lessS progs) (hfl : frames.length ≤ 1000000) :
    Trip Tryd.prog 33 [.agg [ps.v, fs.v].toArray].toArray [sl ro ps.v progs, famProg ro progs, sl ro fs.v frames]
      fun v l' => ∃ (o c : SV) (outs : List ProgS), progsD outs = normD (progsD progs) ∧ v = .agg [o.v, c.v].toArray ∧ l' = [sl false o.v outs, famProg false outs, sl false c.v frames, sl ro ps.v progs, famProg ro progs, sl ro fs.v frames] := by
  intro F K hK
  simp only [List.cons_append, List.nil_append]
  (refine Tr.enter (rs := [.cell 2 48]) mixed fn33 rfl (by simp +arith [Tryd.ntmps33]) fun u => ?_; simp only [cd33, Tryd.f33])
  ((try simp only [WKb, ↓reduceIte]) <;> (repeat' ((first
    | (refine G.tr ?_; first | refine S.a ?_ | refine S.t ?_ | refine Tr.brK ?_ ?_ | (refine G.call 69 ?_; refine S.c ?_ (h := cloneF_ok ?_)) | (refine G.call 70 ?_; refine S.c ?_ (h := snorm_ok)) | refine S.n fun _ => ?_ | refine S.i fun hix => ?_ | (refine S.g fun hb => ?_; (try simp only [hb])) | (refine S.s (fun hb => ?_) (fun hb => ?_) <;> ((try simp only [hb]) <;> (try (have hp := hb; simp only [WKs] at hp; (try have hq := Int.not_le.2 hp); (try have hq := Int.not_lt.2 hp))))))
    | rintro _ _ ⟨rfl, rfl⟩
    | rintro _ _ ⟨_, rfl, rfl⟩
    | ((fail_if_success refine G.tr ?_); exact G.prop S.p)
    | fail) <;> (try simp only [WKb, WKh, ↓reduceIte, Nat.reduceEqDiff, Nat.reduceAdd]))))
  rename_i sb rb c ob
  refine Tr.nilSl (α := ProgS) ?_
  refine Tr.imp (fam_nil (A := fun x : ProgS => sep (sl false x.s.v x.d) (famProc false x.d))) ?_
  refine Tr.loopE (α := Nat × SV × List ProgS) [19] [2, 3, 17, 18] (fun x => [.int .i64 x.1]) (fun x => [blk ob (.cells [x.2.1.v, c.v].toArray 48 (0, 0)), sl false x.2.1.v x.2.2, famProg false x.2.2, sl ro ps.v progs, famProg ro progs]) (fun x => x.1 ≤ progs.length ∧ x.2.2.length = x.1 ∧ progsD x.2.2 = normD (progsD (progs.take x.1))) (fun x => progs.length - x.1) (0, ⟨none, 0, 0⟩, []) (by (repeat (first | exact TakeL.nil | (apply TakeL.cons; focus ((first | exact TakeA.dupS | exact TakeA.dupF | ((repeat (first | with_reducible exact TakeA.here | exact TakeA.fam (by omega) (by omega) | with_reducible apply TakeA.next)); done) | ((repeat (first | exact TakeA.here | apply TakeA.next)); done) | exact TakeA.famNil | exact TakeA.nilS))) | fail)); done) rfl ⟨Nat.zero_le _, rfl, rfl⟩ fun x u hx => ?_
  obtain ⟨k, o, outs⟩ := x
  simp only at hx ⊢
  obtain ⟨hk, hol, hod⟩ := hx
  have hpl := hless.1
  by_cases hin : k < progs.length
  · have hw := wrapSucc (k := k) (by omega)
    have ⟨hdl, hql⟩ := hless.2 _ (ix_mem hin)
    have hnt := normD_take hin
    simp only [List.cons_append, List.nil_append]
    refine Tr.famAt (xs := progs) (k : Int) (by (repeat (first | exact TakeA.here | apply TakeA.next)); done) (by omega) (by omega) ?_
    refine Tr.sep_iff.2 ?_
    ((try simp only [WKb, ↓reduceIte, Nat.reduceEqDiff]) <;> (repeat' ((first
    | (refine G.tr ?_; first | refine S.a ?_ | refine S.t ?_ | refine Tr.brK ?_ ?_ | (refine G.call 69 ?_; refine S.c ?_ (h := cloneF_ok ?_)) | (refine G.call 70 ?_; refine S.c ?_ (h := snorm_ok)) | refine S.n fun _ => ?_ | refine S.i fun hix => ?_ | (refine S.g fun hb => ?_; (try simp only [hb])) | (refine S.s (fun hb => ?_) (fun hb => ?_) <;> ((try simp only [hb]) <;> (try (have hp := hb; simp only [WKs] at hp; (try have hq := Int.not_le.2 hp); (try have hq := Int.not_lt.2 hp))))))
    | rintro _ _ ⟨rfl, rfl⟩
    | rintro _ _ ⟨_, rfl, rfl⟩
    | ((fail_if_success refine G.tr ?_); exact G.prop S.p)
    | fail) <;> (try simp only [WKb, ↓reduceIte, Nat.reduceEqDiff]))))
    refine Tr.nilSl (α := ProcS) ?_
    refine Tr.imp (fam_nil (A := fun x : ProcS => sl false x.s.v x.d)) ?_
    refine Tr.loopE (α := Nat × SV × List ProcS) [6, 25] [2, 3, 17, 18, 19, 23, 24] (fun x => [x.2.1.v, .int .i64 x.1]) (fun x => [sl false x.2.1.v x.2.2, famProc false x.2.2, sl ro ps.v progs, sl ro (ix progs (k : Int)).s.v (ix progs (k : Int)).d, famProc ro (ix progs (k : Int)).d]) (fun x => x.1 ≤ (ix progs (k : Int)).d.length ∧ x.2.2.length = x.1 ∧ x.2.2.map SL.d = ((ix progs (k : Int)).d.take x.1).map fun q => q.d.map normS) (fun x => (ix progs (k : Int)).d.length - x.1) (0, ⟨none, 0, 0⟩, []) (by (repeat (first | exact TakeL.nil | (apply TakeL.cons; focus ((first | exact TakeA.dupS | exact TakeA.dupF | ((repeat (first | with_reducible exact TakeA.here | exact TakeA.fam (by omega) (by omega) | with_reducible apply TakeA.next)); done) | ((repeat (first | exact TakeA.here | apply TakeA.next)); done) | exact TakeA.famNil | exact TakeA.nilS))) | fail)); done) rfl ⟨Nat.zero_le _, rfl, rfl⟩ fun x u hx => ?_
    obtain ⟨j, lv, ls⟩ := x
    simp only at hx ⊢
    obtain ⟨hj, hll, hld⟩ := hx
    by_cases hin1 : j < (ix progs (k : Int)).d.length
    · have hwk := hw
      have hw := wrapSucc (k := j) (by omega)
      have hq1 := hql _ (ix_mem hin1)
      simp only [List.cons_append, List.nil_append]
      refine Tr.famAt (xs := (ix progs (k : Int)).d) (j : Int) (by (repeat (first | exact TakeA.here | apply TakeA.next)); done) (by omega) (by omega) ?_
      ((try simp only [WKb, ↓reduceIte, Nat.reduceEqDiff]) <;> (repeat' ((first
    | (refine G.tr ?_; first | refine S.a ?_ | refine S.t ?_ | refine Tr.brK ?_ ?_ | (refine G.call 69 ?_; refine S.c ?_ (h := cloneF_ok ?_)) | (refine G.call 70 ?_; refine S.c ?_ (h := snorm_ok)) | refine S.n fun _ => ?_ | refine S.i fun hix => ?_ | (refine S.g fun hb => ?_; (try simp only [hb])) | (refine S.s (fun hb => ?_) (fun hb => ?_) <;> ((try simp only [hb]) <;> (try (have hp := hb; simp only [WKs] at hp; (try have hq := Int.not_le.2 hp); (try have hq := Int.not_lt.2 hp))))))
    | rintro _ _ ⟨rfl, rfl⟩
    | rintro _ _ ⟨_, rfl, rfl⟩
    | ((fail_if_success refine G.tr ?_); exact G.prop S.p)
    | fail) <;> (try simp only [WKb, ↓reduceIte, Nat.reduceEqDiff]))))
      refine Tr.nilSl (α := StepC) ?_
      refine Tr.loopE (α := Nat × SV) [9, 31] [2, 3, 6, 17, 18, 19, 23, 24, 25, 29, 30] (fun x => [x.2.v, .int .i64 x.1]) (fun x => [sl false x.2.v (((ix (ix progs (k : Int)).d (j : Int)).d.take x.1).map normS), sl ro ps.v progs, sl ro (ix progs (k : Int)).s.v (ix progs (k : Int)).d, sl ro (ix (ix progs (k : Int)).d (j : Int)).s.v (ix (ix progs (k : Int)).d (j : Int)).d]) (fun x => x.1 ≤ (ix (ix progs (k : Int)).d (j : Int)).d.length) (fun x => (ix (ix progs (k : Int)).d (j : Int)).d.length - x.1) (0, ⟨none, 0, 0⟩) (by (repeat (first | exact TakeL.nil | (apply TakeL.cons; focus ((first | exact TakeA.dupS | exact TakeA.dupF | ((repeat (first | with_reducible exact TakeA.here | exact TakeA.fam (by omega) (by omega) | with_reducible apply TakeA.next)); done) | ((repeat (first | exact TakeA.here | apply TakeA.next)); done) | exact TakeA.famNil | exact TakeA.nilS))) | fail)); done) rfl (Nat.zero_le _) fun x u hx => ?_
      obtain ⟨i, xv⟩ := x
      simp only at hx ⊢
      have hxl : (((ix (ix progs (k : Int)).d (j : Int)).d.take i).map normS).length = i := by rw [List.length_map, List.length_take]; omega
      by_cases hin2 : i < (ix (ix progs (k : Int)).d (j : Int)).d.length
      · have hwj := hw
        have hw := wrapSucc (k := i) (by omega)
        have hz2 : ((ix (ix progs (k : Int)).d (j : Int)).d.take i).map normS ++ [normS (ix (ix (ix progs (k : Int)).d (j : Int)).d (i : Int))] = ((ix (ix progs (k : Int)).d (j : Int)).d.take (i + 1)).map normS := by rw [take_ix hin2, List.map_append]; rfl
        ((try simp only [WKb, ↓reduceIte, Nat.reduceEqDiff]) <;> (repeat' ((first
    | (refine G.tr ?_; first | refine S.a ?_ | refine S.t ?_ | refine Tr.brK ?_ ?_ | (refine G.call 69 ?_; refine S.c ?_ (h := cloneF_ok ?_)) | (refine G.call 70 ?_; refine S.c ?_ (h := snorm_ok)) | refine S.n fun _ => ?_ | refine S.i fun hix => ?_ | (refine S.g fun hb => ?_; (try simp only [hb])) | (refine S.s (fun hb => ?_) (fun hb => ?_) <;> ((try simp only [hb]) <;> (try (have hp := hb; simp only [WKs] at hp; (try have hq := Int.not_le.2 hp); (try have hq := Int.not_lt.2 hp))))))
    | rintro _ _ ⟨rfl, rfl⟩
    | rintro _ _ ⟨_, rfl, rfl⟩
    | ((fail_if_success refine G.tr ?_); exact G.prop S.p)
    | fail) <;> (try simp only [WKb, ↓reduceIte, Nat.reduceEqDiff, hw, hz2]))))
        all_goals
          clear hld hod hnt
          (apply Tr.againE ((i + 1, _)); (focus (simp only [WKb, ↓reduceIte, Nat.reduceEqDiff])); (focus ((try simp only [WKb, ↓reduceIte, Nat.reduceEqDiff]); (all_goals ((repeat (refine cons_eq (by first | rfl | (simp [*]; done)) ?_)); rfl)); done)); rotate_left 2; (focus (((try clear hK) <;> (try simp only [WKe, *]) <;> repeat (first | with_reducible exact EntR.done | refine S.e ?_ | (refine S.f ?_ <;> (try simp only [WKe, ↓reduceIte, reduceCtorEq, Int.reduceEq, *])) | with_reducible apply EntR.ex | refine EntR.drop (F := F) ?_ | refine EntR.drop ?_)))); (focus (first | omega | assumption | (simp only []; omega) | (refine ⟨by omega, by assumption⟩) | (simp only []; refine ⟨by omega, by assumption⟩) | ((try simp only []); (repeat' (first | omega | assumption | refine And.intro ?_ ?_)); done))); (focus (first | omega | (simp only []; omega))))
      · have hie : i = (ix (ix progs (k : Int)).d (j : Int)).d.length := by omega
        subst hie
        have hld' : ∀ s : SV, (ls ++ [SL.mk s ((ix (ix progs (k : Int)).d (j : Int)).d.map normS)]).map SL.d = ((ix progs (k : Int)).d.take (j + 1)).map fun q => q.d.map normS := fun s => by
          rw [List.map_append, hld, take_ix hin1, List.map_append]; rfl
        have hll' : ∀ s : SV, (ls ++ [SL.mk s ((ix (ix progs (k : Int)).d (j : Int)).d.map normS)]).length = j + 1 := fun s => by simp; omega
        have htq : (ix (ix progs (k : Int)).d (j : Int)).d.take (ix (ix progs (k : Int)).d (j : Int)).d.length = (ix (ix progs (k : Int)).d (j : Int)).d := List.take_length
        rw [htq] at *
        ((try simp only [WKb, ↓reduceIte, Nat.reduceEqDiff]) <;> (repeat' ((first
    | (refine G.tr ?_; first | (refine G.bs ?_; refine Tr.build1 (SL.mk xv ((ix (ix progs (k : Int)).d (j : Int)).d.map normS)) rfl rfl (by decide) fun _ => ?_) | refine S.a ?_ | refine S.t ?_ | refine Tr.brK ?_ ?_ | (refine G.call 69 ?_; refine S.c ?_ (h := cloneF_ok ?_)) | (refine G.call 70 ?_; refine S.c ?_ (h := snorm_ok)) | refine S.n fun _ => ?_ | refine S.i fun hix => ?_ | (refine S.g fun hb => ?_; (try simp only [hb])) | (refine S.s (fun hb => ?_) (fun hb => ?_) <;> ((try simp only [hb]) <;> (try (have hp := hb; simp only [WKs] at hp; (try have hq := Int.not_le.2 hp); (try have hq := Int.not_lt.2 hp))))))
    | rintro _ _ ⟨rfl, rfl⟩
    | rintro _ _ ⟨_, rfl, rfl⟩
    | ((fail_if_success refine G.tr ?_); exact G.prop S.p)
    | fail) <;> (try simp only [WKb, ↓reduceIte, Nat.reduceEqDiff, hw]))))
        all_goals
          refine foldProc hin1 (by (repeat (first | exact TakeA.here | apply TakeA.next)); done) (by (repeat (first | exact TakeA.here | apply TakeA.next)); done) ?_
          refine snocProc (s := xv) (d := (ix (ix progs (k : Int)).d (j : Int)).d.map normS) (by (repeat (first | exact TakeA.here | apply TakeA.next)); done) (by (repeat (first | exact TakeA.here | apply TakeA.next)); done) ?_
          clear hod hnt hld
          (apply Tr.againE ((j + 1, _, _)); (focus (simp only [WKb, ↓reduceIte, Nat.reduceEqDiff])); (focus ((try simp only [WKb, ↓reduceIte, Nat.reduceEqDiff]); (all_goals ((repeat (refine cons_eq (by first | rfl | (simp [*]; done)) ?_)); rfl)); done)); rotate_left 2; (focus (((try clear hK) <;> (try simp only [WKe, *]) <;> repeat (first | with_reducible exact EntR.done | refine S.e ?_ | (refine S.f ?_ <;> (try simp only [WKe, ↓reduceIte, reduceCtorEq, Int.reduceEq, *])) | with_reducible apply EntR.ex | refine EntR.drop (F := F) ?_ | refine EntR.drop ?_)))); (focus (first | omega | assumption | (simp only []; omega) | (refine ⟨by omega, by assumption⟩) | (simp only []; refine ⟨by omega, by assumption⟩) | ((try simp only []); (repeat' (first | omega | assumption | apply hld' | apply hll' | refine And.intro ?_ ?_)); done))); (focus (first | omega | (simp only []; omega))))
    · have hje : j = (ix progs (k : Int)).d.length := by omega
      subst hje
      rw [List.take_length] at hld
      have hod' : ∀ s : SV, progsD (outs ++ [SL.mk s ls]) = normD (progsD (progs.take (k + 1))) := fun s => by
        rw [progsD_snoc, hod, hnt, hld]
      have hol' : ∀ s : SV, (outs ++ [SL.mk s ls]).length = k + 1 := fun s => by simp; omega
      ((try simp only [WKb, ↓reduceIte, Nat.reduceEqDiff]) <;> (repeat' ((first
    | (refine G.tr ?_; first | (refine G.bs ?_; refine Tr.build1 (SL.mk lv ls) rfl rfl (by decide) fun _ => ?_) | refine S.a ?_ | refine S.t ?_ | refine Tr.brK ?_ ?_ | (refine G.call 69 ?_; refine S.c ?_ (h := cloneF_ok ?_)) | (refine G.call 70 ?_; refine S.c ?_ (h := snorm_ok)) | refine S.n fun _ => ?_ | refine S.i fun hix => ?_ | (refine S.g fun hb => ?_; (try simp only [hb])) | (refine S.s (fun hb => ?_) (fun hb => ?_) <;> ((try simp only [hb]) <;> (try (have hp := hb; simp only [WKs] at hp; (try have hq := Int.not_le.2 hp); (try have hq := Int.not_lt.2 hp))))))
    | rintro _ _ ⟨rfl, rfl⟩
    | rintro _ _ ⟨_, rfl, rfl⟩
    | ((fail_if_success refine G.tr ?_); exact G.prop S.p)
    | fail) <;> (try simp only [WKb, ↓reduceIte, Nat.reduceEqDiff, hw]))))
      all_goals
        refine foldProg hin (by (repeat (first | exact TakeA.here | apply TakeA.next)); done) (by (repeat (first | exact TakeA.here | apply TakeA.next)); done) (by (repeat (first | exact TakeA.here | apply TakeA.next)); done) ?_
        refine snocProg (s := lv) (d := ls) (by (repeat (first | exact TakeA.here | apply TakeA.next)); done) (by (repeat (first | exact TakeA.here | apply TakeA.next)); done) (by (repeat (first | exact TakeA.here | apply TakeA.next)); done) ?_
        clear hod hnt hld
        (apply Tr.againE ((k + 1, _, _)); (focus (simp only [WKb, ↓reduceIte, Nat.reduceEqDiff])); (focus ((try simp only [WKb, ↓reduceIte]); (all_goals ((repeat (refine cons_eq (by first | rfl | (simp [*]; done)) ?_)); rfl)); done)); rotate_left 2; (focus (((try clear hK) <;> (try simp only [WKe, *]) <;> repeat (first | with_reducible exact EntR.done | refine S.e ?_ | (refine S.f ?_ <;> (try simp only [WKe, ↓reduceIte, reduceCtorEq, Int.reduceEq, *])) | with_reducible apply EntR.ex | refine EntR.drop (F := F) ?_ | refine EntR.drop ?_)))); (focus (first | omega | assumption | (simp only []; omega) | (refine ⟨by omega, by assumption⟩) | (simp only []; refine ⟨by omega, by assumption⟩) | ((try simp only []); (repeat' (first | omega | assumption | apply hod' | apply hol' | refine And.intro ?_ ?_)); done))); (focus (first | omega | (simp only []; omega))))
  · have hke : k = progs.length := by omega
    subst hke
    have hfin : progsD outs = normD (progsD progs) := by rw [hod, List.take_length]
    ((try simp only [WKb, ↓reduceIte, Nat.reduceEqDiff]) <;> (repeat' ((first
    | (refine G.tr ?_; first | refine S.a ?_ | refine S.t ?_ | refine Tr.brK ?_ ?_ | (refine G.call 69 ?_; refine S.c ?_ (h := cloneF_ok ?_)) | (refine G.call 70 ?_; refine S.c ?_ (h := snorm_ok)) | refine S.n fun _ => ?_ | refine S.i fun hix => ?_ | (refine S.g fun hb => ?_; (try simp only [hb])) | (refine S.s (fun hb => ?_) (fun hb => ?_) <;> ((try simp only [hb]) <;> (try (have hp := hb; simp only [WKs] at hp; (try have hq := Int.not_le.2 hp); (try have hq := Int.not_lt.2 hp))))))
    | rintro _ _ ⟨rfl, rfl⟩
    | rintro _ _ ⟨_, rfl, rfl⟩
    | ((fail_if_success refine G.tr ?_); exact G.prop S.p)
    | fail) <;> (try simp only [WKb, ↓reduceIte, Nat.reduceEqDiff]))))
    all_goals
      apply Tr.fin hK ⟨_, _, _, hfin, rfl, rfl⟩
      ((try clear hK) <;> (try simp only [WKe, *]) <;> repeat (first | with_reducible exact EntR.done | refine S.e ?_ | (refine S.f ?_ <;> (try simp only [WKe, ↓reduceIte, reduceCtorEq, Int.reduceEq, *])) | with_reducible apply EntR.ex | refine EntR.drop (F := F) ?_ | refine EntR.drop ?_))

theorem snormAllR_ok {ro : Bool} {ps fs : SV} {progs : List ProgS} {frames : List FrameC} (hless : lessS progs) (_hfl : frames.length ≤ 1000000) :
    Trip Tryd.prog 34 [.agg [ps.v, fs.v].toArray].toArray [sl ro ps.v progs, famProg ro progs, sl ro fs.v frames]
      fun v l' => ∃ (o : SV) (outs : List ProgS), progsD outs = normD (progsD progs) ∧ v = .agg [o.v, fs.v].toArray ∧ l' = [sl false o.v outs, famProg false outs, sl ro ps.v progs, famProg ro progs, sl ro fs.v frames] := by
  intro F K hK
  simp only [List.cons_append, List.nil_append]
  (refine Tr.enter (rs := [.cell 2 48]) mixed fn34 rfl (by simp +arith [Tryd.ntmps34]) fun u => ?_; simp only [cd34, Tryd.f34])
  ((try simp only [WKb, ↓reduceIte]) <;> (repeat' ((first
    | (refine G.tr ?_; first | refine S.a ?_ | refine S.t ?_ | refine Tr.brK ?_ ?_ | (refine G.call 71 ?_; refine S.c ?_ (h := snormR_ok)) | refine S.n fun _ => ?_ | refine S.i fun hix => ?_ | (refine S.g fun hb => ?_; (try simp only [hb])) | (refine S.s (fun hb => ?_) (fun hb => ?_) <;> ((try simp only [hb]) <;> (try (have hp := hb; simp only [WKs] at hp; (try have hq := Int.not_le.2 hp); (try have hq := Int.not_lt.2 hp))))))
    | rintro _ _ ⟨rfl, rfl⟩
    | ((fail_if_success refine G.tr ?_); exact G.prop S.p)
    | fail) <;> (try simp only [WKb, WKh, ↓reduceIte, Nat.reduceEqDiff, Nat.reduceAdd]))))
  rename_i sb rb ob
  refine Tr.nilSl (α := ProgS) ?_
  refine Tr.imp (fam_nil (A := fun x : ProgS => sep (sl false x.s.v x.d) (famProc false x.d))) ?_
  refine Tr.loopE (α := Nat × SV × List ProgS) [4] [1, 2, 3] (fun x => [.int .i64 x.1]) (fun x => [blk ob (.cells [x.2.1.v, fs.v].toArray 48 (0, 0)), sl false x.2.1.v x.2.2, famProg false x.2.2, blk sb (.cells [ps.v, fs.v].toArray 48 (0, 0)), sl ro ps.v progs, famProg ro progs]) (fun x => x.1 ≤ progs.length ∧ x.2.2.length = x.1 ∧ progsD x.2.2 = normD (progsD (progs.take x.1))) (fun x => progs.length - x.1) (0, ⟨none, 0, 0⟩, []) (by (repeat (first | exact TakeL.nil | (apply TakeL.cons; focus ((first | exact TakeA.dupS | exact TakeA.dupF | ((repeat (first | with_reducible exact TakeA.here | exact TakeA.fam (by omega) (by omega) | with_reducible apply TakeA.next)); done) | ((repeat (first | exact TakeA.here | apply TakeA.next)); done) | exact TakeA.famNil | exact TakeA.nilS))) | fail)); done) rfl ⟨Nat.zero_le _, rfl, rfl⟩ fun x u hx => ?_
  obtain ⟨k, o, outs⟩ := x
  simp only at hx ⊢
  obtain ⟨hk, hol, hod⟩ := hx
  have hpl := hless.1
  by_cases hin : k < progs.length
  · have hw := wrapSucc (k := k) (by omega)
    have ⟨hdl, hql⟩ := hless.2 _ (ix_mem hin)
    have hnt := normD_take hin
    simp only [List.cons_append, List.nil_append]
    refine Tr.famAt (xs := progs) (k : Int) (by (repeat (first | exact TakeA.here | apply TakeA.next)); done) (by omega) (by omega) ?_
    refine Tr.sep_iff.2 ?_
    ((try simp only [WKb, ↓reduceIte, Nat.reduceEqDiff]) <;> (repeat' ((first
    | (refine G.tr ?_; first | refine S.a ?_ | refine S.t ?_ | refine Tr.brK ?_ ?_ | (refine G.call 71 ?_; refine S.c ?_ (h := snormR_ok)) | refine S.n fun _ => ?_ | refine S.i fun hix => ?_ | (refine S.g fun hb => ?_; (try simp only [hb])) | (refine S.s (fun hb => ?_) (fun hb => ?_) <;> ((try simp only [hb]) <;> (try (have hp := hb; simp only [WKs] at hp; (try have hq := Int.not_le.2 hp); (try have hq := Int.not_lt.2 hp))))))
    | rintro _ _ ⟨rfl, rfl⟩
    | ((fail_if_success refine G.tr ?_); exact G.prop S.p)
    | fail) <;> (try simp only [WKb, ↓reduceIte, Nat.reduceEqDiff]))))
    refine Tr.nilSl (α := ProcS) ?_
    refine Tr.imp (fam_nil (A := fun x : ProcS => sl false x.s.v x.d)) ?_
    refine Tr.loopE (α := Nat × SV × List ProcS) [5, 6] [1, 2, 3, 4] (fun x => [x.2.1.v, .int .i64 x.1]) (fun x => [sl false x.2.1.v x.2.2, famProc false x.2.2, blk sb (.cells [ps.v, fs.v].toArray 48 (0, 0)), sl ro ps.v progs, sl ro (ix progs (k : Int)).s.v (ix progs (k : Int)).d, famProc ro (ix progs (k : Int)).d]) (fun x => x.1 ≤ (ix progs (k : Int)).d.length ∧ x.2.2.length = x.1 ∧ x.2.2.map SL.d = ((ix progs (k : Int)).d.take x.1).map fun q => q.d.map normS) (fun x => (ix progs (k : Int)).d.length - x.1) (0, ⟨none, 0, 0⟩, []) (by (repeat (first | exact TakeL.nil | (apply TakeL.cons; focus ((first | exact TakeA.dupS | exact TakeA.dupF | ((repeat (first | with_reducible exact TakeA.here | exact TakeA.fam (by omega) (by omega) | with_reducible apply TakeA.next)); done) | ((repeat (first | exact TakeA.here | apply TakeA.next)); done) | exact TakeA.famNil | exact TakeA.nilS))) | fail)); done) rfl ⟨Nat.zero_le _, rfl, rfl⟩ fun x u hx => ?_
    obtain ⟨j, lv, ls⟩ := x
    simp only at hx ⊢
    obtain ⟨hj, hll, hld⟩ := hx
    by_cases hin1 : j < (ix progs (k : Int)).d.length
    · have hwk := hw
      have hw := wrapSucc (k := j) (by omega)
      have hq1 := hql _ (ix_mem hin1)
      simp only [List.cons_append, List.nil_append]
      refine Tr.famAt (xs := (ix progs (k : Int)).d) (j : Int) (by (repeat (first | exact TakeA.here | apply TakeA.next)); done) (by omega) (by omega) ?_
      ((try simp only [WKb, ↓reduceIte, Nat.reduceEqDiff]) <;> (repeat' ((first
    | (refine G.tr ?_; first | refine S.a ?_ | refine S.t ?_ | refine Tr.brK ?_ ?_ | (refine G.call 71 ?_; refine S.c ?_ (h := snormR_ok)) | refine S.n fun _ => ?_ | refine S.i fun hix => ?_ | (refine S.g fun hb => ?_; (try simp only [hb])) | (refine S.s (fun hb => ?_) (fun hb => ?_) <;> ((try simp only [hb]) <;> (try (have hp := hb; simp only [WKs] at hp; (try have hq := Int.not_le.2 hp); (try have hq := Int.not_lt.2 hp))))))
    | rintro _ _ ⟨rfl, rfl⟩
    | ((fail_if_success refine G.tr ?_); exact G.prop S.p)
    | fail) <;> (try simp only [WKb, ↓reduceIte, Nat.reduceEqDiff]))))
      refine Tr.nilSl (α := StepC) ?_
      refine Tr.loopE (α := Nat × SV) [7, 8] [1, 2, 3, 4, 5, 6] (fun x => [x.2.v, .int .i64 x.1]) (fun x => [sl false x.2.v (((ix (ix progs (k : Int)).d (j : Int)).d.take x.1).map normS), blk sb (.cells [ps.v, fs.v].toArray 48 (0, 0)), sl ro ps.v progs, sl ro (ix progs (k : Int)).s.v (ix progs (k : Int)).d, sl ro (ix (ix progs (k : Int)).d (j : Int)).s.v (ix (ix progs (k : Int)).d (j : Int)).d]) (fun x => x.1 ≤ (ix (ix progs (k : Int)).d (j : Int)).d.length) (fun x => (ix (ix progs (k : Int)).d (j : Int)).d.length - x.1) (0, ⟨none, 0, 0⟩) (by (repeat (first | exact TakeL.nil | (apply TakeL.cons; focus ((first | exact TakeA.dupS | exact TakeA.dupF | ((repeat (first | with_reducible exact TakeA.here | exact TakeA.fam (by omega) (by omega) | with_reducible apply TakeA.next)); done) | ((repeat (first | exact TakeA.here | apply TakeA.next)); done) | exact TakeA.famNil | exact TakeA.nilS))) | fail)); done) rfl (Nat.zero_le _) fun x u hx => ?_
      obtain ⟨i, xv⟩ := x
      simp only at hx ⊢
      have hxl : (((ix (ix progs (k : Int)).d (j : Int)).d.take i).map normS).length = i := by rw [List.length_map, List.length_take]; omega
      by_cases hin2 : i < (ix (ix progs (k : Int)).d (j : Int)).d.length
      · have hwj := hw
        have hw := wrapSucc (k := i) (by omega)
        have hz2 : ((ix (ix progs (k : Int)).d (j : Int)).d.take i).map normS ++ [normS (ix (ix (ix progs (k : Int)).d (j : Int)).d (i : Int))] = ((ix (ix progs (k : Int)).d (j : Int)).d.take (i + 1)).map normS := by rw [take_ix hin2, List.map_append]; rfl
        ((try simp only [WKb, ↓reduceIte, Nat.reduceEqDiff]) <;> (repeat' ((first
    | (refine G.tr ?_; first | refine S.a ?_ | refine S.t ?_ | refine Tr.brK ?_ ?_ | (refine G.call 71 ?_; refine S.c ?_ (h := snormR_ok)) | refine S.n fun _ => ?_ | refine S.i fun hix => ?_ | (refine S.g fun hb => ?_; (try simp only [hb])) | (refine S.s (fun hb => ?_) (fun hb => ?_) <;> ((try simp only [hb]) <;> (try (have hp := hb; simp only [WKs] at hp; (try have hq := Int.not_le.2 hp); (try have hq := Int.not_lt.2 hp))))))
    | rintro _ _ ⟨rfl, rfl⟩
    | ((fail_if_success refine G.tr ?_); exact G.prop S.p)
    | fail) <;> (try simp only [WKb, ↓reduceIte, Nat.reduceEqDiff, hw, hz2]))))
        all_goals
          clear hld hod hnt
          (apply Tr.againE ((i + 1, _)); (focus (simp only [WKb, ↓reduceIte, Nat.reduceEqDiff])); (focus ((try simp only [WKb, ↓reduceIte, Nat.reduceEqDiff]); (all_goals ((repeat (refine cons_eq (by first | rfl | (simp [*]; done)) ?_)); rfl)); done)); rotate_left 2; (focus (((try clear hK) <;> (try simp only [WKe, *]) <;> repeat (first | with_reducible exact EntR.done | refine S.e ?_ | (refine S.f ?_ <;> (try simp only [WKe, ↓reduceIte, reduceCtorEq, Int.reduceEq, *])) | with_reducible apply EntR.ex | refine EntR.drop (F := F) ?_ | refine EntR.drop ?_)))); (focus (first | omega | assumption | (simp only []; omega) | (refine ⟨by omega, by assumption⟩) | (simp only []; refine ⟨by omega, by assumption⟩) | ((try simp only []); (repeat' (first | omega | assumption | refine And.intro ?_ ?_)); done))); (focus (first | omega | (simp only []; omega))))
      · have hie : i = (ix (ix progs (k : Int)).d (j : Int)).d.length := by omega
        subst hie
        have hld' : ∀ s : SV, (ls ++ [SL.mk s ((ix (ix progs (k : Int)).d (j : Int)).d.map normS)]).map SL.d = ((ix progs (k : Int)).d.take (j + 1)).map fun q => q.d.map normS := fun s => by
          rw [List.map_append, hld, take_ix hin1, List.map_append]; rfl
        have hll' : ∀ s : SV, (ls ++ [SL.mk s ((ix (ix progs (k : Int)).d (j : Int)).d.map normS)]).length = j + 1 := fun s => by simp; omega
        have htq : (ix (ix progs (k : Int)).d (j : Int)).d.take (ix (ix progs (k : Int)).d (j : Int)).d.length = (ix (ix progs (k : Int)).d (j : Int)).d := List.take_length
        rw [htq] at *
        ((try simp only [WKb, ↓reduceIte, Nat.reduceEqDiff]) <;> (repeat' ((first
    | (refine G.tr ?_; first | (refine G.bs ?_; refine Tr.build1 (SL.mk xv ((ix (ix progs (k : Int)).d (j : Int)).d.map normS)) rfl rfl (by decide) fun _ => ?_) | refine S.a ?_ | refine S.t ?_ | refine Tr.brK ?_ ?_ | (refine G.call 71 ?_; refine S.c ?_ (h := snormR_ok)) | refine S.n fun _ => ?_ | refine S.i fun hix => ?_ | (refine S.g fun hb => ?_; (try simp only [hb])) | (refine S.s (fun hb => ?_) (fun hb => ?_) <;> ((try simp only [hb]) <;> (try (have hp := hb; simp only [WKs] at hp; (try have hq := Int.not_le.2 hp); (try have hq := Int.not_lt.2 hp))))))
    | rintro _ _ ⟨rfl, rfl⟩
    | ((fail_if_success refine G.tr ?_); exact G.prop S.p)
    | fail) <;> (try simp only [WKb, ↓reduceIte, Nat.reduceEqDiff, hw]))))
        all_goals
          refine foldProc hin1 (by (repeat (first | exact TakeA.here | apply TakeA.next)); done) (by (repeat (first | exact TakeA.here | apply TakeA.next)); done) ?_
          refine snocProc (s := xv) (d := (ix (ix progs (k : Int)).d (j : Int)).d.map normS) (by (repeat (first | exact TakeA.here | apply TakeA.next)); done) (by (repeat (first | exact TakeA.here | apply TakeA.next)); done) ?_
          clear hod hnt hld
          (apply Tr.againE ((j + 1, _, _)); (focus (simp only [WKb, ↓reduceIte, Nat.reduceEqDiff])); (focus ((try simp only [WKb, ↓reduceIte, Nat.reduceEqDiff]); (all_goals ((repeat (refine cons_eq (by first | rfl | (simp [*]; done)) ?_)); rfl)); done)); rotate_left 2; (focus (((try clear hK) <;> (try simp only [WKe, *]) <;> repeat (first | with_reducible exact EntR.done | refine S.e ?_ | (refine S.f ?_ <;> (try simp only [WKe, ↓reduceIte, reduceCtorEq, Int.reduceEq, *])) | with_reducible apply EntR.ex | refine EntR.drop (F := F) ?_ | refine EntR.drop ?_)))); (focus (first | omega | assumption | (simp only []; omega) | (refine ⟨by omega, by assumption⟩) | (simp only []; refine ⟨by omega, by assumption⟩) | ((try simp only []); (repeat' (first | omega | assumption | apply hld' | apply hll' | refine And.intro ?_ ?_)); done))); (focus (first | omega | (simp only []; omega))))
    · have hje : j = (ix progs (k : Int)).d.length := by omega
      subst hje
      rw [List.take_length] at hld
      have hod' : ∀ s : SV, progsD (outs ++ [SL.mk s ls]) = normD (progsD (progs.take (k + 1))) := fun s => by
        rw [progsD_snoc, hod, hnt, hld]
      have hol' : ∀ s : SV, (outs ++ [SL.mk s ls]).length = k + 1 := fun s => by simp; omega
      ((try simp only [WKb, ↓reduceIte, Nat.reduceEqDiff]) <;> (repeat' ((first
    | (refine G.tr ?_; first | (refine G.bs ?_; refine Tr.build1 (SL.mk lv ls) rfl rfl (by decide) fun _ => ?_) | refine S.a ?_ | refine S.t ?_ | refine Tr.brK ?_ ?_ | (refine G.call 71 ?_; refine S.c ?_ (h := snormR_ok)) | refine S.n fun _ => ?_ | refine S.i fun hix => ?_ | (refine S.g fun hb => ?_; (try simp only [hb])) | (refine S.s (fun hb => ?_) (fun hb => ?_) <;> ((try simp only [hb]) <;> (try (have hp := hb; simp only [WKs] at hp; (try have hq := Int.not_le.2 hp); (try have hq := Int.not_lt.2 hp))))))
    | rintro _ _ ⟨rfl, rfl⟩
    | ((fail_if_success refine G.tr ?_); exact G.prop S.p)
    | fail) <;> (try simp only [WKb, ↓reduceIte, Nat.reduceEqDiff, hw]))))
      all_goals
        refine foldProg hin (by (repeat (first | exact TakeA.here | apply TakeA.next)); done) (by (repeat (first | exact TakeA.here | apply TakeA.next)); done) (by (repeat (first | exact TakeA.here | apply TakeA.next)); done) ?_
        refine snocProg (s := lv) (d := ls) (by (repeat (first | exact TakeA.here | apply TakeA.next)); done) (by (repeat (first | exact TakeA.here | apply TakeA.next)); done) (by (repeat (first | exact TakeA.here | apply TakeA.next)); done) ?_
        clear hod hnt hld
        (apply Tr.againE ((k + 1, _, _)); (focus (simp only [WKb, ↓reduceIte, Nat.reduceEqDiff])); (focus ((try simp only [WKb, ↓reduceIte]); (all_goals ((repeat (refine cons_eq (by first | rfl | (simp [*]; done)) ?_)); rfl)); done)); rotate_left 2; (focus (((try clear hK) <;> (try simp only [WKe, *]) <;> repeat (first | with_reducible exact EntR.done | refine S.e ?_ | (refine S.f ?_ <;> (try simp only [WKe, ↓reduceIte, reduceCtorEq, Int.reduceEq, *])) | with_reducible apply EntR.ex | refine EntR.drop (F := F) ?_ | refine EntR.drop ?_)))); (focus (first | omega | assumption | (simp only []; omega) | (refine ⟨by omega, by assumption⟩) | (simp only []; refine ⟨by omega, by assumption⟩) | ((try simp only []); (repeat' (first | omega | assumption | apply hod' | apply hol' | refine And.intro ?_ ?_)); done))); (focus (first | omega | (simp only []; omega))))
  · have hke : k = progs.length := by omega
    subst hke
    have hfin : progsD outs = normD (progsD progs) := by rw [hod, List.take_length]
    ((try simp only [WKb, ↓reduceIte, Nat.reduceEqDiff]) <;> (repeat' ((first
    | (refine G.tr ?_; first | refine S.a ?_ | refine S.t ?_ | refine Tr.brK ?_ ?_ | (refine G.call 71 ?_; refine S.c ?_ (h := snormR_ok)) | refine S.n fun _ => ?_ | refine S.i fun hix => ?_ | (refine S.g fun hb => ?_; (try simp only [hb])) | (refine S.s (fun hb => ?_) (fun hb => ?_) <;> ((try simp only [hb]) <;> (try (have hp := hb; simp only [WKs] at hp; (try have hq := Int.not_le.2 hp); (try have hq := Int.not_lt.2 hp))))))
    | rintro _ _ ⟨rfl, rfl⟩
    | ((fail_if_success refine G.tr ?_); exact G.prop S.p)
    | fail) <;> (try simp only [WKb, ↓reduceIte, Nat.reduceEqDiff]))))
    all_goals
      apply Tr.fin hK ⟨_, _, hfin, rfl, rfl⟩
      ((try clear hK) <;> (try simp only [WKe, *]) <;> repeat (first | with_reducible exact EntR.done | refine S.e ?_ | (refine S.f ?_ <;> (try simp only [WKe, ↓reduceIte, reduceCtorEq, Int.reduceEq, *])) | with_reducible apply EntR.ex | refine EntR.drop (F := F) ?_ | refine EntR.drop ?_))

end Go.Proofs.YtgkhjgpgdfbdpaaDoor
