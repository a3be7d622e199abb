import Derived.Test.YtgkhjgpgdfbdpaaDoorSJ
namespace Go.Proofs.YtgkhjgpgdfbdpaaDoor
open Go Go.Wk
set_option maxHeartbeats 6400000
set_option maxRecDepth 100000

/-- Few partitions, processes, steps and frames. -/
def fewP (p : ProgS) : Prop := p.d.length ≤ 40 ∧ ∀ q ∈ p.d, q.d.length ≤ 200
def fewS (progs : List ProgS) (frames : List FrameC) : Prop := progs.length ≤ 40 ∧ frames.length ≤ 3000 ∧ ∀ p ∈ progs, fewP p
theorem mem_ix {α : Type} [Inhabited α] {xs : List α} {x : α} (h : x ∈ xs) : ∃ k : Nat, k < xs.length ∧ ix xs (k : Int) = x := by
  obtain ⟨k, hk, he⟩ := List.getElem_of_mem h
  have := ix_some (xs := xs) (k := (k : Int)) (by omega) (by omega)
  rw [Int.toNat_natCast, List.getElem?_eq_getElem hk] at this
  exact ⟨k, hk, by rw [← Option.some.inj this]; exact he⟩
theorem few_less {progs : List ProgS} {frames : List FrameC} (h : fewS progs frames) : lessS progs := ⟨by have := h.1; omega, fun p hp => ⟨by have := (h.2.2 p hp).1; omega, fun q hq => by have := (h.2.2 p hp).2 q hq; omega⟩⟩
theorem sum_le {l : List Nat} {n : Nat} (h : ∀ x ∈ l, x ≤ n) : l.sum ≤ l.length * n := by
  induction l with
  | nil => simp
  | cons x l ih =>
    have h1 := h x (by simp)
    have h2 := ih fun y hy => h y (by simp [hy])
    simp only [List.sum_cons, List.length_cons, Nat.succ_mul]
    omega
theorem few_steps {progs : List ProgS} {frames : List FrameC} (h : fewS progs frames) : stepsN progs ≤ 1000000000 := by
  unfold stepsN
  have := sum_le (l := progs.map sumP) (n := 8000) fun x hx => by
    obtain ⟨p, hp, rfl⟩ := List.mem_map.1 hx
    unfold sumP
    obtain ⟨h1, h2⟩ := h.2.2 p hp
    have := sum_le (l := p.d.map fun q => q.d.length) (n := 200) fun y hy => by
      obtain ⟨q, hq, rfl⟩ := List.mem_map.1 hy
      exact h2 q hq
    rw [List.length_map] at this
    omega
  rw [List.length_map] at this
  have := h.1
  omega
attribute [local irreducible] BrK GenK EGenK EUnitK CallK FnK CallV GuardO GuardC CondW opX opK opKc chkR eqR seqK blkK endL WL WD W LoopW BinK Tr drewK resL PickK NotK NilK ExtrK getK Instr.storeAt Instr.loadAt Instr.fieldAt Instr.indexAt Instr.lookup Instr.mapUpdate Instr.box Instr.alloc Instr.build Instr.buildSlice Instr.makeSlice Instr.makeMap Instr.sliceAt Instr.field Instr.index Instr.makeInterface Instr.typeAssert Builtin.len_ Builtin.append_ Builtin.cap_ Builtin.min_ Builtin.max_ Builtin.copy_ Builtin.clear_ convert binOp mp blk rob sl sep ex fact old
attribute [local irreducible] NegK mxV bufT bldB nz stB stepsN
open Classical in
theorem few_ok {ro : Bool} {ps fs : SV} {progs : List ProgS} {frames : List FrameC} : Trip Tryd.prog 28 [.agg [ps.v, fs.v].toArray].toArray [sl ro ps.v progs, famProg ro progs, sl ro fs.v frames]
    fun u l' => u = .bool (decide (fewS progs frames)) ∧ l' = [sl ro ps.v progs, famProg ro progs, sl ro fs.v frames] := by
  intro F K hK
  simp only [List.cons_append, List.nil_append]
  have fin0 : ∀ l : List Asrt, ¬ fewS progs frames → EntR [] l (sl ro ps.v progs :: famProg ro progs :: sl ro fs.v frames :: F) → Tr l (K (.bool false)) := fun l h he => Tr.fin hK ⟨by rw [decide_eq_false h], rfl⟩ he
  (refine Tr.enter (rs := [.tmp 2]) mixed fn28 rfl (by simp +arith [Tryd.ntmps28]) fun u => ?_; simp only [cd28, Tryd.f28])
  by_cases h1 : progs.length ≤ 40
  · by_cases h2 : frames.length ≤ 3000
    · ((try simp only [WKb, ↓reduceIte]) <;> (repeat' ((first
    | (refine G.tr ?_; first | refine S.a ?_ | refine S.t ?_ | refine Tr.brK ?_ ?_ | refine S.n fun _ => ?_ | refine S.i fun hix => ?_ | (refine S.g fun hb => ?_; (try simp only [hb])) | (refine S.s (fun hb => ?_) (fun hb => ?_) <;> ((try simp only [hb]) <;> (try (have hp := hb; simp only [WKs] at hp; (try have hq := Int.not_le.2 hp); (try have hq := Int.not_lt.2 hp))))))
    | ((fail_if_success refine G.tr ?_); exact G.prop S.p)
    | fail) <;> (try simp only [WKb, ↓reduceIte, Nat.reduceEqDiff]))))
      rename_i sb
      refine Tr.loopE (α := Nat) [2, 3] [1] (fun k => [.bool false, .int .i64 k]) (fun _ => [blk sb (.cells [ps.v, fs.v].toArray 48 (0, 0)), sl ro ps.v progs, famProg ro progs]) (fun k => k ≤ progs.length ∧ ∀ j : Nat, j < k → fewP (ix progs (j : Int))) (fun k => progs.length - k) 0 (by (repeat (first | exact TakeL.nil | (apply TakeL.cons; focus ((first | exact TakeA.dupS | exact TakeA.dupF | ((repeat (first | with_reducible exact TakeA.here | exact TakeA.fam (by omega) (by omega) | with_reducible apply TakeA.next)); done) | ((repeat (first | exact TakeA.here | apply TakeA.next)); done) | exact TakeA.famNil | exact TakeA.nilS))) | fail)); done) rfl ⟨Nat.zero_le _, fun j hj => by omega⟩ fun k u hx => ?_
      obtain ⟨hk, hn⟩ := hx
      by_cases hin : k < progs.length
      · have hw := wrapSucc (k := k) (by omega)
        simp only [List.cons_append, List.nil_append]
        refine Tr.famAt (xs := progs) (k : Int) (by (repeat (first | exact TakeA.here | apply TakeA.next)); done) (by omega) (by omega) ?_
        refine Tr.sep_iff.2 ?_
        by_cases h3 : (ix progs (k : Int)).d.length ≤ 40
        · ((try simp only [WKb, ↓reduceIte, Nat.reduceEqDiff]) <;> (repeat' ((first
    | (refine G.tr ?_; first | refine S.a ?_ | refine S.t ?_ | refine Tr.brK ?_ ?_ | refine S.n fun _ => ?_ | refine S.i fun hix => ?_ | (refine S.g fun hb => ?_; (try simp only [hb])) | (refine S.s (fun hb => ?_) (fun hb => ?_) <;> ((try simp only [hb]) <;> (try (have hp := hb; simp only [WKs] at hp; (try have hq := Int.not_le.2 hp); (try have hq := Int.not_lt.2 hp))))))
    | ((fail_if_success refine G.tr ?_); exact G.prop S.p)
    | fail) <;> (try simp only [WKb, ↓reduceIte, Nat.reduceEqDiff]))))
          refine Tr.loopE (α := Nat) [2, 4] [1, 3] (fun j => [.bool false, .int .i64 j]) (fun _ => [blk sb (.cells [ps.v, fs.v].toArray 48 (0, 0)), sl ro ps.v progs, sl ro (ix progs (k : Int)).s.v (ix progs (k : Int)).d, famProc ro (ix progs (k : Int)).d]) (fun j => j ≤ (ix progs (k : Int)).d.length ∧ ∀ i : Nat, i < j → (ix (ix progs (k : Int)).d (i : Int)).d.length ≤ 200) (fun j => (ix progs (k : Int)).d.length - j) 0 (by (repeat (first | exact TakeL.nil | (apply TakeL.cons; focus ((first | exact TakeA.dupS | exact TakeA.dupF | ((repeat (first | with_reducible exact TakeA.here | exact TakeA.fam (by omega) (by omega) | with_reducible apply TakeA.next)); done) | ((repeat (first | exact TakeA.here | apply TakeA.next)); done) | exact TakeA.famNil | exact TakeA.nilS))) | fail)); done) rfl ⟨Nat.zero_le _, fun j hj => by omega⟩ fun j u hx => ?_
          obtain ⟨hj, hnj⟩ := hx
          by_cases hin1 : j < (ix progs (k : Int)).d.length
          · have hwk := hw
            have hw := wrapSucc (k := j) (by omega)
            simp only [List.cons_append, List.nil_append]
            refine Tr.famAt (xs := (ix progs (k : Int)).d) (j : Int) (by (repeat (first | exact TakeA.here | apply TakeA.next)); done) (by omega) (by omega) ?_
            by_cases h4 : (ix (ix progs (k : Int)).d (j : Int)).d.length ≤ 200
            · have hn' : ∀ i : Nat, i < j + 1 → (ix (ix progs (k : Int)).d (i : Int)).d.length ≤ 200 := fun i hi => by
                by_cases hij : i < j
                · exact hnj i hij
                · have : i = j := by omega
                  subst this; exact h4
              ((try simp only [WKb, ↓reduceIte, Nat.reduceEqDiff]) <;> (repeat' ((first
    | (refine G.tr ?_; first | refine S.a ?_ | refine S.t ?_ | refine Tr.brK ?_ ?_ | refine S.n fun _ => ?_ | refine S.i fun hix => ?_ | (refine S.g fun hb => ?_; (try simp only [hb])) | (refine S.s (fun hb => ?_) (fun hb => ?_) <;> ((try simp only [hb]) <;> (try (have hp := hb; simp only [WKs] at hp; (try have hq := Int.not_le.2 hp); (try have hq := Int.not_lt.2 hp))))))
    | ((fail_if_success refine G.tr ?_); exact G.prop S.p)
    | fail) <;> (try simp only [WKb, ↓reduceIte, Nat.reduceEqDiff, hw]))))
              all_goals
                refine foldProc hin1 (by (repeat (first | exact TakeA.here | apply TakeA.next)); done) (by (repeat (first | exact TakeA.here | apply TakeA.next)); done) ?_
                clear hnj hn h4
                (apply Tr.againE (j + 1); (focus (simp only [WKb, ↓reduceIte, Nat.reduceEqDiff])); (focus ((try simp only [WKb, ↓reduceIte, Nat.reduceEqDiff]); (all_goals ((repeat (refine cons_eq (by first | rfl | (simp [*]; done)) ?_)); rfl)); done)); (focus (first | omega | assumption | (simp only []; omega) | (refine ⟨by omega, by assumption⟩) | (simp only []; refine ⟨by omega, by assumption⟩) | ((try simp only []); (repeat' (first | omega | assumption | apply hn' | refine And.intro ?_ ?_)); done))); (focus (first | omega | (simp only []; omega))); (focus (((try clear hK) <;> (try simp only [WKe, *]) <;> repeat (first | with_reducible exact EntR.done | refine S.e ?_ | (refine S.f ?_ <;> (try simp only [WKe, ↓reduceIte, reduceCtorEq, Int.reduceEq, *])) | with_reducible apply EntR.ex | refine EntR.drop (F := F) ?_ | refine EntR.drop ?_)))))
            · have hno : ¬ fewS progs frames := fun h => h4 ((h.2.2 _ (ix_mem hin)).2 _ (ix_mem hin1))
              ((try simp only [WKb, ↓reduceIte, Nat.reduceEqDiff]) <;> (repeat' ((first
    | (refine G.tr ?_; first | refine S.a ?_ | refine S.t ?_ | refine Tr.brK ?_ ?_ | refine S.n fun _ => ?_ | refine S.i fun hix => ?_ | (refine S.g fun hb => ?_; (try simp only [hb])) | (refine S.s (fun hb => ?_) (fun hb => ?_) <;> ((try simp only [hb]) <;> (try (have hp := hb; simp only [WKs] at hp; (try have hq := Int.not_le.2 hp); (try have hq := Int.not_lt.2 hp))))))
    | ((fail_if_success refine G.tr ?_); exact G.prop S.p)
    | fail) <;> (try simp only [WKb, ↓reduceIte, Nat.reduceEqDiff]))))
              all_goals
                refine foldProc hin1 (by (repeat (first | exact TakeA.here | apply TakeA.next)); done) (by (repeat (first | exact TakeA.here | apply TakeA.next)); done) ?_
                refine foldProg hin (by (repeat (first | exact TakeA.here | apply TakeA.next)); done) (by (repeat (first | exact TakeA.here | apply TakeA.next)); done) (by (repeat (first | exact TakeA.here | apply TakeA.next)); done) ?_
                refine fin0 _ hno ?_
                ((try clear hK) <;> (try simp only [WKe, ↓reduceIte, reduceCtorEq, Int.reduceEq, *]) <;> repeat (first | with_reducible exact EntR.done | refine S.e ?_ | (refine S.f ?_ <;> (try simp only [WKe, ↓reduceIte, reduceCtorEq, Int.reduceEq, *])) | with_reducible apply EntR.ex | refine EntR.drop (F := F) ?_ | refine EntR.drop ?_))
          · have hje : j = (ix progs (k : Int)).d.length := by omega
            subst hje
            have hfp : fewP (ix progs (k : Int)) := ⟨h3, fun q hq => by obtain ⟨i, hi, rfl⟩ := mem_ix hq; exact hnj i hi⟩
            have hn' : ∀ m : Nat, m < k + 1 → fewP (ix progs (m : Int)) := fun m hm => by
              by_cases hmk : m < k
              · exact hn m hmk
              · have : m = k := by omega
                subst this; exact hfp
            clear hnj hfp
            ((try simp only [WKb, ↓reduceIte, Nat.reduceEqDiff]) <;> (repeat' ((first
    | (refine G.tr ?_; first | refine S.a ?_ | refine S.t ?_ | refine Tr.brK ?_ ?_ | refine S.n fun _ => ?_ | refine S.i fun hix => ?_ | (refine S.g fun hb => ?_; (try simp only [hb])) | (refine S.s (fun hb => ?_) (fun hb => ?_) <;> ((try simp only [hb]) <;> (try (have hp := hb; simp only [WKs] at hp; (try have hq := Int.not_le.2 hp); (try have hq := Int.not_lt.2 hp))))))
    | ((fail_if_success refine G.tr ?_); exact G.prop S.p)
    | fail) <;> (try simp only [WKb, ↓reduceIte, Nat.reduceEqDiff, hw]))))
            all_goals
              refine foldProg hin (by (repeat (first | exact TakeA.here | apply TakeA.next)); done) (by (repeat (first | exact TakeA.here | apply TakeA.next)); done) (by (repeat (first | exact TakeA.here | apply TakeA.next)); done) ?_
              clear hn
              (apply Tr.againE (k + 1); (focus (simp only [WKb, ↓reduceIte, Nat.reduceEqDiff])); (focus ((try simp only [WKb, ↓reduceIte, Nat.reduceEqDiff]); (all_goals ((repeat (refine cons_eq (by first | rfl | (simp [*]; done)) ?_)); rfl)); done)); (focus (first | omega | assumption | (simp only []; omega) | (refine ⟨by omega, by assumption⟩) | (simp only []; refine ⟨by omega, by assumption⟩) | ((try simp only []); (repeat' (first | omega | assumption | apply hn' | refine And.intro ?_ ?_)); done))); (focus (first | omega | (simp only []; omega))); (focus (((try clear hK) <;> (try simp only [WKe, *]) <;> repeat (first | with_reducible exact EntR.done | refine S.e ?_ | (refine S.f ?_ <;> (try simp only [WKe, ↓reduceIte, reduceCtorEq, Int.reduceEq, *])) | with_reducible apply EntR.ex | refine EntR.drop (F := F) ?_ | refine EntR.drop ?_)))))
        · have hno : ¬ fewS progs frames := fun h => h3 (h.2.2 _ (ix_mem hin)).1
          have h3' : (40 : Int) < (ix progs (k : Int)).d.length := by omega
          ((try simp only [WKb, ↓reduceIte, Nat.reduceEqDiff]) <;> (repeat' ((first
    | (refine G.tr ?_; first | refine S.a ?_ | refine S.t ?_ | refine Tr.brK ?_ ?_ | refine S.n fun _ => ?_ | refine S.i fun hix => ?_ | (refine S.g fun hb => ?_; (try simp only [hb])) | (refine S.s (fun hb => ?_) (fun hb => ?_) <;> ((try simp only [hb]) <;> (try (have hp := hb; simp only [WKs] at hp; (try have hq := Int.not_le.2 hp); (try have hq := Int.not_lt.2 hp))))))
    | ((fail_if_success refine G.tr ?_); exact G.prop S.p)
    | fail) <;> (try simp only [WKb, ↓reduceIte, Nat.reduceEqDiff]))))
          all_goals
            refine foldProg hin (by (repeat (first | exact TakeA.here | apply TakeA.next)); done) (by (repeat (first | exact TakeA.here | apply TakeA.next)); done) (by (repeat (first | exact TakeA.here | apply TakeA.next)); done) ?_
            refine fin0 _ hno ?_
            ((try clear hK) <;> (try simp only [WKe, ↓reduceIte, reduceCtorEq, Int.reduceEq, *]) <;> repeat (first | with_reducible exact EntR.done | refine S.e ?_ | (refine S.f ?_ <;> (try simp only [WKe, ↓reduceIte, reduceCtorEq, Int.reduceEq, *])) | with_reducible apply EntR.ex | refine EntR.drop (F := F) ?_ | refine EntR.drop ?_))
      · have hke : k = progs.length := by omega
        subst hke
        have hyes : fewS progs frames := ⟨h1, h2, fun p hp => by obtain ⟨i, hi, rfl⟩ := mem_ix hp; exact hn i hi⟩
        have hd : decide (fewS progs frames) = true := decide_eq_true hyes
        clear hn hyes
        ((try simp only [WKb, ↓reduceIte, Nat.reduceEqDiff]) <;> (repeat' ((first
    | (refine G.tr ?_; first | refine S.a ?_ | refine S.t ?_ | refine Tr.brK ?_ ?_ | refine S.n fun _ => ?_ | refine S.i fun hix => ?_ | (refine S.g fun hb => ?_; (try simp only [hb])) | (refine S.s (fun hb => ?_) (fun hb => ?_) <;> ((try simp only [hb]) <;> (try (have hp := hb; simp only [WKs] at hp; (try have hq := Int.not_le.2 hp); (try have hq := Int.not_lt.2 hp))))))
    | ((fail_if_success refine G.tr ?_); exact G.prop S.p)
    | fail) <;> (try simp only [WKb, ↓reduceIte, Nat.reduceEqDiff]))))
        all_goals
          refine Tr.fin hK ⟨by rw [hd], rfl⟩ ?_
          clear hd
          ((try clear hK) <;> (try simp only [WKe, *]) <;> repeat (first | with_reducible exact EntR.done | refine S.e ?_ | (refine S.f ?_ <;> (try simp only [WKe, ↓reduceIte, reduceCtorEq, Int.reduceEq, *])) | with_reducible apply EntR.ex | refine EntR.drop (F := F) ?_ | refine EntR.drop ?_))
    · have hno : ¬ fewS progs frames := fun h => h2 h.2.1
      have h2' : (3000 : Int) < frames.length := by omega
      ((try simp only [WKb, ↓reduceIte]) <;> (repeat' ((first
    | (refine G.tr ?_; first | refine S.a ?_ | refine S.t ?_ | refine Tr.brK ?_ ?_ | refine S.n fun _ => ?_ | refine S.i fun hix => ?_ | (refine S.g fun hb => ?_; (try simp only [hb])) | (refine S.s (fun hb => ?_) (fun hb => ?_) <;> ((try simp only [hb]) <;> (try (have hp := hb; simp only [WKs] at hp; (try have hq := Int.not_le.2 hp); (try have hq := Int.not_lt.2 hp))))))
    | ((fail_if_success refine G.tr ?_); exact G.prop S.p)
    | fail) <;> (try simp only [WKb, ↓reduceIte, Nat.reduceEqDiff]))))
      all_goals
        refine fin0 _ hno ?_
        ((try clear hK) <;> (try simp only [WKe, ↓reduceIte, reduceCtorEq, Int.reduceEq, *]) <;> repeat (first | with_reducible exact EntR.done | refine S.e ?_ | (refine S.f ?_ <;> (try simp only [WKe, ↓reduceIte, reduceCtorEq, Int.reduceEq, *])) | with_reducible apply EntR.ex | refine EntR.drop (F := F) ?_ | refine EntR.drop ?_))
  · have hno : ¬ fewS progs frames := fun h => h1 h.1
    have h1' : (40 : Int) < progs.length := by omega
    ((try simp only [WKb, ↓reduceIte]) <;> (repeat' ((first
    | (refine G.tr ?_; first | refine S.a ?_ | refine S.t ?_ | refine Tr.brK ?_ ?_ | refine S.n fun _ => ?_ | refine S.i fun hix => ?_ | (refine S.g fun hb => ?_; (try simp only [hb])) | (refine S.s (fun hb => ?_) (fun hb => ?_) <;> ((try simp only [hb]) <;> (try (have hp := hb; simp only [WKs] at hp; (try have hq := Int.not_le.2 hp); (try have hq := Int.not_lt.2 hp))))))
    | ((fail_if_success refine G.tr ?_); exact G.prop S.p)
    | fail) <;> (try simp only [WKb, ↓reduceIte, Nat.reduceEqDiff]))))
    all_goals
      refine fin0 _ hno ?_
      ((try clear hK) <;> (try simp only [WKe, ↓reduceIte, reduceCtorEq, Int.reduceEq, *]) <;> repeat (first | with_reducible exact EntR.done | refine S.e ?_ | (refine S.f ?_ <;> (try simp only [WKe, ↓reduceIte, reduceCtorEq, Int.reduceEq, *])) | with_reducible apply EntR.ex | refine EntR.drop (F := F) ?_ | refine EntR.drop ?_))
end Go.Proofs.YtgkhjgpgdfbdpaaDoor
