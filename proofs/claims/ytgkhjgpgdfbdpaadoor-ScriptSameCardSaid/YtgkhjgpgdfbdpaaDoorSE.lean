import Derived.Test.YtgkhjgpgdfbdpaaDoorScx
import Derived.Test.YtgkhjgpgdfbdpaaDoorYcx
namespace Go.Proofs.YtgkhjgpgdfbdpaaDoor
open Go Go.Wk
set_option maxHeartbeats 6400000
set_option maxRecDepth 100000

/-- A number that nobody reads, cleared so far. -/
def nz (n i k : Nat) (x : Int) : Int := if k < i ∧ n ≤ k then 0 else x
theorem nz_zero {n k : Nat} {x : Int} : nz n 0 k x = x := if_neg (fun h => by omega)
theorem nz_ne {n i k : Nat} {x : Int} (h : k ≠ i) : nz n i k x = nz n (i + 1) k x := by
  unfold nz
  by_cases h1 : k < i ∧ n ≤ k
  · rw [if_pos h1, if_pos ⟨by omega, h1.2⟩]
  · rw [if_neg h1, if_neg (fun h2 => h1 ⟨by omega, h2.2⟩)]
theorem nz_hit {n i : Nat} {x : Int} (h : n ≤ i) : (0 : Int) = nz n (i + 1) i x := (if_pos ⟨by omega, h⟩).symm
theorem nz_miss {n i : Nat} {x : Int} (h : ¬ n ≤ i) : nz n i i x = nz n (i + 1) i x := by
  unfold nz
  rw [if_neg (fun h2 => h h2.2), if_neg (fun h2 => h h2.2)]
theorem nz_start {n k : Nat} {x : Int} : nz n n k x = x := if_neg (fun h => by omega)
theorem nz_end {s : StepC} {n : Nat} (hn : argsA s.call = (n : Int)) : StepC.mk s.cycles s.call (nz n 4 0 s.a) (nz n 4 1 s.b) (nz n 4 2 s.c) (nz n 4 3 s.d) = normS s := by
  have hnm : normS s = ⟨s.cycles, s.call, if argsA s.call < 1 then 0 else s.a, if argsA s.call < 2 then 0 else s.b, if argsA s.call < 3 then 0 else s.c, if argsA s.call < 4 then 0 else s.d⟩ := rfl
  rw [hnm, hn]
  have e : ∀ (k : Nat) (x : Int), k < 4 → nz n 4 k x = if (n : Int) < (k : Int) + 1 then 0 else x := fun k x hk => by
    unfold nz
    by_cases h : n ≤ k
    · rw [if_pos ⟨hk, h⟩, if_pos (by omega)]
    · rw [if_neg (fun h2 => h h2.2), if_neg (by omega)]
  rw [e 0 _ (by decide), e 1 _ (by decide), e 2 _ (by decide), e 3 _ (by decide)]
  rfl
attribute [local irreducible] BrK GenK EGenK EUnitK CallK FnK CallV GuardO GuardC CondW opX opK opKc chkR eqR seqK blkK endL WL WD W LoopW BinK Tr drewK resL PickK NotK NilK ExtrK getK Instr.storeAt Instr.loadAt Instr.fieldAt Instr.indexAt Instr.lookup Instr.mapUpdate Instr.box Instr.alloc Instr.build Instr.buildSlice Instr.makeSlice Instr.makeMap Instr.sliceAt Instr.field Instr.index Instr.makeInterface Instr.typeAssert Builtin.len_ Builtin.append_ Builtin.cap_ Builtin.min_ Builtin.max_ Builtin.copy_ Builtin.clear_ convert binOp mp blk rob sl sep ex fact old
attribute [local irreducible] NegK mxV bufT bldB nz
theorem snorm_ok {u0 : Value} {s : StepC} [hd : DeA u0 s] : Trip Tryd.prog 70 [u0].toArray [] fun v l' => v = .agg (En.enc (normS s)).toArray ∧ l' = [] := by
  obtain rfl := hd.h
  intro F K hK
  simp only [List.nil_append]
  have h4 := argsA_le s.call
  obtain ⟨n, hn4, hn⟩ : ∃ n : Nat, n ≤ 4 ∧ argsA s.call = (n : Int) := ⟨(argsA s.call).toNat, by omega, by omega⟩
  have hne := nz_end hn
  (refine Tr.enter (rs := [.cell 2 108]) mixed fn70 rfl (by simp +arith [Tryd.ntmps70]) fun u => ?_; simp only [cd70, Tryd.f70])
  ((try simp only [WKb, ↓reduceIte]) <;> (repeat' ((first
    | (refine G.tr ?_; first | refine S.a ?_ | refine S.t ?_ | refine Tr.brK ?_ ?_ | (refine G.call 103 ?_; refine S.c ?_ (h := args_ok)) | refine S.n fun _ => ?_ | refine S.i fun hix => ?_ | (refine S.g fun hb => ?_; (try simp only [hb])) | (refine S.s (fun hb => ?_) (fun hb => ?_) <;> ((try simp only [hb]) <;> (try (have hp := hb; simp only [WKs] at hp; (try have hq := Int.not_le.2 hp); (try have hq := Int.not_lt.2 hp))))))
    | rintro _ _ ⟨rfl, rfl⟩
    | ((fail_if_success refine G.tr ?_); exact G.prop S.p)
    | fail) <;> (try simp only [WKb, ↓reduceIte, Nat.reduceEqDiff, hn]))))
  rename_i sb rb pv
  refine Tr.loopE (α := Nat) [15] [1, 2, 3, 13, 14] (fun i => [.int .i64 i]) (fun i => [sl false pv.v [PtF.mk (some ⟨sb, 2, none⟩), ⟨some ⟨sb, 3, none⟩⟩, ⟨some ⟨sb, 4, none⟩⟩, ⟨some ⟨sb, 5, none⟩⟩], blk sb (.cells [.int .i64 s.cycles, .int .i64 s.call, .int .i64 (nz n i 0 s.a), .int .i64 (nz n i 1 s.b), .int .i64 (nz n i 2 s.c), .int .i64 (nz n i 3 s.d)].toArray 108 (0, 0)), blk rb (.cells [.int .i64 0, .int .i64 0, .int .i64 0, .int .i64 0, .int .i64 0, .int .i64 0].toArray 108 (0, 0))])
    (fun i => i ≤ 4) (fun i => 4 - i) 0 (by simp only [nz_zero]; exact (by (repeat (first | exact TakeL.nil | (apply TakeL.cons; focus ((first | exact TakeA.dupS | exact TakeA.dupF | ((repeat (first | with_reducible exact TakeA.here | exact TakeA.fam (by omega) (by omega) | with_reducible apply TakeA.next)); done) | ((repeat (first | exact TakeA.here | apply TakeA.next)); done) | exact TakeA.famNil | exact TakeA.nilS))) | fail)); done)) rfl (Nat.zero_le _) fun i u hi => ?_
  simp only [List.cons_append, List.nil_append]
  obtain rfl | rfl | rfl | rfl | rfl : i = 0 ∨ i = 1 ∨ i = 2 ∨ i = 3 ∨ i = 4 := by omega
  · have hw := wrapSucc (k := 0) (by omega)
    have hpx : (ix [PtF.mk (some ⟨sb, 2, none⟩), ⟨some ⟨sb, 3, none⟩⟩, ⟨some ⟨sb, 4, none⟩⟩, ⟨some ⟨sb, 5, none⟩⟩] ((0 : Nat) : Int)).x = some ⟨sb, 2, none⟩ := rfl
    by_cases hc : n ≤ 0
    · have hc' : (n : Int) ≤ ((0 : Nat) : Int) := by omega
      have e1 := nz_ne (n := n) (i := 0) (k := 1) (x := s.b) (by decide)
      have e2 := nz_ne (n := n) (i := 0) (k := 2) (x := s.c) (by decide)
      have e3 := nz_ne (n := n) (i := 0) (k := 3) (x := s.d) (by decide)
      have e0 := nz_hit (x := s.a) hc
      ((try simp only [WKb, ↓reduceIte, Nat.reduceEqDiff]) <;> (repeat' ((first
    | (refine G.tr ?_; first | refine S.a ?_ | refine S.t ?_ | refine Tr.brK ?_ ?_ | (refine G.call 103 ?_; refine S.c ?_ (h := args_ok)) | refine S.n fun _ => ?_ | refine S.i fun hix => ?_ | (refine S.g fun hb => ?_; (try simp only [hb])) | (refine S.s (fun hb => ?_) (fun hb => ?_) <;> ((try simp only [hb]) <;> (try (have hp := hb; simp only [WKs] at hp; (try have hq := Int.not_le.2 hp); (try have hq := Int.not_lt.2 hp))))))
    | rintro _ _ ⟨rfl, rfl⟩
    | ((fail_if_success refine G.tr ?_); exact G.prop S.p)
    | fail) <;> (try simp only [WKb, ↓reduceIte, Nat.reduceEqDiff, Nat.reduceAdd, hw, hpx]))))
      all_goals (apply Tr.againE (0 + 1); (focus (simp only [WKb, ↓reduceIte, Nat.reduceEqDiff])); (focus ((try simp only [WKb, ↓reduceIte]); (all_goals ((repeat (refine cons_eq (by first | rfl | ((try clear hK) <;> first | (simp [*, e0, e1, e2, e3]; done) | (simp [*, e0, e1, e2, e3]; omega) | (simp [*, e0, e1, e2, e3] <;> (try split) <;> simp_all <;> omega))) ?_)); rfl)); done)); rotate_left 2; (focus (((try clear hK) <;> (try simp only [WKe, *]) <;> repeat (first | with_reducible exact EntR.done | refine S.e ?_ | (refine S.f ?_ <;> (try simp only [WKe, e0, e1, e2, e3, ↓reduceIte, reduceCtorEq, Int.reduceEq, *])) | with_reducible apply EntR.ex | refine EntR.drop (F := F) ?_ | refine EntR.drop ?_)))); (focus (first | omega | assumption | (simp only []; omega) | (refine ⟨by omega, by assumption⟩) | (simp only []; refine ⟨by omega, by assumption⟩) | ((try simp only []); (repeat' (first | omega | assumption | refine And.intro ?_ ?_)); done))); (focus (first | omega | (simp only []; omega))))
    · have hc' : ¬ (n : Int) ≤ ((0 : Nat) : Int) := by omega
      have e1 := nz_ne (n := n) (i := 0) (k := 1) (x := s.b) (by decide)
      have e2 := nz_ne (n := n) (i := 0) (k := 2) (x := s.c) (by decide)
      have e3 := nz_ne (n := n) (i := 0) (k := 3) (x := s.d) (by decide)
      have e0 := nz_miss (x := s.a) hc
      ((try simp only [WKb, ↓reduceIte, Nat.reduceEqDiff]) <;> (repeat' ((first
    | (refine G.tr ?_; first | refine S.a ?_ | refine S.t ?_ | refine Tr.brK ?_ ?_ | (refine G.call 103 ?_; refine S.c ?_ (h := args_ok)) | refine S.n fun _ => ?_ | refine S.i fun hix => ?_ | (refine S.g fun hb => ?_; (try simp only [hb])) | (refine S.s (fun hb => ?_) (fun hb => ?_) <;> ((try simp only [hb]) <;> (try (have hp := hb; simp only [WKs] at hp; (try have hq := Int.not_le.2 hp); (try have hq := Int.not_lt.2 hp))))))
    | rintro _ _ ⟨rfl, rfl⟩
    | ((fail_if_success refine G.tr ?_); exact G.prop S.p)
    | fail) <;> (try simp only [WKb, ↓reduceIte, Nat.reduceEqDiff, hw, hpx]))))
      all_goals (apply Tr.againE (0 + 1); (focus (simp only [WKb, ↓reduceIte, Nat.reduceEqDiff])); (focus ((try simp only [WKb, ↓reduceIte]); (all_goals ((repeat (refine cons_eq (by first | rfl | ((try clear hK) <;> first | (simp [*, e0, e1, e2, e3]; done) | (simp [*, e0, e1, e2, e3]; omega) | (simp [*, e0, e1, e2, e3] <;> (try split) <;> simp_all <;> omega))) ?_)); rfl)); done)); rotate_left 2; (focus (((try clear hK) <;> (try simp only [WKe, *]) <;> repeat (first | with_reducible exact EntR.done | refine S.e ?_ | (refine S.f ?_ <;> (try simp only [WKe, e0, e1, e2, e3, ↓reduceIte, reduceCtorEq, Int.reduceEq, *])) | with_reducible apply EntR.ex | refine EntR.drop (F := F) ?_ | refine EntR.drop ?_)))); (focus (first | omega | assumption | (simp only []; omega) | (refine ⟨by omega, by assumption⟩) | (simp only []; refine ⟨by omega, by assumption⟩) | ((try simp only []); (repeat' (first | omega | assumption | refine And.intro ?_ ?_)); done))); (focus (first | omega | (simp only []; omega))))
  · have hw := wrapSucc (k := 1) (by omega)
    have hpx : (ix [PtF.mk (some ⟨sb, 2, none⟩), ⟨some ⟨sb, 3, none⟩⟩, ⟨some ⟨sb, 4, none⟩⟩, ⟨some ⟨sb, 5, none⟩⟩] ((1 : Nat) : Int)).x = some ⟨sb, 3, none⟩ := rfl
    by_cases hc : n ≤ 1
    · have hc' : (n : Int) ≤ ((1 : Nat) : Int) := by omega
      have e0 := nz_ne (n := n) (i := 1) (k := 0) (x := s.a) (by decide)
      have e2 := nz_ne (n := n) (i := 1) (k := 2) (x := s.c) (by decide)
      have e3 := nz_ne (n := n) (i := 1) (k := 3) (x := s.d) (by decide)
      have e1 := nz_hit (x := s.b) hc
      ((try simp only [WKb, ↓reduceIte, Nat.reduceEqDiff]) <;> (repeat' ((first
    | (refine G.tr ?_; first | refine S.a ?_ | refine S.t ?_ | refine Tr.brK ?_ ?_ | (refine G.call 103 ?_; refine S.c ?_ (h := args_ok)) | refine S.n fun _ => ?_ | refine S.i fun hix => ?_ | (refine S.g fun hb => ?_; (try simp only [hb])) | (refine S.s (fun hb => ?_) (fun hb => ?_) <;> ((try simp only [hb]) <;> (try (have hp := hb; simp only [WKs] at hp; (try have hq := Int.not_le.2 hp); (try have hq := Int.not_lt.2 hp))))))
    | rintro _ _ ⟨rfl, rfl⟩
    | ((fail_if_success refine G.tr ?_); exact G.prop S.p)
    | fail) <;> (try simp only [WKb, ↓reduceIte, Nat.reduceEqDiff, Nat.reduceAdd, hw, hpx]))))
      all_goals (apply Tr.againE (1 + 1); (focus (simp only [WKb, ↓reduceIte, Nat.reduceEqDiff])); (focus ((try simp only [WKb, ↓reduceIte, Nat.reduceAdd]); (all_goals ((repeat (refine cons_eq (by first | rfl | ((try clear hK) <;> first | (simp [*, e0, e1, e2, e3]; done) | (simp [*, e0, e1, e2, e3]; omega) | (simp [*, e0, e1, e2, e3] <;> (try split) <;> simp_all <;> omega))) ?_)); rfl)); done)); rotate_left 2; (focus (((try clear hK) <;> (try simp only [WKe, *]) <;> repeat (first | with_reducible exact EntR.done | refine S.e ?_ | (refine S.f ?_ <;> (try simp only [WKe, e0, e1, e2, e3, ↓reduceIte, reduceCtorEq, Int.reduceEq, *])) | with_reducible apply EntR.ex | refine EntR.drop (F := F) ?_ | refine EntR.drop ?_)))); (focus (first | omega | assumption | (simp only []; omega) | (refine ⟨by omega, by assumption⟩) | (simp only []; refine ⟨by omega, by assumption⟩) | ((try simp only []); (repeat' (first | omega | assumption | refine And.intro ?_ ?_)); done))); (focus (first | omega | (simp only []; omega))))
    · have hc' : ¬ (n : Int) ≤ ((1 : Nat) : Int) := by omega
      have e0 := nz_ne (n := n) (i := 1) (k := 0) (x := s.a) (by decide)
      have e2 := nz_ne (n := n) (i := 1) (k := 2) (x := s.c) (by decide)
      have e3 := nz_ne (n := n) (i := 1) (k := 3) (x := s.d) (by decide)
      have e1 := nz_miss (x := s.b) hc
      ((try simp only [WKb, ↓reduceIte, Nat.reduceEqDiff]) <;> (repeat' ((first
    | (refine G.tr ?_; first | refine S.a ?_ | refine S.t ?_ | refine Tr.brK ?_ ?_ | (refine G.call 103 ?_; refine S.c ?_ (h := args_ok)) | refine S.n fun _ => ?_ | refine S.i fun hix => ?_ | (refine S.g fun hb => ?_; (try simp only [hb])) | (refine S.s (fun hb => ?_) (fun hb => ?_) <;> ((try simp only [hb]) <;> (try (have hp := hb; simp only [WKs] at hp; (try have hq := Int.not_le.2 hp); (try have hq := Int.not_lt.2 hp))))))
    | rintro _ _ ⟨rfl, rfl⟩
    | ((fail_if_success refine G.tr ?_); exact G.prop S.p)
    | fail) <;> (try simp only [WKb, ↓reduceIte, Nat.reduceEqDiff, Nat.reduceAdd, hw, hpx]))))
      all_goals (apply Tr.againE (1 + 1); (focus (simp only [WKb, ↓reduceIte, Nat.reduceEqDiff])); (focus ((try simp only [WKb, ↓reduceIte, Nat.reduceAdd]); (all_goals ((repeat (refine cons_eq (by first | rfl | ((try clear hK) <;> first | (simp [*, e0, e1, e2, e3]; done) | (simp [*, e0, e1, e2, e3]; omega) | (simp [*, e0, e1, e2, e3] <;> (try split) <;> simp_all <;> omega))) ?_)); rfl)); done)); rotate_left 2; (focus (((try clear hK) <;> (try simp only [WKe, *]) <;> repeat (first | with_reducible exact EntR.done | refine S.e ?_ | (refine S.f ?_ <;> (try simp only [WKe, e0, e1, e2, e3, ↓reduceIte, reduceCtorEq, Int.reduceEq, *])) | with_reducible apply EntR.ex | refine EntR.drop (F := F) ?_ | refine EntR.drop ?_)))); (focus (first | omega | assumption | (simp only []; omega) | (refine ⟨by omega, by assumption⟩) | (simp only []; refine ⟨by omega, by assumption⟩) | ((try simp only []); (repeat' (first | omega | assumption | refine And.intro ?_ ?_)); done))); (focus (first | omega | (simp only []; omega))))
  · have hw := wrapSucc (k := 2) (by omega)
    have hpx : (ix [PtF.mk (some ⟨sb, 2, none⟩), ⟨some ⟨sb, 3, none⟩⟩, ⟨some ⟨sb, 4, none⟩⟩, ⟨some ⟨sb, 5, none⟩⟩] ((2 : Nat) : Int)).x = some ⟨sb, 4, none⟩ := rfl
    by_cases hc : n ≤ 2
    · have hc' : (n : Int) ≤ ((2 : Nat) : Int) := by omega
      have e0 := nz_ne (n := n) (i := 2) (k := 0) (x := s.a) (by decide)
      have e1 := nz_ne (n := n) (i := 2) (k := 1) (x := s.b) (by decide)
      have e3 := nz_ne (n := n) (i := 2) (k := 3) (x := s.d) (by decide)
      have e2 := nz_hit (x := s.c) hc
      ((try simp only [WKb, ↓reduceIte, Nat.reduceEqDiff]) <;> (repeat' ((first
    | (refine G.tr ?_; first | refine S.a ?_ | refine S.t ?_ | refine Tr.brK ?_ ?_ | (refine G.call 103 ?_; refine S.c ?_ (h := args_ok)) | refine S.n fun _ => ?_ | refine S.i fun hix => ?_ | (refine S.g fun hb => ?_; (try simp only [hb])) | (refine S.s (fun hb => ?_) (fun hb => ?_) <;> ((try simp only [hb]) <;> (try (have hp := hb; simp only [WKs] at hp; (try have hq := Int.not_le.2 hp); (try have hq := Int.not_lt.2 hp))))))
    | rintro _ _ ⟨rfl, rfl⟩
    | ((fail_if_success refine G.tr ?_); exact G.prop S.p)
    | fail) <;> (try simp only [WKb, ↓reduceIte, Nat.reduceEqDiff, Nat.reduceAdd, hw, hpx]))))
      all_goals (apply Tr.againE (2 + 1); (focus (simp only [WKb, ↓reduceIte, Nat.reduceEqDiff])); (focus ((try simp only [WKb, ↓reduceIte, Nat.reduceAdd]); (all_goals ((repeat (refine cons_eq (by first | rfl | ((try clear hK) <;> first | (simp [*, e0, e1, e2, e3]; done) | (simp [*, e0, e1, e2, e3]; omega) | (simp [*, e0, e1, e2, e3] <;> (try split) <;> simp_all <;> omega))) ?_)); rfl)); done)); rotate_left 2; (focus (((try clear hK) <;> (try simp only [WKe, *]) <;> repeat (first | with_reducible exact EntR.done | refine S.e ?_ | (refine S.f ?_ <;> (try simp only [WKe, e0, e1, e2, e3, ↓reduceIte, reduceCtorEq, Int.reduceEq, *])) | with_reducible apply EntR.ex | refine EntR.drop (F := F) ?_ | refine EntR.drop ?_)))); (focus (first | omega | assumption | (simp only []; omega) | (refine ⟨by omega, by assumption⟩) | (simp only []; refine ⟨by omega, by assumption⟩) | ((try simp only []); (repeat' (first | omega | assumption | refine And.intro ?_ ?_)); done))); (focus (first | omega | (simp only []; omega))))
    · have hc' : ¬ (n : Int) ≤ ((2 : Nat) : Int) := by omega
      have e0 := nz_ne (n := n) (i := 2) (k := 0) (x := s.a) (by decide)
      have e1 := nz_ne (n := n) (i := 2) (k := 1) (x := s.b) (by decide)
      have e3 := nz_ne (n := n) (i := 2) (k := 3) (x := s.d) (by decide)
      have e2 := nz_miss (x := s.c) hc
      ((try simp only [WKb, ↓reduceIte, Nat.reduceEqDiff]) <;> (repeat' ((first
    | (refine G.tr ?_; first | refine S.a ?_ | refine S.t ?_ | refine Tr.brK ?_ ?_ | (refine G.call 103 ?_; refine S.c ?_ (h := args_ok)) | refine S.n fun _ => ?_ | refine S.i fun hix => ?_ | (refine S.g fun hb => ?_; (try simp only [hb])) | (refine S.s (fun hb => ?_) (fun hb => ?_) <;> ((try simp only [hb]) <;> (try (have hp := hb; simp only [WKs] at hp; (try have hq := Int.not_le.2 hp); (try have hq := Int.not_lt.2 hp))))))
    | rintro _ _ ⟨rfl, rfl⟩
    | ((fail_if_success refine G.tr ?_); exact G.prop S.p)
    | fail) <;> (try simp only [WKb, ↓reduceIte, Nat.reduceEqDiff, Nat.reduceAdd, hw, hpx]))))
      all_goals (apply Tr.againE (2 + 1); (focus (simp only [WKb, ↓reduceIte, Nat.reduceEqDiff])); (focus ((try simp only [WKb, ↓reduceIte, Nat.reduceAdd]); (all_goals ((repeat (refine cons_eq (by first | rfl | ((try clear hK) <;> first | (simp [*, e0, e1, e2, e3]; done) | (simp [*, e0, e1, e2, e3]; omega) | (simp [*, e0, e1, e2, e3] <;> (try split) <;> simp_all <;> omega))) ?_)); rfl)); done)); rotate_left 2; (focus (((try clear hK) <;> (try simp only [WKe, *]) <;> repeat (first | with_reducible exact EntR.done | refine S.e ?_ | (refine S.f ?_ <;> (try simp only [WKe, e0, e1, e2, e3, ↓reduceIte, reduceCtorEq, Int.reduceEq, *])) | with_reducible apply EntR.ex | refine EntR.drop (F := F) ?_ | refine EntR.drop ?_)))); (focus (first | omega | assumption | (simp only []; omega) | (refine ⟨by omega, by assumption⟩) | (simp only []; refine ⟨by omega, by assumption⟩) | ((try simp only []); (repeat' (first | omega | assumption | refine And.intro ?_ ?_)); done))); (focus (first | omega | (simp only []; omega))))
  · have hw := wrapSucc (k := 3) (by omega)
    have hpx : (ix [PtF.mk (some ⟨sb, 2, none⟩), ⟨some ⟨sb, 3, none⟩⟩, ⟨some ⟨sb, 4, none⟩⟩, ⟨some ⟨sb, 5, none⟩⟩] ((3 : Nat) : Int)).x = some ⟨sb, 5, none⟩ := rfl
    by_cases hc : n ≤ 3
    · have hc' : (n : Int) ≤ ((3 : Nat) : Int) := by omega
      have e0 := nz_ne (n := n) (i := 3) (k := 0) (x := s.a) (by decide)
      have e1 := nz_ne (n := n) (i := 3) (k := 1) (x := s.b) (by decide)
      have e2 := nz_ne (n := n) (i := 3) (k := 2) (x := s.c) (by decide)
      have e3 := nz_hit (x := s.d) hc
      ((try simp only [WKb, ↓reduceIte, Nat.reduceEqDiff]) <;> (repeat' ((first
    | (refine G.tr ?_; first | refine S.a ?_ | refine S.t ?_ | refine Tr.brK ?_ ?_ | (refine G.call 103 ?_; refine S.c ?_ (h := args_ok)) | refine S.n fun _ => ?_ | refine S.i fun hix => ?_ | (refine S.g fun hb => ?_; (try simp only [hb])) | (refine S.s (fun hb => ?_) (fun hb => ?_) <;> ((try simp only [hb]) <;> (try (have hp := hb; simp only [WKs] at hp; (try have hq := Int.not_le.2 hp); (try have hq := Int.not_lt.2 hp))))))
    | rintro _ _ ⟨rfl, rfl⟩
    | ((fail_if_success refine G.tr ?_); exact G.prop S.p)
    | fail) <;> (try simp only [WKb, ↓reduceIte, Nat.reduceEqDiff, Nat.reduceAdd, hw, hpx]))))
      all_goals (apply Tr.againE (3 + 1); (focus (simp only [WKb, ↓reduceIte, Nat.reduceEqDiff])); (focus ((try simp only [WKb, ↓reduceIte, Nat.reduceAdd]); (all_goals ((repeat (refine cons_eq (by first | rfl | ((try clear hK) <;> first | (simp [*, e0, e1, e2, e3]; done) | (simp [*, e0, e1, e2, e3]; omega) | (simp [*, e0, e1, e2, e3] <;> (try split) <;> simp_all <;> omega))) ?_)); rfl)); done)); rotate_left 2; (focus (((try clear hK) <;> (try simp only [WKe, *]) <;> repeat (first | with_reducible exact EntR.done | refine S.e ?_ | (refine S.f ?_ <;> (try simp only [WKe, e0, e1, e2, e3, ↓reduceIte, reduceCtorEq, Int.reduceEq, *])) | with_reducible apply EntR.ex | refine EntR.drop (F := F) ?_ | refine EntR.drop ?_)))); (focus (first | omega | assumption | (simp only []; omega) | (refine ⟨by omega, by assumption⟩) | (simp only []; refine ⟨by omega, by assumption⟩) | ((try simp only []); (repeat' (first | omega | assumption | refine And.intro ?_ ?_)); done))); (focus (first | omega | (simp only []; omega))))
    · have hc' : ¬ (n : Int) ≤ ((3 : Nat) : Int) := by omega
      have e0 := nz_ne (n := n) (i := 3) (k := 0) (x := s.a) (by decide)
      have e1 := nz_ne (n := n) (i := 3) (k := 1) (x := s.b) (by decide)
      have e2 := nz_ne (n := n) (i := 3) (k := 2) (x := s.c) (by decide)
      have e3 := nz_miss (x := s.d) hc
      ((try simp only [WKb, ↓reduceIte, Nat.reduceEqDiff]) <;> (repeat' ((first
    | (refine G.tr ?_; first | refine S.a ?_ | refine S.t ?_ | refine Tr.brK ?_ ?_ | (refine G.call 103 ?_; refine S.c ?_ (h := args_ok)) | refine S.n fun _ => ?_ | refine S.i fun hix => ?_ | (refine S.g fun hb => ?_; (try simp only [hb])) | (refine S.s (fun hb => ?_) (fun hb => ?_) <;> ((try simp only [hb]) <;> (try (have hp := hb; simp only [WKs] at hp; (try have hq := Int.not_le.2 hp); (try have hq := Int.not_lt.2 hp))))))
    | rintro _ _ ⟨rfl, rfl⟩
    | ((fail_if_success refine G.tr ?_); exact G.prop S.p)
    | fail) <;> (try simp only [WKb, ↓reduceIte, Nat.reduceEqDiff, Nat.reduceAdd, hw, hpx]))))
      all_goals (apply Tr.againE (3 + 1); (focus (simp only [WKb, ↓reduceIte, Nat.reduceEqDiff])); (focus ((try simp only [WKb, ↓reduceIte, Nat.reduceAdd]); (all_goals ((repeat (refine cons_eq (by first | rfl | ((try clear hK) <;> first | (simp [*, e0, e1, e2, e3]; done) | (simp [*, e0, e1, e2, e3]; omega) | (simp [*, e0, e1, e2, e3] <;> (try split) <;> simp_all <;> omega))) ?_)); rfl)); done)); rotate_left 2; (focus (((try clear hK) <;> (try simp only [WKe, *]) <;> repeat (first | with_reducible exact EntR.done | refine S.e ?_ | (refine S.f ?_ <;> (try simp only [WKe, e0, e1, e2, e3, ↓reduceIte, reduceCtorEq, Int.reduceEq, *])) | with_reducible apply EntR.ex | refine EntR.drop (F := F) ?_ | refine EntR.drop ?_)))); (focus (first | omega | assumption | (simp only []; omega) | (refine ⟨by omega, by assumption⟩) | (simp only []; refine ⟨by omega, by assumption⟩) | ((try simp only []); (repeat' (first | omega | assumption | refine And.intro ?_ ?_)); done))); (focus (first | omega | (simp only []; omega))))
  · ((try simp only [WKb, ↓reduceIte, Nat.reduceEqDiff]) <;> (repeat' ((first
    | (refine G.tr ?_; first | refine S.a ?_ | refine S.t ?_ | refine Tr.brK ?_ ?_ | (refine G.call 103 ?_; refine S.c ?_ (h := args_ok)) | refine S.n fun _ => ?_ | refine S.i fun hix => ?_ | (refine S.g fun hb => ?_; (try simp only [hb])) | (refine S.s (fun hb => ?_) (fun hb => ?_) <;> ((try simp only [hb]) <;> (try (have hp := hb; simp only [WKs] at hp; (try have hq := Int.not_le.2 hp); (try have hq := Int.not_lt.2 hp))))))
    | rintro _ _ ⟨rfl, rfl⟩
    | ((fail_if_success refine G.tr ?_); exact G.prop S.p)
    | fail) <;> (try simp only [WKb, ↓reduceIte, Nat.reduceEqDiff]))))
    all_goals
      refine Tr.fin hK ⟨by rw [← hne]; rfl, rfl⟩ ?_
      ((try clear hK) <;> (try simp only [WKe, *]) <;> repeat (first | with_reducible exact EntR.done | refine S.e ?_ | (refine S.f ?_ <;> (try simp only [WKe, ↓reduceIte, reduceCtorEq, Int.reduceEq, *])) | with_reducible apply EntR.ex | refine EntR.drop (F := F) ?_ | refine EntR.drop ?_))

theorem snormR_ok {u0 : Value} {s : StepC} [hd : DeA u0 s] : Trip Tryd.prog 71 [u0].toArray [] fun v l' => v = .agg (En.enc (normS s)).toArray ∧ l' = [] := by
  obtain rfl := hd.h
  intro F K hK
  simp only [List.nil_append]
  have h4 := argsA_le s.call
  obtain ⟨n, hn4, hn⟩ : ∃ n : Nat, n ≤ 4 ∧ argsA s.call = (n : Int) := ⟨(argsA s.call).toNat, by omega, by omega⟩
  have hne := nz_end hn
  (refine Tr.enter (rs := [.cell 2 108]) mixed fn71 rfl (by simp +arith [Tryd.ntmps71]) fun u => ?_; simp only [cd71, Tryd.f71])
  ((try simp only [WKb, ↓reduceIte]) <;> (repeat' ((first
    | (refine G.tr ?_; first | refine S.a ?_ | refine S.t ?_ | refine Tr.brK ?_ ?_ | (refine G.call 104 ?_; refine S.c ?_ (h := argsR_ok)) | refine S.n fun _ => ?_ | refine S.i fun hix => ?_ | (refine S.g fun hb => ?_; (try simp only [hb])) | (refine S.s (fun hb => ?_) (fun hb => ?_) <;> ((try simp only [hb]) <;> (try (have hp := hb; simp only [WKs] at hp; (try have hq := Int.not_le.2 hp); (try have hq := Int.not_lt.2 hp))))))
    | rintro _ _ ⟨rfl, rfl⟩
    | ((fail_if_success refine G.tr ?_); exact G.prop S.p)
    | fail) <;> (try simp only [WKb, ↓reduceIte, Nat.reduceEqDiff, hn]))))
  rename_i sb rb lv
  have hst : [s.a, s.b, s.c, s.d] = [nz n n 0 s.a, nz n n 1 s.b, nz n n 2 s.c, nz n n 3 s.d] := by simp only [nz_start]
  rw [hst]
  refine Tr.loopE (α := Nat) [4] [1, 2, 3] (fun i => [.int .i64 i]) (fun i => [sl false lv.v [nz n i 0 s.a, nz n i 1 s.b, nz n i 2 s.c, nz n i 3 s.d], blk sb (.cells (En.enc s).toArray 108 (0, 0)), blk rb (.cells [.int .i64 0, .int .i64 0, .int .i64 0, .int .i64 0, .int .i64 0, .int .i64 0].toArray 108 (0, 0))])
    (fun i => n ≤ i ∧ i ≤ 4) (fun i => 4 - i) n (by (repeat (first | exact TakeL.nil | (apply TakeL.cons; focus ((first | exact TakeA.dupS | exact TakeA.dupF | ((repeat (first | with_reducible exact TakeA.here | exact TakeA.fam (by omega) (by omega) | with_reducible apply TakeA.next)); done) | ((repeat (first | exact TakeA.here | apply TakeA.next)); done) | exact TakeA.famNil | exact TakeA.nilS))) | fail)); done) rfl ⟨Nat.le_refl _, hn4⟩ fun i u hi => ?_
  simp only [List.cons_append, List.nil_append]
  obtain ⟨hi1, hi2⟩ := hi
  clear hst
  obtain rfl | rfl | rfl | rfl | rfl : i = 0 ∨ i = 1 ∨ i = 2 ∨ i = 3 ∨ i = 4 := by omega
  · have hw := wrapSucc (k := 0) (by omega)
    have e1 := nz_ne (n := n) (i := 0) (k := 1) (x := s.b) (by decide)
    have e2 := nz_ne (n := n) (i := 0) (k := 2) (x := s.c) (by decide)
    have e3 := nz_ne (n := n) (i := 0) (k := 3) (x := s.d) (by decide)
    have e0 := nz_hit (n := n) (i := 0) (x := s.a) (by omega)
    have hls : [nz n 0 0 s.a, nz n 0 1 s.b, nz n 0 2 s.c, nz n 0 3 s.d].set (Int.toNat ((0 : Nat) : Int)) 0 = [nz n (0 + 1) 0 s.a, nz n (0 + 1) 1 s.b, nz n (0 + 1) 2 s.c, nz n (0 + 1) 3 s.d] := by
      show List.set _ 0 _ = _
      simp only [List.set_cons_zero]
      rw [← e0, e1, e2, e3]
    clear e0 e1 e2 e3
    ((try simp only [WKb, ↓reduceIte, Nat.reduceEqDiff]) <;> (repeat' ((first
    | (refine G.tr ?_; first | refine S.a ?_ | refine S.t ?_ | refine Tr.brK ?_ ?_ | (refine G.call 104 ?_; refine S.c ?_ (h := argsR_ok)) | refine S.n fun _ => ?_ | refine S.i fun hix => ?_ | (refine S.g fun hb => ?_; (try simp only [hb])) | (refine S.s (fun hb => ?_) (fun hb => ?_) <;> ((try simp only [hb]) <;> (try (have hp := hb; simp only [WKs] at hp; (try have hq := Int.not_le.2 hp); (try have hq := Int.not_lt.2 hp))))))
    | rintro _ _ ⟨rfl, rfl⟩
    | ((fail_if_success refine G.tr ?_); exact G.prop S.p)
    | fail) <;> (try simp only [WKb, ↓reduceIte, Nat.reduceEqDiff, hw]))))
    all_goals
      rw [hls]
      clear hls
      (apply Tr.againE (0 + 1); (focus (simp only [WKb, ↓reduceIte, Nat.reduceEqDiff])); (focus ((try simp only [WKb, ↓reduceIte]); (all_goals ((repeat (refine cons_eq (by first | rfl | (simp [*]; done)) ?_)); rfl)); done)); (focus (first | omega | assumption | (simp only []; omega) | (refine ⟨by omega, by assumption⟩) | (simp only []; refine ⟨by omega, by assumption⟩) | ((try simp only []); (repeat' (first | omega | assumption | refine And.intro ?_ ?_)); done))); (focus (first | omega | (simp only []; omega))); (focus (((try clear hK) <;> (try simp only [WKe, *]) <;> repeat (first | with_reducible exact EntR.done | refine S.e ?_ | (refine S.f ?_ <;> (try simp only [WKe, ↓reduceIte, reduceCtorEq, Int.reduceEq, *])) | with_reducible apply EntR.ex | refine EntR.drop (F := F) ?_ | refine EntR.drop ?_)))))
  · have hw := wrapSucc (k := 1) (by omega)
    have e0 := nz_ne (n := n) (i := 1) (k := 0) (x := s.a) (by decide)
    have e2 := nz_ne (n := n) (i := 1) (k := 2) (x := s.c) (by decide)
    have e3 := nz_ne (n := n) (i := 1) (k := 3) (x := s.d) (by decide)
    have e1 := nz_hit (n := n) (i := 1) (x := s.b) (by omega)
    have hls : [nz n 1 0 s.a, nz n 1 1 s.b, nz n 1 2 s.c, nz n 1 3 s.d].set (Int.toNat ((1 : Nat) : Int)) 0 = [nz n (1 + 1) 0 s.a, nz n (1 + 1) 1 s.b, nz n (1 + 1) 2 s.c, nz n (1 + 1) 3 s.d] := by
      show List.set _ 1 _ = _
      simp only [List.set_cons_succ, List.set_cons_zero]
      rw [e0, ← e1, e2, e3]
    clear e0 e1 e2 e3
    ((try simp only [WKb, ↓reduceIte, Nat.reduceEqDiff]) <;> (repeat' ((first
    | (refine G.tr ?_; first | refine S.a ?_ | refine S.t ?_ | refine Tr.brK ?_ ?_ | (refine G.call 104 ?_; refine S.c ?_ (h := argsR_ok)) | refine S.n fun _ => ?_ | refine S.i fun hix => ?_ | (refine S.g fun hb => ?_; (try simp only [hb])) | (refine S.s (fun hb => ?_) (fun hb => ?_) <;> ((try simp only [hb]) <;> (try (have hp := hb; simp only [WKs] at hp; (try have hq := Int.not_le.2 hp); (try have hq := Int.not_lt.2 hp))))))
    | rintro _ _ ⟨rfl, rfl⟩
    | ((fail_if_success refine G.tr ?_); exact G.prop S.p)
    | fail) <;> (try simp only [WKb, ↓reduceIte, Nat.reduceEqDiff, Nat.reduceAdd, hw]))))
    all_goals
      rw [hls]
      clear hls
      (apply Tr.againE (1 + 1); (focus (simp only [WKb, ↓reduceIte, Nat.reduceEqDiff])); (focus ((try simp only [WKb, ↓reduceIte, Nat.reduceAdd]); (all_goals ((repeat (refine cons_eq (by first | rfl | (simp [*]; done)) ?_)); rfl)); done)); (focus (first | omega | assumption | (simp only []; omega) | (refine ⟨by omega, by assumption⟩) | (simp only []; refine ⟨by omega, by assumption⟩) | ((try simp only []); (repeat' (first | omega | assumption | refine And.intro ?_ ?_)); done))); (focus (first | omega | (simp only []; omega))); (focus (((try clear hK) <;> (try simp only [WKe, *]) <;> repeat (first | with_reducible exact EntR.done | refine S.e ?_ | (refine S.f ?_ <;> (try simp only [WKe, ↓reduceIte, reduceCtorEq, Int.reduceEq, *])) | with_reducible apply EntR.ex | refine EntR.drop (F := F) ?_ | refine EntR.drop ?_)))))
  · have hw := wrapSucc (k := 2) (by omega)
    have e0 := nz_ne (n := n) (i := 2) (k := 0) (x := s.a) (by decide)
    have e1 := nz_ne (n := n) (i := 2) (k := 1) (x := s.b) (by decide)
    have e3 := nz_ne (n := n) (i := 2) (k := 3) (x := s.d) (by decide)
    have e2 := nz_hit (n := n) (i := 2) (x := s.c) (by omega)
    have hls : [nz n 2 0 s.a, nz n 2 1 s.b, nz n 2 2 s.c, nz n 2 3 s.d].set (Int.toNat ((2 : Nat) : Int)) 0 = [nz n (2 + 1) 0 s.a, nz n (2 + 1) 1 s.b, nz n (2 + 1) 2 s.c, nz n (2 + 1) 3 s.d] := by
      show List.set _ 2 _ = _
      simp only [List.set_cons_succ, List.set_cons_zero]
      rw [e0, e1, ← e2, e3]
    clear e0 e1 e2 e3
    ((try simp only [WKb, ↓reduceIte, Nat.reduceEqDiff]) <;> (repeat' ((first
    | (refine G.tr ?_; first | refine S.a ?_ | refine S.t ?_ | refine Tr.brK ?_ ?_ | (refine G.call 104 ?_; refine S.c ?_ (h := argsR_ok)) | refine S.n fun _ => ?_ | refine S.i fun hix => ?_ | (refine S.g fun hb => ?_; (try simp only [hb])) | (refine S.s (fun hb => ?_) (fun hb => ?_) <;> ((try simp only [hb]) <;> (try (have hp := hb; simp only [WKs] at hp; (try have hq := Int.not_le.2 hp); (try have hq := Int.not_lt.2 hp))))))
    | rintro _ _ ⟨rfl, rfl⟩
    | ((fail_if_success refine G.tr ?_); exact G.prop S.p)
    | fail) <;> (try simp only [WKb, ↓reduceIte, Nat.reduceEqDiff, Nat.reduceAdd, hw]))))
    all_goals
      rw [hls]
      clear hls
      (apply Tr.againE (2 + 1); (focus (simp only [WKb, ↓reduceIte, Nat.reduceEqDiff])); (focus ((try simp only [WKb, ↓reduceIte, Nat.reduceAdd]); (all_goals ((repeat (refine cons_eq (by first | rfl | (simp [*]; done)) ?_)); rfl)); done)); (focus (first | omega | assumption | (simp only []; omega) | (refine ⟨by omega, by assumption⟩) | (simp only []; refine ⟨by omega, by assumption⟩) | ((try simp only []); (repeat' (first | omega | assumption | refine And.intro ?_ ?_)); done))); (focus (first | omega | (simp only []; omega))); (focus (((try clear hK) <;> (try simp only [WKe, *]) <;> repeat (first | with_reducible exact EntR.done | refine S.e ?_ | (refine S.f ?_ <;> (try simp only [WKe, ↓reduceIte, reduceCtorEq, Int.reduceEq, *])) | with_reducible apply EntR.ex | refine EntR.drop (F := F) ?_ | refine EntR.drop ?_)))))
  · have hw := wrapSucc (k := 3) (by omega)
    have e0 := nz_ne (n := n) (i := 3) (k := 0) (x := s.a) (by decide)
    have e1 := nz_ne (n := n) (i := 3) (k := 1) (x := s.b) (by decide)
    have e2 := nz_ne (n := n) (i := 3) (k := 2) (x := s.c) (by decide)
    have e3 := nz_hit (n := n) (i := 3) (x := s.d) (by omega)
    have hls : [nz n 3 0 s.a, nz n 3 1 s.b, nz n 3 2 s.c, nz n 3 3 s.d].set (Int.toNat ((3 : Nat) : Int)) 0 = [nz n (3 + 1) 0 s.a, nz n (3 + 1) 1 s.b, nz n (3 + 1) 2 s.c, nz n (3 + 1) 3 s.d] := by
      show List.set _ 3 _ = _
      simp only [List.set_cons_succ, List.set_cons_zero]
      rw [e0, e1, e2, ← e3]
    clear e0 e1 e2 e3
    ((try simp only [WKb, ↓reduceIte, Nat.reduceEqDiff]) <;> (repeat' ((first
    | (refine G.tr ?_; first | refine S.a ?_ | refine S.t ?_ | refine Tr.brK ?_ ?_ | (refine G.call 104 ?_; refine S.c ?_ (h := argsR_ok)) | refine S.n fun _ => ?_ | refine S.i fun hix => ?_ | (refine S.g fun hb => ?_; (try simp only [hb])) | (refine S.s (fun hb => ?_) (fun hb => ?_) <;> ((try simp only [hb]) <;> (try (have hp := hb; simp only [WKs] at hp; (try have hq := Int.not_le.2 hp); (try have hq := Int.not_lt.2 hp))))))
    | rintro _ _ ⟨rfl, rfl⟩
    | ((fail_if_success refine G.tr ?_); exact G.prop S.p)
    | fail) <;> (try simp only [WKb, ↓reduceIte, Nat.reduceEqDiff, Nat.reduceAdd, hw]))))
    all_goals
      rw [hls]
      clear hls
      (apply Tr.againE (3 + 1); (focus (simp only [WKb, ↓reduceIte, Nat.reduceEqDiff])); (focus ((try simp only [WKb, ↓reduceIte, Nat.reduceAdd]); (all_goals ((repeat (refine cons_eq (by first | rfl | (simp [*]; done)) ?_)); rfl)); done)); (focus (first | omega | assumption | (simp only []; omega) | (refine ⟨by omega, by assumption⟩) | (simp only []; refine ⟨by omega, by assumption⟩) | ((try simp only []); (repeat' (first | omega | assumption | refine And.intro ?_ ?_)); done))); (focus (first | omega | (simp only []; omega))); (focus (((try clear hK) <;> (try simp only [WKe, *]) <;> repeat (first | with_reducible exact EntR.done | refine S.e ?_ | (refine S.f ?_ <;> (try simp only [WKe, ↓reduceIte, reduceCtorEq, Int.reduceEq, *])) | with_reducible apply EntR.ex | refine EntR.drop (F := F) ?_ | refine EntR.drop ?_)))))
  · have q0 : ix [nz n 4 0 s.a, nz n 4 1 s.b, nz n 4 2 s.c, nz n 4 3 s.d] 0 = nz n 4 0 s.a := rfl
    have q1 : ix [nz n 4 0 s.a, nz n 4 1 s.b, nz n 4 2 s.c, nz n 4 3 s.d] 1 = nz n 4 1 s.b := rfl
    have q2 : ix [nz n 4 0 s.a, nz n 4 1 s.b, nz n 4 2 s.c, nz n 4 3 s.d] 2 = nz n 4 2 s.c := rfl
    have q3 : ix [nz n 4 0 s.a, nz n 4 1 s.b, nz n 4 2 s.c, nz n 4 3 s.d] 3 = nz n 4 3 s.d := rfl
    ((try simp only [WKb, ↓reduceIte, Nat.reduceEqDiff]) <;> (repeat' ((first
    | (refine G.tr ?_; first | refine S.a ?_ | refine S.t ?_ | refine Tr.brK ?_ ?_ | (refine G.call 104 ?_; refine S.c ?_ (h := argsR_ok)) | refine S.n fun _ => ?_ | refine S.i fun hix => ?_ | (refine S.g fun hb => ?_; (try simp only [hb])) | (refine S.s (fun hb => ?_) (fun hb => ?_) <;> ((try simp only [hb]) <;> (try (have hp := hb; simp only [WKs] at hp; (try have hq := Int.not_le.2 hp); (try have hq := Int.not_lt.2 hp))))))
    | rintro _ _ ⟨rfl, rfl⟩
    | ((fail_if_success refine G.tr ?_); exact G.prop S.p)
    | fail) <;> (try simp only [WKb, WKh, ↓reduceIte, Nat.reduceEqDiff, Nat.reduceAdd, pl71, q0, q1, q2, q3]))))
    all_goals
      refine Tr.fin hK ⟨by rw [← hne]; rfl, rfl⟩ ?_
      ((try clear hK) <;> (try simp only [WKe, *]) <;> repeat (first | with_reducible exact EntR.done | refine S.e ?_ | (refine S.f ?_ <;> (try simp only [WKe, ↓reduceIte, reduceCtorEq, Int.reduceEq, *])) | with_reducible apply EntR.ex | refine EntR.drop (F := F) ?_ | refine EntR.drop ?_))

end Go.Proofs.YtgkhjgpgdfbdpaaDoor
