import Derived.Test.YtgkhjgpgdfbdpaaDoorYK
namespace Go.Proofs.YtgkhjgpgdfbdpaaDoor
open Go Go.Wk
set_option maxHeartbeats 6400000
set_option maxRecDepth 100000

theorem ix_faultsF {part : Int} {l : List EvC} {j : Int} (h0 : 0 ≤ j) (h1 : j < 5) : 0 ≤ ix (faultsF part l) j ∧ ix (faultsF part l) j ≤ l.length := by
  obtain ⟨k, rfl⟩ : ∃ k : Nat, j = (k : Int) := ⟨j.toNat, by omega⟩
  have c0 := cntF_le part 0 l
  have c1 := cntF_le part 1 l
  have c2 := cntF_le part 2 l
  have c3 := cntF_le part 3 l
  have c4 := cntF_le part 4 l
  obtain rfl | rfl | rfl | rfl | rfl : k = 0 ∨ k = 1 ∨ k = 2 ∨ k = 3 ∨ k = 4 := by omega
  all_goals
    simp only [faultsF, ix, Int.toNat_natCast, List.getD_cons_zero, List.getD_cons_succ]
    assumption
theorem faultsK_ix {part : Int} {l : List EvC} {kind k : Nat} (h : kind < 5) : ix (faultsK part l kind k) (kind : Int) = cntF part (kind : Int) (l.take k) := by
  unfold ix faultsK
  rw [Int.toNat_natCast, List.getD_eq_getElem?_getD, List.getElem?_map, List.getElem?_range h]
  simp
theorem faultsK_set {part : Int} {l : List EvC} {kind k : Nat} (_h : kind < 5) {x : Int} (hx : x = cntF part (kind : Int) (l.take (k + 1))) : (faultsK part l kind k).set (Int.toNat (kind : Int)) x = faultsK part l kind (k + 1) := by
  subst hx
  rw [Int.toNat_natCast]
  unfold faultsK
  refine List.ext_getElem (by simp) fun i h1 h2 => ?_
  rw [List.getElem_set]
  simp only [List.length_map, List.length_range] at h2
  by_cases hi : kind = i
  · subst hi
    rw [if_pos rfl]
    simp
  · rw [if_neg hi]
    simp only [List.getElem_map, List.getElem_range]
    by_cases h3 : i < kind
    · rw [if_pos h3, if_pos h3]
    · rw [if_neg h3, if_neg h3, if_neg (fun e => hi e.symm), if_neg (fun e => hi e.symm)]
theorem faultsK_same {part : Int} {l : List EvC} {kind k : Nat} (h : cntF part (kind : Int) (l.take k) = cntF part (kind : Int) (l.take (k + 1))) : faultsK part l kind k = faultsK part l kind (k + 1) := by
  unfold faultsK
  refine List.map_congr_left fun j _ => ?_
  by_cases h1 : j < kind
  · rw [if_pos h1, if_pos h1]
  · by_cases h2 : j = kind
    · subst h2; rw [if_neg h1, if_pos rfl, if_neg h1, if_pos rfl, h]
    · rw [if_neg h1, if_neg h2, if_neg h1, if_neg h2]
theorem faultsK_len {part : Int} {l : List EvC} {kind k : Nat} : (faultsK part l kind k).length = 5 := by simp [faultsK]
attribute [local irreducible] BrK GenK EGenK EUnitK CallK FnK CallV GuardO GuardC CondW opX opK opKc chkR eqR seqK blkK endL WL WD W LoopW BinK Tr drewK resL PickK NotK NilK ExtrK getK Instr.storeAt Instr.loadAt Instr.fieldAt Instr.indexAt Instr.lookup Instr.mapUpdate Instr.box Instr.alloc Instr.build Instr.buildSlice Instr.makeSlice Instr.makeMap Instr.sliceAt Instr.field Instr.index Instr.makeInterface Instr.typeAssert Builtin.len_ Builtin.append_ Builtin.cap_ Builtin.min_ Builtin.max_ Builtin.copy_ Builtin.clear_ convert binOp mp blk rob sl sep ex fact old
attribute [local irreducible] NegK mxV bufT bldB okW valW kvsW lastW cntF faultsK
theorem tfaults_ok {ro : Bool} {v : Value} {xs : List EvC} {part : Int} (h300 : xs.length ≤ 300) : Trip Tryd.prog 26 [v, .int .i64 part].toArray [sl ro v xs]
    fun u l' => ∃ t : SV, u = t.v ∧ l' = [sl false t.v (faultsF part xs), sl ro v xs] := by
  intro F K hK
  simp only [List.cons_append, List.nil_append]
  (refine Tr.enter (rs := [.tmp 4]) mixed fn26 rfl (by simp +arith [Tryd.ntmps26]) fun u => ?_; simp only [cd26, Tryd.f26])
  ((try simp only [WKb, Nat.reduceAdd]) <;> (repeat' ((first
    | (refine G.tr ?_; first | refine S.a ?_ | refine S.t ?_ | refine Tr.brK ?_ ?_ | (refine G.call 56 ?_; refine S.c ?_ (h := tfault_ok)) | refine S.n fun _ => ?_ | refine S.i fun hix => ?_ | (refine S.g fun hb => ?_; (try simp only [hb])) | (refine S.s (fun hb => ?_) (fun hb => ?_) <;> ((try simp only [hb]) <;> (try (have hp := hb; simp only [WKs] at hp; (try have hq := Int.not_le.2 hp); (try have hq := Int.not_lt.2 hp))))))
    | rintro _ _ ⟨rfl, rfl⟩
    | ((fail_if_success refine G.tr ?_); exact G.prop S.p)
    | fail) <;> (try simp only [WKb, ↓reduceIte, Nat.reduceEqDiff]))))
  rename_i t
  have hz : List.replicate (Int.toNat 5) (default : Int) = faultsF part (xs.take 0) := by
    unfold faultsF cntF; rfl
  rw [hz]
  refine Tr.loopE (α := Nat) [11] [1, 4, 5, 9, 10] (fun k => [.int .i64 k]) (fun k => [sl false t.v (faultsF part (xs.take k)), sl ro v xs]) (fun k => k ≤ xs.length) (fun k => xs.length - k) 0 (by (repeat (first | exact TakeL.nil | (apply TakeL.cons; focus ((first | exact TakeA.dupS | exact TakeA.dupF | ((repeat (first | with_reducible exact TakeA.here | exact TakeA.fam (by omega) (by omega) | with_reducible apply TakeA.next)); done) | ((repeat (first | exact TakeA.here | apply TakeA.next)); done) | exact TakeA.famNil | exact TakeA.nilS))) | fail)); done) rfl (Nat.zero_le _) fun k u hk => ?_
  have hfl : (faultsF part (xs.take k)).length = 5 := rfl
  by_cases hin : k < xs.length
  · have hw := wrapSucc (k := k) (by omega)
    have hts := take_snoc hin
    by_cases i1 : (ix xs (k : Int)).part = part
    · by_cases i2 : isF (ix xs (k : Int)).call
      · have hd : decide (isF (ix xs (k : Int)).call) = true := decide_eq_true i2
        have i3 := i2
        unfold isF at i3
        have hw2 : IntKind.i64.wrap (-1 - (ix xs (k : Int)).call) = -1 - (ix xs (k : Int)).call := wrapId (by omega) (by omega)
        have ⟨b0, b1⟩ := ix_faultsF (part := part) (l := xs.take k) (j := -1 - (ix xs (k : Int)).call) (by omega) (by omega)
        rw [List.length_take] at b1
        have hw3 : IntKind.i64.wrap (ix (faultsF part (xs.take k)) (-1 - (ix xs (k : Int)).call) + 1) = ix (faultsF part (xs.take k)) (-1 - (ix xs (k : Int)).call) + 1 := wrapId (by omega) (by omega)
        have hls := faultsF_put (l := xs.take k) i1 i2
        rw [← hts] at hls
        ((try simp only [WKb, ↓reduceIte, Nat.reduceEqDiff]) <;> (repeat' ((first
    | (refine G.tr ?_; first | refine S.a ?_ | refine S.t ?_ | refine Tr.brK ?_ ?_ | (refine G.call 56 ?_; refine S.c ?_ (h := tfault_ok)) | refine S.n fun _ => ?_ | refine S.i fun hix => ?_ | (refine S.g fun hb => ?_; (try simp only [hb])) | (refine S.s (fun hb => ?_) (fun hb => ?_) <;> ((try simp only [hb]) <;> (try (have hp := hb; simp only [WKs] at hp; (try have hq := Int.not_le.2 hp); (try have hq := Int.not_lt.2 hp))))))
    | rintro _ _ ⟨rfl, rfl⟩
    | ((fail_if_success refine G.tr ?_); exact G.prop S.p)
    | fail) <;> (try simp only [WKb, ↓reduceIte, Nat.reduceEqDiff, hw, hd, hw2, hw3]))))
        all_goals (apply Tr.againE (k + 1); (focus (simp only [WKb, ↓reduceIte, Nat.reduceEqDiff])); (focus ((try simp only [WKb, ↓reduceIte]); (all_goals ((repeat (refine cons_eq (by first | rfl | ((try clear hK) <;> first | (simp [*, hls]; done) | (simp [*, hls]; omega) | (simp [*, hls] <;> (try split) <;> simp_all <;> omega))) ?_)); rfl)); done)); (focus (first | omega | assumption | (simp only []; omega) | (refine ⟨by omega, by assumption⟩) | (simp only []; refine ⟨by omega, by assumption⟩) | ((try simp only []); (repeat' (first | omega | assumption | refine And.intro ?_ ?_)); done))); (focus (first | omega | (simp only []; omega))); (focus (((try clear hK) <;> (try simp only [WKe, *]) <;> repeat (first | with_reducible exact EntR.done | refine S.e ?_ | (refine S.f ?_ <;> (try simp only [WKe, hls, ↓reduceIte, reduceCtorEq, Int.reduceEq, *])) | with_reducible apply EntR.ex | refine EntR.drop (F := F) ?_ | refine EntR.drop ?_)))))
      · have hd : decide (isF (ix xs (k : Int)).call) = false := decide_eq_false i2
        have hls := faultsF_skip (part := part) (l := xs.take k) (fun h => i2 h.2)
        rw [← hts] at hls
        have hls := hls.symm
        ((try simp only [WKb, ↓reduceIte, Nat.reduceEqDiff]) <;> (repeat' ((first
    | (refine G.tr ?_; first | refine S.a ?_ | refine S.t ?_ | refine Tr.brK ?_ ?_ | (refine G.call 56 ?_; refine S.c ?_ (h := tfault_ok)) | refine S.n fun _ => ?_ | refine S.i fun hix => ?_ | (refine S.g fun hb => ?_; (try simp only [hb])) | (refine S.s (fun hb => ?_) (fun hb => ?_) <;> ((try simp only [hb]) <;> (try (have hp := hb; simp only [WKs] at hp; (try have hq := Int.not_le.2 hp); (try have hq := Int.not_lt.2 hp))))))
    | rintro _ _ ⟨rfl, rfl⟩
    | ((fail_if_success refine G.tr ?_); exact G.prop S.p)
    | fail) <;> (try simp only [WKb, ↓reduceIte, Nat.reduceEqDiff, hw, hd]))))
        all_goals (apply Tr.againE (k + 1); (focus (simp only [WKb, ↓reduceIte, Nat.reduceEqDiff])); (focus ((try simp only [WKb, ↓reduceIte]); (all_goals ((repeat (refine cons_eq (by first | rfl | ((try clear hK) <;> first | (simp [*, hls]; done) | (simp [*, hls]; omega) | (simp [*, hls] <;> (try split) <;> simp_all <;> omega))) ?_)); rfl)); done)); (focus (first | omega | assumption | (simp only []; omega) | (refine ⟨by omega, by assumption⟩) | (simp only []; refine ⟨by omega, by assumption⟩) | ((try simp only []); (repeat' (first | omega | assumption | refine And.intro ?_ ?_)); done))); (focus (first | omega | (simp only []; omega))); (focus (((try clear hK) <;> (try simp only [WKe, *]) <;> repeat (first | with_reducible exact EntR.done | refine S.e ?_ | (refine S.f ?_ <;> (try simp only [WKe, hls, ↓reduceIte, reduceCtorEq, Int.reduceEq, *])) | with_reducible apply EntR.ex | refine EntR.drop (F := F) ?_ | refine EntR.drop ?_)))))
    · have hls := faultsF_skip (part := part) (l := xs.take k) (fun h => i1 h.1)
      rw [← hts] at hls
      have hls := hls.symm
      ((try simp only [WKb, ↓reduceIte, Nat.reduceEqDiff]) <;> (repeat' ((first
    | (refine G.tr ?_; first | refine S.a ?_ | refine S.t ?_ | refine Tr.brK ?_ ?_ | (refine G.call 56 ?_; refine S.c ?_ (h := tfault_ok)) | refine S.n fun _ => ?_ | refine S.i fun hix => ?_ | (refine S.g fun hb => ?_; (try simp only [hb])) | (refine S.s (fun hb => ?_) (fun hb => ?_) <;> ((try simp only [hb]) <;> (try (have hp := hb; simp only [WKs] at hp; (try have hq := Int.not_le.2 hp); (try have hq := Int.not_lt.2 hp))))))
    | rintro _ _ ⟨rfl, rfl⟩
    | ((fail_if_success refine G.tr ?_); exact G.prop S.p)
    | fail) <;> (try simp only [WKb, ↓reduceIte, Nat.reduceEqDiff, hw]))))
      all_goals (apply Tr.againE (k + 1); (focus (simp only [WKb, ↓reduceIte, Nat.reduceEqDiff])); (focus ((try simp only [WKb, ↓reduceIte]); (all_goals ((repeat (refine cons_eq (by first | rfl | ((try clear hK) <;> first | (simp [*, hls]; done) | (simp [*, hls]; omega) | (simp [*, hls] <;> (try split) <;> simp_all <;> omega))) ?_)); rfl)); done)); (focus (first | omega | assumption | (simp only []; omega) | (refine ⟨by omega, by assumption⟩) | (simp only []; refine ⟨by omega, by assumption⟩) | ((try simp only []); (repeat' (first | omega | assumption | refine And.intro ?_ ?_)); done))); (focus (first | omega | (simp only []; omega))); (focus (((try clear hK) <;> (try simp only [WKe, *]) <;> repeat (first | with_reducible exact EntR.done | refine S.e ?_ | (refine S.f ?_ <;> (try simp only [WKe, hls, ↓reduceIte, reduceCtorEq, Int.reduceEq, *])) | with_reducible apply EntR.ex | refine EntR.drop (F := F) ?_ | refine EntR.drop ?_)))))
  · have hke : k = xs.length := by omega
    subst hke
    have htl : xs.take xs.length = xs := List.take_length
    ((try simp only [WKb, ↓reduceIte, Nat.reduceEqDiff, htl]) <;> (repeat' ((first
    | (refine G.tr ?_; first | refine S.a ?_ | refine S.t ?_ | refine Tr.brK ?_ ?_ | (refine G.call 56 ?_; refine S.c ?_ (h := tfault_ok)) | refine S.n fun _ => ?_ | refine S.i fun hix => ?_ | (refine S.g fun hb => ?_; (try simp only [hb])) | (refine S.s (fun hb => ?_) (fun hb => ?_) <;> ((try simp only [hb]) <;> (try (have hp := hb; simp only [WKs] at hp; (try have hq := Int.not_le.2 hp); (try have hq := Int.not_lt.2 hp))))))
    | rintro _ _ ⟨rfl, rfl⟩
    | ((fail_if_success refine G.tr ?_); exact G.prop S.p)
    | fail) <;> (try simp only [WKb, ↓reduceIte, Nat.reduceEqDiff]))))
    all_goals
      apply Tr.fin hK ⟨_, rfl, rfl⟩
      ((try clear hK) <;> (try simp only [WKe, *]) <;> repeat (first | with_reducible exact EntR.done | refine S.e ?_ | (refine S.f ?_ <;> (try simp only [WKe, htl, ↓reduceIte, reduceCtorEq, Int.reduceEq, *])) | with_reducible apply EntR.ex | refine EntR.drop (F := F) ?_ | refine EntR.drop ?_))

theorem tfaultsR_ok {ro : Bool} {v : Value} {xs : List EvC} {part : Int} (h300 : xs.length ≤ 300) : Trip Tryd.prog 27 [v, .int .i64 part].toArray [sl ro v xs]
    fun u l' => ∃ t : SV, u = t.v ∧ l' = [sl false t.v (faultsF part xs), sl ro v xs] := by
  intro F K hK
  simp only [List.cons_append, List.nil_append]
  (refine Tr.enter (rs := [.tmp 4]) mixed fn27 rfl (by simp +arith [Tryd.ntmps27]) fun u => ?_; simp only [cd27, Tryd.f27])
  ((try simp only [WKb, Nat.reduceAdd]) <;> (repeat' ((first
    | (refine G.tr ?_; first | refine S.a ?_ | refine S.t ?_ | refine Tr.brK ?_ ?_ | refine S.n fun _ => ?_ | refine S.i fun hix => ?_ | (refine S.g fun hb => ?_; (try simp only [hb])) | (refine S.s (fun hb => ?_) (fun hb => ?_) <;> ((try simp only [hb]) <;> (try (have hp := hb; simp only [WKs] at hp; (try have hq := Int.not_le.2 hp); (try have hq := Int.not_lt.2 hp))))))
    | ((fail_if_success refine G.tr ?_); exact G.prop S.p)
    | fail) <;> (try simp only [WKb, ↓reduceIte]))))
  rename_i t
  have hz : List.replicate (Int.toNat 5) (default : Int) = faultsK part xs 0 0 := by
    rw [faultsK_init]; rfl
  rw [hz]
  refine Tr.loopE (α := Nat) [6] [0, 1, 4, 5] (fun k => [.int .i64 k]) (fun k => [sl false t.v (faultsK part xs k 0), sl ro v xs]) (fun k => k ≤ 5) (fun k => 5 - k) 0 (by (repeat (first | exact TakeL.nil | (apply TakeL.cons; focus ((first | exact TakeA.dupS | exact TakeA.dupF | ((repeat (first | with_reducible exact TakeA.here | exact TakeA.fam (by omega) (by omega) | with_reducible apply TakeA.next)); done) | ((repeat (first | exact TakeA.here | apply TakeA.next)); done) | exact TakeA.famNil | exact TakeA.nilS))) | fail)); done) rfl (Nat.zero_le _) fun kind u hkd => ?_
  by_cases hin0 : kind < 5
  · have hw := wrapSucc (k := kind) (by omega)
    ((try simp only [WKb, ↓reduceIte, Nat.reduceEqDiff]) <;> (repeat' ((first
    | (refine G.tr ?_; first | refine S.a ?_ | refine S.t ?_ | refine Tr.brK ?_ ?_ | refine S.n fun _ => ?_ | refine S.i fun hix => ?_ | (refine S.g fun hb => ?_; (try simp only [hb])) | (refine S.s (fun hb => ?_) (fun hb => ?_) <;> ((try simp only [hb]) <;> (try (have hp := hb; simp only [WKs] at hp; (try have hq := Int.not_le.2 hp); (try have hq := Int.not_lt.2 hp))))))
    | ((fail_if_success refine G.tr ?_); exact G.prop S.p)
    | fail) <;> (try simp only [WKb]))))
    refine Tr.loopE (α := Nat) [7] [0, 1, 4, 5, 6] (fun k => [.int .i64 k]) (fun k => [sl false t.v (faultsK part xs kind k), sl ro v xs]) (fun k => k ≤ xs.length) (fun k => xs.length - k) 0 (by (repeat (first | exact TakeL.nil | (apply TakeL.cons; focus ((first | exact TakeA.dupS | exact TakeA.dupF | ((repeat (first | with_reducible exact TakeA.here | exact TakeA.fam (by omega) (by omega) | with_reducible apply TakeA.next)); done) | ((repeat (first | exact TakeA.here | apply TakeA.next)); done) | exact TakeA.famNil | exact TakeA.nilS))) | fail)); done) rfl (Nat.zero_le _) fun k u hk => ?_
    have hfl : (faultsK part xs kind k).length = 5 := faultsK_len
    have hw2 : IntKind.i64.wrap (-1 - (kind : Int)) = -1 - (kind : Int) := wrapId (by omega) (by omega)
    by_cases hin : k < xs.length
    · have hts := take_snoc hin
      have hcn := cntF_snoc part (kind : Int) (xs.take k) (ix xs (k : Int))
      rw [← hts] at hcn
      have hfx := faultsK_ix (part := part) (l := xs) (k := k) hin0
      have hcl := cntF_le part (kind : Int) (xs.take k)
      rw [List.length_take] at hcl
      have hw3 : IntKind.i64.wrap (cntF part (kind : Int) (xs.take k) + 1) = cntF part (kind : Int) (xs.take k) + 1 := wrapId (by omega) (by omega)
      have hwo := hw
      have hw := wrapSucc (k := k) (by omega)
      by_cases i1 : (ix xs (k : Int)).part = part
      · by_cases i2 : (ix xs (k : Int)).call = -1 - (kind : Int)
        · rw [if_pos ⟨i1, i2⟩] at hcn
          have hls := faultsK_set (part := part) (l := xs) (k := k) hin0 hcn.symm
          have hls2 := hls
          rw [Int.toNat_natCast] at hls2
          ((try simp only [WKb, ↓reduceIte, Nat.reduceEqDiff]) <;> (repeat' ((first
    | (refine G.tr ?_; first | refine S.a ?_ | refine S.t ?_ | refine Tr.brK ?_ ?_ | refine S.n fun _ => ?_ | refine S.i fun hix => ?_ | (refine S.g fun hb => ?_; (try simp only [hb])) | (refine S.s (fun hb => ?_) (fun hb => ?_) <;> ((try simp only [hb]) <;> (try (have hp := hb; simp only [WKs] at hp; (try have hq := Int.not_le.2 hp); (try have hq := Int.not_lt.2 hp))))))
    | ((fail_if_success refine G.tr ?_); exact G.prop S.p)
    | fail) <;> (try simp only [WKb, ↓reduceIte, Nat.reduceEqDiff, hw, hw2, hfx, hw3]))))
          all_goals (apply Tr.againE (k + 1); (focus (simp only [WKb, ↓reduceIte, Nat.reduceEqDiff])); (focus ((try simp only [WKb, ↓reduceIte]); (all_goals ((repeat (refine cons_eq (by first | rfl | ((try clear hK) <;> first | (simp [*, hls, hls2]; done) | (simp [*, hls, hls2]; omega) | (simp [*, hls, hls2] <;> (try split) <;> simp_all <;> omega))) ?_)); rfl)); done)); (focus (first | omega | assumption | (simp only []; omega) | (refine ⟨by omega, by assumption⟩) | (simp only []; refine ⟨by omega, by assumption⟩) | ((try simp only []); (repeat' (first | omega | assumption | refine And.intro ?_ ?_)); done))); (focus (first | omega | (simp only []; omega))); (focus (((try clear hK) <;> (try simp only [WKe, *]) <;> repeat (first | with_reducible exact EntR.done | refine S.e ?_ | (refine S.f ?_ <;> (try simp only [WKe, hls, hls2, ↓reduceIte, reduceCtorEq, Int.reduceEq, *])) | with_reducible apply EntR.ex | refine EntR.drop (F := F) ?_ | refine EntR.drop ?_)))))
        · rw [if_neg (fun h => i2 h.2)] at hcn
          have hls := faultsK_same (part := part) (l := xs) hcn.symm
          ((try simp only [WKb, ↓reduceIte, Nat.reduceEqDiff]) <;> (repeat' ((first
    | (refine G.tr ?_; first | refine S.a ?_ | refine S.t ?_ | refine Tr.brK ?_ ?_ | refine S.n fun _ => ?_ | refine S.i fun hix => ?_ | (refine S.g fun hb => ?_; (try simp only [hb])) | (refine S.s (fun hb => ?_) (fun hb => ?_) <;> ((try simp only [hb]) <;> (try (have hp := hb; simp only [WKs] at hp; (try have hq := Int.not_le.2 hp); (try have hq := Int.not_lt.2 hp))))))
    | ((fail_if_success refine G.tr ?_); exact G.prop S.p)
    | fail) <;> (try simp only [WKb, ↓reduceIte, Nat.reduceEqDiff, hw, hw2]))))
          all_goals (apply Tr.againE (k + 1); (focus (simp only [WKb, ↓reduceIte, Nat.reduceEqDiff])); (focus ((try simp only [WKb, ↓reduceIte]); (all_goals ((repeat (refine cons_eq (by first | rfl | ((try clear hK) <;> first | (simp [*, hls]; done) | (simp [*, hls]; omega) | (simp [*, hls] <;> (try split) <;> simp_all <;> omega))) ?_)); rfl)); done)); (focus (first | omega | assumption | (simp only []; omega) | (refine ⟨by omega, by assumption⟩) | (simp only []; refine ⟨by omega, by assumption⟩) | ((try simp only []); (repeat' (first | omega | assumption | refine And.intro ?_ ?_)); done))); (focus (first | omega | (simp only []; omega))); (focus (((try clear hK) <;> (try simp only [WKe, *]) <;> repeat (first | with_reducible exact EntR.done | refine S.e ?_ | (refine S.f ?_ <;> (try simp only [WKe, hls, ↓reduceIte, reduceCtorEq, Int.reduceEq, *])) | with_reducible apply EntR.ex | refine EntR.drop (F := F) ?_ | refine EntR.drop ?_)))))
      · rw [if_neg (fun h => i1 h.1)] at hcn
        have hls := faultsK_same (part := part) (l := xs) hcn.symm
        ((try simp only [WKb, ↓reduceIte, Nat.reduceEqDiff]) <;> (repeat' ((first
    | (refine G.tr ?_; first | refine S.a ?_ | refine S.t ?_ | refine Tr.brK ?_ ?_ | refine S.n fun _ => ?_ | refine S.i fun hix => ?_ | (refine S.g fun hb => ?_; (try simp only [hb])) | (refine S.s (fun hb => ?_) (fun hb => ?_) <;> ((try simp only [hb]) <;> (try (have hp := hb; simp only [WKs] at hp; (try have hq := Int.not_le.2 hp); (try have hq := Int.not_lt.2 hp))))))
    | ((fail_if_success refine G.tr ?_); exact G.prop S.p)
    | fail) <;> (try simp only [WKb, ↓reduceIte, Nat.reduceEqDiff, hw]))))
        all_goals (apply Tr.againE (k + 1); (focus (simp only [WKb, ↓reduceIte, Nat.reduceEqDiff])); (focus ((try simp only [WKb, ↓reduceIte]); (all_goals ((repeat (refine cons_eq (by first | rfl | ((try clear hK) <;> first | (simp [*, hls]; done) | (simp [*, hls]; omega) | (simp [*, hls] <;> (try split) <;> simp_all <;> omega))) ?_)); rfl)); done)); (focus (first | omega | assumption | (simp only []; omega) | (refine ⟨by omega, by assumption⟩) | (simp only []; refine ⟨by omega, by assumption⟩) | ((try simp only []); (repeat' (first | omega | assumption | refine And.intro ?_ ?_)); done))); (focus (first | omega | (simp only []; omega))); (focus (((try clear hK) <;> (try simp only [WKe, *]) <;> repeat (first | with_reducible exact EntR.done | refine S.e ?_ | (refine S.f ?_ <;> (try simp only [WKe, hls, ↓reduceIte, reduceCtorEq, Int.reduceEq, *])) | with_reducible apply EntR.ex | refine EntR.drop (F := F) ?_ | refine EntR.drop ?_)))))
    · have hke : k = xs.length := by omega
      subst hke
      have hls := faultsK_next (part := part) (l := xs) (kind := kind)
      ((try simp only [WKb, ↓reduceIte, Nat.reduceEqDiff]) <;> (repeat' ((first
    | (refine G.tr ?_; first | refine S.a ?_ | refine S.t ?_ | refine Tr.brK ?_ ?_ | refine S.n fun _ => ?_ | refine S.i fun hix => ?_ | (refine S.g fun hb => ?_; (try simp only [hb])) | (refine S.s (fun hb => ?_) (fun hb => ?_) <;> ((try simp only [hb]) <;> (try (have hp := hb; simp only [WKs] at hp; (try have hq := Int.not_le.2 hp); (try have hq := Int.not_lt.2 hp))))))
    | ((fail_if_success refine G.tr ?_); exact G.prop S.p)
    | fail) <;> (try simp only [WKb, ↓reduceIte, Nat.reduceEqDiff, hw]))))
      all_goals (apply Tr.againE (kind + 1); (focus (simp only [WKb, ↓reduceIte, Nat.reduceEqDiff])); (focus ((try simp only [WKb, ↓reduceIte]); (all_goals ((repeat (refine cons_eq (by first | rfl | ((try clear hK) <;> first | (simp [*, hls]; done) | (simp [*, hls]; omega) | (simp [*, hls] <;> (try split) <;> simp_all <;> omega))) ?_)); rfl)); done)); (focus (first | omega | assumption | (simp only []; omega) | (refine ⟨by omega, by assumption⟩) | (simp only []; refine ⟨by omega, by assumption⟩) | ((try simp only []); (repeat' (first | omega | assumption | refine And.intro ?_ ?_)); done))); (focus (first | omega | (simp only []; omega))); (focus (((try clear hK) <;> (try simp only [WKe, *]) <;> repeat (first | with_reducible exact EntR.done | refine S.e ?_ | (refine S.f ?_ <;> (try simp only [WKe, hls, ↓reduceIte, reduceCtorEq, Int.reduceEq, *])) | with_reducible apply EntR.ex | refine EntR.drop (F := F) ?_ | refine EntR.drop ?_)))))
  · have hke : kind = 5 := by omega
    subst hke
    have hls := faultsK_end (part := part) (l := xs) (k := 0)
    ((try simp only [WKb, ↓reduceIte, Nat.reduceEqDiff, hls]) <;> (repeat' ((first
    | (refine G.tr ?_; first | refine S.a ?_ | refine S.t ?_ | refine Tr.brK ?_ ?_ | refine S.n fun _ => ?_ | refine S.i fun hix => ?_ | (refine S.g fun hb => ?_; (try simp only [hb])) | (refine S.s (fun hb => ?_) (fun hb => ?_) <;> ((try simp only [hb]) <;> (try (have hp := hb; simp only [WKs] at hp; (try have hq := Int.not_le.2 hp); (try have hq := Int.not_lt.2 hp))))))
    | ((fail_if_success refine G.tr ?_); exact G.prop S.p)
    | fail) <;> (try simp only [WKb, ↓reduceIte, Nat.reduceEqDiff]))))
    all_goals
      apply Tr.fin hK ⟨_, rfl, rfl⟩
      ((try clear hK) <;> (try simp only [WKe, *]) <;> repeat (first | with_reducible exact EntR.done | refine S.e ?_ | (refine S.f ?_ <;> (try simp only [WKe, hls, ↓reduceIte, reduceCtorEq, Int.reduceEq, *])) | with_reducible apply EntR.ex | refine EntR.drop (F := F) ?_ | refine EntR.drop ?_))

end Go.Proofs.YtgkhjgpgdfbdpaaDoor
