import Derived.Test.YtlmcoiloepoggaaOF
namespace Go.Proofs.Ytlmcoiloepoggaa
open Go Go.Wk
set_option maxHeartbeats 3200000
set_option maxRecDepth 10000
theorem take1 {b : Nat} {f m c : Int} : takeC [⟨b, f, m, c⟩] 0 = (if c < 1 then 1 else 0) ∧ takeG [⟨b, f, m, c⟩] 0 = (if c < 1 then [⟨b, f, m, c⟩] else [⟨b, f, m, IntKind.i64.wrap (c - 1)⟩]) := ⟨rfl, rfl⟩
theorem give1 {b : Nat} {f m c : Int} : giveC [⟨b, f, m, c⟩] 0 = (if m ≤ c then 6 else 0) ∧ giveG [⟨b, f, m, c⟩] 0 = (if m ≤ c then [⟨b, f, m, c⟩] else [⟨b, f, m, IntKind.i64.wrap (c + 1)⟩]) := ⟨rfl, rfl⟩
theorem give2 {b : Nat} {f m c : Int} : giveC [⟨b, f, m, c⟩] 1 = 3 ∧ giveG [⟨b, f, m, c⟩] 1 = [⟨b, f, m, c⟩] := ⟨rfl, rfl⟩
theorem count1 {b : Nat} {f m c : Int} : countC [⟨b, f, m, c⟩] 0 = c := rfl
theorem wrap01 : IntKind.i64.wrap (1 - 1) = 0 ∧ IntKind.i64.wrap (0 + 1) = 1 ∧ IntKind.i64.wrap 0 = 0 ∧ IntKind.i64.wrap 1 = 1 := ⟨rfl, rfl, rfl, rfl⟩
attribute [local irreducible] BrK GenK EGenK EUnitK CallK FnK CallV GuardO GuardC CondW opX opK opKc chkR eqR seqK blkK endL WL WD W LoopW BinK Tr drewK resL PickK NotK NilK ExtrK getK Instr.storeAt Instr.loadAt Instr.fieldAt Instr.indexAt Instr.lookup Instr.mapUpdate Instr.box Instr.alloc Instr.build Instr.buildSlice Instr.makeSlice Instr.makeMap Instr.sliceAt Instr.field Instr.index Instr.makeInterface Instr.typeAssert Builtin.len_ Builtin.append_ Builtin.cap_ Builtin.min_ Builtin.max_ Builtin.copy_ Builtin.clear_ convert binOp mp blk rob sl sep ex fact old
theorem works20_ok : Trip Try.prog 15 [].toArray [] fun v l' => v = .bool true ∧ l' = [] := by
  intro F K hK
  simp only [List.nil_append]
  (refine Tr.enter (rs := [.tmp 0]) mixed fn15 rfl (by simp +arith [Try.ntmps15]) fun u => ?_; simp only [cd15, Try.f15])
  ((try simp only [WKb]) <;> (repeat' ((first
    | (refine G.tr ?_; first | refine S.a ?_ | refine Tr.brK ?_ ?_ | (refine G.call 16 ?_; refine S.c ?_ (h := new1_ok)) | (refine G.call 17 ?_; refine S.c ?_ (h := give_ok)) | (refine G.call 18 ?_; refine S.c ?_ (h := take_ok)) | refine S.n fun _ => ?_ | refine S.i fun hix => ?_ | (refine S.g fun hb => ?_; (try simp only [hb])) | (refine S.s (fun hb => ?_) (fun hb => ?_) <;> ((try simp only [hb]) <;> (try (have hp := hb; simp only [WKs] at hp; (try have hq := Int.not_le.2 hp); (try have hq := Int.not_lt.2 hp))))))
    | rintro _ _ ⟨rfl, rfl⟩
    | rintro _ _ ⟨_, _, _, _, _, _, _, _, _, rfl, rfl⟩
    | ((fail_if_success refine G.tr ?_); exact G.prop S.p)
    | fail) <;> (try simp only [WKb, WKh, ↓reduceIte, Nat.reduceAdd]))))
  all_goals
    refine Tr.freezeAt (α := SemC) (by (repeat (first | exact TakeA.here | apply TakeA.next)); done) ?_
    ((try simp only [WKb, WKh, ↓reduceIte, Nat.reduceEqDiff, Nat.reduceAdd, Nat.reduceSub, Int.reduceEq, Int.reduceLT, Int.reduceLE, pl15, take1, give1, give2, wrap01]) <;> (repeat' ((first
    | (refine G.tr ?_; first | refine S.a ?_ | refine Tr.brK ?_ ?_ | (refine G.call 16 ?_; refine S.c ?_ (h := new1_ok)) | (refine G.call 17 ?_; refine S.c ?_ (h := give_ok)) | (refine G.call 18 ?_; refine S.c ?_ (h := take_ok)) | refine S.n fun _ => ?_ | refine S.i fun hix => ?_ | (refine S.g fun hb => ?_; (try simp only [hb])) | (refine S.s (fun hb => ?_) (fun hb => ?_) <;> ((try simp only [hb]) <;> (try (have hp := hb; simp only [WKs] at hp; (try have hq := Int.not_le.2 hp); (try have hq := Int.not_lt.2 hp))))))
    | rintro _ _ ⟨rfl, rfl⟩
    | rintro _ _ ⟨_, _, _, _, _, _, _, _, _, rfl, rfl⟩
    | ((fail_if_success refine G.tr ?_); exact G.prop S.p)
    | fail) <;> (try simp only [WKb, ↓reduceIte, Nat.reduceEqDiff, Int.reduceLT, Int.reduceLE, take1, give1, give2, wrap01]))))
  all_goals
    refine Tr.fin hK ⟨rfl, rfl⟩ ?_
    ((try clear hK) <;> (try simp only [WKe, *]) <;> repeat (first | with_reducible exact EntR.done | refine S.e ?_ | (refine S.f ?_ <;> (try simp only [WKe, ↓reduceIte, reduceCtorEq, Int.reduceEq, *])) | with_reducible apply EntR.ex | refine EntR.drop (F := F) ?_ | refine EntR.drop ?_))

theorem counts20_ok {s : SemC} {s2 : SV} {l : List Bool} (_hs : -9223372036854775808 ≤ s.first ∧ s.first ≤ 9223372036854775807) (hm : -9223372036854775808 ≤ s.most ∧ s.most ≤ 9223372036854775807) : Trip Try.prog 3 [.agg (En.enc s).toArray, s2.v].toArray [sl true s2.v l] fun v l' => v = .bool true ∧ l' = [] := by
  intro F K hK
  simp only [List.cons_append, List.nil_append]
  (refine Tr.enter (rs := [.tmp 4]) mixed fn3 rfl (by simp +arith [Try.ntmps3]) fun u => ?_; simp only [cd3, Try.f3])
  ((try simp only [WKb, ↓reduceIte, Nat.reduceEqDiff, Nat.reduceAdd]) <;> (repeat' ((first
    | (refine G.tr ?_; first | refine S.a ?_ | refine Tr.brK ?_ ?_ | (refine G.call 15 ?_; refine S.c ?_ (h := works20_ok)) | (refine G.call 16 ?_; refine S.c ?_ (h := new1_ok)) | (refine G.call 17 ?_; refine S.c ?_ (h := give_ok)) | (refine G.call 18 ?_; refine S.c ?_ (h := take_ok)) | (refine G.call 19 ?_; refine S.c ?_ (h := count_ok)) | refine S.n fun _ => ?_ | refine S.i fun hix => ?_ | (refine S.g fun hb => ?_; (try simp only [hb])) | (refine S.s (fun hb => ?_) (fun hb => ?_) <;> ((try simp only [hb]) <;> (try (have hp := hb; simp only [WKs] at hp; (try have hq := Int.not_le.2 hp); (try have hq := Int.not_lt.2 hp))))))
    | rintro _ _ ⟨rfl, rfl⟩
    | rintro _ _ ⟨_, _, _, _, _, _, _, _, _, rfl, rfl⟩
    | ((fail_if_success refine G.tr ?_); exact G.prop S.p)
    | fail) <;> (try simp only [WKb, WKh, ↓reduceIte, Nat.reduceEqDiff, Nat.reduceAdd]))))
  · refine Tr.fin hK ⟨rfl, rfl⟩ ?_
    ((try clear hK) <;> (try simp only [WKe, *]) <;> repeat (first | with_reducible exact EntR.done | refine S.e ?_ | (refine S.f ?_ <;> (try simp only [WKe, ↓reduceIte, reduceCtorEq, Int.reduceEq, *])) | with_reducible apply EntR.ex | refine EntR.drop (F := F) ?_ | refine EntR.drop ?_))
  · refine Tr.fin hK ⟨rfl, rfl⟩ ?_
    ((try clear hK) <;> (try simp only [WKe, *]) <;> repeat (first | with_reducible exact EntR.done | refine S.e ?_ | (refine S.f ?_ <;> (try simp only [WKe, ↓reduceIte, reduceCtorEq, Int.reduceEq, *])) | with_reducible apply EntR.ex | refine EntR.drop (F := F) ?_ | refine EntR.drop ?_))
  refine Tr.freezeAt (α := SemC) (by (repeat (first | exact TakeA.here | apply TakeA.next)); done) ?_
  ((try simp only [WKb, WKh, ↓reduceIte, Nat.reduceEqDiff, Nat.reduceAdd, Nat.reduceSub, Int.reduceEq, Int.reduceLT, Int.reduceLE, pl3, SemG.pt]) <;> (repeat' ((first
    | (refine G.tr ?_; first | refine S.a ?_ | refine Tr.brK ?_ ?_ | (refine G.call 15 ?_; refine S.c ?_ (h := works20_ok)) | (refine G.call 16 ?_; refine S.c ?_ (h := new1_ok)) | (refine G.call 17 ?_; refine S.c ?_ (h := give_ok)) | (refine G.call 18 ?_; refine S.c ?_ (h := take_ok)) | (refine G.call 19 ?_; refine S.c ?_ (h := count_ok)) | refine S.n fun _ => ?_ | refine S.i fun hix => ?_ | (refine S.g fun hb => ?_; (try simp only [hb])) | (refine S.s (fun hb => ?_) (fun hb => ?_) <;> ((try simp only [hb]) <;> (try (have hp := hb; simp only [WKs] at hp; (try have hq := Int.not_le.2 hp); (try have hq := Int.not_lt.2 hp))))))
    | rintro _ _ ⟨rfl, rfl⟩
    | rintro _ _ ⟨_, _, _, _, _, _, _, _, _, rfl, rfl⟩
    | ((fail_if_success refine G.tr ?_); exact G.prop S.p)
    | fail) <;> (try simp only [WKb, ↓reduceIte, Nat.reduceEqDiff, SemG.pt]))))
  rename_i ob s11 s12 s13 s14 sb g2 g3 g4
  refine Tr.loopE (α := Nat × Int) [4, 6, 7] [1, 2, 5] (fun x => [.bool false, .int .i64 x.2, .int .i64 x.1]) (fun x => [fam semA [⟨sb, s.first, s.most, x.2⟩]]) (fun x => x.1 ≤ 100 ∧ 0 ≤ x.2 ∧ x.2 ≤ s.most) (fun x => 100 - x.1) (0, s.first) (by (repeat (first | exact TakeL.nil | (apply TakeL.cons; focus ((first | exact TakeA.dupS | exact TakeA.dupF | ((repeat (first | with_reducible exact TakeA.here | exact TakeA.fam (by omega) (by omega) | with_reducible apply TakeA.next)); done) | ((repeat (first | exact TakeA.here | apply TakeA.next)); done) | exact TakeA.famNil | exact TakeA.nilS))) | fail)); done) rfl ⟨by omega, by simp at *; omega, by simp at *; omega⟩ fun x u hx => ?_
  obtain ⟨k, n⟩ := x
  simp only at hx ⊢
  obtain ⟨hk, hn0, hn1⟩ := hx
  have hw := wrapSucc (k := k) (by omega)
  have hmw : IntKind.i64.wrap (s.most - 1) = s.most - 1 := wrapId (by omega) (by omega)
  have hnw1 : n < s.most → IntKind.i64.wrap (n + 1) = n + 1 := fun h => wrapId (by omega) (by omega)
  have hnw2 : IntKind.i64.wrap (n - 1) = n - 1 := wrapId (by omega) (by omega)
  cases hbl : ix l (k : Int)
  · by_cases hlt : n < s.most
    · have hd1 : decide (n < s.most) = true := by simpa using hlt
      have hi1 : (if s.most ≤ n then (6 : Int) else 0) = 0 := if_neg (by omega)
      have hi2 : (if s.most ≤ n then [(⟨sb, s.first, s.most, n⟩ : SemG)] else [⟨sb, s.first, s.most, n + 1⟩]) = [⟨sb, s.first, s.most, n + 1⟩] := if_neg (by omega)
      have hi3 : (if s.most - 1 < n then s.most - 1 else n) = n := if_neg (by omega)
      have hnw := hnw1 hlt
      clear hnw1
      by_cases hpos : 0 < n
      · have hd2 : decide (0 < n) = true := by simpa using hpos
        have hj1 : (if n < 1 then (1 : Int) else 0) = 0 := if_neg (by omega)
        have hj2 : (if n < 1 then [(⟨sb, s.first, s.most, n⟩ : SemG)] else [⟨sb, s.first, s.most, n - 1⟩]) = [⟨sb, s.first, s.most, n - 1⟩] := if_neg (by omega)
        have hj3 : (if n < 1 then 1 else n) = n := if_neg (by omega)
        ((try simp only [WKb, ↓reduceIte, Nat.reduceEqDiff]) <;> (repeat' ((first
    | (refine G.tr ?_; first | refine S.a ?_ | refine Tr.brK ?_ ?_ | (refine G.call 15 ?_; refine S.c ?_ (h := works20_ok)) | (refine G.call 16 ?_; refine S.c ?_ (h := new1_ok)) | (refine G.call 17 ?_; refine S.c ?_ (h := give_ok)) | (refine G.call 18 ?_; refine S.c ?_ (h := take_ok)) | (refine G.call 19 ?_; refine S.c ?_ (h := count_ok)) | refine S.n fun _ => ?_ | refine S.i fun hix => ?_ | (refine S.g fun hb => ?_; (try simp only [hb])) | (refine S.s (fun hb => ?_) (fun hb => ?_) <;> ((try simp only [hb]) <;> (try (have hp := hb; simp only [WKs] at hp; (try have hq := Int.not_le.2 hp); (try have hq := Int.not_lt.2 hp))))))
    | rintro _ _ ⟨rfl, rfl⟩
    | rintro _ _ ⟨_, _, _, _, _, _, _, _, _, rfl, rfl⟩
    | ((fail_if_success refine G.tr ?_); exact G.prop S.p)
    | fail) <;> (try simp only [WKb, WKh, ↓reduceIte, Nat.reduceEqDiff, hw, hbl, SemG.pt, take1, count1, hnw2, hd2, hj1, hj2, hj3]))))
        all_goals clear hi1 hi2 hi3 hj1 hj2 hj3 hd1 hd2 hmw hnw hnw2
        all_goals first
          | (apply Tr.againE (k + 1, n - 1); (focus (simp only [WKb, ↓reduceIte, Nat.reduceEqDiff])); (focus ((try simp only [WKb, ↓reduceIte, Nat.reduceEqDiff]); (all_goals ((repeat (refine cons_eq (by first | rfl | ((try clear hK) <;> first | (simp [*, SemG.pt]; done) | (simp [*, SemG.pt]; omega) | (simp [*, SemG.pt] <;> (try split) <;> simp_all <;> omega))) ?_)); rfl)); done)); (focus (first | omega | assumption | (simp only []; omega) | (refine ⟨by omega, by assumption⟩) | (simp only []; refine ⟨by omega, by assumption⟩) | ((try simp only []); (repeat' (first | omega | assumption | refine And.intro ?_ ?_)); done))); (focus (first | omega | (simp only []; omega))); (focus (((try clear hK) <;> (try simp only [WKe, *]) <;> repeat (first | with_reducible exact EntR.done | refine S.e ?_ | (refine S.f ?_ <;> (try simp only [WKe, SemG.pt, ↓reduceIte, reduceCtorEq, Int.reduceEq, *])) | with_reducible apply EntR.ex | refine EntR.drop (F := F) ?_ | refine EntR.drop ?_)))))
          | (refine Tr.fin hK ⟨rfl, rfl⟩ ?_; ((try clear hK) <;> (try simp only [WKe, *]) <;> repeat (first | with_reducible exact EntR.done | refine S.e ?_ | (refine S.f ?_ <;> (try simp only [WKe, ↓reduceIte, reduceCtorEq, Int.reduceEq, *])) | with_reducible apply EntR.ex | refine EntR.drop (F := F) ?_ | refine EntR.drop ?_)))
      · have hd2 : decide (0 < n) = false := by simpa using hpos
        have hj1 : (if n < 1 then (1 : Int) else 0) = 1 := if_pos (by omega)
        have hj2 : (if n < 1 then [(⟨sb, s.first, s.most, n⟩ : SemG)] else [⟨sb, s.first, s.most, IntKind.i64.wrap (n - 1)⟩]) = [⟨sb, s.first, s.most, n⟩] := if_pos (by omega)
        have hj3 : (if n < 1 then 1 else n) = 1 := if_pos (by omega)
        have hnw2 : IntKind.i64.wrap (1 - 1) = n := (show IntKind.i64.wrap (1 - 1) = 0 from rfl).trans (by omega)
        ((try simp only [WKb, ↓reduceIte, Nat.reduceEqDiff]) <;> (repeat' ((first
    | (refine G.tr ?_; first | refine S.a ?_ | refine Tr.brK ?_ ?_ | (refine G.call 15 ?_; refine S.c ?_ (h := works20_ok)) | (refine G.call 16 ?_; refine S.c ?_ (h := new1_ok)) | (refine G.call 17 ?_; refine S.c ?_ (h := give_ok)) | (refine G.call 18 ?_; refine S.c ?_ (h := take_ok)) | (refine G.call 19 ?_; refine S.c ?_ (h := count_ok)) | refine S.n fun _ => ?_ | refine S.i fun hix => ?_ | (refine S.g fun hb => ?_; (try simp only [hb])) | (refine S.s (fun hb => ?_) (fun hb => ?_) <;> ((try simp only [hb]) <;> (try (have hp := hb; simp only [WKs] at hp; (try have hq := Int.not_le.2 hp); (try have hq := Int.not_lt.2 hp))))))
    | rintro _ _ ⟨rfl, rfl⟩
    | rintro _ _ ⟨_, _, _, _, _, _, _, _, _, rfl, rfl⟩
    | ((fail_if_success refine G.tr ?_); exact G.prop S.p)
    | fail) <;> (try simp only [WKb, WKh, ↓reduceIte, Nat.reduceEqDiff, Int.reduceEq, hw, hbl, SemG.pt, take1, count1, hnw2, hd2, hj1, hj2, hj3]))))
        all_goals clear hi1 hi2 hi3 hj1 hj2 hj3 hd1 hd2 hmw hnw hnw2
        all_goals first
          | (apply Tr.againE (k + 1, n); (focus (simp only [WKb, ↓reduceIte, Nat.reduceEqDiff])); (focus ((try simp only [WKb, ↓reduceIte, Nat.reduceEqDiff]); (all_goals ((repeat (refine cons_eq (by first | rfl | ((try clear hK) <;> first | (simp [*, SemG.pt]; done) | (simp [*, SemG.pt]; omega) | (simp [*, SemG.pt] <;> (try split) <;> simp_all <;> omega))) ?_)); rfl)); done)); (focus (first | omega | assumption | (simp only []; omega) | (refine ⟨by omega, by assumption⟩) | (simp only []; refine ⟨by omega, by assumption⟩) | ((try simp only []); (repeat' (first | omega | assumption | refine And.intro ?_ ?_)); done))); (focus (first | omega | (simp only []; omega))); (focus (((try clear hK) <;> (try simp only [WKe, *]) <;> repeat (first | with_reducible exact EntR.done | refine S.e ?_ | (refine S.f ?_ <;> (try simp only [WKe, SemG.pt, ↓reduceIte, reduceCtorEq, Int.reduceEq, *])) | with_reducible apply EntR.ex | refine EntR.drop (F := F) ?_ | refine EntR.drop ?_)))))
          | (refine Tr.fin hK ⟨rfl, rfl⟩ ?_; ((try clear hK) <;> (try simp only [WKe, *]) <;> repeat (first | with_reducible exact EntR.done | refine S.e ?_ | (refine S.f ?_ <;> (try simp only [WKe, ↓reduceIte, reduceCtorEq, Int.reduceEq, *])) | with_reducible apply EntR.ex | refine EntR.drop (F := F) ?_ | refine EntR.drop ?_)))
    · have hd1 : decide (n < s.most) = false := by simpa using hlt
      have hi1 : (if s.most ≤ n then (6 : Int) else 0) = 6 := if_pos (by omega)
      have hi2 : (if s.most ≤ n then [(⟨sb, s.first, s.most, n⟩ : SemG)] else [⟨sb, s.first, s.most, IntKind.i64.wrap (n + 1)⟩]) = [⟨sb, s.first, s.most, n⟩] := if_pos (by omega)
      have hi3 : (if s.most - 1 < n then s.most - 1 else n) = s.most - 1 := if_pos (by omega)
      have hnw : IntKind.i64.wrap (s.most - 1 + 1) = n := by rw [wrapId (by omega) (by omega)]; omega
      clear hnw1
      by_cases hpos : 0 < n
      · have hd2 : decide (0 < n) = true := by simpa using hpos
        have hj1 : (if n < 1 then (1 : Int) else 0) = 0 := if_neg (by omega)
        have hj2 : (if n < 1 then [(⟨sb, s.first, s.most, n⟩ : SemG)] else [⟨sb, s.first, s.most, n - 1⟩]) = [⟨sb, s.first, s.most, n - 1⟩] := if_neg (by omega)
        have hj3 : (if n < 1 then 1 else n) = n := if_neg (by omega)
        ((try simp only [WKb, ↓reduceIte, Nat.reduceEqDiff]) <;> (repeat' ((first
    | (refine G.tr ?_; first | refine S.a ?_ | refine Tr.brK ?_ ?_ | (refine G.call 15 ?_; refine S.c ?_ (h := works20_ok)) | (refine G.call 16 ?_; refine S.c ?_ (h := new1_ok)) | (refine G.call 17 ?_; refine S.c ?_ (h := give_ok)) | (refine G.call 18 ?_; refine S.c ?_ (h := take_ok)) | (refine G.call 19 ?_; refine S.c ?_ (h := count_ok)) | refine S.n fun _ => ?_ | refine S.i fun hix => ?_ | (refine S.g fun hb => ?_; (try simp only [hb])) | (refine S.s (fun hb => ?_) (fun hb => ?_) <;> ((try simp only [hb]) <;> (try (have hp := hb; simp only [WKs] at hp; (try have hq := Int.not_le.2 hp); (try have hq := Int.not_lt.2 hp))))))
    | rintro _ _ ⟨rfl, rfl⟩
    | rintro _ _ ⟨_, _, _, _, _, _, _, _, _, rfl, rfl⟩
    | ((fail_if_success refine G.tr ?_); exact G.prop S.p)
    | fail) <;> (try simp only [WKb, WKh, ↓reduceIte, Nat.reduceEqDiff, hw, hbl, SemG.pt, take1, count1, hnw2, hd2, hj1, hj2, hj3]))))
        all_goals clear hi1 hi2 hi3 hj1 hj2 hj3 hd1 hd2 hmw hnw hnw2
        all_goals first
          | (apply Tr.againE (k + 1, n - 1); (focus (simp only [WKb, ↓reduceIte, Nat.reduceEqDiff])); (focus ((try simp only [WKb, ↓reduceIte, Nat.reduceEqDiff]); (all_goals ((repeat (refine cons_eq (by first | rfl | ((try clear hK) <;> first | (simp [*, SemG.pt]; done) | (simp [*, SemG.pt]; omega) | (simp [*, SemG.pt] <;> (try split) <;> simp_all <;> omega))) ?_)); rfl)); done)); (focus (first | omega | assumption | (simp only []; omega) | (refine ⟨by omega, by assumption⟩) | (simp only []; refine ⟨by omega, by assumption⟩) | ((try simp only []); (repeat' (first | omega | assumption | refine And.intro ?_ ?_)); done))); (focus (first | omega | (simp only []; omega))); (focus (((try clear hK) <;> (try simp only [WKe, *]) <;> repeat (first | with_reducible exact EntR.done | refine S.e ?_ | (refine S.f ?_ <;> (try simp only [WKe, SemG.pt, ↓reduceIte, reduceCtorEq, Int.reduceEq, *])) | with_reducible apply EntR.ex | refine EntR.drop (F := F) ?_ | refine EntR.drop ?_)))))
          | (refine Tr.fin hK ⟨rfl, rfl⟩ ?_; ((try clear hK) <;> (try simp only [WKe, *]) <;> repeat (first | with_reducible exact EntR.done | refine S.e ?_ | (refine S.f ?_ <;> (try simp only [WKe, ↓reduceIte, reduceCtorEq, Int.reduceEq, *])) | with_reducible apply EntR.ex | refine EntR.drop (F := F) ?_ | refine EntR.drop ?_)))
      · have hd2 : decide (0 < n) = false := by simpa using hpos
        have hj1 : (if n < 1 then (1 : Int) else 0) = 1 := if_pos (by omega)
        have hj2 : (if n < 1 then [(⟨sb, s.first, s.most, n⟩ : SemG)] else [⟨sb, s.first, s.most, IntKind.i64.wrap (n - 1)⟩]) = [⟨sb, s.first, s.most, n⟩] := if_pos (by omega)
        have hj3 : (if n < 1 then 1 else n) = 1 := if_pos (by omega)
        have hnw2 : IntKind.i64.wrap (1 - 1) = n := (show IntKind.i64.wrap (1 - 1) = 0 from rfl).trans (by omega)
        ((try simp only [WKb, ↓reduceIte, Nat.reduceEqDiff]) <;> (repeat' ((first
    | (refine G.tr ?_; first | refine S.a ?_ | refine Tr.brK ?_ ?_ | (refine G.call 15 ?_; refine S.c ?_ (h := works20_ok)) | (refine G.call 16 ?_; refine S.c ?_ (h := new1_ok)) | (refine G.call 17 ?_; refine S.c ?_ (h := give_ok)) | (refine G.call 18 ?_; refine S.c ?_ (h := take_ok)) | (refine G.call 19 ?_; refine S.c ?_ (h := count_ok)) | refine S.n fun _ => ?_ | refine S.i fun hix => ?_ | (refine S.g fun hb => ?_; (try simp only [hb])) | (refine S.s (fun hb => ?_) (fun hb => ?_) <;> ((try simp only [hb]) <;> (try (have hp := hb; simp only [WKs] at hp; (try have hq := Int.not_le.2 hp); (try have hq := Int.not_lt.2 hp))))))
    | rintro _ _ ⟨rfl, rfl⟩
    | rintro _ _ ⟨_, _, _, _, _, _, _, _, _, rfl, rfl⟩
    | ((fail_if_success refine G.tr ?_); exact G.prop S.p)
    | fail) <;> (try simp only [WKb, WKh, ↓reduceIte, Nat.reduceEqDiff, Int.reduceEq, hw, hbl, SemG.pt, take1, count1, hnw2, hd2, hj1, hj2, hj3]))))
        all_goals clear hi1 hi2 hi3 hj1 hj2 hj3 hd1 hd2 hmw hnw hnw2
        all_goals first
          | (apply Tr.againE (k + 1, n); (focus (simp only [WKb, ↓reduceIte, Nat.reduceEqDiff])); (focus ((try simp only [WKb, ↓reduceIte, Nat.reduceEqDiff]); (all_goals ((repeat (refine cons_eq (by first | rfl | ((try clear hK) <;> first | (simp [*, SemG.pt]; done) | (simp [*, SemG.pt]; omega) | (simp [*, SemG.pt] <;> (try split) <;> simp_all <;> omega))) ?_)); rfl)); done)); (focus (first | omega | assumption | (simp only []; omega) | (refine ⟨by omega, by assumption⟩) | (simp only []; refine ⟨by omega, by assumption⟩) | ((try simp only []); (repeat' (first | omega | assumption | refine And.intro ?_ ?_)); done))); (focus (first | omega | (simp only []; omega))); (focus (((try clear hK) <;> (try simp only [WKe, *]) <;> repeat (first | with_reducible exact EntR.done | refine S.e ?_ | (refine S.f ?_ <;> (try simp only [WKe, SemG.pt, ↓reduceIte, reduceCtorEq, Int.reduceEq, *])) | with_reducible apply EntR.ex | refine EntR.drop (F := F) ?_ | refine EntR.drop ?_)))))
          | (refine Tr.fin hK ⟨rfl, rfl⟩ ?_; ((try clear hK) <;> (try simp only [WKe, *]) <;> repeat (first | with_reducible exact EntR.done | refine S.e ?_ | (refine S.f ?_ <;> (try simp only [WKe, ↓reduceIte, reduceCtorEq, Int.reduceEq, *])) | with_reducible apply EntR.ex | refine EntR.drop (F := F) ?_ | refine EntR.drop ?_)))
  · by_cases hlt : n < s.most
    · have hd1 : decide (n < s.most) = true := by simpa using hlt
      have hi1 : (if s.most ≤ n then (6 : Int) else 0) = 0 := if_neg (by omega)
      have hi2 : (if s.most ≤ n then [(⟨sb, s.first, s.most, n⟩ : SemG)] else [⟨sb, s.first, s.most, n + 1⟩]) = [⟨sb, s.first, s.most, n + 1⟩] := if_neg (by omega)
      have hi3 : (if s.most - 1 < n then s.most - 1 else n) = n := if_neg (by omega)
      have hnw := hnw1 hlt
      clear hnw1
      by_cases hpos : 0 < n
      · have hd2 : decide (0 < n) = true := by simpa using hpos
        have hj1 : (if n < 1 then (1 : Int) else 0) = 0 := if_neg (by omega)
        have hj2 : (if n < 1 then [(⟨sb, s.first, s.most, n⟩ : SemG)] else [⟨sb, s.first, s.most, n - 1⟩]) = [⟨sb, s.first, s.most, n - 1⟩] := if_neg (by omega)
        have hj3 : (if n < 1 then 1 else n) = n := if_neg (by omega)
        ((try simp only [WKb, ↓reduceIte, Nat.reduceEqDiff]) <;> (repeat' ((first
    | (refine G.tr ?_; first | refine S.a ?_ | refine Tr.brK ?_ ?_ | (refine G.call 15 ?_; refine S.c ?_ (h := works20_ok)) | (refine G.call 16 ?_; refine S.c ?_ (h := new1_ok)) | (refine G.call 17 ?_; refine S.c ?_ (h := give_ok)) | (refine G.call 18 ?_; refine S.c ?_ (h := take_ok)) | (refine G.call 19 ?_; refine S.c ?_ (h := count_ok)) | refine S.n fun _ => ?_ | refine S.i fun hix => ?_ | (refine S.g fun hb => ?_; (try simp only [hb])) | (refine S.s (fun hb => ?_) (fun hb => ?_) <;> ((try simp only [hb]) <;> (try (have hp := hb; simp only [WKs] at hp; (try have hq := Int.not_le.2 hp); (try have hq := Int.not_lt.2 hp))))))
    | rintro _ _ ⟨rfl, rfl⟩
    | rintro _ _ ⟨_, _, _, _, _, _, _, _, _, rfl, rfl⟩
    | ((fail_if_success refine G.tr ?_); exact G.prop S.p)
    | fail) <;> (try simp only [WKb, ↓reduceIte, Nat.reduceEqDiff, pl3, hw, hbl, SemG.pt, give1, count1, hmw, hnw, hd1, hi1, hi2, hi3]))))
        all_goals clear hi1 hi2 hi3 hj1 hj2 hj3 hd1 hd2 hmw hnw hnw2
        all_goals first
          | (apply Tr.againE (k + 1, n + 1); (focus (simp only [WKb, ↓reduceIte, Nat.reduceEqDiff])); (focus ((try simp only [WKb, ↓reduceIte, Nat.reduceEqDiff]); (all_goals ((repeat (refine cons_eq (by first | rfl | ((try clear hK) <;> first | (simp [*, SemG.pt]; done) | (simp [*, SemG.pt]; omega) | (simp [*, SemG.pt] <;> (try split) <;> simp_all <;> omega))) ?_)); rfl)); done)); (focus (first | omega | assumption | (simp only []; omega) | (refine ⟨by omega, by assumption⟩) | (simp only []; refine ⟨by omega, by assumption⟩) | ((try simp only []); (repeat' (first | omega | assumption | refine And.intro ?_ ?_)); done))); (focus (first | omega | (simp only []; omega))); (focus (((try clear hK) <;> (try simp only [WKe, *]) <;> repeat (first | with_reducible exact EntR.done | refine S.e ?_ | (refine S.f ?_ <;> (try simp only [WKe, SemG.pt, ↓reduceIte, reduceCtorEq, Int.reduceEq, *])) | with_reducible apply EntR.ex | refine EntR.drop (F := F) ?_ | refine EntR.drop ?_)))))
          | (refine Tr.fin hK ⟨rfl, rfl⟩ ?_; ((try clear hK) <;> (try simp only [WKe, *]) <;> repeat (first | with_reducible exact EntR.done | refine S.e ?_ | (refine S.f ?_ <;> (try simp only [WKe, ↓reduceIte, reduceCtorEq, Int.reduceEq, *])) | with_reducible apply EntR.ex | refine EntR.drop (F := F) ?_ | refine EntR.drop ?_)))
      · have hd2 : decide (0 < n) = false := by simpa using hpos
        have hj1 : (if n < 1 then (1 : Int) else 0) = 1 := if_pos (by omega)
        have hj2 : (if n < 1 then [(⟨sb, s.first, s.most, n⟩ : SemG)] else [⟨sb, s.first, s.most, IntKind.i64.wrap (n - 1)⟩]) = [⟨sb, s.first, s.most, n⟩] := if_pos (by omega)
        have hj3 : (if n < 1 then 1 else n) = 1 := if_pos (by omega)
        have hnw2 : IntKind.i64.wrap (1 - 1) = n := (show IntKind.i64.wrap (1 - 1) = 0 from rfl).trans (by omega)
        ((try simp only [WKb, ↓reduceIte, Nat.reduceEqDiff]) <;> (repeat' ((first
    | (refine G.tr ?_; first | refine S.a ?_ | refine Tr.brK ?_ ?_ | (refine G.call 15 ?_; refine S.c ?_ (h := works20_ok)) | (refine G.call 16 ?_; refine S.c ?_ (h := new1_ok)) | (refine G.call 17 ?_; refine S.c ?_ (h := give_ok)) | (refine G.call 18 ?_; refine S.c ?_ (h := take_ok)) | (refine G.call 19 ?_; refine S.c ?_ (h := count_ok)) | refine S.n fun _ => ?_ | refine S.i fun hix => ?_ | (refine S.g fun hb => ?_; (try simp only [hb])) | (refine S.s (fun hb => ?_) (fun hb => ?_) <;> ((try simp only [hb]) <;> (try (have hp := hb; simp only [WKs] at hp; (try have hq := Int.not_le.2 hp); (try have hq := Int.not_lt.2 hp))))))
    | rintro _ _ ⟨rfl, rfl⟩
    | rintro _ _ ⟨_, _, _, _, _, _, _, _, _, rfl, rfl⟩
    | ((fail_if_success refine G.tr ?_); exact G.prop S.p)
    | fail) <;> (try simp only [WKb, ↓reduceIte, Nat.reduceEqDiff, pl3, hw, hbl, SemG.pt, give1, count1, hmw, hnw, hd1, hi1, hi2, hi3]))))
        all_goals clear hi1 hi2 hi3 hj1 hj2 hj3 hd1 hd2 hmw hnw hnw2
        all_goals first
          | (apply Tr.againE (k + 1, n + 1); (focus (simp only [WKb, ↓reduceIte, Nat.reduceEqDiff])); (focus ((try simp only [WKb, ↓reduceIte, Nat.reduceEqDiff]); (all_goals ((repeat (refine cons_eq (by first | rfl | ((try clear hK) <;> first | (simp [*, SemG.pt]; done) | (simp [*, SemG.pt]; omega) | (simp [*, SemG.pt] <;> (try split) <;> simp_all <;> omega))) ?_)); rfl)); done)); (focus (first | omega | assumption | (simp only []; omega) | (refine ⟨by omega, by assumption⟩) | (simp only []; refine ⟨by omega, by assumption⟩) | ((try simp only []); (repeat' (first | omega | assumption | refine And.intro ?_ ?_)); done))); (focus (first | omega | (simp only []; omega))); (focus (((try clear hK) <;> (try simp only [WKe, *]) <;> repeat (first | with_reducible exact EntR.done | refine S.e ?_ | (refine S.f ?_ <;> (try simp only [WKe, SemG.pt, ↓reduceIte, reduceCtorEq, Int.reduceEq, *])) | with_reducible apply EntR.ex | refine EntR.drop (F := F) ?_ | refine EntR.drop ?_)))))
          | (refine Tr.fin hK ⟨rfl, rfl⟩ ?_; ((try clear hK) <;> (try simp only [WKe, *]) <;> repeat (first | with_reducible exact EntR.done | refine S.e ?_ | (refine S.f ?_ <;> (try simp only [WKe, ↓reduceIte, reduceCtorEq, Int.reduceEq, *])) | with_reducible apply EntR.ex | refine EntR.drop (F := F) ?_ | refine EntR.drop ?_)))
    · have hd1 : decide (n < s.most) = false := by simpa using hlt
      have hi1 : (if s.most ≤ n then (6 : Int) else 0) = 6 := if_pos (by omega)
      have hi2 : (if s.most ≤ n then [(⟨sb, s.first, s.most, n⟩ : SemG)] else [⟨sb, s.first, s.most, IntKind.i64.wrap (n + 1)⟩]) = [⟨sb, s.first, s.most, n⟩] := if_pos (by omega)
      have hi3 : (if s.most - 1 < n then s.most - 1 else n) = s.most - 1 := if_pos (by omega)
      have hnw : IntKind.i64.wrap (s.most - 1 + 1) = n := by rw [wrapId (by omega) (by omega)]; omega
      clear hnw1
      by_cases hpos : 0 < n
      · have hd2 : decide (0 < n) = true := by simpa using hpos
        have hj1 : (if n < 1 then (1 : Int) else 0) = 0 := if_neg (by omega)
        have hj2 : (if n < 1 then [(⟨sb, s.first, s.most, n⟩ : SemG)] else [⟨sb, s.first, s.most, n - 1⟩]) = [⟨sb, s.first, s.most, n - 1⟩] := if_neg (by omega)
        have hj3 : (if n < 1 then 1 else n) = n := if_neg (by omega)
        ((try simp only [WKb, ↓reduceIte, Nat.reduceEqDiff]) <;> (repeat' ((first
    | (refine G.tr ?_; first | refine S.a ?_ | refine Tr.brK ?_ ?_ | (refine G.call 15 ?_; refine S.c ?_ (h := works20_ok)) | (refine G.call 16 ?_; refine S.c ?_ (h := new1_ok)) | (refine G.call 17 ?_; refine S.c ?_ (h := give_ok)) | (refine G.call 18 ?_; refine S.c ?_ (h := take_ok)) | (refine G.call 19 ?_; refine S.c ?_ (h := count_ok)) | refine S.n fun _ => ?_ | refine S.i fun hix => ?_ | (refine S.g fun hb => ?_; (try simp only [hb])) | (refine S.s (fun hb => ?_) (fun hb => ?_) <;> ((try simp only [hb]) <;> (try (have hp := hb; simp only [WKs] at hp; (try have hq := Int.not_le.2 hp); (try have hq := Int.not_lt.2 hp))))))
    | rintro _ _ ⟨rfl, rfl⟩
    | rintro _ _ ⟨_, _, _, _, _, _, _, _, _, rfl, rfl⟩
    | ((fail_if_success refine G.tr ?_); exact G.prop S.p)
    | fail) <;> (try simp only [WKb, ↓reduceIte, Nat.reduceEqDiff, Int.reduceEq, pl3, hw, hbl, SemG.pt, give1, count1, hmw, hnw, hd1, hi1, hi2, hi3]))))
        all_goals clear hi1 hi2 hi3 hj1 hj2 hj3 hd1 hd2 hmw hnw hnw2
        all_goals first
          | (apply Tr.againE (k + 1, n); (focus (simp only [WKb, ↓reduceIte, Nat.reduceEqDiff])); (focus ((try simp only [WKb, ↓reduceIte, Nat.reduceEqDiff]); (all_goals ((repeat (refine cons_eq (by first | rfl | ((try clear hK) <;> first | (simp [*, SemG.pt]; done) | (simp [*, SemG.pt]; omega) | (simp [*, SemG.pt] <;> (try split) <;> simp_all <;> omega))) ?_)); rfl)); done)); (focus (first | omega | assumption | (simp only []; omega) | (refine ⟨by omega, by assumption⟩) | (simp only []; refine ⟨by omega, by assumption⟩) | ((try simp only []); (repeat' (first | omega | assumption | refine And.intro ?_ ?_)); done))); (focus (first | omega | (simp only []; omega))); (focus (((try clear hK) <;> (try simp only [WKe, *]) <;> repeat (first | with_reducible exact EntR.done | refine S.e ?_ | (refine S.f ?_ <;> (try simp only [WKe, SemG.pt, ↓reduceIte, reduceCtorEq, Int.reduceEq, *])) | with_reducible apply EntR.ex | refine EntR.drop (F := F) ?_ | refine EntR.drop ?_)))))
          | (refine Tr.fin hK ⟨rfl, rfl⟩ ?_; ((try clear hK) <;> (try simp only [WKe, *]) <;> repeat (first | with_reducible exact EntR.done | refine S.e ?_ | (refine S.f ?_ <;> (try simp only [WKe, ↓reduceIte, reduceCtorEq, Int.reduceEq, *])) | with_reducible apply EntR.ex | refine EntR.drop (F := F) ?_ | refine EntR.drop ?_)))
      · have hd2 : decide (0 < n) = false := by simpa using hpos
        have hj1 : (if n < 1 then (1 : Int) else 0) = 1 := if_pos (by omega)
        have hj2 : (if n < 1 then [(⟨sb, s.first, s.most, n⟩ : SemG)] else [⟨sb, s.first, s.most, IntKind.i64.wrap (n - 1)⟩]) = [⟨sb, s.first, s.most, n⟩] := if_pos (by omega)
        have hj3 : (if n < 1 then 1 else n) = 1 := if_pos (by omega)
        have hnw2 : IntKind.i64.wrap (1 - 1) = n := (show IntKind.i64.wrap (1 - 1) = 0 from rfl).trans (by omega)
        ((try simp only [WKb, ↓reduceIte, Nat.reduceEqDiff]) <;> (repeat' ((first
    | (refine G.tr ?_; first | refine S.a ?_ | refine Tr.brK ?_ ?_ | (refine G.call 15 ?_; refine S.c ?_ (h := works20_ok)) | (refine G.call 16 ?_; refine S.c ?_ (h := new1_ok)) | (refine G.call 17 ?_; refine S.c ?_ (h := give_ok)) | (refine G.call 18 ?_; refine S.c ?_ (h := take_ok)) | (refine G.call 19 ?_; refine S.c ?_ (h := count_ok)) | refine S.n fun _ => ?_ | refine S.i fun hix => ?_ | (refine S.g fun hb => ?_; (try simp only [hb])) | (refine S.s (fun hb => ?_) (fun hb => ?_) <;> ((try simp only [hb]) <;> (try (have hp := hb; simp only [WKs] at hp; (try have hq := Int.not_le.2 hp); (try have hq := Int.not_lt.2 hp))))))
    | rintro _ _ ⟨rfl, rfl⟩
    | rintro _ _ ⟨_, _, _, _, _, _, _, _, _, rfl, rfl⟩
    | ((fail_if_success refine G.tr ?_); exact G.prop S.p)
    | fail) <;> (try simp only [WKb, ↓reduceIte, Nat.reduceEqDiff, Int.reduceEq, pl3, hw, hbl, SemG.pt, give1, count1, hmw, hnw, hd1, hi1, hi2, hi3]))))
        all_goals clear hi1 hi2 hi3 hj1 hj2 hj3 hd1 hd2 hmw hnw hnw2
        all_goals first
          | (apply Tr.againE (k + 1, n); (focus (simp only [WKb, ↓reduceIte, Nat.reduceEqDiff])); (focus ((try simp only [WKb, ↓reduceIte, Nat.reduceEqDiff]); (all_goals ((repeat (refine cons_eq (by first | rfl | ((try clear hK) <;> first | (simp [*, SemG.pt]; done) | (simp [*, SemG.pt]; omega) | (simp [*, SemG.pt] <;> (try split) <;> simp_all <;> omega))) ?_)); rfl)); done)); (focus (first | omega | assumption | (simp only []; omega) | (refine ⟨by omega, by assumption⟩) | (simp only []; refine ⟨by omega, by assumption⟩) | ((try simp only []); (repeat' (first | omega | assumption | refine And.intro ?_ ?_)); done))); (focus (first | omega | (simp only []; omega))); (focus (((try clear hK) <;> (try simp only [WKe, *]) <;> repeat (first | with_reducible exact EntR.done | refine S.e ?_ | (refine S.f ?_ <;> (try simp only [WKe, SemG.pt, ↓reduceIte, reduceCtorEq, Int.reduceEq, *])) | with_reducible apply EntR.ex | refine EntR.drop (F := F) ?_ | refine EntR.drop ?_)))))
          | (refine Tr.fin hK ⟨rfl, rfl⟩ ?_; ((try clear hK) <;> (try simp only [WKe, *]) <;> repeat (first | with_reducible exact EntR.done | refine S.e ?_ | (refine S.f ?_ <;> (try simp only [WKe, ↓reduceIte, reduceCtorEq, Int.reduceEq, *])) | with_reducible apply EntR.ex | refine EntR.drop (F := F) ?_ | refine EntR.drop ?_)))
end Go.Proofs.Ytlmcoiloepoggaa
