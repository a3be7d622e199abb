import Derived.Test.YtlhmbcmkpafjoaaRF
namespace Go.Proofs.Ytlhmbcmkpafjoaa
open Go Go.Wk
set_option maxHeartbeats 6400000
set_option maxRecDepth 100000

attribute [local irreducible] BrK GenK EGenK EUnitK CallK FnK CallV GuardO GuardC CondW opX opK opKc chkR eqR seqK blkK endL WL WD W LoopW BinK Tr drewK resL PickK NotK NilK ExtrK getK Instr.storeAt Instr.loadAt Instr.fieldAt Instr.indexAt Instr.lookup Instr.mapUpdate Instr.box Instr.alloc Instr.build Instr.buildSlice Instr.makeSlice Instr.makeMap Instr.sliceAt Instr.field Instr.index Instr.makeInterface Instr.typeAssert Builtin.len_ Builtin.append_ Builtin.cap_ Builtin.min_ Builtin.max_ Builtin.copy_ Builtin.clear_ convert binOp mp blk rob sl sep ex fact old
attribute [local irreducible] chn CW chI
instance : ElT 22 Int := ⟨⟩
theorem fput_ok {u : Nat} {s : SV} {n x : Int} {xs : List Int} (hl : xs.length ≤ 5000) : Trip Try.prog 39 [.pointer (some ⟨u, 0, none⟩), .int .i64 x].toArray [rfB u s n, sl false s.v xs]
    fun v l' => ∃ t : SV, v = .bool (decide ((xs.length : Int) < n)) ∧ l' = [rfB u t n, sl false t.v (if (xs.length : Int) < n then xs ++ [x] else xs)] := by
  intro F K hK
  simp only [List.cons_append, List.nil_append]
  (refine Tr.enter (rs := [.tmp 4]) mixed fn39 rfl (by simp +arith [Try.ntmps39]) fun u => ?_; simp only [cd39, Try.f39])
  by_cases h : (xs.length : Int) < n
  · have h' : ¬ n ≤ (xs.length : Int) := by omega
    ((try simp only [WKb, ↓reduceIte, Nat.reduceEqDiff, Nat.reduceAdd, pl39]) <;> (repeat' ((first
    | (refine G.tr ?_; first | refine S.a ?_ | refine Tr.brK ?_ ?_ | refine S.n fun _ => ?_ | refine S.i fun hix => ?_ | (refine S.g fun hb => ?_; (try simp only [hb])) | (refine S.s (fun hb => ?_) (fun hb => ?_) <;> ((try simp only [hb]) <;> (try (have hp := hb; simp only [WKs] at hp; (try have hq := Int.not_le.2 hp); (try have hq := Int.not_lt.2 hp))))))
    | ((fail_if_success refine G.tr ?_); exact G.prop S.p)
    | fail) <;> (try simp only [WKb, ↓reduceIte, Nat.reduceEqDiff]))))
    all_goals
      apply Tr.fin hK ⟨_, (by first | (simp [*]; done) | (simp only [WKe, ↓reduceIte, reduceCtorEq, Int.reduceEq, eq_self, *, h]; done) | (simp only [WKe, ↓reduceIte, reduceCtorEq, Int.reduceEq, *, h]; rfl)), rfl⟩
      ((try clear hK) <;> (try simp only [WKe, ↓reduceIte, *]) <;> repeat (first | with_reducible exact EntR.done | refine S.e ?_ | (refine S.f ?_ <;> (try simp only [WKe, h, ↓reduceIte, reduceCtorEq, Int.reduceEq, *])) | with_reducible apply EntR.ex | refine EntR.drop (F := F) ?_ | refine EntR.drop ?_))
  · have h' : n ≤ (xs.length : Int) := by omega
    ((try simp only [WKb, ↓reduceIte, Nat.reduceEqDiff, Nat.reduceAdd, pl39]) <;> (repeat' ((first
    | (refine G.tr ?_; first | refine S.a ?_ | refine Tr.brK ?_ ?_ | refine S.n fun _ => ?_ | refine S.i fun hix => ?_ | (refine S.g fun hb => ?_; (try simp only [hb])) | (refine S.s (fun hb => ?_) (fun hb => ?_) <;> ((try simp only [hb]) <;> (try (have hp := hb; simp only [WKs] at hp; (try have hq := Int.not_le.2 hp); (try have hq := Int.not_lt.2 hp))))))
    | ((fail_if_success refine G.tr ?_); exact G.prop S.p)
    | fail) <;> (try simp only [WKb, ↓reduceIte, Nat.reduceEqDiff]))))
    all_goals
      apply Tr.fin hK ⟨_, (by first | (simp [*]; done) | (simp only [WKe, ↓reduceIte, reduceCtorEq, Int.reduceEq, eq_self, *, h]; done) | (simp only [WKe, ↓reduceIte, reduceCtorEq, Int.reduceEq, *, h]; rfl)), rfl⟩
      ((try clear hK) <;> (try simp only [WKe, ↓reduceIte, *]) <;> repeat (first | with_reducible exact EntR.done | refine S.e ?_ | (refine S.f ?_ <;> (try simp only [WKe, h, ↓reduceIte, reduceCtorEq, Int.reduceEq, *])) | with_reducible apply EntR.ex | refine EntR.drop (F := F) ?_ | refine EntR.drop ?_))

theorem ftake_ok {u : Nat} {s : SV} {n : Int} {xs : List Int} (hl : xs.length ≤ 5000) : Trip Try.prog 40 [.pointer (some ⟨u, 0, none⟩)].toArray [rfB u s n, sl false s.v xs]
    fun v l' => ∃ t : SV, v = .tuple #[.int .i64 (xs.headD 0), .bool (decide (0 < xs.length))] ∧ l' = [rfB u t n, sl false t.v xs.tail] := by
  intro F K hK
  simp only [List.cons_append, List.nil_append]
  (refine Tr.enter (rs := [.tmp 2, .tmp 3]) mixed fn40 rfl (by simp +arith [Try.ntmps40]) fun u => ?_; simp only [cd40, Try.f40])
  cases xs with
  | nil =>
    ((try simp only [WKb, ↓reduceIte, Nat.reduceEqDiff]) <;> (repeat' ((first
    | (refine G.tr ?_; first | refine S.a ?_ | refine Tr.brK ?_ ?_ | refine S.n fun _ => ?_ | refine S.i fun hix => ?_ | (refine S.g fun hb => ?_; (try simp only [hb])) | (refine S.s (fun hb => ?_) (fun hb => ?_) <;> ((try simp only [hb]) <;> (try (have hp := hb; simp only [WKs] at hp; (try have hq := Int.not_le.2 hp); (try have hq := Int.not_lt.2 hp))))))
    | ((fail_if_success refine G.tr ?_); exact G.prop S.p)
    | fail) <;> (try simp only [WKb, ↓reduceIte, Nat.reduceEqDiff, List.length_nil]))))
    all_goals
      apply Tr.fin hK ⟨s, (by first | (simp [*]; done) | (simp only [WKe, ↓reduceIte, reduceCtorEq, Int.reduceEq, eq_self, *]; done) | (simp only [WKe, ↓reduceIte, reduceCtorEq, Int.reduceEq, *]; rfl)), rfl⟩
      ((try clear hK) <;> (try simp only [WKe, *]) <;> repeat (first | with_reducible exact EntR.done | refine S.e ?_ | (refine S.f ?_ <;> (try simp only [WKe, ↓reduceIte, reduceCtorEq, Int.reduceEq, *])) | with_reducible apply EntR.ex | refine EntR.drop (F := F) ?_ | refine EntR.drop ?_))
  | cons y ys =>
    have h1 : ((y :: ys).length : Int) = (ys.length : Int) + 1 := by simp
    have h2 : (y :: ys).drop (Int.toNat 1) = ys := rfl
    have h3 : ix (y :: ys) 0 = y := rfl
    simp only [List.length_cons] at hl
    refine Tr.freezeAt (α := Int) (TakeA.next TakeA.here) ?_
    ((try simp only [WKb, ↓reduceIte, Nat.reduceEqDiff]) <;> (repeat' ((first
    | (refine G.tr ?_; first | refine S.a ?_ | refine Tr.brK ?_ ?_ | refine S.n fun _ => ?_ | refine S.i fun hix => ?_ | (refine S.g fun hb => ?_; (try simp only [hb])) | (refine S.s (fun hb => ?_) (fun hb => ?_) <;> ((try simp only [hb]) <;> (try (have hp := hb; simp only [WKs] at hp; (try have hq := Int.not_le.2 hp); (try have hq := Int.not_lt.2 hp))))))
    | ((fail_if_success refine G.tr ?_); exact G.prop S.p)
    | fail) <;> (try simp only [WKb, ↓reduceIte, Nat.reduceEqDiff, h1, h2, h3]))))
    all_goals
      apply Tr.fin hK ⟨_, (by first | (simp [*]; done) | (simp only [WKe, ↓reduceIte, reduceCtorEq, Int.reduceEq, eq_self, *]; done) | (simp only [WKe, ↓reduceIte, reduceCtorEq, Int.reduceEq, *]; rfl)), rfl⟩
      ((try clear hK) <;> (try simp only [WKe, List.tail_cons, *]) <;> repeat (first | with_reducible exact EntR.done | refine S.e ?_ | (refine S.f ?_ <;> (try simp only [WKe, List.tail_cons, ↓reduceIte, reduceCtorEq, Int.reduceEq, *])) | with_reducible apply EntR.ex | refine EntR.drop (F := F) ?_ | refine EntR.drop ?_))

theorem fmove_ok {u v : Nat} {s t : SV} {n : Int} {m : Nat} {xs ys : List Int} (hx : xs.length ≤ 4096) (hy : ys.length ≤ m) (hm : m ≤ 4096) : Trip Try.prog 41 [.pointer (some ⟨u, 0, none⟩), .pointer (some ⟨v, 0, none⟩)].toArray [rfB u s n, sl false s.v xs, rfB v t m, sl false t.v ys]
    fun w l' => ∃ s2 t2 : SV, w = .tuple #[.int .i64 (min xs.length (m - ys.length) : Nat), .int .i64 (xs.length - min xs.length (m - ys.length) : Nat)] ∧ l' = [rfB u s2 n, sl false s2.v ([] : List Int), rfB v t2 m, sl false t2.v (ys ++ xs.take (m - ys.length))] := by
  intro F K hK
  simp only [List.cons_append, List.nil_append]
  generalize hrm : m - ys.length = room
  (refine Tr.enter (rs := [.tmp 4, .tmp 5]) mixed fn41 rfl (by simp +arith [Try.ntmps41]) fun u => ?_; simp only [cd41, Try.f41])
  ((try simp only [WKb, Nat.reduceAdd]) <;> (repeat' ((first
    | (refine G.tr ?_; first | refine S.a ?_ | refine Tr.brK ?_ ?_ | (refine G.call 39 ?_; refine S.c ?_ (h := fput_ok ?_)) | refine S.n fun _ => ?_ | refine S.i fun hix => ?_ | (refine S.g fun hb => ?_; (try simp only [hb])) | (refine S.s (fun hb => ?_) (fun hb => ?_) <;> ((try simp only [hb]) <;> (try (have hp := hb; simp only [WKs] at hp; (try have hq := Int.not_le.2 hp); (try have hq := Int.not_lt.2 hp))))))
    | rintro _ _ ⟨_, rfl, rfl⟩
    | ((fail_if_success refine G.tr ?_); exact G.prop S.p)
    | fail) <;> (try simp only [WKb, WKh, ↓reduceIte, Nat.reduceEqDiff, Nat.reduceAdd, Nat.reduceSub, Int.reduceEq, Int.reduceLT, Int.reduceLE, BinK_chan1, BinK_ptrSS, BinK_ptr01, pl41]))))
  refine Tr.loopE (α := Nat × SV) [6, 7, 8] [0, 1, 4, 5] (fun x => [.int .i64 (min x.1 room : Nat), .int .i64 (x.1 - min x.1 room : Nat), .int .i64 x.1]) (fun x => [rfB v x.2 m, sl false x.2.v (ys ++ xs.take (min x.1 room))]) (fun x => x.1 ≤ xs.length) (fun x => xs.length - x.1) (0, t) (by simp only [Nat.zero_min, List.take_zero, List.append_nil]; exact (by (repeat (first | exact TakeL.nil | (apply TakeL.cons; focus ((first | exact TakeA.dupS | exact TakeA.dupF | ((repeat (first | with_reducible exact TakeA.here | exact TakeA.fam (by omega) (by omega) | with_reducible apply TakeA.next)); done) | ((repeat (first | exact TakeA.here | apply TakeA.next)); done) | exact TakeA.famNil | exact TakeA.nilS))) | fail)); done)) (by simp only [Nat.zero_min]; rfl) (by simp) fun x w hk => ?_
  obtain ⟨k, t2⟩ := x
  simp only at hk ⊢
  have hw := wrapSucc (k := k) (by omega)
  have hw2 := wrapSucc (k := min k room) (by omega)
  have hw3 := wrapSucc (k := k - min k room) (by omega)
  by_cases hin : k < xs.length
  · have hlen : (ys ++ xs.take (min k room)).length = ys.length + min k room := by simp; omega
    by_cases hkr : k < room
    · have hmk : min k room = k := by omega
      have hmk1 : min (k + 1) room = k + 1 := by omega
      have hlt : ((ys ++ xs.take k).length : Int) < (m : Int) := by rw [hmk] at hlen; omega
      have hlt' : decide (((ys ++ xs.take k).length : Int) < (m : Int)) = true := by simpa using hlt
      have hap : ys ++ xs.take k ++ [ix xs (k : Int)] = ys ++ xs.take (k + 1) := by rw [List.append_assoc, List.take_add_one]; simp [ix, hin]
      simp only [hmk] at hw2 hw3 hlen ⊢
      ((try simp only [WKb, ↓reduceIte, Nat.reduceEqDiff]) <;> (repeat' ((first
    | (refine G.tr ?_; first | refine S.a ?_ | refine Tr.brK ?_ ?_ | (refine G.call 39 ?_; refine S.c ?_ (h := fput_ok ?_)) | refine S.n fun _ => ?_ | refine S.i fun hix => ?_ | (refine S.g fun hb => ?_; (try simp only [hb])) | (refine S.s (fun hb => ?_) (fun hb => ?_) <;> ((try simp only [hb]) <;> (try (have hp := hb; simp only [WKs] at hp; (try have hq := Int.not_le.2 hp); (try have hq := Int.not_lt.2 hp))))))
    | rintro _ _ ⟨_, rfl, rfl⟩
    | ((fail_if_success refine G.tr ?_); exact G.prop S.p)
    | fail) <;> (try simp only [WKb, ↓reduceIte, Nat.reduceEqDiff, hw, hlt, hap]))))
      all_goals (apply Tr.againE ((k + 1, _)); (focus (simp only [WKb, ↓reduceIte, Nat.reduceEqDiff])); (focus ((try simp only [WKb, ↓reduceIte, Nat.reduceEqDiff]); (all_goals ((repeat (refine cons_eq (by first | rfl | ((try clear hK) <;> first | (simp [*, Nat.sub_self]; done) | (simp [*, hmk1, Nat.sub_self]; omega) | (simp [*, hmk1, Nat.sub_self] <;> (try split) <;> simp_all <;> omega))) ?_)); rfl)); done)); (focus (first | omega | assumption | (simp only []; omega) | (refine ⟨by omega, by assumption⟩) | (simp only []; refine ⟨by omega, by assumption⟩) | ((try simp only []); (repeat' (first | omega | assumption | refine And.intro ?_ ?_)); done))); (focus (first | omega | (simp only []; omega))); (focus (((try clear hK) <;> (try simp only [WKe, *]) <;> repeat (first | with_reducible exact EntR.done | refine S.e ?_ | (refine S.f ?_ <;> (try simp only [WKe, hmk1, Nat.sub_self, ↓reduceIte, reduceCtorEq, Int.reduceEq, *])) | with_reducible apply EntR.ex | refine EntR.drop (F := F) ?_ | refine EntR.drop ?_)))))
    · have hmk : min k room = room := by omega
      have hmk1 : min (k + 1) room = room := by omega
      have hlt : ¬ ((ys ++ xs.take room).length : Int) < (m : Int) := by rw [hmk] at hlen; omega
      have hlt' : decide (((ys ++ xs.take room).length : Int) < (m : Int)) = false := by simpa using hlt
      have hs : k + 1 - room = k - room + 1 := by omega
      simp only [hmk] at hw2 hw3 hlen ⊢
      ((try simp only [WKb, ↓reduceIte, Nat.reduceEqDiff]) <;> (repeat' ((first
    | (refine G.tr ?_; first | refine S.a ?_ | refine Tr.brK ?_ ?_ | (refine G.call 39 ?_; refine S.c ?_ (h := fput_ok ?_)) | refine S.n fun _ => ?_ | refine S.i fun hix => ?_ | (refine S.g fun hb => ?_; (try simp only [hb])) | (refine S.s (fun hb => ?_) (fun hb => ?_) <;> ((try simp only [hb]) <;> (try (have hp := hb; simp only [WKs] at hp; (try have hq := Int.not_le.2 hp); (try have hq := Int.not_lt.2 hp))))))
    | rintro _ _ ⟨_, rfl, rfl⟩
    | ((fail_if_success refine G.tr ?_); exact G.prop S.p)
    | fail) <;> (try simp only [WKb, ↓reduceIte, Nat.reduceEqDiff, hw, hw3, hlt]))))
      all_goals (apply Tr.againE ((k + 1, _)); (focus (simp only [WKb, ↓reduceIte, Nat.reduceEqDiff])); (focus ((try simp only [WKb, ↓reduceIte, Nat.reduceEqDiff]); (all_goals ((repeat (refine cons_eq (by first | rfl | ((try clear hK) <;> first | (simp [*]; done) | (simp [*, hmk1, hs]; omega) | (simp [*, hmk1, hs] <;> (try split) <;> simp_all <;> omega))) ?_)); rfl)); done)); (focus (first | omega | assumption | (simp only []; omega) | (refine ⟨by omega, by assumption⟩) | (simp only []; refine ⟨by omega, by assumption⟩) | ((try simp only []); (repeat' (first | omega | assumption | refine And.intro ?_ ?_)); done))); (focus (first | omega | (simp only []; omega))); (focus (((try clear hK) <;> (try simp only [WKe, *]) <;> repeat (first | with_reducible exact EntR.done | refine S.e ?_ | (refine S.f ?_ <;> (try simp only [WKe, hmk1, hs, ↓reduceIte, reduceCtorEq, Int.reduceEq, *])) | with_reducible apply EntR.ex | refine EntR.drop (F := F) ?_ | refine EntR.drop ?_)))))
  · have hk' : k = xs.length := by omega
    subst hk'
    have ht : xs.take (min xs.length room) = xs.take room := by rw [Nat.min_comm]; exact List.take_eq_take_min.symm
    ((try simp only [WKb, ↓reduceIte, Nat.reduceEqDiff]) <;> (repeat' ((first
    | (refine G.tr ?_; first | refine S.a ?_ | refine Tr.brK ?_ ?_ | (refine G.call 39 ?_; refine S.c ?_ (h := fput_ok ?_)) | refine S.n fun _ => ?_ | refine S.i fun hix => ?_ | (refine S.g fun hb => ?_; (try simp only [hb])) | (refine S.s (fun hb => ?_) (fun hb => ?_) <;> ((try simp only [hb]) <;> (try (have hp := hb; simp only [WKs] at hp; (try have hq := Int.not_le.2 hp); (try have hq := Int.not_lt.2 hp))))))
    | rintro _ _ ⟨_, rfl, rfl⟩
    | ((fail_if_success refine G.tr ?_); exact G.prop S.p)
    | fail) <;> (try simp only [WKb, ↓reduceIte, Nat.reduceEqDiff]))))
    all_goals
      refine Tr.nilSl (α := Int) ?_
      apply Tr.fin hK ⟨⟨none, 0, 0⟩, _, (by first | (simp [*]; done) | (simp only [WKe, ↓reduceIte, reduceCtorEq, Int.reduceEq, eq_self, *]; done) | (simp only [WKe, ↓reduceIte, reduceCtorEq, Int.reduceEq, *]; rfl)), rfl⟩
      ((try clear hK) <;> (try simp only [WKe, *]) <;> repeat (first | with_reducible exact EntR.done | refine S.e ?_ | (refine S.f ?_ <;> (try simp only [WKe, ht, ↓reduceIte, reduceCtorEq, Int.reduceEq, *])) | with_reducible apply EntR.ex | refine EntR.drop (F := F) ?_ | refine EntR.drop ?_))

end Go.Proofs.Ytlhmbcmkpafjoaa
