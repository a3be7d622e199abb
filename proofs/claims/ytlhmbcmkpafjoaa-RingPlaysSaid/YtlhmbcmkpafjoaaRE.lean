import Derived.Test.YtlhmbcmkpafjoaaRD
namespace Go.Proofs.Ytlhmbcmkpafjoaa
open Go Go.Wk
set_option maxHeartbeats 6400000
set_option maxRecDepth 100000
theorem BinK_ptr01 {P : Program} {T : Nat} [hT : PtrT P T] {x y : Operand} {a : Addr} {K : Value → WP} : BinK P .eql T x y (.pointer none) (.pointer (some a)) K = K (.bool false) := BinK_ptr (.inl rfl)

attribute [local irreducible] BrK GenK EGenK EUnitK CallK FnK CallV GuardO GuardC CondW opX opK opKc chkR eqR seqK blkK endL WL WD W LoopW BinK Tr drewK resL PickK NotK NilK ExtrK getK Instr.storeAt Instr.loadAt Instr.fieldAt Instr.indexAt Instr.lookup Instr.mapUpdate Instr.box Instr.alloc Instr.build Instr.buildSlice Instr.makeSlice Instr.makeMap Instr.sliceAt Instr.field Instr.index Instr.makeInterface Instr.typeAssert Builtin.len_ Builtin.append_ Builtin.cap_ Builtin.min_ Builtin.max_ Builtin.copy_ Builtin.clear_ convert binOp mp blk rob sl sep ex fact old
attribute [local irreducible] chn CW chI
theorem rmove_ok {r r2 c c2 cap cap2 : Nat} {xs ys : List Int} (hx : xs.length ≤ 4096) (hy : ys.length ≤ cap2) (_hc2 : cap2 ≤ 4096) : Trip Try.prog 21 [.pointer (some ⟨r, 0, none⟩), .pointer (some ⟨r2, 0, none⟩)].toArray [rngB r c, chI c cap xs, rngB r2 c2, chI c2 cap2 ys]
    fun v l' => v = .tuple #[.int .i64 (min xs.length (cap2 - ys.length) : Nat), .int .i64 (xs.length - min xs.length (cap2 - ys.length) : Nat)] ∧ l' = [chI c cap ([] : List Int), rngB r c, chI c2 cap2 (ys ++ xs.take (cap2 - ys.length)), rngB r2 c2] := by
  intro F K hK
  simp only [List.cons_append, List.nil_append]
  generalize hrm : cap2 - ys.length = room
  (refine Tr.enter (rs := [.tmp 4, .tmp 5]) mixed fn21 rfl (by simp +arith [Try.ntmps21]) fun u => ?_; simp only [cd21, Try.f21])
  ((try simp only [WKb, ↓reduceIte, Nat.reduceEqDiff, Nat.reduceAdd]) <;> (repeat' ((first
    | (refine G.tr ?_; first | refine S.a ?_ | refine Tr.brK ?_ ?_ | (refine G.call 14 ?_; first | refine S.c ?_ (h := rlen_ok) | refine S.c ?_ (h := rlen0_ok)) | (refine G.call 13 ?_; first | refine S.c ?_ (h := rtake_ok) | refine S.c ?_ (h := rtake0_ok)) | (refine G.call 12 ?_; first | refine S.c ?_ (h := rput_ok) | refine S.c ?_ (h := rput0_ok)) | refine S.n fun _ => ?_ | refine S.i fun hix => ?_ | (refine S.g fun hb => ?_; (try simp only [hb])) | (refine S.s (fun hb => ?_) (fun hb => ?_) <;> ((try simp only [hb]) <;> (try (have hp := hb; simp only [WKs] at hp; (try have hq := Int.not_le.2 hp); (try have hq := Int.not_lt.2 hp))))))
    | rintro _ _ ⟨rfl, rfl⟩
    | (refine A.ptrNe (by decide) fun hne => ?_)
    | ((fail_if_success refine G.tr ?_); exact G.prop S.p)
    | fail) <;> (try simp only [WKb, ↓reduceIte, Nat.reduceEqDiff]))))
  refine Tr.loopE (α := Nat) [6, 7, 15] [0, 1, 4, 5, 14] (fun k => [.int .i64 (min k room : Nat), .int .i64 (k - min k room : Nat), .int .i64 k]) (fun k => [chI c cap (xs.drop k), chI c2 cap2 (ys ++ xs.take (min k room))]) (fun k => k ≤ xs.length) (fun k => xs.length - k) 0 (by simp only [List.drop_zero, Nat.zero_min, List.take_zero, List.append_nil]; exact (by (repeat (first | exact TakeL.nil | (apply TakeL.cons; focus ((first | exact TakeA.dupS | exact TakeA.dupF | ((repeat (first | with_reducible exact TakeA.here | exact TakeA.fam (by omega) (by omega) | with_reducible apply TakeA.next)); done) | ((repeat (first | exact TakeA.here | apply TakeA.next)); done) | exact TakeA.famNil | exact TakeA.nilS))) | fail)); done)) (by simp only [Nat.zero_min]; rfl) (by omega) fun k u hk => ?_
  have hw := wrapSucc (k := k) (by omega)
  have hw2 := wrapSucc (k := min k room) (by omega)
  have hw3 := wrapSucc (k := k - min k room) (by omega)
  by_cases hin : k < xs.length
  · have hT2 : (xs.drop k).tail = xs.drop (k + 1) := by simp
    have hT1 : (xs.drop k).headD 0 = ix xs (k : Int) := by rw [List.drop_eq_getElem_cons hin]; simp [ix, hin]
    have hlen : (ys ++ xs.take (min k room)).length = ys.length + min k room := by simp; omega
    by_cases hkr : k < room
    · have hmk : min k room = k := by omega
      have hmk1 : min (k + 1) room = k + 1 := by omega
      have hlt : (ys ++ xs.take k).length < cap2 := by rw [hmk] at hlen; omega
      have hlt' : decide ((ys ++ xs.take k).length < cap2) = true := by simpa using hlt
      have hap : ys ++ xs.take k ++ [ix xs (k : Int)] = ys ++ xs.take (k + 1) := by rw [List.append_assoc, List.take_add_one]; simp [ix, hin]
      simp only [hmk] at hw2 hw3 ⊢
      ((try simp only [WKb, ↓reduceIte, Nat.reduceEqDiff]) <;> (repeat' ((first
    | (refine G.tr ?_; first | refine S.a ?_ | refine Tr.brK ?_ ?_ | (refine G.call 14 ?_; first | refine S.c ?_ (h := rlen_ok) | refine S.c ?_ (h := rlen0_ok)) | (refine G.call 13 ?_; first | refine S.c ?_ (h := rtake_ok) | refine S.c ?_ (h := rtake0_ok)) | (refine G.call 12 ?_; first | refine S.c ?_ (h := rput_ok) | refine S.c ?_ (h := rput0_ok)) | refine S.n fun _ => ?_ | refine S.i fun hix => ?_ | (refine S.g fun hb => ?_; (try simp only [hb])) | (refine S.s (fun hb => ?_) (fun hb => ?_) <;> ((try simp only [hb]) <;> (try (have hp := hb; simp only [WKs] at hp; (try have hq := Int.not_le.2 hp); (try have hq := Int.not_lt.2 hp))))))
    | rintro _ _ ⟨rfl, rfl⟩
    | ((fail_if_success refine G.tr ?_); exact G.prop S.p)
    | fail) <;> (try simp only [WKb, ↓reduceIte, Nat.reduceEqDiff, hw, hT1, hT2, hlt, hap]))))
      all_goals (apply Tr.againE (k + 1); (focus (simp only [WKb, ↓reduceIte, Nat.reduceEqDiff])); (focus ((try simp only [WKb, ↓reduceIte, Nat.reduceEqDiff]); (all_goals ((repeat (refine cons_eq (by first | rfl | ((try clear hK) <;> first | (simp [*, Nat.sub_self]; done) | (simp [*, hmk1, Nat.sub_self]; omega) | (simp [*, hmk1, Nat.sub_self] <;> (try split) <;> simp_all <;> omega))) ?_)); rfl)); done)); (focus (first | omega | assumption | (simp only []; omega) | (refine ⟨by omega, by assumption⟩) | (simp only []; refine ⟨by omega, by assumption⟩) | ((try simp only []); (repeat' (first | omega | assumption | refine And.intro ?_ ?_)); done))); (focus (first | omega | (simp only []; omega))); (focus (((try clear hK) <;> (try simp only [WKe, *]) <;> repeat (first | with_reducible exact EntR.done | refine S.e ?_ | (refine S.f ?_ <;> (try simp only [WKe, hmk1, Nat.sub_self, ↓reduceIte, reduceCtorEq, Int.reduceEq, *])) | with_reducible apply EntR.ex | refine EntR.drop (F := F) ?_ | refine EntR.drop ?_)))))
    · have hmk : min k room = room := by omega
      have hmk1 : min (k + 1) room = room := by omega
      have hlt : ¬ (ys ++ xs.take room).length < cap2 := by rw [hmk] at hlen; omega
      have hlt' : decide ((ys ++ xs.take room).length < cap2) = false := by simpa using hlt
      have hs : k + 1 - room = k - room + 1 := by omega
      simp only [hmk] at hw2 hw3 ⊢
      ((try simp only [WKb, ↓reduceIte, Nat.reduceEqDiff]) <;> (repeat' ((first
    | (refine G.tr ?_; first | refine S.a ?_ | refine Tr.brK ?_ ?_ | (refine G.call 14 ?_; first | refine S.c ?_ (h := rlen_ok) | refine S.c ?_ (h := rlen0_ok)) | (refine G.call 13 ?_; first | refine S.c ?_ (h := rtake_ok) | refine S.c ?_ (h := rtake0_ok)) | (refine G.call 12 ?_; first | refine S.c ?_ (h := rput_ok) | refine S.c ?_ (h := rput0_ok)) | refine S.n fun _ => ?_ | refine S.i fun hix => ?_ | (refine S.g fun hb => ?_; (try simp only [hb])) | (refine S.s (fun hb => ?_) (fun hb => ?_) <;> ((try simp only [hb]) <;> (try (have hp := hb; simp only [WKs] at hp; (try have hq := Int.not_le.2 hp); (try have hq := Int.not_lt.2 hp))))))
    | rintro _ _ ⟨rfl, rfl⟩
    | ((fail_if_success refine G.tr ?_); exact G.prop S.p)
    | fail) <;> (try simp only [WKb, ↓reduceIte, Nat.reduceEqDiff, hw, hw3, hT1, hT2, hlt]))))
      all_goals (apply Tr.againE (k + 1); (focus (simp only [WKb, ↓reduceIte, Nat.reduceEqDiff])); (focus ((try simp only [WKb, ↓reduceIte, Nat.reduceEqDiff]); (all_goals ((repeat (refine cons_eq (by first | rfl | ((try clear hK) <;> first | (simp [*]; done) | (simp [*, hmk1, hs]; omega) | (simp [*, hmk1, hs] <;> (try split) <;> simp_all <;> omega))) ?_)); rfl)); done)); (focus (first | omega | assumption | (simp only []; omega) | (refine ⟨by omega, by assumption⟩) | (simp only []; refine ⟨by omega, by assumption⟩) | ((try simp only []); (repeat' (first | omega | assumption | refine And.intro ?_ ?_)); done))); (focus (first | omega | (simp only []; omega))); (focus (((try clear hK) <;> (try simp only [WKe, *]) <;> repeat (first | with_reducible exact EntR.done | refine S.e ?_ | (refine S.f ?_ <;> (try simp only [WKe, hmk1, hs, ↓reduceIte, reduceCtorEq, Int.reduceEq, *])) | with_reducible apply EntR.ex | refine EntR.drop (F := F) ?_ | refine EntR.drop ?_)))))
  · have hk' : k = xs.length := by omega
    subst hk'
    have ht : xs.take (min xs.length room) = xs.take room := by rw [Nat.min_comm]; exact List.take_eq_take_min.symm
    ((try simp only [WKb, ↓reduceIte, Nat.reduceEqDiff, List.drop_length]) <;> (repeat' ((first
    | (refine G.tr ?_; first | refine S.a ?_ | refine Tr.brK ?_ ?_ | (refine G.call 14 ?_; first | refine S.c ?_ (h := rlen_ok) | refine S.c ?_ (h := rlen0_ok)) | (refine G.call 13 ?_; first | refine S.c ?_ (h := rtake_ok) | refine S.c ?_ (h := rtake0_ok)) | (refine G.call 12 ?_; first | refine S.c ?_ (h := rput_ok) | refine S.c ?_ (h := rput0_ok)) | refine S.n fun _ => ?_ | refine S.i fun hix => ?_ | (refine S.g fun hb => ?_; (try simp only [hb])) | (refine S.s (fun hb => ?_) (fun hb => ?_) <;> ((try simp only [hb]) <;> (try (have hp := hb; simp only [WKs] at hp; (try have hq := Int.not_le.2 hp); (try have hq := Int.not_lt.2 hp))))))
    | rintro _ _ ⟨rfl, rfl⟩
    | ((fail_if_success refine G.tr ?_); exact G.prop S.p)
    | fail) <;> (try simp only [WKb, ↓reduceIte, Nat.reduceEqDiff]))))
    all_goals
      refine Tr.fin hK ⟨(by first | (simp [*]; done) | (simp only [WKe, ↓reduceIte, reduceCtorEq, Int.reduceEq, eq_self, *]; done) | (simp only [WKe, ↓reduceIte, reduceCtorEq, Int.reduceEq, *]; rfl)), rfl⟩ ?_
      ((try clear hK) <;> (try simp only [WKe, *]) <;> repeat (first | with_reducible exact EntR.done | refine S.e ?_ | (refine S.f ?_ <;> (try simp only [WKe, ht, ↓reduceIte, reduceCtorEq, Int.reduceEq, *])) | with_reducible apply EntR.ex | refine EntR.drop (F := F) ?_ | refine EntR.drop ?_))

theorem rmoveS_ok {r : Nat} : Trip Try.prog 21 [.pointer (some ⟨r, 0, none⟩), .pointer (some ⟨r, 0, none⟩)].toArray [] fun v l' => v = .tuple #[.int .i64 0, .int .i64 0] ∧ l' = [] := by
  intro F K hK
  simp only [List.nil_append]
  (refine Tr.enter (rs := [.tmp 4, .tmp 5]) mixed fn21 rfl (by simp +arith [Try.ntmps21]) fun u => ?_; simp only [cd21, Try.f21])
  ((try simp only [WKb, ↓reduceIte, Nat.reduceEqDiff, Nat.reduceAdd, BinK_ptrSS]) <;> (repeat' ((first
    | (refine G.tr ?_; first | refine S.a ?_ | refine Tr.brK ?_ ?_ | (refine G.call 14 ?_; first | refine S.c ?_ (h := rlen_ok) | refine S.c ?_ (h := rlen0_ok)) | (refine G.call 13 ?_; first | refine S.c ?_ (h := rtake_ok) | refine S.c ?_ (h := rtake0_ok)) | (refine G.call 12 ?_; first | refine S.c ?_ (h := rput_ok) | refine S.c ?_ (h := rput0_ok)) | refine S.n fun _ => ?_ | refine S.i fun hix => ?_ | (refine S.g fun hb => ?_; (try simp only [hb])) | (refine S.s (fun hb => ?_) (fun hb => ?_) <;> ((try simp only [hb]) <;> (try (have hp := hb; simp only [WKs] at hp; (try have hq := Int.not_le.2 hp); (try have hq := Int.not_lt.2 hp))))))
    | rintro _ _ ⟨rfl, rfl⟩
    | ((fail_if_success refine G.tr ?_); exact G.prop S.p)
    | fail) <;> (try simp only [WKb, WKh, ↓reduceIte, Nat.reduceEqDiff, Nat.reduceAdd, Nat.reduceSub, Int.reduceEq, Int.reduceLT, Int.reduceLE, BinK_chan1, BinK_ptrSS, BinK_ptr01, pl21]))))
  all_goals
    refine Tr.fin hK ⟨(by first | (simp [*]; done) | (simp only [WKe, ↓reduceIte, reduceCtorEq, Int.reduceEq, eq_self, *]; done) | (simp only [WKe, ↓reduceIte, reduceCtorEq, Int.reduceEq, *]; rfl)), rfl⟩ ?_
    ((try clear hK) <;> (try simp only [WKe, *]) <;> repeat (first | with_reducible exact EntR.done | refine S.e ?_ | (refine S.f ?_ <;> (try simp only [WKe, ↓reduceIte, reduceCtorEq, Int.reduceEq, *])) | with_reducible apply EntR.ex | refine EntR.drop (F := F) ?_ | refine EntR.drop ?_))

theorem rmove0_ok {r : Nat} : Trip Try.prog 21 [.pointer none, .pointer (some ⟨r, 0, none⟩)].toArray [] fun v l' => v = .tuple #[.int .i64 0, .int .i64 0] ∧ l' = [] := by
  intro F K hK
  simp only [List.nil_append]
  (refine Tr.enter (rs := [.tmp 4, .tmp 5]) mixed fn21 rfl (by simp +arith [Try.ntmps21]) fun u => ?_; simp only [cd21, Try.f21])
  ((try simp only [WKb, ↓reduceIte, Nat.reduceEqDiff, Nat.reduceAdd, BinK_ptr01]) <;> (repeat' ((first
    | (refine G.tr ?_; first | refine S.a ?_ | refine Tr.brK ?_ ?_ | (refine G.call 14 ?_; first | refine S.c ?_ (h := rlen_ok) | refine S.c ?_ (h := rlen0_ok)) | (refine G.call 13 ?_; first | refine S.c ?_ (h := rtake_ok) | refine S.c ?_ (h := rtake0_ok)) | (refine G.call 12 ?_; first | refine S.c ?_ (h := rput_ok) | refine S.c ?_ (h := rput0_ok)) | refine S.n fun _ => ?_ | refine S.i fun hix => ?_ | (refine S.g fun hb => ?_; (try simp only [hb])) | (refine S.s (fun hb => ?_) (fun hb => ?_) <;> ((try simp only [hb]) <;> (try (have hp := hb; simp only [WKs] at hp; (try have hq := Int.not_le.2 hp); (try have hq := Int.not_lt.2 hp))))))
    | rintro _ _ ⟨rfl, rfl⟩
    | ((fail_if_success refine G.tr ?_); exact G.prop S.p)
    | fail) <;> (try simp only [WKb]))))
  refine Tr.loopE (α := Nat) [6, 7, 15] [0, 1, 4, 5, 14] (fun k => [.int .i64 0, .int .i64 0, .int .i64 k]) (fun k => []) (fun k => k ≤ 0) (fun k => k) 0 (by (repeat (first | exact TakeL.nil | (apply TakeL.cons; focus ((first | exact TakeA.dupS | exact TakeA.dupF | ((repeat (first | with_reducible exact TakeA.here | exact TakeA.fam (by omega) (by omega) | with_reducible apply TakeA.next)); done) | ((repeat (first | exact TakeA.here | apply TakeA.next)); done) | exact TakeA.famNil | exact TakeA.nilS))) | fail)); done) rfl (by omega) fun k u hk => ?_
  obtain rfl : k = 0 := by omega
  ((try simp only [WKb, ↓reduceIte, Nat.reduceEqDiff]) <;> (repeat' ((first
    | (refine G.tr ?_; first | refine S.a ?_ | refine Tr.brK ?_ ?_ | (refine G.call 14 ?_; first | refine S.c ?_ (h := rlen_ok) | refine S.c ?_ (h := rlen0_ok)) | (refine G.call 13 ?_; first | refine S.c ?_ (h := rtake_ok) | refine S.c ?_ (h := rtake0_ok)) | (refine G.call 12 ?_; first | refine S.c ?_ (h := rput_ok) | refine S.c ?_ (h := rput0_ok)) | refine S.n fun _ => ?_ | refine S.i fun hix => ?_ | (refine S.g fun hb => ?_; (try simp only [hb])) | (refine S.s (fun hb => ?_) (fun hb => ?_) <;> ((try simp only [hb]) <;> (try (have hp := hb; simp only [WKs] at hp; (try have hq := Int.not_le.2 hp); (try have hq := Int.not_lt.2 hp))))))
    | rintro _ _ ⟨rfl, rfl⟩
    | ((fail_if_success refine G.tr ?_); exact G.prop S.p)
    | fail) <;> (try simp only [WKb, ↓reduceIte, Nat.reduceEqDiff]))))
  all_goals
    refine Tr.fin hK ⟨(by first | (simp [*]; done) | (simp only [WKe, ↓reduceIte, reduceCtorEq, Int.reduceEq, eq_self, *]; done) | (simp only [WKe, ↓reduceIte, reduceCtorEq, Int.reduceEq, *]; rfl)), rfl⟩ ?_
    ((try clear hK) <;> (try simp only [WKe, *]) <;> repeat (first | with_reducible exact EntR.done | refine S.e ?_ | (refine S.f ?_ <;> (try simp only [WKe, ↓reduceIte, reduceCtorEq, Int.reduceEq, *])) | with_reducible apply EntR.ex | refine EntR.drop (F := F) ?_ | refine EntR.drop ?_))

theorem rmoveN_ok {r c cap : Nat} {xs : List Int} (hx : xs.length ≤ 4096) : Trip Try.prog 21 [.pointer (some ⟨r, 0, none⟩), .pointer none].toArray [rngB r c, chI c cap xs]
    fun v l' => v = .tuple #[.int .i64 0, .int .i64 xs.length] ∧ l' = [chI c cap ([] : List Int), rngB r c] := by
  intro F K hK
  simp only [List.cons_append, List.nil_append]
  (refine Tr.enter (rs := [.tmp 4, .tmp 5]) mixed fn21 rfl (by simp +arith [Try.ntmps21]) fun u => ?_; simp only [cd21, Try.f21])
  ((try simp only [WKb, ↓reduceIte, Nat.reduceEqDiff, Nat.reduceAdd]) <;> (repeat' ((first
    | (refine G.tr ?_; first | refine S.a ?_ | refine Tr.brK ?_ ?_ | (refine G.call 14 ?_; first | refine S.c ?_ (h := rlen_ok) | refine S.c ?_ (h := rlen0_ok)) | (refine G.call 13 ?_; first | refine S.c ?_ (h := rtake_ok) | refine S.c ?_ (h := rtake0_ok)) | (refine G.call 12 ?_; first | refine S.c ?_ (h := rput_ok) | refine S.c ?_ (h := rput0_ok)) | refine S.n fun _ => ?_ | refine S.i fun hix => ?_ | (refine S.g fun hb => ?_; (try simp only [hb])) | (refine S.s (fun hb => ?_) (fun hb => ?_) <;> ((try simp only [hb]) <;> (try (have hp := hb; simp only [WKs] at hp; (try have hq := Int.not_le.2 hp); (try have hq := Int.not_lt.2 hp))))))
    | rintro _ _ ⟨rfl, rfl⟩
    | ((fail_if_success refine G.tr ?_); exact G.prop S.p)
    | fail) <;> (try simp only [WKb]))))
  refine Tr.loopE (α := Nat) [6, 7, 15] [0, 1, 4, 5, 14] (fun k => [.int .i64 0, .int .i64 k, .int .i64 k]) (fun k => [chI c cap (xs.drop k)]) (fun k => k ≤ xs.length) (fun k => xs.length - k) 0 (by simp only [List.drop_zero]; exact (by (repeat (first | exact TakeL.nil | (apply TakeL.cons; focus ((first | exact TakeA.dupS | exact TakeA.dupF | ((repeat (first | with_reducible exact TakeA.here | exact TakeA.fam (by omega) (by omega) | with_reducible apply TakeA.next)); done) | ((repeat (first | exact TakeA.here | apply TakeA.next)); done) | exact TakeA.famNil | exact TakeA.nilS))) | fail)); done)) rfl (by omega) fun k u hk => ?_
  have hw := wrapSucc (k := k) (by omega)
  by_cases hin : k < xs.length
  · have hT2 : (xs.drop k).tail = xs.drop (k + 1) := by simp
    ((try simp only [WKb, ↓reduceIte, Nat.reduceEqDiff]) <;> (repeat' ((first
    | (refine G.tr ?_; first | refine S.a ?_ | refine Tr.brK ?_ ?_ | (refine G.call 14 ?_; first | refine S.c ?_ (h := rlen_ok) | refine S.c ?_ (h := rlen0_ok)) | (refine G.call 13 ?_; first | refine S.c ?_ (h := rtake_ok) | refine S.c ?_ (h := rtake0_ok)) | (refine G.call 12 ?_; first | refine S.c ?_ (h := rput_ok) | refine S.c ?_ (h := rput0_ok)) | refine S.n fun _ => ?_ | refine S.i fun hix => ?_ | (refine S.g fun hb => ?_; (try simp only [hb])) | (refine S.s (fun hb => ?_) (fun hb => ?_) <;> ((try simp only [hb]) <;> (try (have hp := hb; simp only [WKs] at hp; (try have hq := Int.not_le.2 hp); (try have hq := Int.not_lt.2 hp))))))
    | rintro _ _ ⟨rfl, rfl⟩
    | ((fail_if_success refine G.tr ?_); exact G.prop S.p)
    | fail) <;> (try simp only [WKb, ↓reduceIte, Nat.reduceEqDiff, hw, hT2]))))
    all_goals (apply Tr.againE (k + 1); (focus (simp only [WKb, ↓reduceIte, Nat.reduceEqDiff])); (focus ((try simp only [WKb, ↓reduceIte, Nat.reduceEqDiff]); (all_goals ((repeat (refine cons_eq (by first | rfl | (simp [*]; done)) ?_)); rfl)); done)); (focus (first | omega | assumption | (simp only []; omega) | (refine ⟨by omega, by assumption⟩) | (simp only []; refine ⟨by omega, by assumption⟩) | ((try simp only []); (repeat' (first | omega | assumption | refine And.intro ?_ ?_)); done))); (focus (first | omega | (simp only []; omega))); (focus (((try clear hK) <;> (try simp only [WKe, *]) <;> repeat (first | with_reducible exact EntR.done | refine S.e ?_ | (refine S.f ?_ <;> (try simp only [WKe, ↓reduceIte, reduceCtorEq, Int.reduceEq, *])) | with_reducible apply EntR.ex | refine EntR.drop (F := F) ?_ | refine EntR.drop ?_)))))
  · have hk' : k = xs.length := by omega
    subst hk'
    ((try simp only [WKb, ↓reduceIte, Nat.reduceEqDiff, List.drop_length]) <;> (repeat' ((first
    | (refine G.tr ?_; first | refine S.a ?_ | refine Tr.brK ?_ ?_ | (refine G.call 14 ?_; first | refine S.c ?_ (h := rlen_ok) | refine S.c ?_ (h := rlen0_ok)) | (refine G.call 13 ?_; first | refine S.c ?_ (h := rtake_ok) | refine S.c ?_ (h := rtake0_ok)) | (refine G.call 12 ?_; first | refine S.c ?_ (h := rput_ok) | refine S.c ?_ (h := rput0_ok)) | refine S.n fun _ => ?_ | refine S.i fun hix => ?_ | (refine S.g fun hb => ?_; (try simp only [hb])) | (refine S.s (fun hb => ?_) (fun hb => ?_) <;> ((try simp only [hb]) <;> (try (have hp := hb; simp only [WKs] at hp; (try have hq := Int.not_le.2 hp); (try have hq := Int.not_lt.2 hp))))))
    | rintro _ _ ⟨rfl, rfl⟩
    | ((fail_if_success refine G.tr ?_); exact G.prop S.p)
    | fail) <;> (try simp only [WKb, ↓reduceIte, Nat.reduceEqDiff]))))
    all_goals
      refine Tr.fin hK ⟨(by first | (simp [*]; done) | (simp only [WKe, ↓reduceIte, reduceCtorEq, Int.reduceEq, eq_self, *]; done) | (simp only [WKe, ↓reduceIte, reduceCtorEq, Int.reduceEq, *]; rfl)), rfl⟩ ?_
      ((try clear hK) <;> (try simp only [WKe, *]) <;> repeat (first | with_reducible exact EntR.done | refine S.e ?_ | (refine S.f ?_ <;> (try simp only [WKe, ↓reduceIte, reduceCtorEq, Int.reduceEq, *])) | with_reducible apply EntR.ex | refine EntR.drop (F := F) ?_ | refine EntR.drop ?_))

theorem works04_ok : Trip Try.prog 15 [].toArray [] fun v l' => v = .bool true ∧ l' = [] := by
  intro F K hK
  have h2 : ringN 2 = 2 := rfl
  (refine Tr.enter (rs := [.tmp 0]) mixed fn15 rfl (by simp +arith [Try.ntmps15]) fun u => ?_; simp only [cd15, Try.f15])
  ((try simp only [WKb]) <;> (repeat' ((first
    | (refine G.tr ?_; first | refine S.a ?_ | refine Tr.brK ?_ ?_ | (refine G.call 11 ?_; refine S.c ?_ (h := rnewI_ok)) | (refine G.call 12 ?_; first | refine S.c ?_ (h := rput_ok) | refine S.c ?_ (h := rput0_ok)) | (refine G.call 13 ?_; first | refine S.c ?_ (h := rtake_ok) | refine S.c ?_ (h := rtake0_ok)) | (refine G.call 14 ?_; first | refine S.c ?_ (h := rlen_ok) | refine S.c ?_ (h := rlen0_ok)) | (refine G.call 16 ?_; first | refine S.c ?_ (h := rsizeI_ok) | refine S.c ?_ (h := rsize0I_ok)) | refine S.n fun _ => ?_ | refine S.i fun hix => ?_ | (refine S.g fun hb => ?_; (try simp only [hb])) | (refine S.s (fun hb => ?_) (fun hb => ?_) <;> ((try simp only [hb]) <;> (try (have hp := hb; simp only [WKs] at hp; (try have hq := Int.not_le.2 hp); (try have hq := Int.not_lt.2 hp))))))
    | rintro _ _ ⟨rfl, rfl⟩
    | rintro _ _ ⟨_, _, rfl, rfl⟩
    | ((fail_if_success refine G.tr ?_); exact G.prop S.p)
    | fail) <;> (try simp only [WKb, ↓reduceIte, Nat.reduceEqDiff, Nat.reduceAdd, h2, List.length_nil, List.length_cons, Nat.reduceLT, List.headD_cons, List.tail_cons]))))
  all_goals
    refine Tr.fin hK ⟨(by first | (simp [*]; done) | (simp only [WKe, ↓reduceIte, reduceCtorEq, Int.reduceEq, eq_self, *]; done) | (simp only [WKe, ↓reduceIte, reduceCtorEq, Int.reduceEq, *]; rfl)), rfl⟩ ?_
    ((try clear hK) <;> (try simp only [WKe, *]) <;> repeat (first | with_reducible exact EntR.done | refine S.e ?_ | (refine S.f ?_ <;> (try simp only [WKe, ↓reduceIte, reduceCtorEq, Int.reduceEq, *])) | with_reducible apply EntR.ex | refine EntR.drop (F := F) ?_ | refine EntR.drop ?_))

end Go.Proofs.Ytlhmbcmkpafjoaa
