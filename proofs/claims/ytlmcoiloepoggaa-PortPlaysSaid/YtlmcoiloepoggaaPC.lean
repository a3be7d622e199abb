import Derived.Test.YtlmcoiloepoggaaPB
namespace Go.Proofs.Ytlmcoiloepoggaa
open Go Go.Wk
set_option maxHeartbeats 3200000
set_option maxRecDepth 10000

attribute [local irreducible] BrK GenK EGenK EUnitK CallK FnK CallV GuardO GuardC CondW opX opK opKc chkR eqR seqK blkK endL WL WD W LoopW BinK Tr drewK resL PickK NotK NilK ExtrK getK Instr.storeAt Instr.loadAt Instr.fieldAt Instr.indexAt Instr.lookup Instr.mapUpdate Instr.box Instr.alloc Instr.build Instr.buildSlice Instr.makeSlice Instr.makeMap Instr.sliceAt Instr.field Instr.index Instr.makeInterface Instr.typeAssert Builtin.len_ Builtin.append_ Builtin.cap_ Builtin.min_ Builtin.max_ Builtin.copy_ Builtin.clear_ convert binOp mp blk rob sl sep ex fact old
theorem write_ok {p : Nat} {s : SV} {gs : List OneG} {k : Int} {s2 : SV} {xs : List UInt8} (hn : xs.length ≤ 1000000) (hl0 : (ix gs k).ms.length ≤ 1000000) : Trip Try.prog 52 [.pointer (some ⟨p, 0, none⟩), .int .i64 k, s2.v].toArray [poB p s, fam oneA gs, sl false s.v (gs.map OneG.pt), sl true s2.v xs]
    fun v l' => ∃ s3 s4, v = .int .i64 (intoC gs k false xs.length) ∧ l' = [poB p s, fam oneA (intoG gs k false s3 ⟨s4, xs⟩), sl false s.v ((intoG gs k false s3 ⟨s4, xs⟩).map OneG.pt)] := by
  intro F K hK
  simp only [List.cons_append, List.nil_append]
  (refine Tr.enter (rs := [.tmp 6]) mixed fn52 rfl (by simp +arith [Try.ntmps52]) fun u => ?_; simp only [cd52, Try.f52])
  ((try simp only [WKb, ↓reduceIte, Nat.reduceEqDiff, Nat.reduceAdd]) <;> (repeat' ((first
    | (refine G.tr ?_; first | refine S.a ?_ | refine Tr.brK ?_ ?_ | (refine G.call 94 ?_; first | refine S.c ?_ (h := pinto0_ok) | refine S.c ?_ (h := into_ok ?_ ?_)) | refine S.n fun _ => ?_ | refine S.i fun hix => ?_ | (refine S.g fun hb => ?_; (try simp only [hb])) | (refine S.s (fun hb => ?_) (fun hb => ?_) <;> ((try simp only [hb]) <;> (try (have hp := hb; simp only [WKs] at hp; (try have hq := Int.not_le.2 hp); (try have hq := Int.not_lt.2 hp))))))
    | rintro _ _ ⟨rfl, rfl⟩
    | rintro _ _ ⟨_, _, rfl, rfl⟩
    | ((fail_if_success refine G.tr ?_); exact G.prop S.p)
    | fail) <;> (try simp only [WKb, ↓reduceIte]))))
  all_goals
    apply Tr.fin hK ⟨_, _, rfl, rfl⟩
    ((try clear hK) <;> (try simp only [WKe, *]) <;> repeat (first | with_reducible exact EntR.done | refine S.e ?_ | (refine S.f ?_ <;> (try simp only [WKe, ↓reduceIte, reduceCtorEq, Int.reduceEq, *])) | with_reducible apply EntR.ex | refine EntR.drop (F := F) ?_ | refine EntR.drop ?_))
theorem send_ok {p : Nat} {s : SV} {gs : List OneG} {k : Int} {s2 : SV} {xs : List UInt8} (hn : xs.length ≤ 1000000) (hl0 : (ix gs k).ms.length ≤ 1000000) : Trip Try.prog 46 [.pointer (some ⟨p, 0, none⟩), .int .i64 k, s2.v].toArray [poB p s, fam oneA gs, sl false s.v (gs.map OneG.pt), sl true s2.v xs]
    fun v l' => ∃ s3 s4, v = .int .i64 (intoC gs k true xs.length) ∧ l' = [poB p s, fam oneA (intoG gs k true s3 ⟨s4, xs⟩), sl false s.v ((intoG gs k true s3 ⟨s4, xs⟩).map OneG.pt)] := by
  intro F K hK
  simp only [List.cons_append, List.nil_append]
  (refine Tr.enter (rs := [.tmp 6]) mixed fn46 rfl (by simp +arith [Try.ntmps46]) fun u => ?_; simp only [cd46, Try.f46])
  ((try simp only [WKb, ↓reduceIte, Nat.reduceEqDiff, Nat.reduceAdd]) <;> (repeat' ((first
    | (refine G.tr ?_; first | refine S.a ?_ | refine Tr.brK ?_ ?_ | (refine G.call 94 ?_; first | refine S.c ?_ (h := pinto0_ok) | refine S.c ?_ (h := into_ok ?_ ?_)) | refine S.n fun _ => ?_ | refine S.i fun hix => ?_ | (refine S.g fun hb => ?_; (try simp only [hb])) | (refine S.s (fun hb => ?_) (fun hb => ?_) <;> ((try simp only [hb]) <;> (try (have hp := hb; simp only [WKs] at hp; (try have hq := Int.not_le.2 hp); (try have hq := Int.not_lt.2 hp))))))
    | rintro _ _ ⟨rfl, rfl⟩
    | rintro _ _ ⟨_, _, rfl, rfl⟩
    | ((fail_if_success refine G.tr ?_); exact G.prop S.p)
    | fail) <;> (try simp only [WKb, ↓reduceIte]))))
  all_goals
    apply Tr.fin hK ⟨_, _, rfl, rfl⟩
    ((try clear hK) <;> (try simp only [WKe, *]) <;> repeat (first | with_reducible exact EntR.done | refine S.e ?_ | (refine S.f ?_ <;> (try simp only [WKe, ↓reduceIte, reduceCtorEq, Int.reduceEq, *])) | with_reducible apply EntR.ex | refine EntR.drop (F := F) ?_ | refine EntR.drop ?_))


theorem firstq_ok {b c : Nat} {i : Bool} {sz d0 d lost : Int} {s : SV} {ms : List Msg} : Trip Try.prog 132 [.pointer (some ⟨b, 0, none⟩)].toArray [onB b true i sz d0 (.iface 164 (.pointer (some ⟨c, 0, none⟩))) lost, quB c s d, sl false s.v ms, fzl ms]
    fun v l' => ∃ s3, v = .tuple #[(ix ms 0).s.v, .bool (!decide ((ms.length : Int) = 0))] ∧ l' = [onB b true i sz d0 (.iface 164 (.pointer (some ⟨c, 0, none⟩))) lost, quB c s3 d, sl false s3.v (ms.drop 1), fzl (ms.drop 1), Fz.fz (ix ms 0)] := by
  intro F K hK
  simp only [List.cons_append, List.nil_append]
  (refine Tr.enter (rs := [.tmp 2, .tmp 3]) mixed fn132 rfl (by simp +arith [Try.ntmps132]) fun u => ?_; simp only [cd132, Try.f132])
  ((try simp only [WKb, ↓reduceIte, Nat.reduceEqDiff]) <;> (repeat' ((first
    | (refine G.tr ?_; first | refine S.a ?_ | refine Tr.brK ?_ ?_ | (refine G.call 139 ?_; refine S.c ?_ (h := qtake_ok)) | (refine G.call 85 ?_; refine S.c ?_ (h := clone_ok (by omega))) | refine S.n fun _ => ?_ | refine S.i fun hix => ?_ | (refine S.g fun hb => ?_; (try simp only [hb])) | (refine S.s (fun hb => ?_) (fun hb => ?_) <;> ((try simp only [hb]) <;> (try (have hp := hb; simp only [WKs] at hp; (try have hq := Int.not_le.2 hp); (try have hq := Int.not_lt.2 hp))))))
    | rintro _ _ ⟨_, rfl, rfl⟩
    | ((fail_if_success refine G.tr ?_); exact G.prop S.p)
    | fail) <;> (try simp only [WKb, WKh, ↓reduceIte, Nat.reduceEqDiff]))))
  all_goals
    apply Tr.fin hK ⟨_, rfl, rfl⟩
    ((try clear hK) <;> (try simp only [WKe, *]) <;> repeat (first | with_reducible exact EntR.done | refine S.e ?_ | (refine S.f ?_ <;> (try simp only [WKe, ↓reduceIte, reduceCtorEq, Int.reduceEq, *])) | with_reducible apply EntR.ex | refine EntR.drop (F := F) ?_ | refine EntR.drop ?_))
theorem firsts_ok {b c : Nat} {i : Bool} {sz d0 lost : Int} {m : Msg} {t f : Bool} (hn : m.d.length ≤ 1000000) : Trip Try.prog 132 [.pointer (some ⟨b, 0, none⟩)].toArray [onB b false i sz d0 (.iface 167 (.pointer (some ⟨c, 0, none⟩))) lost, saB c m t f, sl true m.s.v m.d]
    fun v l' => ∃ s2 : SV, v = .tuple #[s2.v, .bool t] ∧ l' = [onB b false i sz d0 (.iface 167 (.pointer (some ⟨c, 0, none⟩))) lost, saB c m t f, sl true s2.v m.d] := by
  intro F K hK
  simp only [List.cons_append, List.nil_append]
  (refine Tr.enter (rs := [.tmp 2, .tmp 3]) mixed fn132 rfl (by simp +arith [Try.ntmps132]) fun u => ?_; simp only [cd132, Try.f132])
  ((try simp only [WKb, ↓reduceIte, Nat.reduceEqDiff]) <;> (repeat' ((first
    | (refine G.tr ?_; first | refine S.a ?_ | refine Tr.brK ?_ ?_ | (refine G.call 139 ?_; refine S.c ?_ (h := qtake_ok)) | (refine G.call 85 ?_; refine S.c ?_ (h := clone_ok (by omega))) | refine S.n fun _ => ?_ | refine S.i fun hix => ?_ | (refine S.g fun hb => ?_; (try simp only [hb])) | (refine S.s (fun hb => ?_) (fun hb => ?_) <;> ((try simp only [hb]) <;> (try (have hp := hb; simp only [WKs] at hp; (try have hq := Int.not_le.2 hp); (try have hq := Int.not_lt.2 hp))))))
    | rintro _ _ ⟨_, rfl, rfl⟩
    | ((fail_if_success refine G.tr ?_); exact G.prop S.p)
    | fail) <;> (try simp only [WKb, WKh, ↓reduceIte, Nat.reduceEqDiff, pl132]))))
  all_goals
    apply Tr.fin hK ⟨_, rfl, rfl⟩
    ((try clear hK) <;> (try simp only [WKe, *]) <;> repeat (first | with_reducible exact EntR.done | refine S.e ?_ | (refine S.f ?_ <;> (try simp only [WKe, ↓reduceIte, reduceCtorEq, Int.reduceEq, *])) | with_reducible apply EntR.ex | refine EntR.drop (F := F) ?_ | refine EntR.drop ?_))


theorem out_ok {p : Nat} {s : SV} {gs : List OneG} {k : Int} {q : Bool} (hl0 : (ix gs k).m.d.length ≤ 1000000) : Trip Try.prog 95 [.pointer (some ⟨p, 0, none⟩), .int .i64 k, .bool q].toArray [poB p s, fam oneA gs, sl false s.v (gs.map OneG.pt)]
    fun v l' => ∃ s3 r, r.d = outD gs k q ∧ v = .tuple #[SV.v (SL.s r), .int .i64 (outC gs k q)] ∧ l' = [poB p s, fam oneA (outG gs k q s3), sl false s.v ((outG gs k q s3).map OneG.pt), Fz.fz (r : Msg)] := by
  intro F K hK
  simp only [List.cons_append, List.nil_append]
  by_cases h : inR gs k
  · have ⟨h0, h1⟩ := h
    have hm := ix_map (f := OneG.pt) h0 h1
    have hl : (gs.map OneG.pt).length = gs.length := List.length_map _
    have hs := fun q i sz d lo c s ms m t f => map_same (f := OneG.pt) h0 h1 ⟨(ix gs k).b, q, i, sz, d, lo, c, s, ms, m, t, f⟩ rfl
    cases hc : canB gs k q true
    · (refine Tr.enter (rs := [.tmp 6, .tmp 7]) mixed fn95 rfl (by simp +arith [Try.ntmps95]) fun u => ?_; simp only [cd95, Try.f95])
      ((try simp only [WKb, ↓reduceIte, Nat.reduceEqDiff, Nat.reduceAdd]) <;> (repeat' ((first
    | (refine G.tr ?_; first | refine S.a ?_ | refine Tr.brK ?_ ?_ | (refine G.call 59 ?_; first | refine S.c ?_ (h := pcan0_ok) | refine S.c ?_ (h := can_ok)) | (refine G.call 132 ?_; first | refine S.c ?_ (h := firstq_ok) | refine S.c ?_ (h := firsts_ok ?_)) | refine S.n fun _ => ?_ | refine S.i fun hix => ?_ | (refine S.g fun hb => ?_; (try simp only [hb])) | (refine S.s (fun hb => ?_) (fun hb => ?_) <;> ((try simp only [hb]) <;> (try (have hp := hb; simp only [WKs] at hp; (try have hq := Int.not_le.2 hp); (try have hq := Int.not_lt.2 hp))))))
    | rintro _ _ ⟨rfl, rfl⟩
    | rintro _ _ ⟨_, rfl, rfl⟩
    | ((fail_if_success refine G.tr ?_); exact G.prop S.p)
    | fail) <;> (try simp only [WKb, ↓reduceIte, Nat.reduceEqDiff, hc]))))
      all_goals
        (apply Tr.fin hK ⟨⟨none, 0, 0⟩, default, (by first | (simp [*, outC, outD]; done) | (simp only [WKe, ↓reduceIte, Int.reduceEq, *, outC, outD]; done) | (simp only [WKe, ↓reduceIte, Int.reduceEq, *, outC, outD]; rfl)), (by first | (simp [*, outC]; done) | (simp only [WKe, ↓reduceIte, *, outC]; done) | (simp only [WKe, ↓reduceIte, *, outC]; rfl)), rfl⟩; ((try clear hK) <;> (try simp only [WKe, outG, ↓reduceIte, *]) <;> repeat (first | with_reducible exact EntR.done | refine S.e ?_ | (refine S.f ?_ <;> (try simp only [WKe, outG, hc, ↓reduceIte, reduceCtorEq, Int.reduceEq, *])) | with_reducible apply EntR.ex | refine EntR.drop (F := F) ?_ | refine EntR.drop ?_)))
    · have hqi : (ix gs k).q = q := by
        simp [canB, h] at hc
        exact hc.1
      (refine Tr.enter (rs := [.tmp 6, .tmp 7]) mixed fn95 rfl (by simp +arith [Try.ntmps95]) fun u => ?_; simp only [cd95, Try.f95])
      ((try simp only [WKb, ↓reduceIte, Nat.reduceEqDiff, Nat.reduceAdd]) <;> (repeat' ((first
    | (refine G.tr ?_; first | refine S.a ?_ | refine Tr.brK ?_ ?_ | (refine G.call 59 ?_; first | refine S.c ?_ (h := pcan0_ok) | refine S.c ?_ (h := can_ok)) | (refine G.call 132 ?_; first | refine S.c ?_ (h := firstq_ok) | refine S.c ?_ (h := firsts_ok ?_)) | refine S.n fun _ => ?_ | refine S.i fun hix => ?_ | (refine S.g fun hb => ?_; (try simp only [hb])) | (refine S.s (fun hb => ?_) (fun hb => ?_) <;> ((try simp only [hb]) <;> (try (have hp := hb; simp only [WKs] at hp; (try have hq := Int.not_le.2 hp); (try have hq := Int.not_lt.2 hp))))))
    | rintro _ _ ⟨rfl, rfl⟩
    | rintro _ _ ⟨_, rfl, rfl⟩
    | ((fail_if_success refine G.tr ?_); exact G.prop S.p)
    | fail) <;> (try simp only [WKb, WKh, ↓reduceIte, Nat.reduceEqDiff, hc, hm, OneG.pt]))))
      all_goals
        refine Tr.famAt (A := oneA) k (by (repeat (first | exact TakeA.here | apply TakeA.next)); done) h0 h1 ?_
        cases hq : (ix gs k).q
        · obtain rfl : q = false := hqi.symm.trans hq
          refine oneS_open hq ?_
          ((try simp only [WKb, WKh, ↓reduceIte, Nat.reduceEqDiff, Nat.reduceAdd, Nat.reduceSub, Int.reduceEq, Int.reduceLT, Int.reduceLE, pl95, hm, OneG.pt]) <;> (repeat' ((first
    | (refine G.tr ?_; first | refine S.a ?_ | refine Tr.brK ?_ ?_ | (refine G.call 59 ?_; first | refine S.c ?_ (h := pcan0_ok) | refine S.c ?_ (h := can_ok)) | (refine G.call 132 ?_; first | refine S.c ?_ (h := firstq_ok) | refine S.c ?_ (h := firsts_ok ?_)) | refine S.n fun _ => ?_ | refine S.i fun hix => ?_ | (refine S.g fun hb => ?_; (try simp only [hb])) | (refine S.s (fun hb => ?_) (fun hb => ?_) <;> ((try simp only [hb]) <;> (try (have hp := hb; simp only [WKs] at hp; (try have hq := Int.not_le.2 hp); (try have hq := Int.not_lt.2 hp))))))
    | rintro _ _ ⟨rfl, rfl⟩
    | rintro _ _ ⟨_, rfl, rfl⟩
    | ((fail_if_success refine G.tr ?_); exact G.prop S.p)
    | fail) <;> (try simp only [WKb, ↓reduceIte, Nat.reduceEqDiff]))))
          all_goals
            first | apply Tr.fin hK ⟨_, ix (ix gs k).ms 0, (by first | (simp [*, outC, outD]; done) | (simp only [WKe, ↓reduceIte, Int.reduceEq, eq_self, *, outC, outD]; done) | (simp only [WKe, ↓reduceIte, Int.reduceEq, *, outC, outD]; rfl)), (by first | (simp [*, outC, outD, hc]; done) | (simp only [WKe, ↓reduceIte, reduceCtorEq, Int.reduceEq, eq_self, *, outC, outD, hc]; done) | (simp only [WKe, ↓reduceIte, reduceCtorEq, Int.reduceEq, *, outC, outD, hc]; rfl)), rfl⟩ | apply Tr.fin hK ⟨_, default, (by first | (simp [*, outC, outD]; done) | (simp only [WKe, ↓reduceIte, Int.reduceEq, eq_self, *, outC, outD]; done) | (simp only [WKe, ↓reduceIte, Int.reduceEq, *, outC, outD]; rfl)), (by first | (simp [*, outC]; done) | (simp only [WKe, ↓reduceIte, eq_self, *, outC]; done) | (simp only [WKe, ↓reduceIte, *, outC]; rfl)), rfl⟩ | apply Tr.fin hK ⟨_, SL.mk _ (ix gs k).m.d, (by first | (simp [*, outC, outD]; done) | (simp only [WKe, ↓reduceIte, reduceCtorEq, Int.reduceEq, eq_self, *, outC, outD, hc]; done) | (simp only [WKe, ↓reduceIte, reduceCtorEq, Int.reduceEq, *, outC, outD, hc]; rfl)), (by first | (simp [*, outC]; done) | (simp only [WKe, ↓reduceIte, eq_self, *, outC]; done) | (simp only [WKe, ↓reduceIte, *, outC]; rfl)), rfl⟩
            ((try clear hK) <;> (try simp only [WKe, outG, ↓reduceIte, *]) <;> repeat (first | with_reducible exact EntR.done | refine S.e ?_ | (refine S.f ?_ <;> (try simp only [WKe, oneA, ↓reduceIte, *])) | with_reducible apply EntR.ex | refine EntR.drop (F := F) ?_ | refine EntR.drop ?_))
            all_goals first | exact SV.mk none 0 0 | exact SL.mk ⟨none, 0, 0⟩ []
        · obtain rfl : q = true := hqi.symm.trans hq
          refine oneQ_open hq ?_
          ((try simp only [WKb, WKh, ↓reduceIte, Nat.reduceEqDiff, Nat.reduceAdd, Nat.reduceSub, Int.reduceEq, Int.reduceLT, Int.reduceLE, pl95, hm, OneG.pt]) <;> (repeat' ((first
    | (refine G.tr ?_; first | refine S.a ?_ | refine Tr.brK ?_ ?_ | (refine G.call 59 ?_; first | refine S.c ?_ (h := pcan0_ok) | refine S.c ?_ (h := can_ok)) | (refine G.call 132 ?_; first | refine S.c ?_ (h := firstq_ok) | refine S.c ?_ (h := firsts_ok ?_)) | refine S.n fun _ => ?_ | refine S.i fun hix => ?_ | (refine S.g fun hb => ?_; (try simp only [hb])) | (refine S.s (fun hb => ?_) (fun hb => ?_) <;> ((try simp only [hb]) <;> (try (have hp := hb; simp only [WKs] at hp; (try have hq := Int.not_le.2 hp); (try have hq := Int.not_lt.2 hp))))))
    | rintro _ _ ⟨rfl, rfl⟩
    | rintro _ _ ⟨_, rfl, rfl⟩
    | ((fail_if_success refine G.tr ?_); exact G.prop S.p)
    | fail) <;> (try simp only [WKb, ↓reduceIte, Nat.reduceEqDiff]))))
          all_goals
            first | apply Tr.fin hK ⟨_, ix (ix gs k).ms 0, (by first | (simp [*, outC, outD]; done) | (simp only [↓reduceIte, Int.reduceEq, eq_self, *, outC, outD]; done) | (simp only [↓reduceIte, Int.reduceEq, *, outC, outD]; rfl)), (by first | (simp [*, outC]; done) | (simp only [↓reduceIte, eq_self, *, outC]; done) | (simp only [WKe, ↓reduceIte, reduceCtorEq, Int.reduceEq, *, outC, outD, hc]; rfl)), rfl⟩ | apply Tr.fin hK ⟨_, default, (by first | (simp [*, outC, outD]; done) | (simp only [↓reduceIte, Int.reduceEq, eq_self, *, outC, outD]; done) | (simp only [↓reduceIte, Int.reduceEq, *, outC, outD]; rfl)), (by first | (simp [*, outC]; done) | (simp only [↓reduceIte, eq_self, *, outC]; done) | (simp only [↓reduceIte, *, outC]; rfl)), rfl⟩ | apply Tr.fin hK ⟨_, SL.mk _ (ix gs k).m.d, (by first | (simp [*, outC, outD, hc]; done) | (simp only [WKe, ↓reduceIte, reduceCtorEq, Int.reduceEq, eq_self, *, outC, outD, hc]; done) | (simp only [WKe, ↓reduceIte, reduceCtorEq, Int.reduceEq, *, outC, outD, hc]; rfl)), (by first | (simp [*, outC, outD, hc]; done) | (simp only [WKe, ↓reduceIte, reduceCtorEq, Int.reduceEq, eq_self, *, outC, outD, hc]; done) | (simp only [WKe, ↓reduceIte, reduceCtorEq, Int.reduceEq, *, outC, outD, hc]; rfl)), rfl⟩
            ((try clear hK) <;> (try simp only [WKe, outG, ↓reduceIte, *]) <;> repeat (first | with_reducible exact EntR.done | refine S.e ?_ | (refine S.f ?_ <;> (try simp only [oneA, ↓reduceIte, *])) | with_reducible apply EntR.ex | refine EntR.drop (F := F) ?_ | refine EntR.drop ?_))
            all_goals first | exact SV.mk none 0 0 | exact SL.mk ⟨none, 0, 0⟩ []
  · have h' := h
    unfold inR at h'
    have hc : canB gs k q true = false := by simp [canB, h]
    (refine Tr.enter (rs := [.tmp 6, .tmp 7]) mixed fn95 rfl (by simp +arith [Try.ntmps95]) fun u => ?_; simp only [cd95, Try.f95])
    ((try simp only [WKb, ↓reduceIte, Nat.reduceEqDiff, Nat.reduceAdd]) <;> (repeat' ((first
    | (refine G.tr ?_; first | refine S.a ?_ | refine Tr.brK ?_ ?_ | (refine G.call 59 ?_; first | refine S.c ?_ (h := pcan0_ok) | refine S.c ?_ (h := can_ok)) | (refine G.call 132 ?_; first | refine S.c ?_ (h := firstq_ok) | refine S.c ?_ (h := firsts_ok ?_)) | refine S.n fun _ => ?_ | refine S.i fun hix => ?_ | (refine S.g fun hb => ?_; (try simp only [hb])) | (refine S.s (fun hb => ?_) (fun hb => ?_) <;> ((try simp only [hb]) <;> (try (have hp := hb; simp only [WKs] at hp; (try have hq := Int.not_le.2 hp); (try have hq := Int.not_lt.2 hp))))))
    | rintro _ _ ⟨rfl, rfl⟩
    | rintro _ _ ⟨_, rfl, rfl⟩
    | ((fail_if_success refine G.tr ?_); exact G.prop S.p)
    | fail) <;> (try simp only [WKb, ↓reduceIte, Nat.reduceEqDiff, hc]))))
    all_goals
      (apply Tr.fin hK ⟨⟨none, 0, 0⟩, default, (by first | (simp [*, outC, outD]; done) | (simp only [WKe, ↓reduceIte, Int.reduceEq, *, outC, outD]; done) | (simp only [WKe, ↓reduceIte, Int.reduceEq, *, outC, outD]; rfl)), (by first | (simp [*, outC]; done) | (simp only [WKe, ↓reduceIte, *, outC]; done) | (simp only [WKe, ↓reduceIte, *, outC]; rfl)), rfl⟩; ((try clear hK) <;> (try simp only [WKe, outG, ↓reduceIte, *]) <;> repeat (first | with_reducible exact EntR.done | refine S.e ?_ | (refine S.f ?_ <;> (try simp only [WKe, outG, hc, ↓reduceIte, reduceCtorEq, Int.reduceEq, *])) | with_reducible apply EntR.ex | refine EntR.drop (F := F) ?_ | refine EntR.drop ?_)))

end Go.Proofs.Ytlmcoiloepoggaa
