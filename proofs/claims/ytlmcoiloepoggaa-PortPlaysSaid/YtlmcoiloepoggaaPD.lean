import Derived.Test.YtlmcoiloepoggaaPC
namespace Go.Proofs.Ytlmcoiloepoggaa
open Go Go.Wk
set_option maxHeartbeats 3200000
set_option maxRecDepth 10000
def OneG.core (g : OneG) : Bool × Bool × Int × Int × Int × SV × List Msg × Msg × Bool × Bool := (g.q, g.i, g.size, g.depth, g.lost, g.s, g.ms, g.m, g.there, g.fresh)
def portM (c : PortC) : Bool × Bool × Int × Int × Int × SV × List Msg × Msg × Bool × Bool := (c.q, c.i, c.size, c.depth, 0, ⟨none, 0, 0⟩, [], default, false, false)
def OneG.mk0 (b c : Nat) (x : PortC) : OneG := ⟨b, x.q, x.i, x.size, x.depth, 0, c, ⟨none, 0, 0⟩, [], default, false, false⟩
attribute [local irreducible] BrK GenK EGenK EUnitK CallK FnK CallV GuardO GuardC CondW opX opK opKc chkR eqR seqK blkK endL WL WD W LoopW BinK Tr drewK resL PickK NotK NilK ExtrK getK Instr.storeAt Instr.loadAt Instr.fieldAt Instr.indexAt Instr.lookup Instr.mapUpdate Instr.box Instr.alloc Instr.build Instr.buildSlice Instr.makeSlice Instr.makeMap Instr.sliceAt Instr.field Instr.index Instr.makeInterface Instr.typeAssert Builtin.len_ Builtin.append_ Builtin.cap_ Builtin.min_ Builtin.max_ Builtin.copy_ Builtin.clear_ convert binOp mp blk rob sl sep ex fact old
theorem read_ok {p : Nat} {s : SV} {gs : List OneG} {k : Int} (hl0 : (ix gs k).m.d.length ≤ 1000000) : Trip Try.prog 51 [.pointer (some ⟨p, 0, none⟩), .int .i64 k].toArray [poB p s, fam oneA gs, sl false s.v (gs.map OneG.pt)]
    fun v l' => ∃ s3 r, r.d = outD gs k false ∧ v = .tuple #[SV.v (SL.s r), .int .i64 (outC gs k false)] ∧ l' = [poB p s, fam oneA (outG gs k false s3), sl false s.v ((outG gs k false s3).map OneG.pt), Fz.fz (r : Msg)] := by
  intro F K hK
  simp only [List.cons_append, List.nil_append]
  (refine Tr.enter (rs := [.tmp 4, .tmp 5]) mixed fn51 rfl (by simp +arith [Try.ntmps51]) fun u => ?_; simp only [cd51, Try.f51])
  ((try simp only [WKb, ↓reduceIte, Nat.reduceEqDiff, Nat.reduceAdd]) <;> (repeat' ((first
    | (refine G.tr ?_; first | refine S.a ?_ | refine Tr.brK ?_ ?_ | (refine G.call 95 ?_; first | refine S.c ?_ (h := pout0_ok) | refine S.c ?_ (h := out_ok ?_)) | refine S.n fun _ => ?_ | refine S.i fun hix => ?_ | (refine S.g fun hb => ?_; (try simp only [hb])) | (refine S.s (fun hb => ?_) (fun hb => ?_) <;> ((try simp only [hb]) <;> (try (have hp := hb; simp only [WKs] at hp; (try have hq := Int.not_le.2 hp); (try have hq := Int.not_lt.2 hp))))))
    | rintro _ _ ⟨rfl, rfl⟩
    | rintro _ _ ⟨_, _, hrd, rfl, rfl⟩
    | ((fail_if_success refine G.tr ?_); exact G.prop S.p)
    | fail) <;> (try simp only [WKb, ↓reduceIte, Nat.reduceEqDiff]))))
  all_goals
    apply Tr.fin hK ⟨_, _, hrd, rfl, rfl⟩
    ((try clear hK) <;> (try simp only [WKe, *]) <;> repeat (first | with_reducible exact EntR.done | refine S.e ?_ | (refine S.f ?_ <;> (try simp only [WKe, ↓reduceIte, reduceCtorEq, Int.reduceEq, *])) | with_reducible apply EntR.ex | refine EntR.drop (F := F) ?_ | refine EntR.drop ?_))
theorem receive_ok {p : Nat} {s : SV} {gs : List OneG} {k : Int} (hl0 : (ix gs k).m.d.length ≤ 1000000) : Trip Try.prog 47 [.pointer (some ⟨p, 0, none⟩), .int .i64 k].toArray [poB p s, fam oneA gs, sl false s.v (gs.map OneG.pt)]
    fun v l' => ∃ s3 r, r.d = outD gs k true ∧ v = .tuple #[SV.v (SL.s r), .int .i64 (outC gs k true)] ∧ l' = [poB p s, fam oneA (outG gs k true s3), sl false s.v ((outG gs k true s3).map OneG.pt), Fz.fz (r : Msg)] := by
  intro F K hK
  simp only [List.cons_append, List.nil_append]
  (refine Tr.enter (rs := [.tmp 4, .tmp 5]) mixed fn47 rfl (by simp +arith [Try.ntmps47]) fun u => ?_; simp only [cd47, Try.f47])
  ((try simp only [WKb, ↓reduceIte, Nat.reduceEqDiff, Nat.reduceAdd]) <;> (repeat' ((first
    | (refine G.tr ?_; first | refine S.a ?_ | refine Tr.brK ?_ ?_ | (refine G.call 95 ?_; first | refine S.c ?_ (h := pout0_ok) | refine S.c ?_ (h := out_ok ?_)) | refine S.n fun _ => ?_ | refine S.i fun hix => ?_ | (refine S.g fun hb => ?_; (try simp only [hb])) | (refine S.s (fun hb => ?_) (fun hb => ?_) <;> ((try simp only [hb]) <;> (try (have hp := hb; simp only [WKs] at hp; (try have hq := Int.not_le.2 hp); (try have hq := Int.not_lt.2 hp))))))
    | rintro _ _ ⟨rfl, rfl⟩
    | rintro _ _ ⟨_, _, hrd, rfl, rfl⟩
    | ((fail_if_success refine G.tr ?_); exact G.prop S.p)
    | fail) <;> (try simp only [WKb, ↓reduceIte, Nat.reduceEqDiff]))))
  all_goals
    apply Tr.fin hK ⟨_, _, hrd, rfl, rfl⟩
    ((try clear hK) <;> (try simp only [WKe, *]) <;> repeat (first | with_reducible exact EntR.done | refine S.e ?_ | (refine S.f ?_ <;> (try simp only [WKe, ↓reduceIte, reduceCtorEq, Int.reduceEq, *])) | with_reducible apply EntR.ex | refine EntR.drop (F := F) ?_ | refine EntR.drop ?_))
theorem fill_ok {b : Nat} {q i : Bool} {sz d lost : Int} {v0 : Value} : Trip Try.prog 92 [.pointer (some ⟨b, 0, none⟩)].toArray [onB b q i sz d v0 lost]
    fun v l' => ∃ c, v = .tuple #[] ∧ l' = [oneA (OneG.mk0 b c ⟨q, i, sz, d⟩)] := by
  intro F K hK
  simp only [List.cons_append, List.nil_append]
  have hdm : (⟨⟨none, 0, 0⟩, []⟩ : Msg) = default := rfl
  cases q
  · (refine Tr.enter (rs := []) mixed fn92 rfl (by simp +arith [Try.ntmps92]) fun u => ?_; simp only [cd92, Try.f92])
    ((try simp only [WKb, ↓reduceIte]) <;> (repeat' ((first
    | (refine G.tr ?_; first | refine S.a ?_ | refine Tr.brK ?_ ?_ | refine S.n fun _ => ?_ | refine S.i fun hix => ?_ | (refine S.g fun hb => ?_; (try simp only [hb])) | (refine S.s (fun hb => ?_) (fun hb => ?_) <;> ((try simp only [hb]) <;> (try (have hp := hb; simp only [WKs] at hp; (try have hq := Int.not_le.2 hp); (try have hq := Int.not_lt.2 hp))))))
    | ((fail_if_success refine G.tr ?_); exact G.prop S.p)
    | fail) <;> (try simp only [WKb, WKh, ↓reduceIte, Nat.reduceEqDiff, Nat.reduceAdd]))))
    all_goals
      apply Tr.fin hK ⟨_, rfl, rfl⟩
      ((try clear hK) <;> (try simp only [WKe, oneA, OneG.mk0, ↓reduceIte, *]) <;> repeat (first | with_reducible exact EntR.done | refine S.e ?_ | (refine S.f ?_ <;> (try simp only [WKe, oneA, OneG.mk0, ↓reduceIte, reduceCtorEq, Int.reduceEq, *])) | with_reducible apply EntR.ex | refine EntR.drop (F := F) ?_ | refine EntR.drop ?_))
  · (refine Tr.enter (rs := []) mixed fn92 rfl (by simp +arith [Try.ntmps92]) fun u => ?_; simp only [cd92, Try.f92])
    ((try simp only [WKb, ↓reduceIte]) <;> (repeat' ((first
    | (refine G.tr ?_; first | refine S.a ?_ | refine Tr.brK ?_ ?_ | refine S.n fun _ => ?_ | refine S.i fun hix => ?_ | (refine S.g fun hb => ?_; (try simp only [hb])) | (refine S.s (fun hb => ?_) (fun hb => ?_) <;> ((try simp only [hb]) <;> (try (have hp := hb; simp only [WKs] at hp; (try have hq := Int.not_le.2 hp); (try have hq := Int.not_lt.2 hp))))))
    | ((fail_if_success refine G.tr ?_); exact G.prop S.p)
    | fail) <;> (try simp only [WKb, WKh, ↓reduceIte, Nat.reduceEqDiff, Nat.reduceAdd]))))
    all_goals
      apply Tr.fin hK ⟨_, rfl, rfl⟩
      ((try clear hK) <;> (try simp only [WKe, oneA, OneG.mk0, ↓reduceIte, *]) <;> repeat (first | with_reducible exact EntR.done | refine S.e ?_ | (refine S.f ?_ <;> (try simp only [WKe, oneA, OneG.mk0, ↓reduceIte, reduceCtorEq, Int.reduceEq, *])) | with_reducible apply EntR.ex | refine EntR.drop (F := F) ?_ | refine EntR.drop ?_))

theorem pnew_ok {s : SV} {cs : List PortC} : Trip Try.prog 43 [s.v].toArray [sl true s.v cs]
    fun v l' => ∃ p s1 gs, gs.map OneG.core = (cs.take 8).map portM ∧ v = .pointer (some ⟨p, 0, none⟩) ∧ l' = [poB p s1, fam oneA gs, sl false s1.v (gs.map OneG.pt)] := by
  intro F K hK
  simp only [List.cons_append, List.nil_append]
  have hmin : (if (8 : Int) < cs.length then (8 : Int) else cs.length) = ((min 8 cs.length : Nat) : Int) := if_min (n := 8)
  (refine Tr.enter (rs := [.tmp 2]) mixed fn43 rfl (by simp +arith [Try.ntmps43]) fun u => ?_; simp only [cd43, Try.f43])
  ((try simp only [WKb]) <;> (repeat' ((first
    | (refine G.tr ?_; first | refine S.a ?_ | refine Tr.brK ?_ ?_ | (refine G.call 92 ?_; refine S.c ?_ (h := fill_ok)) | refine S.n fun _ => ?_ | refine S.i fun hix => ?_ | (refine S.g fun hb => ?_; (try simp only [hb])) | (refine S.s (fun hb => ?_) (fun hb => ?_) <;> ((try simp only [hb]) <;> (try (have hp := hb; simp only [WKs] at hp; (try have hq := Int.not_le.2 hp); (try have hq := Int.not_lt.2 hp))))))
    | rintro _ _ ⟨_, rfl, rfl⟩
    | ((fail_if_success refine G.tr ?_); exact G.prop S.p)
    | fail) <;> (try simp only [WKb, ↓reduceIte, Nat.reduceEqDiff, hmin]))))
  rename_i p s1
  refine Tr.loopE (α := Nat × SV × List OneG) [15] [2, 3, 13, 14] (fun x => [.int .i64 x.1]) (fun x => [poB p x.2.1, sl false x.2.1.v (x.2.2.map OneG.pt), fam oneA x.2.2]) (fun x => x.1 ≤ min 8 cs.length ∧ x.2.2.length = x.1 ∧ x.2.2.map OneG.core = (cs.take x.1).map portM) (fun x => min 8 cs.length - x.1) (0, ⟨none, 0, 0⟩, []) (by (repeat (first | exact TakeL.nil | (apply TakeL.cons; focus ((first | exact TakeA.dupS | exact TakeA.dupF | ((repeat (first | with_reducible exact TakeA.here | exact TakeA.fam (by omega) (by omega) | with_reducible apply TakeA.next)); done) | ((repeat (first | exact TakeA.here | apply TakeA.next)); done) | exact TakeA.famNil | exact TakeA.nilS))) | fail)); done) rfl ⟨by omega, rfl, rfl⟩ fun x u hx => ?_
  obtain ⟨k, s2, gs⟩ := x
  simp only at hx ⊢
  obtain ⟨hk, hl, hm⟩ := hx
  have hlt : (cs.take (((min 8 cs.length : Nat) : Int)).toNat).length = min 8 cs.length := by simp
  have hlm : (gs.map OneG.pt).length = k := by simp [hl]
  by_cases hkn : k < min 8 cs.length
  · have hw := wrapSucc (k := k) (by omega)
    have hxt : ix (cs.take (((min 8 cs.length : Nat) : Int)).toNat) (k : Int) = ix cs (k : Int) := ix_take (by simp; omega)
    have hmk : ∀ b c, (gs ++ [OneG.mk0 b c (ix cs (k : Int))]).map OneG.core = (cs.take (k + 1)).map portM := fun b c => by rw [take_ix (by omega), List.map_append, List.map_append, hm]; rfl
    have hln : ∀ b c, (gs ++ [OneG.mk0 b c (ix cs (k : Int))]).length = k + 1 := fun b c => by simp [hl]
    ((try simp only [WKb, ↓reduceIte, Nat.reduceEqDiff]) <;> (repeat' ((first
    | (refine G.tr ?_; first | refine S.a ?_ | refine Tr.brK ?_ ?_ | (refine G.call 92 ?_; refine S.c ?_ (h := fill_ok)) | refine S.n fun _ => ?_ | refine S.i fun hix => ?_ | (refine S.g fun hb => ?_; (try simp only [hb])) | (refine S.s (fun hb => ?_) (fun hb => ?_) <;> ((try simp only [hb]) <;> (try (have hp := hb; simp only [WKs] at hp; (try have hq := Int.not_le.2 hp); (try have hq := Int.not_lt.2 hp))))))
    | rintro _ _ ⟨_, rfl, rfl⟩
    | ((fail_if_success refine G.tr ?_); exact G.prop S.p)
    | fail) <;> (try simp only [WKb, WKh, ↓reduceIte, Nat.reduceEqDiff, hw, hxt]))))
    all_goals
      rename_i cb ob cq sA sB
      have hmk' := hmk ob cq
      have hln' := hln ob cq
      have hpt : (OneG.mk0 ob cq (ix cs (k : Int))).pt = ⟨some ob⟩ := rfl
      (apply Tr.againE (k + 1, _, gs ++ [OneG.mk0 ob cq (ix cs (k : Int))]); (focus (simp only [WKb, ↓reduceIte, Nat.reduceEqDiff])); (focus ((try simp only [WKb, ↓reduceIte]); (all_goals ((repeat (refine cons_eq (by first | rfl | ((try clear hK) <;> first | (simp [*, List.map_append, List.map_cons, List.map_nil, hpt, hw]; done) | (simp [*, List.map_append, List.map_cons, List.map_nil, hpt, hw]; omega) | (simp [*, List.map_append, List.map_cons, List.map_nil, hpt, hw] <;> (try split) <;> simp_all <;> omega))) ?_)); rfl)); done)); (focus (first | omega | assumption | (simp only []; omega) | (refine ⟨by omega, by assumption⟩) | (simp only []; refine ⟨by omega, by assumption⟩) | ((try simp only []); (repeat' (first | omega | assumption | refine And.intro ?_ ?_)); done))); (focus (first | omega | (simp only []; omega))); (focus (((try clear hK) <;> (try simp only [WKe, List.map_append, List.map_cons, List.map_nil, *]) <;> repeat (first | with_reducible exact EntR.done | refine S.e ?_ | (refine S.f ?_ <;> (try simp only [WKe, List.map_append, List.map_cons, List.map_nil, hpt, hw, ↓reduceIte, reduceCtorEq, Int.reduceEq, *])) | with_reducible apply EntR.ex | refine EntR.drop (F := F) ?_ | refine EntR.drop ?_)))))
  · have hkk : k = min 8 cs.length := by omega
    ((try simp only [WKb, ↓reduceIte, Nat.reduceEqDiff]) <;> (repeat' ((first
    | (refine G.tr ?_; first | refine S.a ?_ | refine Tr.brK ?_ ?_ | (refine G.call 92 ?_; refine S.c ?_ (h := fill_ok)) | refine S.n fun _ => ?_ | refine S.i fun hix => ?_ | (refine S.g fun hb => ?_; (try simp only [hb])) | (refine S.s (fun hb => ?_) (fun hb => ?_) <;> ((try simp only [hb]) <;> (try (have hp := hb; simp only [WKs] at hp; (try have hq := Int.not_le.2 hp); (try have hq := Int.not_lt.2 hp))))))
    | rintro _ _ ⟨_, rfl, rfl⟩
    | ((fail_if_success refine G.tr ?_); exact G.prop S.p)
    | fail) <;> (try simp only [WKb, ↓reduceIte, Nat.reduceEqDiff]))))
    all_goals
      apply Tr.fin hK ⟨_, _, gs, by rw [hm, hkk, take_minlen], rfl, rfl⟩
      ((try clear hK) <;> (try simp only [WKe, *]) <;> repeat (first | with_reducible exact EntR.done | refine S.e ?_ | (refine S.f ?_ <;> (try simp only [WKe, ↓reduceIte, reduceCtorEq, Int.reduceEq, *])) | with_reducible apply EntR.ex | refine EntR.drop (F := F) ?_ | refine EntR.drop ?_))
theorem drain_ok {p : Nat} {s : SV} {gs : List OneG} {k : Int} (hl0 : (ix gs k).m.d.length ≤ 1000000) : Trip Try.prog 49 [.pointer (some ⟨p, 0, none⟩), .int .i64 k].toArray [poB p s, fam oneA gs, sl false s.v (gs.map OneG.pt)]
    fun v l' => ∃ r : SL Msg, r.d.map SL.d = drainD gs k ∧ v = SV.v (SL.s r) ∧ l' = [poB p s, fam oneA (drainG gs k), sl false s.v ((drainG gs k).map OneG.pt), sl false (SV.v (SL.s r)) (SL.d r), fzl (SL.d r)] := by
  intro F K hK
  simp only [List.cons_append, List.nil_append]
  by_cases h : inR gs k
  · have ⟨h0, h1⟩ := h
    have hm := ix_map (f := OneG.pt) h0 h1
    have hl : (gs.map OneG.pt).length = gs.length := List.length_map _
    have hs := fun q i sz d lo c s ms m t f => map_same (f := OneG.pt) h0 h1 ⟨(ix gs k).b, q, i, sz, d, lo, c, s, ms, m, t, f⟩ rfl
    refine Tr.famAt (A := oneA) k (by (repeat (first | exact TakeA.here | apply TakeA.next)); done) h0 h1 ?_
    cases hq : (ix gs k).q
    · refine oneS_open hq ?_
      (refine Tr.enter (rs := [.tmp 4]) mixed fn49 rfl (by simp +arith [Try.ntmps49]) fun u => ?_; simp only [cd49, Try.f49])
      ((try simp only [WKb, ↓reduceIte, Nat.reduceEqDiff, Nat.reduceAdd]) <;> (repeat' ((first
    | (refine G.tr ?_; first | refine S.a ?_ | refine Tr.brK ?_ ?_ | (refine G.call 93 ?_; first | refine S.c ?_ (h := find_none) | refine S.c ?_ (h := find_in (by omega) (by omega)) | refine S.c ?_ (h := find_out (by omega))) | (refine G.call 85 ?_; refine S.c ?_ (h := clone_ok (by omega))) | refine S.n fun _ => ?_ | refine S.i fun hix => ?_ | (refine S.g fun hb => ?_; (try simp only [hb])) | (refine S.s (fun hb => ?_) (fun hb => ?_) <;> ((try simp only [hb]) <;> (try (have hp := hb; simp only [WKs] at hp; (try have hq := Int.not_le.2 hp); (try have hq := Int.not_lt.2 hp))))))
    | rintro _ _ ⟨rfl, rfl⟩
    | rintro _ _ ⟨_, rfl, rfl⟩
    | ((fail_if_success refine G.tr ?_); exact G.prop S.p)
    | fail) <;> (try simp only [WKb, WKh, ↓reduceIte, Nat.reduceEqDiff, Nat.reduceAdd]))))
      all_goals
        (first | apply Tr.fin hK ⟨⟨⟨none, 0, 0⟩, []⟩, (by first | (simp [*, drainD]; done) | (simp only [WKe, ↓reduceIte, reduceCtorEq, Int.reduceEq, eq_self, *, drainD]; done) | (simp only [WKe, ↓reduceIte, reduceCtorEq, Int.reduceEq, *, drainD]; rfl)), rfl, rfl⟩ | apply Tr.fin hK ⟨⟨(ix gs k).s, (ix gs k).ms⟩, (by first | (simp [*, drainD]; done) | (simp only [WKe, ↓reduceIte, reduceCtorEq, Int.reduceEq, eq_self, *, drainD]; done) | (simp only [WKe, ↓reduceIte, reduceCtorEq, Int.reduceEq, *, drainD]; rfl)), rfl, rfl⟩ | apply Tr.fin hK ⟨⟨_, [SL.mk _ (ix gs k).m.d]⟩, (by first | (simp [*, drainD]; done) | (simp only [WKe, ↓reduceIte, reduceCtorEq, Int.reduceEq, eq_self, *, drainD]; done) | (simp only [WKe, ↓reduceIte, reduceCtorEq, Int.reduceEq, *, drainD]; rfl)), rfl, rfl⟩)
        ((try clear hK) <;> (try simp only [WKe, drainG, ↓reduceIte, *]) <;> repeat (first | with_reducible exact EntR.done | refine S.e ?_ | (refine S.f ?_ <;> (try simp only [WKe, oneA, ↓reduceIte, *])) | with_reducible apply EntR.ex | refine EntR.drop (F := F) ?_ | refine EntR.drop ?_))
        all_goals first | exact SV.mk none 0 0 | exact SL.mk ⟨none, 0, 0⟩ []
    · refine oneQ_open hq ?_
      (refine Tr.enter (rs := [.tmp 4]) mixed fn49 rfl (by simp +arith [Try.ntmps49]) fun u => ?_; simp only [cd49, Try.f49])
      ((try simp only [WKb, ↓reduceIte, Nat.reduceEqDiff, Nat.reduceAdd]) <;> (repeat' ((first
    | (refine G.tr ?_; first | refine S.a ?_ | refine Tr.brK ?_ ?_ | (refine G.call 93 ?_; first | refine S.c ?_ (h := find_none) | refine S.c ?_ (h := find_in (by omega) (by omega)) | refine S.c ?_ (h := find_out (by omega))) | (refine G.call 85 ?_; refine S.c ?_ (h := clone_ok (by omega))) | refine S.n fun _ => ?_ | refine S.i fun hix => ?_ | (refine S.g fun hb => ?_; (try simp only [hb])) | (refine S.s (fun hb => ?_) (fun hb => ?_) <;> ((try simp only [hb]) <;> (try (have hp := hb; simp only [WKs] at hp; (try have hq := Int.not_le.2 hp); (try have hq := Int.not_lt.2 hp))))))
    | rintro _ _ ⟨rfl, rfl⟩
    | rintro _ _ ⟨_, rfl, rfl⟩
    | ((fail_if_success refine G.tr ?_); exact G.prop S.p)
    | fail) <;> (try simp only [WKb, WKh, ↓reduceIte, Nat.reduceEqDiff]))))
      all_goals
        (first | apply Tr.fin hK ⟨⟨⟨none, 0, 0⟩, []⟩, (by first | (simp [*, drainD]; done) | (simp only [WKe, ↓reduceIte, reduceCtorEq, Int.reduceEq, eq_self, *, drainD]; done) | (simp only [WKe, ↓reduceIte, reduceCtorEq, Int.reduceEq, *, drainD]; rfl)), rfl, rfl⟩ | apply Tr.fin hK ⟨⟨(ix gs k).s, (ix gs k).ms⟩, (by first | (simp [*, drainD]; done) | (simp only [WKe, ↓reduceIte, reduceCtorEq, Int.reduceEq, eq_self, *, drainD]; done) | (simp only [WKe, ↓reduceIte, reduceCtorEq, Int.reduceEq, *, drainD]; rfl)), rfl, rfl⟩ | apply Tr.fin hK ⟨⟨_, [SL.mk _ (ix gs k).m.d]⟩, (by first | (simp [*, drainD]; done) | (simp only [WKe, ↓reduceIte, reduceCtorEq, Int.reduceEq, eq_self, *, drainD]; done) | (simp only [WKe, ↓reduceIte, reduceCtorEq, Int.reduceEq, *, drainD]; rfl)), rfl, rfl⟩)
        ((try clear hK) <;> (try simp only [WKe, drainG, ↓reduceIte, *]) <;> repeat (first | with_reducible exact EntR.done | refine S.e ?_ | (refine S.f ?_ <;> (try simp only [oneA, ↓reduceIte, *])) | with_reducible apply EntR.ex | refine EntR.drop (F := F) ?_ | refine EntR.drop ?_))
        all_goals first | exact SV.mk none 0 0 | exact SL.mk ⟨none, 0, 0⟩ []
  · have h' := h
    unfold inR at h'
    (refine Tr.enter (rs := [.tmp 4]) mixed fn49 rfl (by simp +arith [Try.ntmps49]) fun u => ?_; simp only [cd49, Try.f49])
    ((try simp only [WKb, ↓reduceIte, Nat.reduceEqDiff, Nat.reduceAdd]) <;> (repeat' ((first
    | (refine G.tr ?_; first | refine S.a ?_ | refine Tr.brK ?_ ?_ | (refine G.call 93 ?_; first | refine S.c ?_ (h := find_none) | refine S.c ?_ (h := find_in (by omega) (by omega)) | refine S.c ?_ (h := find_out (by omega))) | (refine G.call 85 ?_; refine S.c ?_ (h := clone_ok (by omega))) | refine S.n fun _ => ?_ | refine S.i fun hix => ?_ | (refine S.g fun hb => ?_; (try simp only [hb])) | (refine S.s (fun hb => ?_) (fun hb => ?_) <;> ((try simp only [hb]) <;> (try (have hp := hb; simp only [WKs] at hp; (try have hq := Int.not_le.2 hp); (try have hq := Int.not_lt.2 hp))))))
    | rintro _ _ ⟨rfl, rfl⟩
    | rintro _ _ ⟨_, rfl, rfl⟩
    | ((fail_if_success refine G.tr ?_); exact G.prop S.p)
    | fail) <;> (try simp only [WKb, ↓reduceIte, Nat.reduceEqDiff]))))
    all_goals
      (first | apply Tr.fin hK ⟨⟨⟨none, 0, 0⟩, []⟩, (by first | (simp [*, drainD]; done) | (simp only [WKe, ↓reduceIte, reduceCtorEq, Int.reduceEq, eq_self, *, drainD]; done) | (simp only [WKe, ↓reduceIte, reduceCtorEq, Int.reduceEq, *, drainD]; rfl)), rfl, rfl⟩ | apply Tr.fin hK ⟨⟨(ix gs k).s, (ix gs k).ms⟩, (by first | (simp [*, drainD]; done) | (simp only [WKe, ↓reduceIte, reduceCtorEq, Int.reduceEq, eq_self, *, drainD]; done) | (simp only [WKe, ↓reduceIte, reduceCtorEq, Int.reduceEq, *, drainD]; rfl)), rfl, rfl⟩ | apply Tr.fin hK ⟨⟨_, [SL.mk _ (ix gs k).m.d]⟩, (by first | (simp [*, drainD]; done) | (simp only [WKe, ↓reduceIte, reduceCtorEq, Int.reduceEq, eq_self, *, drainD]; done) | (simp only [WKe, ↓reduceIte, reduceCtorEq, Int.reduceEq, *, drainD]; rfl)), rfl, rfl⟩)
      ((try clear hK) <;> (try simp only [WKe, drainG, ↓reduceIte, *]) <;> repeat (first | with_reducible exact EntR.done | refine S.e ?_ | (refine S.f ?_ <;> (try simp only [WKe, drainG, ↓reduceIte, reduceCtorEq, Int.reduceEq, *])) | with_reducible apply EntR.ex | refine EntR.drop (F := F) ?_ | refine EntR.drop ?_))
      all_goals first | exact SV.mk none 0 0 | exact SL.mk ⟨none, 0, 0⟩ []
theorem core_mk {g : OneG} {x : PortC} (h : g.core = portM x) : g = OneG.mk0 g.b g.c x := by
  obtain ⟨b, q, i, sz, d, lo, c, s, ms, m, t, f⟩ := g
  simp only [OneG.core, portM, Prod.mk.injEq] at h
  obtain ⟨rfl, rfl, rfl, rfl, rfl, rfl, rfl, rfl, rfl, rfl⟩ := h
  rfl
theorem core_one {gs : List OneG} {x : PortC} (h : gs.map OneG.core = [portM x]) : ∃ b c, gs = [OneG.mk0 b c x] := by
  obtain ⟨g, rfl⟩ : ∃ g, gs = [g] := List.length_eq_one_iff.1 (by simpa using congrArg List.length h)
  exact ⟨g.b, g.c, by rw [← core_mk (by simpa using h)]⟩
theorem core_two {gs : List OneG} {x y : PortC} (h : gs.map OneG.core = [portM x, portM y]) : ∃ b c b2 c2, gs = [OneG.mk0 b c x, OneG.mk0 b2 c2 y] := by
  obtain ⟨g, g2, rfl⟩ : ∃ g g2, gs = [g, g2] := by
    match gs, h with
    | [g, g2], _ => exact ⟨g, g2, rfl⟩
    | [], h => simp at h
    | [_], h => simp at h
    | _ :: _ :: _ :: _, h => simp at h
  simp only [List.map_cons, List.map_nil, List.cons.injEq, and_true] at h
  exact ⟨g.b, g.c, g2.b, g2.c, by rw [← core_mk h.1, ← core_mk h.2]⟩
theorem pnew1_ok {s : SV} {x : PortC} : Trip Try.prog 43 [s.v].toArray [sl true s.v [x]]
    fun v l' => ∃ p s1 b c, v = .pointer (some ⟨p, 0, none⟩) ∧ l' = [poB p s1, fam oneA [OneG.mk0 b c x], sl false s1.v [Pt.mk (some b)]] := by
  refine Trip.mono pnew_ok ?_
  rintro v l' ⟨p, s1, gs, h, rfl, rfl⟩
  obtain ⟨b, c, rfl⟩ := core_one (x := x) h
  exact ⟨p, s1, b, c, rfl, rfl⟩
theorem pnew2_ok {s : SV} {x y : PortC} : Trip Try.prog 43 [s.v].toArray [sl true s.v [x, y]]
    fun v l' => ∃ p s1 b c b2 c2, v = .pointer (some ⟨p, 0, none⟩) ∧ l' = [poB p s1, fam oneA [OneG.mk0 b c x, OneG.mk0 b2 c2 y], sl false s1.v [Pt.mk (some b), Pt.mk (some b2)]] := by
  refine Trip.mono pnew_ok ?_
  rintro v l' ⟨p, s1, gs, h, rfl, rfl⟩
  obtain ⟨b, c, b2, c2, rfl⟩ := core_two (x := x) (y := y) h
  exact ⟨p, s1, b, c, b2, c2, rfl, rfl⟩
end Go.Proofs.Ytlmcoiloepoggaa
