import Derived.Test.YtlmcoiloepoggaaOQ
namespace Go.Proofs.Ytlmcoiloepoggaa
open Go Go.Wk
set_option maxHeartbeats 6400000
set_option maxRecDepth 10000
attribute [local irreducible] BrK GenK EGenK EUnitK CallK FnK CallV GuardO GuardC CondW opX opK opKc chkR eqR seqK blkK endL WL WD W LoopW BinK Tr drewK resL PickK NotK NilK ExtrK getK Instr.storeAt Instr.loadAt Instr.fieldAt Instr.indexAt Instr.lookup Instr.mapUpdate Instr.box Instr.alloc Instr.build Instr.buildSlice Instr.makeSlice Instr.makeMap Instr.sliceAt Instr.field Instr.index Instr.makeInterface Instr.typeAssert Builtin.len_ Builtin.append_ Builtin.cap_ Builtin.min_ Builtin.max_ Builtin.copy_ Builtin.clear_ convert binOp mp blk rob sl sep ex fact old
theorem look2_ok {b : Nat} {o : ObW} {gs : List SlateG} {k : Int} (hn : (ix gs k).shown = true → (ix gs k).m.d.length ≤ 300) : Trip Try.prog 33 [.pointer (some ⟨b, 0, none⟩), .int .i64 k].toArray [obB b o, fam slateA gs, sl false o.ls.v (gs.map SlateG.pt)]
    fun v l' => ∃ s2 : SV, v = .tuple #[s2.v, .int .i64 (lookC gs k)] ∧ l' = [obB b o, fam slateA gs, sl false o.ls.v (gs.map SlateG.pt), sl true s2.v (lookD gs k)] := by
  intro F K hK
  simp only [List.cons_append, List.nil_append]
  by_cases h : inR gs k
  · have ⟨h0, h1⟩ := h
    refine Tr.famAt (A := slateA) k (by (repeat (first | exact TakeA.here | apply TakeA.next)); done) h0 h1 ?_
    refine slateA_open ?_
    (refine Tr.enter (rs := [.tmp 4, .tmp 5]) mixed fn33 rfl (by simp +arith [Try.ntmps33]) fun u => ?_; simp only [cd33, Try.f33])
    cases hs : (ix gs k).shown
    · ((try simp only [WKb, ↓reduceIte, Nat.reduceEqDiff, Nat.reduceAdd]) <;> (repeat' ((first
    | (refine G.tr ?_; first | refine S.a ?_ | refine Tr.brK ?_ ?_ | (refine G.call 86 ?_; first | refine S.c ?_ (h := slate_none) | refine S.c ?_ (h := slate_in (by omega) (by omega)) | refine S.c ?_ (h := slate_out (by omega))) | (refine G.call 85 ?_; refine S.c ?_ (h := clone_ok (by omega))) | refine S.n fun _ => ?_ | refine S.i fun hix => ?_ | (refine S.g fun hb => ?_; (try simp only [hb])) | (refine S.s (fun hb => ?_) (fun hb => ?_) <;> ((try simp only [hb]) <;> (try (have hp := hb; simp only [WKs] at hp; (try have hq := Int.not_le.2 hp); (try have hq := Int.not_lt.2 hp))))))
    | rintro _ _ ⟨rfl, rfl⟩
    | rintro _ _ ⟨_, rfl, rfl⟩
    | ((fail_if_success refine G.tr ?_); exact G.prop S.p)
    | fail) <;> (try simp only [WKb, ↓reduceIte, Nat.reduceEqDiff]))))
      all_goals
        refine Tr.nilSl (α := UInt8) ?_
        refine Tr.freezeAt (by (repeat (first | exact TakeA.here | apply TakeA.next)); done) ?_
        apply Tr.fin hK ⟨⟨none, 0, 0⟩, (by first | (simp [*, lookC, SV.v]; done) | (simp only [WKe, ↓reduceIte, reduceCtorEq, Int.reduceEq, eq_self, *, lookC, SV.v]; done) | (simp only [WKe, ↓reduceIte, reduceCtorEq, Int.reduceEq, *, lookC, SV.v]; rfl)), rfl⟩
        ((try clear hK) <;> (try simp only [WKe, lookD, lookC, SV.v, ↓reduceIte, Int.reduceEq, *]) <;> repeat (first | with_reducible exact EntR.done | refine S.e ?_ | (refine S.f ?_ <;> (try simp only [SV.v, slateA, *])) | with_reducible apply EntR.ex | refine EntR.drop (F := F) ?_ | refine EntR.drop ?_))
    · have hn2 := hn hs
      ((try simp only [WKb, ↓reduceIte, Nat.reduceEqDiff, Nat.reduceAdd]) <;> (repeat' ((first
    | (refine G.tr ?_; first | refine S.a ?_ | refine Tr.brK ?_ ?_ | (refine G.call 86 ?_; first | refine S.c ?_ (h := slate_none) | refine S.c ?_ (h := slate_in (by omega) (by omega)) | refine S.c ?_ (h := slate_out (by omega))) | (refine G.call 85 ?_; refine S.c ?_ (h := clone_ok (by omega))) | refine S.n fun _ => ?_ | refine S.i fun hix => ?_ | (refine S.g fun hb => ?_; (try simp only [hb])) | (refine S.s (fun hb => ?_) (fun hb => ?_) <;> ((try simp only [hb]) <;> (try (have hp := hb; simp only [WKs] at hp; (try have hq := Int.not_le.2 hp); (try have hq := Int.not_lt.2 hp))))))
    | rintro _ _ ⟨rfl, rfl⟩
    | rintro _ _ ⟨_, rfl, rfl⟩
    | ((fail_if_success refine G.tr ?_); exact G.prop S.p)
    | fail) <;> (try simp only [WKb, ↓reduceIte, Nat.reduceEqDiff]))))
      all_goals
        apply Tr.fin hK ⟨_, (by first | (simp [*, lookC]; done) | (simp only [↓reduceIte, eq_self, *, lookC]; done) | (simp only [↓reduceIte, *, lookC]; rfl)), rfl⟩
        ((try clear hK) <;> (try simp only [WKe, lookD, lookC, ↓reduceIte, *]) <;> repeat (first | with_reducible exact EntR.done | refine S.e ?_ | (refine S.f ?_ <;> (try simp only [slateA, *])) | with_reducible apply EntR.ex | refine EntR.drop (F := F) ?_ | refine EntR.drop ?_))
  · have h' := h
    unfold inR at h'
    (refine Tr.enter (rs := [.tmp 4, .tmp 5]) mixed fn33 rfl (by simp +arith [Try.ntmps33]) fun u => ?_; simp only [cd33, Try.f33])
    ((try simp only [WKb, ↓reduceIte, Nat.reduceEqDiff, Nat.reduceAdd]) <;> (repeat' ((first
    | (refine G.tr ?_; first | refine S.a ?_ | refine Tr.brK ?_ ?_ | (refine G.call 86 ?_; first | refine S.c ?_ (h := slate_none) | refine S.c ?_ (h := slate_in (by omega) (by omega)) | refine S.c ?_ (h := slate_out (by omega))) | (refine G.call 85 ?_; refine S.c ?_ (h := clone_ok (by omega))) | refine S.n fun _ => ?_ | refine S.i fun hix => ?_ | (refine S.g fun hb => ?_; (try simp only [hb])) | (refine S.s (fun hb => ?_) (fun hb => ?_) <;> ((try simp only [hb]) <;> (try (have hp := hb; simp only [WKs] at hp; (try have hq := Int.not_le.2 hp); (try have hq := Int.not_lt.2 hp))))))
    | rintro _ _ ⟨rfl, rfl⟩
    | rintro _ _ ⟨_, rfl, rfl⟩
    | ((fail_if_success refine G.tr ?_); exact G.prop S.p)
    | fail) <;> (try simp only [WKb, ↓reduceIte, Nat.reduceEqDiff]))))
    all_goals
      refine Tr.nilSl (α := UInt8) ?_
      refine Tr.freezeAt (by (repeat (first | exact TakeA.here | apply TakeA.next)); done) ?_
      apply Tr.fin hK ⟨⟨none, 0, 0⟩, (by first | (simp [*, lookC, SV.v]; done) | (simp only [WKe, ↓reduceIte, reduceCtorEq, Int.reduceEq, eq_self, *, lookC, SV.v]; done) | (simp only [WKe, ↓reduceIte, reduceCtorEq, Int.reduceEq, *, lookC, SV.v]; rfl)), rfl⟩
      ((try clear hK) <;> (try simp only [WKe, lookD, lookC, SV.v, ↓reduceIte, Int.reduceEq, *]) <;> repeat (first | with_reducible exact EntR.done | refine S.e ?_ | (refine S.f ?_ <;> (try simp only [WKe, lookD, lookC, SV.v, slateA, ↓reduceIte, reduceCtorEq, Int.reduceEq, *])) | with_reducible apply EntR.ex | refine EntR.drop (F := F) ?_ | refine EntR.drop ?_))

theorem done20_ok {b r : Nat} {c : PartC} {p1 p2 p3 p4 q1 q2 q3 q4 : SV} {gS : List SemG} {gF : List FlagG} {gP : List PoolG} {gL : List SlateG} {xs ys : List (SL Msg)} {cs : List SemC} {cp : List PoolC} {cl : List Int} {act : Act20} {n : Nat} (hx : xs.map mo = gP.map PoolG.mm) (hy : ys.map mo = gL.map SlateG.mm) (hv : InvO cs cp cl gS gF gP gL n) (hn : n ≤ 90000) (hB : act.b.d.length ≤ 300) :
    Trip Try.prog 62 [.pointer (some ⟨b, 0, none⟩), .pointer (some ⟨r, 0, none⟩), .agg [.int .i64 act.act, .int .i64 act.k, act.b.s.v].toArray].toArray [obB b ⟨c, p1, p2, p3, p4⟩, sl false p1.v (gS.map SemG.pt), fam semA gS, sl false p2.v (gF.map FlagG.pt), fam flagA gF, sl false p3.v (gP.map PoolG.pt), fam poolA gP, sl false p4.v (gL.map SlateG.pt), fam slateA gL, rOB r ⟨c, q1, q2, q3, q4⟩, sl false q1.v (gS.map SemG.count), sl false q2.v (gF.map FlagG.up), sl false q3.v xs, fzl xs, sl false q4.v ys, fzl ys, sl true c.sems.v cs, sl true c.pools.v cp, sl true c.slates.v cl, sl true act.b.s.v act.b.d]
    fun v l' => ∃ p1' p2' p3' p4' q1' q2' q3' q4' gS' gF' gP' gL' xs' ys', InvO cs cp cl gS' gF' gP' gL' (n + 1) ∧ xs'.map mo = gP'.map PoolG.mm ∧ ys'.map mo = gL'.map SlateG.mm ∧ v = .bool true ∧ l' = [obB b ⟨c, p1', p2', p3', p4'⟩, sl false p1'.v (gS'.map SemG.pt), fam semA gS', sl false p2'.v (gF'.map FlagG.pt), fam flagA gF', sl false p3'.v (gP'.map PoolG.pt), fam poolA gP', sl false p4'.v (gL'.map SlateG.pt), fam slateA gL', rOB r ⟨c, q1', q2', q3', q4'⟩, sl false q1'.v (gS'.map SemG.count), sl false q2'.v (gF'.map FlagG.up), sl false q3'.v xs', fzl xs', sl false q4'.v ys', fzl ys'] := by
  intro F K hK
  obtain ⟨act, k, ⟨s0, m⟩⟩ := act
  simp only [List.cons_append, List.nil_append] at hB ⊢
  obtain ⟨hl1, hl2, hl3, hl4⟩ := hv.lens
  have hlx := mm_len hx
  have hly := mm_len hy
  have hcs := hv.hcs
  have hcp := hv.hcp
  have hcl := hv.hcl
  have hmk := hv.hm k
  have hbk := hv.hb k
  (refine Tr.enter (rs := [.tmp 6]) mixed fn62 rfl (by simp +arith [Try.ntmps62]) fun u => ?_; simp only [cd62, Try.f62])
  by_cases h0 : act = 0
  · subst h0
    ((try simp only [WKb, ↓reduceIte, Nat.reduceAdd]) <;> (repeat' ((first
    | (refine G.tr ?_; first | refine S.a ?_ | refine Tr.brK ?_ ?_ | (refine G.call 18 ?_; refine S.c ?_ (h := take_ok)) | (refine G.call 104 ?_; refine S.c ?_ (h := rtake_ok ?_ ?_ ?_ ?_)) | (refine G.call 17 ?_; refine S.c ?_ (h := give_ok)) | (refine G.call 105 ?_; refine S.c ?_ (h := rgive_ok ?_ ?_ ?_ ?_ ?_)) | (refine G.call 67 ?_; refine S.c ?_ (h := flag_ok)) | (refine G.call 106 ?_; refine S.c ?_ (h := rflag_ok ?_ ?_ ?_ ?_)) | (refine G.call 31 ?_; refine S.c ?_ (h := put_ok ?_ ?_)) | (refine G.call 107 ?_; refine S.c ?_ (h := rput20_ok ?_ ?_ ?_ ?_ ?_ ?_ ?_)) | (refine G.call 34 ?_; refine S.c ?_ (h := get_ok)) | (refine G.call 108 ?_; refine S.c ?_ (h := rget_ok ?_ ?_ ?_ ?_ ?_ ?_)) | (refine G.call 109 ?_; refine S.c ?_ (h := got_ok)) | (refine G.call 32 ?_; refine S.c ?_ (h := show_ok ?_)) | (refine G.call 110 ?_; refine S.c ?_ (h := rshow_ok ?_ ?_ ?_ ?_ ?_ ?_)) | (refine G.call 33 ?_; first | refine S.c ?_ (h := look2_ok ?_) | refine S.c ?_ (h := look_ok ?_)) | (refine G.call 111 ?_; refine S.c ?_ (h := rlook_ok ?_)) | (refine G.call 68 ?_; refine S.c ?_ (h := wipe_ok)) | (refine G.call 112 ?_; refine S.c ?_ (h := rwipe_ok ?_ ?_ ?_ ?_ ?_)) | (refine G.call 64 ?_; refine S.c ?_ (h := clear_ok)) | refine S.n fun _ => ?_ | refine S.i fun hix => ?_ | (refine S.g fun hb => ?_; (try simp only [hb])) | (refine S.s (fun hb => ?_) (fun hb => ?_) <;> ((try simp only [hb]) <;> (try (have hp := hb; simp only [WKs] at hp; (try have hq := Int.not_le.2 hp); (try have hq := Int.not_lt.2 hp))))))
    | rintro _ _ ⟨rfl, rfl⟩
    | rintro _ _ ⟨_, rfl, rfl⟩
    | rintro _ _ ⟨_, _, rfl, rfl⟩
    | rintro _ _ ⟨_, _, _, _, rfl, rfl⟩
    | rintro _ _ ⟨_, _, _, _, _, hxs, rfl, rfl⟩
    | rintro _ _ ⟨_, _, _, _, _, _, hxs, rfl, rfl⟩
    | rintro _ _ ⟨_, _, _, _, _, _, _, _, hm1, hm2, hm3, hm4, rfl, rfl⟩
    | ((fail_if_success refine G.tr ?_); exact G.prop S.p)
    | fail) <;> (try simp only [WKb, ↓reduceIte, Nat.reduceEqDiff, pl62]))))
    all_goals
      apply Tr.fin hK ⟨_, _, _, _, _, _, _, _, takeG gS k, gF, gP, gL, _, _, hv.take, hx, hy, rfl, rfl⟩
      ((try clear hK) <;> (try simp only [WKe, *]) <;> repeat (first | with_reducible exact EntR.done | refine S.e ?_ | (refine S.f ?_ <;> (try simp only [WKe, ↓reduceIte, reduceCtorEq, Int.reduceEq, *])) | with_reducible apply EntR.ex | refine EntR.drop (F := F) ?_ | refine EntR.drop ?_))
      all_goals exact SV.mk none 0 0
  by_cases h1 : act = 1
  · subst h1
    ((try simp only [WKb, ↓reduceIte, Nat.reduceAdd]) <;> (repeat' ((first
    | (refine G.tr ?_; first | refine S.a ?_ | refine Tr.brK ?_ ?_ | (refine G.call 18 ?_; refine S.c ?_ (h := take_ok)) | (refine G.call 104 ?_; refine S.c ?_ (h := rtake_ok ?_ ?_ ?_ ?_)) | (refine G.call 17 ?_; refine S.c ?_ (h := give_ok)) | (refine G.call 105 ?_; refine S.c ?_ (h := rgive_ok ?_ ?_ ?_ ?_ ?_)) | (refine G.call 67 ?_; refine S.c ?_ (h := flag_ok)) | (refine G.call 106 ?_; refine S.c ?_ (h := rflag_ok ?_ ?_ ?_ ?_)) | (refine G.call 31 ?_; refine S.c ?_ (h := put_ok ?_ ?_)) | (refine G.call 107 ?_; refine S.c ?_ (h := rput20_ok ?_ ?_ ?_ ?_ ?_ ?_ ?_)) | (refine G.call 34 ?_; refine S.c ?_ (h := get_ok)) | (refine G.call 108 ?_; refine S.c ?_ (h := rget_ok ?_ ?_ ?_ ?_ ?_ ?_)) | (refine G.call 109 ?_; refine S.c ?_ (h := got_ok)) | (refine G.call 32 ?_; refine S.c ?_ (h := show_ok ?_)) | (refine G.call 110 ?_; refine S.c ?_ (h := rshow_ok ?_ ?_ ?_ ?_ ?_ ?_)) | (refine G.call 33 ?_; first | refine S.c ?_ (h := look2_ok ?_) | refine S.c ?_ (h := look_ok ?_)) | (refine G.call 111 ?_; refine S.c ?_ (h := rlook_ok ?_)) | (refine G.call 68 ?_; refine S.c ?_ (h := wipe_ok)) | (refine G.call 112 ?_; refine S.c ?_ (h := rwipe_ok ?_ ?_ ?_ ?_ ?_)) | (refine G.call 64 ?_; refine S.c ?_ (h := clear_ok)) | refine S.n fun _ => ?_ | refine S.i fun hix => ?_ | (refine S.g fun hb => ?_; (try simp only [hb])) | (refine S.s (fun hb => ?_) (fun hb => ?_) <;> ((try simp only [hb]) <;> (try (have hp := hb; simp only [WKs] at hp; (try have hq := Int.not_le.2 hp); (try have hq := Int.not_lt.2 hp))))))
    | rintro _ _ ⟨rfl, rfl⟩
    | rintro _ _ ⟨_, rfl, rfl⟩
    | rintro _ _ ⟨_, _, rfl, rfl⟩
    | rintro _ _ ⟨_, _, _, _, rfl, rfl⟩
    | rintro _ _ ⟨_, _, _, _, _, hxs, rfl, rfl⟩
    | rintro _ _ ⟨_, _, _, _, _, _, hxs, rfl, rfl⟩
    | rintro _ _ ⟨_, _, _, _, _, _, _, _, hm1, hm2, hm3, hm4, rfl, rfl⟩
    | ((fail_if_success refine G.tr ?_); exact G.prop S.p)
    | fail) <;> (try simp only [WKb, ↓reduceIte, Nat.reduceEqDiff, Int.reduceEq, pl62]))))
    all_goals
      apply Tr.fin hK ⟨_, _, _, _, _, _, _, _, giveG gS k, gF, gP, gL, _, _, hv.give, hx, hy, rfl, rfl⟩
      ((try clear hK) <;> (try simp only [WKe, *]) <;> repeat (first | with_reducible exact EntR.done | refine S.e ?_ | (refine S.f ?_ <;> (try simp only [WKe, ↓reduceIte, reduceCtorEq, Int.reduceEq, *])) | with_reducible apply EntR.ex | refine EntR.drop (F := F) ?_ | refine EntR.drop ?_))
      all_goals exact SV.mk none 0 0
  by_cases h2 : act = 2
  · subst h2
    ((try simp only [WKb, ↓reduceIte, Nat.reduceAdd]) <;> (repeat' ((first
    | (refine G.tr ?_; first | refine S.a ?_ | refine Tr.brK ?_ ?_ | (refine G.call 18 ?_; refine S.c ?_ (h := take_ok)) | (refine G.call 104 ?_; refine S.c ?_ (h := rtake_ok ?_ ?_ ?_ ?_)) | (refine G.call 17 ?_; refine S.c ?_ (h := give_ok)) | (refine G.call 105 ?_; refine S.c ?_ (h := rgive_ok ?_ ?_ ?_ ?_ ?_)) | (refine G.call 67 ?_; refine S.c ?_ (h := flag_ok)) | (refine G.call 106 ?_; refine S.c ?_ (h := rflag_ok ?_ ?_ ?_ ?_)) | (refine G.call 31 ?_; refine S.c ?_ (h := put_ok ?_ ?_)) | (refine G.call 107 ?_; refine S.c ?_ (h := rput20_ok ?_ ?_ ?_ ?_ ?_ ?_ ?_)) | (refine G.call 34 ?_; refine S.c ?_ (h := get_ok)) | (refine G.call 108 ?_; refine S.c ?_ (h := rget_ok ?_ ?_ ?_ ?_ ?_ ?_)) | (refine G.call 109 ?_; refine S.c ?_ (h := got_ok)) | (refine G.call 32 ?_; refine S.c ?_ (h := show_ok ?_)) | (refine G.call 110 ?_; refine S.c ?_ (h := rshow_ok ?_ ?_ ?_ ?_ ?_ ?_)) | (refine G.call 33 ?_; first | refine S.c ?_ (h := look2_ok ?_) | refine S.c ?_ (h := look_ok ?_)) | (refine G.call 111 ?_; refine S.c ?_ (h := rlook_ok ?_)) | (refine G.call 68 ?_; refine S.c ?_ (h := wipe_ok)) | (refine G.call 112 ?_; refine S.c ?_ (h := rwipe_ok ?_ ?_ ?_ ?_ ?_)) | (refine G.call 64 ?_; refine S.c ?_ (h := clear_ok)) | refine S.n fun _ => ?_ | refine S.i fun hix => ?_ | (refine S.g fun hb => ?_; (try simp only [hb])) | (refine S.s (fun hb => ?_) (fun hb => ?_) <;> ((try simp only [hb]) <;> (try (have hp := hb; simp only [WKs] at hp; (try have hq := Int.not_le.2 hp); (try have hq := Int.not_lt.2 hp))))))
    | rintro _ _ ⟨rfl, rfl⟩
    | rintro _ _ ⟨_, rfl, rfl⟩
    | rintro _ _ ⟨_, _, rfl, rfl⟩
    | rintro _ _ ⟨_, _, _, _, rfl, rfl⟩
    | rintro _ _ ⟨_, _, _, _, _, hxs, rfl, rfl⟩
    | rintro _ _ ⟨_, _, _, _, _, _, hxs, rfl, rfl⟩
    | rintro _ _ ⟨_, _, _, _, _, _, _, _, hm1, hm2, hm3, hm4, rfl, rfl⟩
    | ((fail_if_success refine G.tr ?_); exact G.prop S.p)
    | fail) <;> (try simp only [WKb, ↓reduceIte, Nat.reduceEqDiff, Int.reduceEq, pl62]))))
    all_goals
      apply Tr.fin hK ⟨_, _, _, _, _, _, _, _, gS, flagG gF k true, gP, gL, _, _, hv.flag, hx, hy, rfl, rfl⟩
      ((try clear hK) <;> (try simp only [WKe, *]) <;> repeat (first | with_reducible exact EntR.done | refine S.e ?_ | (refine S.f ?_ <;> (try simp only [WKe, ↓reduceIte, reduceCtorEq, Int.reduceEq, *])) | with_reducible apply EntR.ex | refine EntR.drop (F := F) ?_ | refine EntR.drop ?_))
      all_goals exact SV.mk none 0 0
  by_cases h3 : act = 3
  · subst h3
    ((try simp only [WKb, ↓reduceIte, Nat.reduceAdd]) <;> (repeat' ((first
    | (refine G.tr ?_; first | refine S.a ?_ | refine Tr.brK ?_ ?_ | (refine G.call 18 ?_; refine S.c ?_ (h := take_ok)) | (refine G.call 104 ?_; refine S.c ?_ (h := rtake_ok ?_ ?_ ?_ ?_)) | (refine G.call 17 ?_; refine S.c ?_ (h := give_ok)) | (refine G.call 105 ?_; refine S.c ?_ (h := rgive_ok ?_ ?_ ?_ ?_ ?_)) | (refine G.call 67 ?_; refine S.c ?_ (h := flag_ok)) | (refine G.call 106 ?_; refine S.c ?_ (h := rflag_ok ?_ ?_ ?_ ?_)) | (refine G.call 31 ?_; refine S.c ?_ (h := put_ok ?_ ?_)) | (refine G.call 107 ?_; refine S.c ?_ (h := rput20_ok ?_ ?_ ?_ ?_ ?_ ?_ ?_)) | (refine G.call 34 ?_; refine S.c ?_ (h := get_ok)) | (refine G.call 108 ?_; refine S.c ?_ (h := rget_ok ?_ ?_ ?_ ?_ ?_ ?_)) | (refine G.call 109 ?_; refine S.c ?_ (h := got_ok)) | (refine G.call 32 ?_; refine S.c ?_ (h := show_ok ?_)) | (refine G.call 110 ?_; refine S.c ?_ (h := rshow_ok ?_ ?_ ?_ ?_ ?_ ?_)) | (refine G.call 33 ?_; first | refine S.c ?_ (h := look2_ok ?_) | refine S.c ?_ (h := look_ok ?_)) | (refine G.call 111 ?_; refine S.c ?_ (h := rlook_ok ?_)) | (refine G.call 68 ?_; refine S.c ?_ (h := wipe_ok)) | (refine G.call 112 ?_; refine S.c ?_ (h := rwipe_ok ?_ ?_ ?_ ?_ ?_)) | (refine G.call 64 ?_; refine S.c ?_ (h := clear_ok)) | refine S.n fun _ => ?_ | refine S.i fun hix => ?_ | (refine S.g fun hb => ?_; (try simp only [hb])) | (refine S.s (fun hb => ?_) (fun hb => ?_) <;> ((try simp only [hb]) <;> (try (have hp := hb; simp only [WKs] at hp; (try have hq := Int.not_le.2 hp); (try have hq := Int.not_lt.2 hp))))))
    | rintro _ _ ⟨rfl, rfl⟩
    | rintro _ _ ⟨_, rfl, rfl⟩
    | rintro _ _ ⟨_, _, rfl, rfl⟩
    | rintro _ _ ⟨_, _, _, _, rfl, rfl⟩
    | rintro _ _ ⟨_, _, _, _, _, hxs, rfl, rfl⟩
    | rintro _ _ ⟨_, _, _, _, _, _, hxs, rfl, rfl⟩
    | rintro _ _ ⟨_, _, _, _, _, _, _, _, hm1, hm2, hm3, hm4, rfl, rfl⟩
    | ((fail_if_success refine G.tr ?_); exact G.prop S.p)
    | fail) <;> (try simp only [WKb, ↓reduceIte, Nat.reduceEqDiff, Int.reduceEq, pl62]))))
    all_goals
      apply Tr.fin hK ⟨_, _, _, _, _, _, _, _, gS, flagG gF k false, gP, gL, _, _, hv.flag, hx, hy, rfl, rfl⟩
      ((try clear hK) <;> (try simp only [WKe, *]) <;> repeat (first | with_reducible exact EntR.done | refine S.e ?_ | (refine S.f ?_ <;> (try simp only [WKe, ↓reduceIte, reduceCtorEq, Int.reduceEq, *])) | with_reducible apply EntR.ex | refine EntR.drop (F := F) ?_ | refine EntR.drop ?_))
      all_goals exact SV.mk none 0 0
  by_cases h4 : act = 4
  · subst h4
    ((try simp only [WKb, ↓reduceIte, Nat.reduceAdd]) <;> (repeat' ((first
    | (refine G.tr ?_; first | (refine G.call 107 ?_; refine S.c ?_ (h := rput20_ok (by omega) (by omega) (by omega) (by omega) hx (by omega) hcp)) | refine S.a ?_ | refine Tr.brK ?_ ?_ | (refine G.call 18 ?_; refine S.c ?_ (h := take_ok)) | (refine G.call 104 ?_; refine S.c ?_ (h := rtake_ok ?_ ?_ ?_ ?_)) | (refine G.call 17 ?_; refine S.c ?_ (h := give_ok)) | (refine G.call 105 ?_; refine S.c ?_ (h := rgive_ok ?_ ?_ ?_ ?_ ?_)) | (refine G.call 67 ?_; refine S.c ?_ (h := flag_ok)) | (refine G.call 106 ?_; refine S.c ?_ (h := rflag_ok ?_ ?_ ?_ ?_)) | (refine G.call 31 ?_; refine S.c ?_ (h := put_ok ?_ ?_)) | (refine G.call 107 ?_; refine S.c ?_ (h := rput20_ok ?_ ?_ ?_ ?_ ?_ ?_ ?_)) | (refine G.call 34 ?_; refine S.c ?_ (h := get_ok)) | (refine G.call 108 ?_; refine S.c ?_ (h := rget_ok ?_ ?_ ?_ ?_ ?_ ?_)) | (refine G.call 109 ?_; refine S.c ?_ (h := got_ok)) | (refine G.call 32 ?_; refine S.c ?_ (h := show_ok ?_)) | (refine G.call 110 ?_; refine S.c ?_ (h := rshow_ok ?_ ?_ ?_ ?_ ?_ ?_)) | (refine G.call 33 ?_; first | refine S.c ?_ (h := look2_ok ?_) | refine S.c ?_ (h := look_ok ?_)) | (refine G.call 111 ?_; refine S.c ?_ (h := rlook_ok ?_)) | (refine G.call 68 ?_; refine S.c ?_ (h := wipe_ok)) | (refine G.call 112 ?_; refine S.c ?_ (h := rwipe_ok ?_ ?_ ?_ ?_ ?_)) | (refine G.call 64 ?_; refine S.c ?_ (h := clear_ok)) | refine S.n fun _ => ?_ | refine S.i fun hix => ?_ | (refine S.g fun hb => ?_; (try simp only [hb])) | (refine S.s (fun hb => ?_) (fun hb => ?_) <;> ((try simp only [hb]) <;> (try (have hp := hb; simp only [WKs] at hp; (try have hq := Int.not_le.2 hp); (try have hq := Int.not_lt.2 hp))))))
    | rintro _ _ ⟨rfl, rfl⟩
    | rintro _ _ ⟨_, rfl, rfl⟩
    | rintro _ _ ⟨_, _, rfl, rfl⟩
    | rintro _ _ ⟨_, _, _, _, rfl, rfl⟩
    | rintro _ _ ⟨_, _, _, _, _, hxs, rfl, rfl⟩
    | rintro _ _ ⟨_, _, _, _, _, _, hxs, rfl, rfl⟩
    | rintro _ _ ⟨_, _, _, _, _, _, _, _, hm1, hm2, hm3, hm4, rfl, rfl⟩
    | ((fail_if_success refine G.tr ?_); exact G.prop S.p)
    | fail) <;> (try simp only [WKb, ↓reduceIte, Nat.reduceEqDiff, Int.reduceEq, pl62]))))
    all_goals
      apply Tr.fin hK ⟨_, _, _, _, _, _, _, _, gS, gF, putG gP k _ ⟨_, m⟩, gL, _, _, hv.put, hxs _ _, hy, rfl, rfl⟩
      ((try clear hK) <;> (try simp only [WKe, *]) <;> repeat (first | with_reducible exact EntR.done | refine S.e ?_ | (refine S.f ?_ <;> (try simp only [WKe, ↓reduceIte, reduceCtorEq, Int.reduceEq, *])) | with_reducible apply EntR.ex | refine EntR.drop (F := F) ?_ | refine EntR.drop ?_))
      all_goals exact SV.mk none 0 0
  by_cases h5 : act = 5
  · subst h5
    ((try simp only [WKb, ↓reduceIte, Nat.reduceAdd]) <;> (repeat' ((first
    | (refine G.tr ?_; first | (refine G.call 108 ?_; refine S.c ?_ (h := rget_ok (by omega) (by omega) (by omega) (by omega) hx (by omega))) | refine S.a ?_ | refine Tr.brK ?_ ?_ | (refine G.call 18 ?_; refine S.c ?_ (h := take_ok)) | (refine G.call 104 ?_; refine S.c ?_ (h := rtake_ok ?_ ?_ ?_ ?_)) | (refine G.call 17 ?_; refine S.c ?_ (h := give_ok)) | (refine G.call 105 ?_; refine S.c ?_ (h := rgive_ok ?_ ?_ ?_ ?_ ?_)) | (refine G.call 67 ?_; refine S.c ?_ (h := flag_ok)) | (refine G.call 106 ?_; refine S.c ?_ (h := rflag_ok ?_ ?_ ?_ ?_)) | (refine G.call 31 ?_; refine S.c ?_ (h := put_ok ?_ ?_)) | (refine G.call 107 ?_; refine S.c ?_ (h := rput20_ok ?_ ?_ ?_ ?_ ?_ ?_ ?_)) | (refine G.call 34 ?_; refine S.c ?_ (h := get_ok)) | (refine G.call 108 ?_; refine S.c ?_ (h := rget_ok ?_ ?_ ?_ ?_ ?_ ?_)) | (refine G.call 109 ?_; refine S.c ?_ (h := got_ok)) | (refine G.call 32 ?_; refine S.c ?_ (h := show_ok ?_)) | (refine G.call 110 ?_; refine S.c ?_ (h := rshow_ok ?_ ?_ ?_ ?_ ?_ ?_)) | (refine G.call 33 ?_; first | refine S.c ?_ (h := look2_ok ?_) | refine S.c ?_ (h := look_ok ?_)) | (refine G.call 111 ?_; refine S.c ?_ (h := rlook_ok ?_)) | (refine G.call 68 ?_; refine S.c ?_ (h := wipe_ok)) | (refine G.call 112 ?_; refine S.c ?_ (h := rwipe_ok ?_ ?_ ?_ ?_ ?_)) | (refine G.call 64 ?_; refine S.c ?_ (h := clear_ok)) | refine S.n fun _ => ?_ | refine S.i fun hix => ?_ | (refine S.g fun hb => ?_; (try simp only [hb])) | (refine S.s (fun hb => ?_) (fun hb => ?_) <;> ((try simp only [hb]) <;> (try (have hp := hb; simp only [WKs] at hp; (try have hq := Int.not_le.2 hp); (try have hq := Int.not_lt.2 hp))))))
    | rintro _ _ ⟨rfl, rfl⟩
    | rintro _ _ ⟨_, rfl, rfl⟩
    | rintro _ _ ⟨_, _, rfl, rfl⟩
    | rintro _ _ ⟨_, _, _, _, rfl, rfl⟩
    | rintro _ _ ⟨_, _, _, _, _, hxs, rfl, rfl⟩
    | rintro _ _ ⟨_, _, _, _, _, _, hxs, rfl, rfl⟩
    | rintro _ _ ⟨_, _, _, _, _, _, _, _, hm1, hm2, hm3, hm4, rfl, rfl⟩
    | ((fail_if_success refine G.tr ?_); exact G.prop S.p)
    | fail) <;> (try simp only [WKb, ↓reduceIte, Nat.reduceEqDiff, Int.reduceEq]))))
    all_goals
      apply Tr.fin hK ⟨_, _, _, _, _, _, _, _, gS, gF, getG gP k _, gL, _, _, hv.get, hxs _, hy, rfl, rfl⟩
      ((try clear hK) <;> (try simp only [WKe, *]) <;> repeat (first | with_reducible exact EntR.done | refine S.e ?_ | (refine S.f ?_ <;> (try simp only [WKe, ↓reduceIte, reduceCtorEq, Int.reduceEq, *])) | with_reducible apply EntR.ex | refine EntR.drop (F := F) ?_ | refine EntR.drop ?_))
      all_goals exact SV.mk none 0 0
  by_cases h6 : act = 6
  · subst h6
    ((try simp only [WKb, ↓reduceIte, Nat.reduceAdd]) <;> (repeat' ((first
    | (refine G.tr ?_; first | (refine G.call 110 ?_; refine S.c ?_ (h := rshow_ok (by omega) (by omega) (by omega) (by omega) hy hcl)) | refine S.a ?_ | refine Tr.brK ?_ ?_ | (refine G.call 18 ?_; refine S.c ?_ (h := take_ok)) | (refine G.call 104 ?_; refine S.c ?_ (h := rtake_ok ?_ ?_ ?_ ?_)) | (refine G.call 17 ?_; refine S.c ?_ (h := give_ok)) | (refine G.call 105 ?_; refine S.c ?_ (h := rgive_ok ?_ ?_ ?_ ?_ ?_)) | (refine G.call 67 ?_; refine S.c ?_ (h := flag_ok)) | (refine G.call 106 ?_; refine S.c ?_ (h := rflag_ok ?_ ?_ ?_ ?_)) | (refine G.call 31 ?_; refine S.c ?_ (h := put_ok ?_ ?_)) | (refine G.call 107 ?_; refine S.c ?_ (h := rput20_ok ?_ ?_ ?_ ?_ ?_ ?_ ?_)) | (refine G.call 34 ?_; refine S.c ?_ (h := get_ok)) | (refine G.call 108 ?_; refine S.c ?_ (h := rget_ok ?_ ?_ ?_ ?_ ?_ ?_)) | (refine G.call 109 ?_; refine S.c ?_ (h := got_ok)) | (refine G.call 32 ?_; refine S.c ?_ (h := show_ok ?_)) | (refine G.call 110 ?_; refine S.c ?_ (h := rshow_ok ?_ ?_ ?_ ?_ ?_ ?_)) | (refine G.call 33 ?_; first | refine S.c ?_ (h := look2_ok ?_) | refine S.c ?_ (h := look_ok ?_)) | (refine G.call 111 ?_; refine S.c ?_ (h := rlook_ok ?_)) | (refine G.call 68 ?_; refine S.c ?_ (h := wipe_ok)) | (refine G.call 112 ?_; refine S.c ?_ (h := rwipe_ok ?_ ?_ ?_ ?_ ?_)) | (refine G.call 64 ?_; refine S.c ?_ (h := clear_ok)) | refine S.n fun _ => ?_ | refine S.i fun hix => ?_ | (refine S.g fun hb => ?_; (try simp only [hb])) | (refine S.s (fun hb => ?_) (fun hb => ?_) <;> ((try simp only [hb]) <;> (try (have hp := hb; simp only [WKs] at hp; (try have hq := Int.not_le.2 hp); (try have hq := Int.not_lt.2 hp))))))
    | rintro _ _ ⟨rfl, rfl⟩
    | rintro _ _ ⟨_, rfl, rfl⟩
    | rintro _ _ ⟨_, _, rfl, rfl⟩
    | rintro _ _ ⟨_, _, _, _, rfl, rfl⟩
    | rintro _ _ ⟨_, _, _, _, _, hxs, rfl, rfl⟩
    | rintro _ _ ⟨_, _, _, _, _, _, hxs, rfl, rfl⟩
    | rintro _ _ ⟨_, _, _, _, _, _, _, _, hm1, hm2, hm3, hm4, rfl, rfl⟩
    | ((fail_if_success refine G.tr ?_); exact G.prop S.p)
    | fail) <;> (try simp only [WKb, ↓reduceIte, Nat.reduceEqDiff, Int.reduceEq, pl62]))))
    all_goals
      apply Tr.fin hK ⟨_, _, _, _, _, _, _, _, gS, gF, gP, showG gL k ⟨_, m⟩, _, _, hv.shw hB, hx, hxs _, rfl, rfl⟩
      ((try clear hK) <;> (try simp only [WKe, *]) <;> repeat (first | with_reducible exact EntR.done | refine S.e ?_ | (refine S.f ?_ <;> (try simp only [WKe, ↓reduceIte, reduceCtorEq, Int.reduceEq, *])) | with_reducible apply EntR.ex | refine EntR.drop (F := F) ?_ | refine EntR.drop ?_))
      all_goals exact SV.mk none 0 0
  by_cases h7 : act = 7
  · subst h7
    ((try simp only [WKb, ↓reduceIte, Nat.reduceAdd]) <;> (repeat' ((first
    | (refine G.tr ?_; first | (refine G.call 111 ?_; refine S.c ?_ (h := rlook_ok hy)) | refine S.a ?_ | refine Tr.brK ?_ ?_ | (refine G.call 18 ?_; refine S.c ?_ (h := take_ok)) | (refine G.call 104 ?_; refine S.c ?_ (h := rtake_ok ?_ ?_ ?_ ?_)) | (refine G.call 17 ?_; refine S.c ?_ (h := give_ok)) | (refine G.call 105 ?_; refine S.c ?_ (h := rgive_ok ?_ ?_ ?_ ?_ ?_)) | (refine G.call 67 ?_; refine S.c ?_ (h := flag_ok)) | (refine G.call 106 ?_; refine S.c ?_ (h := rflag_ok ?_ ?_ ?_ ?_)) | (refine G.call 31 ?_; refine S.c ?_ (h := put_ok ?_ ?_)) | (refine G.call 107 ?_; refine S.c ?_ (h := rput20_ok ?_ ?_ ?_ ?_ ?_ ?_ ?_)) | (refine G.call 34 ?_; refine S.c ?_ (h := get_ok)) | (refine G.call 108 ?_; refine S.c ?_ (h := rget_ok ?_ ?_ ?_ ?_ ?_ ?_)) | (refine G.call 109 ?_; refine S.c ?_ (h := got_ok)) | (refine G.call 32 ?_; refine S.c ?_ (h := show_ok ?_)) | (refine G.call 110 ?_; refine S.c ?_ (h := rshow_ok ?_ ?_ ?_ ?_ ?_ ?_)) | (refine G.call 33 ?_; first | refine S.c ?_ (h := look2_ok ?_) | refine S.c ?_ (h := look_ok ?_)) | (refine G.call 111 ?_; refine S.c ?_ (h := rlook_ok ?_)) | (refine G.call 68 ?_; refine S.c ?_ (h := wipe_ok)) | (refine G.call 112 ?_; refine S.c ?_ (h := rwipe_ok ?_ ?_ ?_ ?_ ?_)) | (refine G.call 64 ?_; refine S.c ?_ (h := clear_ok)) | refine S.n fun _ => ?_ | refine S.i fun hix => ?_ | (refine S.g fun hb => ?_; (try simp only [hb])) | (refine S.s (fun hb => ?_) (fun hb => ?_) <;> ((try simp only [hb]) <;> (try (have hp := hb; simp only [WKs] at hp; (try have hq := Int.not_le.2 hp); (try have hq := Int.not_lt.2 hp))))))
    | rintro _ _ ⟨rfl, rfl⟩
    | rintro _ _ ⟨_, rfl, rfl⟩
    | rintro _ _ ⟨_, _, rfl, rfl⟩
    | rintro _ _ ⟨_, _, _, _, rfl, rfl⟩
    | rintro _ _ ⟨_, _, _, _, _, hxs, rfl, rfl⟩
    | rintro _ _ ⟨_, _, _, _, _, _, hxs, rfl, rfl⟩
    | rintro _ _ ⟨_, _, _, _, _, _, _, _, hm1, hm2, hm3, hm4, rfl, rfl⟩
    | ((fail_if_success refine G.tr ?_); exact G.prop S.p)
    | fail) <;> (try simp only [WKb, ↓reduceIte, Nat.reduceEqDiff, Int.reduceEq]))))
    all_goals
      apply Tr.fin hK ⟨_, _, _, _, _, _, _, _, gS, gF, gP, gL, _, _, hv.mono, hx, hy, rfl, rfl⟩
      ((try clear hK) <;> (try simp only [WKe, *]) <;> repeat (first | with_reducible exact EntR.done | refine S.e ?_ | (refine S.f ?_ <;> (try simp only [WKe, ↓reduceIte, reduceCtorEq, Int.reduceEq, *])) | with_reducible apply EntR.ex | refine EntR.drop (F := F) ?_ | refine EntR.drop ?_))
      all_goals exact SV.mk none 0 0
  by_cases h8 : act = 8
  · subst h8
    ((try simp only [WKb, ↓reduceIte, Nat.reduceAdd]) <;> (repeat' ((first
    | (refine G.tr ?_; first | (refine G.call 112 ?_; refine S.c ?_ (h := rwipe_ok (by omega) (by omega) (by omega) (by omega) hy)) | refine S.a ?_ | refine Tr.brK ?_ ?_ | (refine G.call 18 ?_; refine S.c ?_ (h := take_ok)) | (refine G.call 104 ?_; refine S.c ?_ (h := rtake_ok ?_ ?_ ?_ ?_)) | (refine G.call 17 ?_; refine S.c ?_ (h := give_ok)) | (refine G.call 105 ?_; refine S.c ?_ (h := rgive_ok ?_ ?_ ?_ ?_ ?_)) | (refine G.call 67 ?_; refine S.c ?_ (h := flag_ok)) | (refine G.call 106 ?_; refine S.c ?_ (h := rflag_ok ?_ ?_ ?_ ?_)) | (refine G.call 31 ?_; refine S.c ?_ (h := put_ok ?_ ?_)) | (refine G.call 107 ?_; refine S.c ?_ (h := rput20_ok ?_ ?_ ?_ ?_ ?_ ?_ ?_)) | (refine G.call 34 ?_; refine S.c ?_ (h := get_ok)) | (refine G.call 108 ?_; refine S.c ?_ (h := rget_ok ?_ ?_ ?_ ?_ ?_ ?_)) | (refine G.call 109 ?_; refine S.c ?_ (h := got_ok)) | (refine G.call 32 ?_; refine S.c ?_ (h := show_ok ?_)) | (refine G.call 110 ?_; refine S.c ?_ (h := rshow_ok ?_ ?_ ?_ ?_ ?_ ?_)) | (refine G.call 33 ?_; first | refine S.c ?_ (h := look2_ok ?_) | refine S.c ?_ (h := look_ok ?_)) | (refine G.call 111 ?_; refine S.c ?_ (h := rlook_ok ?_)) | (refine G.call 68 ?_; refine S.c ?_ (h := wipe_ok)) | (refine G.call 112 ?_; refine S.c ?_ (h := rwipe_ok ?_ ?_ ?_ ?_ ?_)) | (refine G.call 64 ?_; refine S.c ?_ (h := clear_ok)) | refine S.n fun _ => ?_ | refine S.i fun hix => ?_ | (refine S.g fun hb => ?_; (try simp only [hb])) | (refine S.s (fun hb => ?_) (fun hb => ?_) <;> ((try simp only [hb]) <;> (try (have hp := hb; simp only [WKs] at hp; (try have hq := Int.not_le.2 hp); (try have hq := Int.not_lt.2 hp))))))
    | rintro _ _ ⟨rfl, rfl⟩
    | rintro _ _ ⟨_, rfl, rfl⟩
    | rintro _ _ ⟨_, _, rfl, rfl⟩
    | rintro _ _ ⟨_, _, _, _, rfl, rfl⟩
    | rintro _ _ ⟨_, _, _, _, _, hxs, rfl, rfl⟩
    | rintro _ _ ⟨_, _, _, _, _, _, hxs, rfl, rfl⟩
    | rintro _ _ ⟨_, _, _, _, _, _, _, _, hm1, hm2, hm3, hm4, rfl, rfl⟩
    | ((fail_if_success refine G.tr ?_); exact G.prop S.p)
    | fail) <;> (try simp only [WKb, ↓reduceIte, Nat.reduceEqDiff, Int.reduceEq, pl62]))))
    all_goals
      apply Tr.fin hK ⟨_, _, _, _, _, _, _, _, gS, gF, gP, wipeG gL k, _, _, hv.wipe, hx, hxs, rfl, rfl⟩
      ((try clear hK) <;> (try simp only [WKe, *]) <;> repeat (first | with_reducible exact EntR.done | refine S.e ?_ | (refine S.f ?_ <;> (try simp only [WKe, ↓reduceIte, reduceCtorEq, Int.reduceEq, *])) | with_reducible apply EntR.ex | refine EntR.drop (F := F) ?_ | refine EntR.drop ?_))
      all_goals exact SV.mk none 0 0
  · ((try simp only [WKb, ↓reduceIte, Nat.reduceAdd]) <;> (repeat' ((first
    | (refine G.tr ?_; first | refine S.a ?_ | refine Tr.brK ?_ ?_ | (refine G.call 18 ?_; refine S.c ?_ (h := take_ok)) | (refine G.call 104 ?_; refine S.c ?_ (h := rtake_ok ?_ ?_ ?_ ?_)) | (refine G.call 17 ?_; refine S.c ?_ (h := give_ok)) | (refine G.call 105 ?_; refine S.c ?_ (h := rgive_ok ?_ ?_ ?_ ?_ ?_)) | (refine G.call 67 ?_; refine S.c ?_ (h := flag_ok)) | (refine G.call 106 ?_; refine S.c ?_ (h := rflag_ok ?_ ?_ ?_ ?_)) | (refine G.call 31 ?_; refine S.c ?_ (h := put_ok ?_ ?_)) | (refine G.call 107 ?_; refine S.c ?_ (h := rput20_ok ?_ ?_ ?_ ?_ ?_ ?_ ?_)) | (refine G.call 34 ?_; refine S.c ?_ (h := get_ok)) | (refine G.call 108 ?_; refine S.c ?_ (h := rget_ok ?_ ?_ ?_ ?_ ?_ ?_)) | (refine G.call 109 ?_; refine S.c ?_ (h := got_ok)) | (refine G.call 32 ?_; refine S.c ?_ (h := show_ok ?_)) | (refine G.call 110 ?_; refine S.c ?_ (h := rshow_ok ?_ ?_ ?_ ?_ ?_ ?_)) | (refine G.call 33 ?_; first | refine S.c ?_ (h := look2_ok ?_) | refine S.c ?_ (h := look_ok ?_)) | (refine G.call 111 ?_; refine S.c ?_ (h := rlook_ok ?_)) | (refine G.call 68 ?_; refine S.c ?_ (h := wipe_ok)) | (refine G.call 112 ?_; refine S.c ?_ (h := rwipe_ok ?_ ?_ ?_ ?_ ?_)) | (refine G.call 64 ?_; refine S.c ?_ (h := clear_ok)) | refine S.n fun _ => ?_ | refine S.i fun hix => ?_ | (refine S.g fun hb => ?_; (try simp only [hb])) | (refine S.s (fun hb => ?_) (fun hb => ?_) <;> ((try simp only [hb]) <;> (try (have hp := hb; simp only [WKs] at hp; (try have hq := Int.not_le.2 hp); (try have hq := Int.not_lt.2 hp))))))
    | rintro _ _ ⟨rfl, rfl⟩
    | rintro _ _ ⟨_, rfl, rfl⟩
    | rintro _ _ ⟨_, _, rfl, rfl⟩
    | rintro _ _ ⟨_, _, _, _, rfl, rfl⟩
    | rintro _ _ ⟨_, _, _, _, _, hxs, rfl, rfl⟩
    | rintro _ _ ⟨_, _, _, _, _, _, hxs, rfl, rfl⟩
    | rintro _ _ ⟨_, _, _, _, _, _, _, _, hm1, hm2, hm3, hm4, rfl, rfl⟩
    | (refine G.call 113 ?_; refine S.c ?_ (h := rclear20_ok (cs := cs) (cp := cp) (cl := cl)))
    | ((fail_if_success refine G.tr ?_); exact G.prop S.p)
    | fail) <;> (try simp only [WKb, ↓reduceIte, Nat.reduceEqDiff]))))
    all_goals
      have hfr := fresh_inv hm1 hm2 hm3 hm4
      obtain ⟨hf1, hf2, hf3, hf4, hf5⟩ := hfr
      apply Tr.fin hK ⟨_, _, _, _, _, _, _, _, _, _, _, _, _, _, hf1 _, hf4, hf5, rfl, rfl⟩
      ((try clear hK) <;> (try simp only [WKe, *]) <;> repeat (first | with_reducible exact EntR.done | refine S.e ?_ | (refine S.f ?_ <;> (try simp only [WKe, hf2, hf3, ↓reduceIte, reduceCtorEq, Int.reduceEq, *])) | with_reducible apply EntR.ex | refine EntR.drop (F := F) ?_ | refine EntR.drop ?_))
end Go.Proofs.Ytlmcoiloepoggaa
