import Derived.Test.YtlmcoiloepoggaaOE
namespace Go.Proofs.Ytlmcoiloepoggaa
open Go Go.Wk
set_option maxHeartbeats 1600000
set_option maxRecDepth 10000




instance : ElT 24 Bool := ⟨⟩
instance : ElT 28 SemC := ⟨⟩
instance : ElT 32 PoolC := ⟨⟩
instance : ElT 33 Int := ⟨⟩
def nflags (f : Int) : Nat := (min f 8).toNat
theorem nflags_le (f : Int) : nflags f ≤ 8 := by unfold nflags; omega
theorem nflags_if (f : Int) : (if (0 : Int) < (if 8 < f then 8 else f) then (if 8 < f then 8 else f) else 0) = ((nflags f : Nat) : Int) := by
  unfold nflags
  by_cases h : 8 < f
  · rw [if_pos h, if_pos (by omega)]; omega
  · rw [if_neg h]
    by_cases h2 : 0 < f
    · rw [if_pos h2]; omega
    · rw [if_neg h2]; omega
attribute [local irreducible] BrK GenK EGenK EUnitK CallK FnK CallV GuardO GuardC CondW opX opK opKc chkR eqR seqK blkK endL WL WD W LoopW BinK Tr drewK resL PickK NotK NilK ExtrK getK Instr.storeAt Instr.loadAt Instr.fieldAt Instr.indexAt Instr.lookup Instr.mapUpdate Instr.box Instr.alloc Instr.build Instr.buildSlice Instr.makeSlice Instr.makeMap Instr.sliceAt Instr.field Instr.index Instr.makeInterface Instr.typeAssert Builtin.len_ Builtin.append_ Builtin.cap_ Builtin.min_ Builtin.max_ Builtin.copy_ Builtin.clear_ convert binOp mp blk rob sl sep ex fact old
theorem clear_ok {b : Nat} {c : PartC} {v1 v2 v3 v4 : Value} {cs : List SemC} {ps : List PoolC} {ls : List Int} : Trip Try.prog 64 [.pointer (some ⟨b, 0, none⟩)].toArray [obC b c v1 v2 v3 v4, sl true c.sems.v cs, sl true c.pools.v ps, sl true c.slates.v ls]
    fun v l' => ∃ s1 s2 s3 s4 g1 g2 g3 g4, g1.map SemG.mo = (cs.take 4).map semM ∧ g2.map FlagG.mo = List.replicate (nflags c.flags) false ∧ g3.map PoolG.mo = (ps.take 4).map poolM ∧ g4.map SlateG.mo = (ls.take 4).map slateM ∧
      v = .tuple #[] ∧ l' = [obB b ⟨c, s1, s2, s3, s4⟩, sl false s1.v (g1.map SemG.pt), fam semA g1, sl false s2.v (g2.map FlagG.pt), fam flagA g2, sl false s3.v (g3.map PoolG.pt), fam poolA g3, sl false s4.v (g4.map SlateG.pt), fam slateA g4] := by
  intro F K hK
  simp only [List.cons_append, List.nil_append]
  (refine Tr.enter (rs := []) mixed fn64 rfl (by simp +arith [Try.ntmps64]) fun u => ?_; simp only [cd64, Try.f64])
  have hmx := nflags_if c.flags
  have hml := nflags_le c.flags
  ((try simp only [WKb, ↓reduceIte, Nat.reduceEqDiff]) <;> (repeat' ((first
    | (refine G.tr ?_; first | refine S.a ?_ | refine Tr.brK ?_ ?_ | (refine G.call 116 ?_; refine S.c ?_ (h := sem_some)) | (refine G.call 118 ?_; refine S.c ?_ (h := flag_some)) | (refine G.call 120 ?_; refine S.c ?_ (h := pool_some)) | (refine G.call 122 ?_; refine S.c ?_ (h := slate_some)) | refine S.n fun _ => ?_ | refine S.i fun hix => ?_ | (refine S.g fun hb => ?_; (try simp only [hb])) | (refine S.s (fun hb => ?_) (fun hb => ?_) <;> ((try simp only [hb]) <;> (try (have hp := hb; simp only [WKs] at hp; (try have hq := Int.not_le.2 hp); (try have hq := Int.not_lt.2 hp))))))
    | rintro _ _ ⟨_, _, hm, rfl, rfl⟩
    | ((fail_if_success refine G.tr ?_); exact G.prop S.p)
    | fail) <;> (try simp only [WKb, WKh, ↓reduceIte, Nat.reduceEqDiff, Nat.reduceAdd, hmx]))))
  all_goals
    have hf : ∀ g2 : List FlagG, g2.map FlagG.mo = ((List.replicate (((nflags c.flags : Nat) : Int)).toNat default).take 8).map flagM → g2.map FlagG.mo = List.replicate (nflags c.flags) false := fun g2 h => by
      rw [h, Int.toNat_natCast, List.take_replicate, Nat.min_eq_right hml, List.map_replicate]; rfl
    apply Tr.fin hK ⟨_, _, _, _, _, _, _, _, by assumption, hf _ (by assumption), by assumption, by assumption, rfl, rfl⟩
    ((try clear hK) <;> (try simp only [WKe, *]) <;> repeat (first | with_reducible exact EntR.done | refine S.e ?_ | (refine S.f ?_ <;> (try simp only [WKe, ↓reduceIte, reduceCtorEq, Int.reduceEq, *])) | with_reducible apply EntR.ex | refine EntR.drop (F := F) ?_ | refine EntR.drop ?_))

theorem new_ok {u0 : Value} {c : PartC} [hd : DeA u0 c] {cs : List SemC} {ps : List PoolC} {ls : List Int} : Trip Try.prog 16 [u0].toArray [sl true c.sems.v cs, sl true c.pools.v ps, sl true c.slates.v ls]
    fun v l' => ∃ b s1 s2 s3 s4 g1 g2 g3 g4, g1.map SemG.mo = (cs.take 4).map semM ∧ g2.map FlagG.mo = List.replicate (nflags c.flags) false ∧ g3.map PoolG.mo = (ps.take 4).map poolM ∧ g4.map SlateG.mo = (ls.take 4).map slateM ∧
      v = .pointer (some ⟨b, 0, none⟩) ∧ l' = [obB b ⟨c, s1, s2, s3, s4⟩, sl false s1.v (g1.map SemG.pt), fam semA g1, sl false s2.v (g2.map FlagG.pt), fam flagA g2, sl false s3.v (g3.map PoolG.pt), fam poolA g3, sl false s4.v (g4.map SlateG.pt), fam slateA g4] := by
  obtain rfl := hd.h
  intro F K hK
  simp only [List.cons_append, List.nil_append]
  (refine Tr.enter (rs := [.tmp 2]) mixed fn16 rfl (by simp +arith [Try.ntmps16]) fun u => ?_; simp only [cd16, Try.f16])
  ((try simp only [WKb, ↓reduceIte]) <;> (repeat' ((first
    | (refine G.tr ?_; first | refine S.a ?_ | refine Tr.brK ?_ ?_ | (refine G.call 64 ?_; refine S.c ?_ (h := clear_ok)) | refine S.n fun _ => ?_ | refine S.i fun hix => ?_ | (refine S.g fun hb => ?_; (try simp only [hb])) | (refine S.s (fun hb => ?_) (fun hb => ?_) <;> ((try simp only [hb]) <;> (try (have hp := hb; simp only [WKs] at hp; (try have hq := Int.not_le.2 hp); (try have hq := Int.not_lt.2 hp))))))
    | rintro _ _ ⟨_, _, _, _, _, _, _, _, hm1, hm2, hm3, hm4, rfl, rfl⟩
    | ((fail_if_success refine G.tr ?_); exact G.prop S.p)
    | fail) <;> (try simp only [WKb, WKh, ↓reduceIte, Nat.reduceEqDiff]))))
  all_goals
    apply Tr.fin hK ⟨_, _, _, _, _, _, _, _, _, hm1, hm2, hm3, hm4, rfl, rfl⟩
    ((try clear hK) <;> (try simp only [WKe, *]) <;> repeat (first | with_reducible exact EntR.done | refine S.e ?_ | (refine S.f ?_ <;> (try simp only [WKe, ↓reduceIte, reduceCtorEq, Int.reduceEq, *])) | with_reducible apply EntR.ex | refine EntR.drop (F := F) ?_ | refine EntR.drop ?_))
theorem sem_one {gs : List SemG} {f m c : Int} (h : gs.map SemG.mo = [(f, m, c)]) : ∃ b, gs = [⟨b, f, m, c⟩] := by
  obtain ⟨g, rfl⟩ : ∃ g, gs = [g] := List.length_eq_one_iff.1 (by simpa using congrArg List.length h)
  simp only [List.map_cons, List.map_nil, SemG.mo, List.cons.injEq, Prod.mk.injEq, and_true] at h
  obtain ⟨b, f', m', c'⟩ := g
  simp only at h
  obtain ⟨rfl, rfl, rfl⟩ := h
  exact ⟨b, rfl⟩
theorem pool_one {gs : List PoolG} {s d : Int} (h : gs.map PoolG.mo = [(s, d, [])]) : ∃ b sv, gs = [⟨b, s, d, sv, []⟩] := by
  obtain ⟨g, rfl⟩ : ∃ g, gs = [g] := List.length_eq_one_iff.1 (by simpa using congrArg List.length h)
  simp only [List.map_cons, List.map_nil, PoolG.mo, List.cons.injEq, Prod.mk.injEq, and_true, List.map_eq_nil_iff] at h
  obtain ⟨b, s', d', sv, ms⟩ := g
  simp only at h
  obtain ⟨rfl, rfl, rfl⟩ := h
  exact ⟨b, sv, rfl⟩
theorem slate_one {gs : List SlateG} {s : Int} (h : gs.map SlateG.mo = [(s, none)]) : ∃ b m, gs = [⟨b, s, m, false⟩] := by
  obtain ⟨g, rfl⟩ : ∃ g, gs = [g] := List.length_eq_one_iff.1 (by simpa using congrArg List.length h)
  simp only [List.map_cons, List.map_nil, SlateG.mo, List.cons.injEq, Prod.mk.injEq, and_true] at h
  obtain ⟨b, s', m, sh⟩ := g
  simp only at h
  obtain ⟨rfl, h2⟩ := h
  cases sh
  · exact ⟨b, m, rfl⟩
  · simp at h2
theorem new1_ok {u0 : Value} {c : PartC} [hd : DeA u0 c] {s : SemC} : Trip Try.prog 16 [u0].toArray [sl true c.sems.v [s], sl true c.pools.v ([] : List PoolC), sl true c.slates.v ([] : List Int)]
    fun v l' => ∃ b s1 s2 s3 s4 sb g2 g3 g4, v = .pointer (some ⟨b, 0, none⟩) ∧ l' = [obB b ⟨c, s1, s2, s3, s4⟩, sl false s1.v ([⟨sb, s.first, s.most, s.first⟩].map SemG.pt), fam semA [⟨sb, s.first, s.most, s.first⟩], sl false s2.v (g2.map FlagG.pt), fam flagA g2, sl false s3.v (g3.map PoolG.pt), fam poolA g3, sl false s4.v (g4.map SlateG.pt), fam slateA g4] := by
  refine Trip.mono (new_ok (c := c) (cs := [s]) (ps := []) (ls := [])) ?_
  rintro v l' ⟨b, s1, s2, s3, s4, g1, g2, g3, g4, h1, h2, h3, h4, rfl, rfl⟩
  have h1' : g1.map SemG.mo = [(s.first, s.most, s.first)] := h1
  obtain ⟨sb, rfl⟩ := sem_one h1'
  exact ⟨b, s1, s2, s3, s4, sb, g2, g3, g4, rfl, rfl⟩

end Go.Proofs.Ytlmcoiloepoggaa
