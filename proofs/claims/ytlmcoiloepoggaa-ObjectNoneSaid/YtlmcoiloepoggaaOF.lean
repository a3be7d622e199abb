import Derived.Test.YtlmcoiloepoggaaOE
namespace Go.Proofs.Ytlmcoiloepoggaa
open Go Go.Wk
set_option maxHeartbeats 1600000
set_option maxRecDepth 10000




instance : ElT 24 Bool := ⟨⟩
instance : ElT 28 SemC := ⟨⟩
instance : ElT 32 PoolC := ⟨⟩
instance : ElT 33 Int := ⟨⟩
def nflags (f : Int) : Nat := (min f 8).toNat
theorem nflags_le (f : Int) : nflags f ≤ 8 := by unfold nflags; omega
theorem nflags_if (f : Int) : (if (0 : Int) < (if 8 < f then 8 else f) then (if 8 < f then 8 else f) else 0) = ((nflags f : Nat) : Int) := by
  unfold nflags
  by_cases h : 8 < f
  · rw [if_pos h, if_pos (by omega)]; omega
  · rw [if_neg h]
    by_cases h2 : 0 < f
    · rw [if_pos h2]; omega
    · rw [if_neg h2]; omega
attribute [local irreducible] GenK EGenK EUnitK CallK FnK CallV GuardO GuardC CondW opX opK opKc chkR eqR seqK blkK endL WL WD W LoopW BinK Tr drewK resL PickK NotK NilK ExtrK getK Instr.storeAt Instr.loadAt Instr.fieldAt Instr.indexAt Instr.lookup Instr.mapUpdate Instr.box Instr.alloc Instr.build Instr.buildSlice Instr.makeSlice Instr.makeMap Instr.sliceAt Instr.field Instr.index Instr.makeInterface Instr.typeAssert Builtin.len_ Builtin.append_ Builtin.cap_ Builtin.min_ Builtin.max_ Builtin.copy_ Builtin.clear_ convert binOp mp blk rob sl sep ex fact old
theorem clear_ok {b : Nat} {c : PartC} {v1 v2 v3 v4 : Value} {cs : List SemC} {ps : List PoolC} {ls : List Int} : Trip Try.prog 64 [.pointer (some ⟨b, 0, none⟩)].toArray [obC b c v1 v2 v3 v4, sl true c.sems.v cs, sl true c.pools.v ps, sl true c.slates.v ls]
    fun v l' => ∃ s1 s2 s3 s4 g1 g2 g3 g4, g1.map SemG.mo = (cs.take 4).map semM ∧ g2.map FlagG.mo = List.replicate (nflags c.flags) false ∧ g3.map PoolG.mo = (ps.take 4).map poolM ∧ g4.map SlateG.mo = (ls.take 4).map slateM ∧
      v = .tuple #[] ∧ l' = [obB b ⟨c, s1, s2, s3, s4⟩, sl false s1.v (g1.map SemG.pt), fam semA g1, sl false s2.v (g2.map FlagG.pt), fam flagA g2, sl false s3.v (g3.map PoolG.pt), fam poolA g3, sl false s4.v (g4.map SlateG.pt), fam slateA g4] := by
  intro F K hK
  simp only [List.cons_append, List.nil_append]
  (refine Tr.enter (rs := []) mixed fn64 rfl (by simp +arith [Try.ntmps64]) fun u => ?_; simp only [cd64, Try.f64])
  have hmx := nflags_if c.flags
  have hml := nflags_le c.flags
  ((try simp only [WKb, ↓reduceIte, Nat.reduceEqDiff]) <;> (repeat' ((first
    | (refine G.load ?_; first | refine A.ldW (by rfl) ?_ | refine A.ld1 (by rfl) ?_ | refine A.ldN (by rfl) (by rfl) ?_ | refine A.lS0 (by assumption) (by rfl) ?_ | refine A.lS1 (by assumption) (by rfl) ?_ | refine A.lSW (by assumption) (by rfl) ?_ | refine A.lSN (by assumption) (by rfl) (by rfl) ?_)
    | refine Tr.drewK ?_
    | refine Tr.eqR rfl ?_
    | refine Tr.box rfl fun _ => ?_
    | refine Tr.alloc rfl fun _ => ?_
    | refine Tr.build rfl ?_
    | (refine G.store ?_; first | refine A.stW (by rfl) (by rfl) (by rfl) (by rfl) ?_ | refine A.st (by rfl) (by rfl) (by rfl) (by first | exact Nat.le_of_ble_eq_true rfl | (simp only [WKl, setL_length, En.len]; omega)) ?_ | refine A.stD (by first | omega | assumption | (simp only [WKl]; omega)) (by first | omega | assumption | (simp only [WKl]; omega)) ?_ | refine A.stE (by rfl) (by first | omega | assumption | (simp only [WKl]; omega)) (by first | omega | assumption | (simp only [WKl]; omega)) ?_)
    | (refine G.cond ?_; first | refine Tr.condT (by first | rfl | assumption | (simp only [WKs]; omega)) ?_ | refine Tr.condF (by first | rfl | assumption | (simp only [WKs]; omega)) ?_ | (refine Tr.condS (fun hb => ?_) (fun hb => ?_) <;> ((try simp only [hb]) <;> (try (have hp := hb; simp only [WKs] at hp; (try have hq := Int.not_le.2 hp); (try have hq := Int.not_lt.2 hp))))))
    | (refine G.guard ?_; first | (refine Tr.guardTT (by first | rfl | assumption | (simp only [WKs]; omega)) (fun hb => ?_) <;> (try simp only [hb])) | (refine Tr.guardFF (by first | rfl | assumption | (simp only [WKs]; omega)) (fun hb => ?_) <;> (try simp only [hb])) | (refine Tr.guardS (fun hb => ?_) (fun hb => ?_) <;> ((try simp only [hb]) <;> (try (have hp := hb; simp only [WKs] at hp; (try have hq := Int.not_le.2 hp); (try have hq := Int.not_lt.2 hp))))))
    | (refine G.guardC ?_; refine Tr.guardCS (fun hb => ?_) (fun hb => ?_) <;> ((try simp only [hb]) <;> (try (have hp := hb; simp only [WKs] at hp; (try have hq := Int.not_le.2 hp); (try have hq := Int.not_lt.2 hp)))))
    | (refine G.idx ?_; first | refine Tr.indexArr (by omega) (by omega) ?_ | refine A.idx (by rfl) (by first | omega | assumption | (simp only [WKl]; omega)) (by first | omega | assumption | (simp only [WKl]; omega)) fun hix => ?_)
    | (refine G.len ?_; first | refine A.len ?_ | refine A.lenM ?_ | refine Tr.lenMapNil ?_)
    | (apply Tr.callC; (case' h => (first | apply sem_some | apply flag_some | apply pool_some | apply slate_some)); (case' hp => ((repeat (first | exact TakeL.nil | (apply TakeL.cons; focus ((first | exact TakeA.dupS | exact TakeA.dupF | ((repeat (first | with_reducible exact TakeA.here | exact TakeA.fam (by omega) (by omega) | with_reducible apply TakeA.next)); done) | ((repeat (first | exact TakeA.here | apply TakeA.next)); done) | exact TakeA.famNil | exact TakeA.nilS))) | fail)); done)))
    | rintro _ _ ⟨_, _, hm, rfl, rfl⟩
    | (refine G.app ?_; first | refine A.app0 (by rfl) (by decide) (by first | omega | assumption | (simp only [WKl]; omega)) fun _ => ?_ | refine A.app (by rfl) (by decide) (by first | omega | assumption | (simp only [WKl]; omega)) fun _ => ?_)
    | (refine G.bs ?_; refine A.buildL (by rfl) (by rfl) (by decide) fun _ => ?_)
    | (refine G.cut ?_; first | refine A.cutTo (by rfl) (by omega) (by omega) fun _ => ?_ | refine A.cutFrom (by rfl) (by omega) (by omega) fun _ => ?_ | refine A.cut (by rfl) (by omega) (by omega) (by omega) fun _ => ?_)
    | (refine G.conv ?_; refine A.byStr ?_)
    | (refine G.mks ?_; refine A.mks (by rfl) (by first | omega | assumption | (simp only [WKl]; omega)) (by first | omega | assumption | (simp only [WKl]; omega)) (by first | omega | assumption | (simp only [WKl]; omega)) fun _ => ?_)
    | (refine G.look ?_; first | refine A.look ?_ | refine Tr.lookupNil ?_)
    | (refine G.mapu ?_; refine A.mapu ?_)
    | refine Tr.makeMap fun _ => ?_
    | (refine G.rem ?_; refine Tr.rem (by omega) ?_)
    | (refine G.prop ?_; first | omega | assumption | exact Nat.le_of_ble_eq_true rfl)) <;> (try simp only [WKb, WKh, ↓reduceIte, Nat.reduceEqDiff, Nat.reduceAdd, hmx]))))
  all_goals
    have hf : ∀ g2 : List FlagG, g2.map FlagG.mo = ((List.replicate (((nflags c.flags : Nat) : Int)).toNat default).take 8).map flagM → g2.map FlagG.mo = List.replicate (nflags c.flags) false := fun g2 h => by
      rw [h, Int.toNat_natCast, List.take_replicate, Nat.min_eq_right hml, List.map_replicate]; rfl
    apply Tr.fin hK ⟨_, _, _, _, _, _, _, _, by assumption, hf _ (by assumption), by assumption, by assumption, rfl, rfl⟩
    ((try clear hK) <;> (try simp only [WKe, *]) <;> repeat (first
    | with_reducible exact EntR.done
    | (refine G.ec ?_; first
      | (apply EntR.take; focus ((first | ((repeat (first | with_reducible exact TakeA.here | with_reducible apply TakeA.next)); done) | ((repeat (first | exact TakeA.here | apply TakeA.next)); done))))
      | refine EntR.dupS ?_ | refine EntR.dupF ?_ | refine EntR.dupZ ?_
      | (refine G.ef ?_; ((first | refine EntR.famSet (by (first | ((repeat (first | with_reducible exact TakeA.here | with_reducible apply TakeA.next)); done) | ((repeat (first | exact TakeA.here | apply TakeA.next)); done))) (by omega) ?_ | refine EntR.famSame (by (first | ((repeat (first | with_reducible exact TakeA.here | with_reducible apply TakeA.next)); done) | ((repeat (first | exact TakeA.here | apply TakeA.next)); done))) (by omega) (by omega) ?_ | refine EntR.famSnoc (by (first | ((repeat (first | with_reducible exact TakeA.here | with_reducible apply TakeA.next)); done) | ((repeat (first | exact TakeA.here | apply TakeA.next)); done))) ?_) <;> (try simp only [WKe, ↓reduceIte, reduceCtorEq, Int.reduceEq, *])))
      | with_reducible refine EntR.famNil ?_ | refine EntR.nilS ?_
      | with_reducible refine EntR.sep ?_
      | with_reducible apply EntR.ex
      | with_reducible refine EntR.fact (by first | rfl | assumption | omega | simp) ?_)
    | refine EntR.drop (F := F) ?_
    | refine EntR.drop ?_))

theorem new_ok {u0 : Value} {c : PartC} [hd : DeA u0 c] {cs : List SemC} {ps : List PoolC} {ls : List Int} : Trip Try.prog 16 [u0].toArray [sl true c.sems.v cs, sl true c.pools.v ps, sl true c.slates.v ls]
    fun v l' => ∃ b s1 s2 s3 s4 g1 g2 g3 g4, g1.map SemG.mo = (cs.take 4).map semM ∧ g2.map FlagG.mo = List.replicate (nflags c.flags) false ∧ g3.map PoolG.mo = (ps.take 4).map poolM ∧ g4.map SlateG.mo = (ls.take 4).map slateM ∧
      v = .pointer (some ⟨b, 0, none⟩) ∧ l' = [obB b ⟨c, s1, s2, s3, s4⟩, sl false s1.v (g1.map SemG.pt), fam semA g1, sl false s2.v (g2.map FlagG.pt), fam flagA g2, sl false s3.v (g3.map PoolG.pt), fam poolA g3, sl false s4.v (g4.map SlateG.pt), fam slateA g4] := by
  obtain rfl := hd.h
  intro F K hK
  simp only [List.cons_append, List.nil_append]
  (refine Tr.enter (rs := [.tmp 2]) mixed fn16 rfl (by simp +arith [Try.ntmps16]) fun u => ?_; simp only [cd16, Try.f16])
  ((try simp only [WKb, ↓reduceIte]) <;> (repeat' ((first
    | (refine G.load ?_; first | refine A.ldW (by rfl) ?_ | refine A.ld1 (by rfl) ?_ | refine A.ldN (by rfl) (by rfl) ?_ | refine A.lS0 (by assumption) (by rfl) ?_ | refine A.lS1 (by assumption) (by rfl) ?_ | refine A.lSW (by assumption) (by rfl) ?_ | refine A.lSN (by assumption) (by rfl) (by rfl) ?_)
    | refine Tr.drewK ?_
    | refine Tr.eqR rfl ?_
    | refine Tr.box rfl fun _ => ?_
    | refine Tr.alloc rfl fun _ => ?_
    | refine Tr.build rfl ?_
    | (refine G.store ?_; first | refine A.stW (by rfl) (by rfl) (by rfl) (by rfl) ?_ | refine A.st (by rfl) (by rfl) (by rfl) (by first | exact Nat.le_of_ble_eq_true rfl | (simp only [WKl, setL_length, En.len]; omega)) ?_ | refine A.stD (by first | omega | assumption | (simp only [WKl]; omega)) (by first | omega | assumption | (simp only [WKl]; omega)) ?_ | refine A.stE (by rfl) (by first | omega | assumption | (simp only [WKl]; omega)) (by first | omega | assumption | (simp only [WKl]; omega)) ?_)
    | (refine G.cond ?_; first | refine Tr.condT (by first | rfl | assumption | (simp only [WKs]; omega)) ?_ | refine Tr.condF (by first | rfl | assumption | (simp only [WKs]; omega)) ?_ | (refine Tr.condS (fun hb => ?_) (fun hb => ?_) <;> ((try simp only [hb]) <;> (try (have hp := hb; simp only [WKs] at hp; (try have hq := Int.not_le.2 hp); (try have hq := Int.not_lt.2 hp))))))
    | (refine G.guard ?_; first | (refine Tr.guardTT (by first | rfl | assumption | (simp only [WKs]; omega)) (fun hb => ?_) <;> (try simp only [hb])) | (refine Tr.guardFF (by first | rfl | assumption | (simp only [WKs]; omega)) (fun hb => ?_) <;> (try simp only [hb])) | (refine Tr.guardS (fun hb => ?_) (fun hb => ?_) <;> ((try simp only [hb]) <;> (try (have hp := hb; simp only [WKs] at hp; (try have hq := Int.not_le.2 hp); (try have hq := Int.not_lt.2 hp))))))
    | (refine G.guardC ?_; refine Tr.guardCS (fun hb => ?_) (fun hb => ?_) <;> ((try simp only [hb]) <;> (try (have hp := hb; simp only [WKs] at hp; (try have hq := Int.not_le.2 hp); (try have hq := Int.not_lt.2 hp)))))
    | (refine G.idx ?_; first | refine Tr.indexArr (by omega) (by omega) ?_ | refine A.idx (by rfl) (by first | omega | assumption | (simp only [WKl]; omega)) (by first | omega | assumption | (simp only [WKl]; omega)) fun hix => ?_)
    | (refine G.len ?_; first | refine A.len ?_ | refine A.lenM ?_ | refine Tr.lenMapNil ?_)
    | (apply Tr.callC; (case' h => (first | apply clear_ok)); (case' hp => ((repeat (first | exact TakeL.nil | (apply TakeL.cons; focus ((first | exact TakeA.dupS | exact TakeA.dupF | ((repeat (first | with_reducible exact TakeA.here | exact TakeA.fam (by omega) (by omega) | with_reducible apply TakeA.next)); done) | ((repeat (first | exact TakeA.here | apply TakeA.next)); done) | exact TakeA.famNil | exact TakeA.nilS))) | fail)); done)))
    | rintro _ _ ⟨_, _, _, _, _, _, _, _, hm1, hm2, hm3, hm4, rfl, rfl⟩
    | (refine G.app ?_; first | refine A.app0 (by rfl) (by decide) (by first | omega | assumption | (simp only [WKl]; omega)) fun _ => ?_ | refine A.app (by rfl) (by decide) (by first | omega | assumption | (simp only [WKl]; omega)) fun _ => ?_)
    | (refine G.bs ?_; refine A.buildL (by rfl) (by rfl) (by decide) fun _ => ?_)
    | (refine G.cut ?_; first | refine A.cutTo (by rfl) (by omega) (by omega) fun _ => ?_ | refine A.cutFrom (by rfl) (by omega) (by omega) fun _ => ?_ | refine A.cut (by rfl) (by omega) (by omega) (by omega) fun _ => ?_)
    | (refine G.conv ?_; refine A.byStr ?_)
    | (refine G.mks ?_; refine A.mks (by rfl) (by first | omega | assumption | (simp only [WKl]; omega)) (by first | omega | assumption | (simp only [WKl]; omega)) (by first | omega | assumption | (simp only [WKl]; omega)) fun _ => ?_)
    | (refine G.look ?_; first | refine A.look ?_ | refine Tr.lookupNil ?_)
    | (refine G.mapu ?_; refine A.mapu ?_)
    | refine Tr.makeMap fun _ => ?_
    | (refine G.rem ?_; refine Tr.rem (by omega) ?_)
    | (refine G.prop ?_; first | omega | assumption | exact Nat.le_of_ble_eq_true rfl)) <;> (try simp only [WKb, WKh, ↓reduceIte, Nat.reduceEqDiff]))))
  all_goals
    apply Tr.fin hK ⟨_, _, _, _, _, _, _, _, _, hm1, hm2, hm3, hm4, rfl, rfl⟩
    ((try clear hK) <;> (try simp only [WKe, *]) <;> repeat (first
    | with_reducible exact EntR.done
    | (refine G.ec ?_; first
      | (apply EntR.take; focus ((first | ((repeat (first | with_reducible exact TakeA.here | with_reducible apply TakeA.next)); done) | ((repeat (first | exact TakeA.here | apply TakeA.next)); done))))
      | refine EntR.dupS ?_ | refine EntR.dupF ?_ | refine EntR.dupZ ?_
      | (refine G.ef ?_; ((first | refine EntR.famSet (by (first | ((repeat (first | with_reducible exact TakeA.here | with_reducible apply TakeA.next)); done) | ((repeat (first | exact TakeA.here | apply TakeA.next)); done))) (by omega) ?_ | refine EntR.famSame (by (first | ((repeat (first | with_reducible exact TakeA.here | with_reducible apply TakeA.next)); done) | ((repeat (first | exact TakeA.here | apply TakeA.next)); done))) (by omega) (by omega) ?_ | refine EntR.famSnoc (by (first | ((repeat (first | with_reducible exact TakeA.here | with_reducible apply TakeA.next)); done) | ((repeat (first | exact TakeA.here | apply TakeA.next)); done))) ?_) <;> (try simp only [WKe, ↓reduceIte, reduceCtorEq, Int.reduceEq, *])))
      | with_reducible refine EntR.famNil ?_ | refine EntR.nilS ?_
      | with_reducible refine EntR.sep ?_
      | with_reducible apply EntR.ex
      | with_reducible refine EntR.fact (by first | rfl | assumption | omega | simp) ?_)
    | refine EntR.drop (F := F) ?_
    | refine EntR.drop ?_))
theorem sem_one {gs : List SemG} {f m c : Int} (h : gs.map SemG.mo = [(f, m, c)]) : ∃ b, gs = [⟨b, f, m, c⟩] := by
  obtain ⟨g, rfl⟩ : ∃ g, gs = [g] := List.length_eq_one_iff.1 (by simpa using congrArg List.length h)
  simp only [List.map_cons, List.map_nil, SemG.mo, List.cons.injEq, Prod.mk.injEq, and_true] at h
  obtain ⟨b, f', m', c'⟩ := g
  simp only at h
  obtain ⟨rfl, rfl, rfl⟩ := h
  exact ⟨b, rfl⟩
theorem pool_one {gs : List PoolG} {s d : Int} (h : gs.map PoolG.mo = [(s, d, [])]) : ∃ b sv, gs = [⟨b, s, d, sv, []⟩] := by
  obtain ⟨g, rfl⟩ : ∃ g, gs = [g] := List.length_eq_one_iff.1 (by simpa using congrArg List.length h)
  simp only [List.map_cons, List.map_nil, PoolG.mo, List.cons.injEq, Prod.mk.injEq, and_true, List.map_eq_nil_iff] at h
  obtain ⟨b, s', d', sv, ms⟩ := g
  simp only at h
  obtain ⟨rfl, rfl, rfl⟩ := h
  exact ⟨b, sv, rfl⟩
theorem slate_one {gs : List SlateG} {s : Int} (h : gs.map SlateG.mo = [(s, none)]) : ∃ b m, gs = [⟨b, s, m, false⟩] := by
  obtain ⟨g, rfl⟩ : ∃ g, gs = [g] := List.length_eq_one_iff.1 (by simpa using congrArg List.length h)
  simp only [List.map_cons, List.map_nil, SlateG.mo, List.cons.injEq, Prod.mk.injEq, and_true] at h
  obtain ⟨b, s', m, sh⟩ := g
  simp only at h
  obtain ⟨rfl, h2⟩ := h
  cases sh
  · exact ⟨b, m, rfl⟩
  · simp at h2
theorem new1_ok {u0 : Value} {c : PartC} [hd : DeA u0 c] {s : SemC} : Trip Try.prog 16 [u0].toArray [sl true c.sems.v [s], sl true c.pools.v ([] : List PoolC), sl true c.slates.v ([] : List Int)]
    fun v l' => ∃ b s1 s2 s3 s4 sb g2 g3 g4, v = .pointer (some ⟨b, 0, none⟩) ∧ l' = [obB b ⟨c, s1, s2, s3, s4⟩, sl false s1.v ([⟨sb, s.first, s.most, s.first⟩].map SemG.pt), fam semA [⟨sb, s.first, s.most, s.first⟩], sl false s2.v (g2.map FlagG.pt), fam flagA g2, sl false s3.v (g3.map PoolG.pt), fam poolA g3, sl false s4.v (g4.map SlateG.pt), fam slateA g4] := by
  refine Trip.mono (new_ok (c := c) (cs := [s]) (ps := []) (ls := [])) ?_
  rintro v l' ⟨b, s1, s2, s3, s4, g1, g2, g3, g4, h1, h2, h3, h4, rfl, rfl⟩
  have h1' : g1.map SemG.mo = [(s.first, s.most, s.first)] := h1
  obtain ⟨sb, rfl⟩ := sem_one h1'
  exact ⟨b, s1, s2, s3, s4, sb, g2, g3, g4, rfl, rfl⟩

end Go.Proofs.Ytlmcoiloepoggaa
