import Derived.Test.YtlhmbcmkpafjoaaKO
namespace Go.Proofs.Ytlhmbcmkpafjoaa
open Go Go.Wk
set_option maxHeartbeats 6400000
set_option maxRecDepth 100000
instance : Fz Act19 := ⟨fun p => Fz.fz p.b, fun p => Fz.dup p.b⟩
instance : FzD Act19 := ⟨fun R w => FzD.h (α := Msg) R w⟩
instance (priority := 700) hass_act19 {l : List Asrt} {x : Act19} [hz : HasZ l x] : HasS l x.b.s.v true UInt8 inferInstance x.b.d := ⟨hz.h.imp fun h => ⟨fun _ => False, sl_of_fz (Fz.dup x.b h)⟩⟩
instance (priority := 700) hasz_act19 {l : List Asrt} {x : Act19} [hz : HasZ l x] : HasZ l (Act19.b x) := ⟨hz.h⟩
instance : ElT 59 Act19 := ⟨⟩
theorem made_inv {Gs : List PG} {Rs : List RG} {ps : List PartD} (hv : invL Gs 0) (hr : invR Rs 0) (ha : Gs.map PG.ab = ps.map (fun p => newA p.ports.d)) (hb : Rs.map RG.ps = ps.map (fun p => newA p.ports.d)) : Inv19 Gs Rs 1 where
  v := invL_up hv (Nat.zero_le _)
  x := fun g hg => (hr g hg).1
  ab := hb.trans ha.symm
  ok := by
    rw [ha]
    intro ab hab p hp d hd
    obtain ⟨q, _, rfl⟩ := List.mem_map.1 hab
    obtain ⟨c, _, rfl⟩ := List.mem_map.1 hp
    cases hd
  one := Nat.le_refl _
theorem pt_len {Gs Gm : List PG} (h : Gs.map PG.pt = Gm.map PG.pt) : Gs.length = Gm.length := by simpa using congrArg List.length h
attribute [local irreducible] BrK GenK EGenK EUnitK CallK FnK CallV GuardO GuardC CondW opX opK opKc chkR eqR seqK blkK endL WL WD W LoopW BinK Tr drewK resL PickK NotK NilK ExtrK getK Instr.storeAt Instr.loadAt Instr.fieldAt Instr.indexAt Instr.lookup Instr.mapUpdate Instr.box Instr.alloc Instr.build Instr.buildSlice Instr.makeSlice Instr.makeMap Instr.sliceAt Instr.field Instr.index Instr.makeInterface Instr.typeAssert Builtin.len_ Builtin.append_ Builtin.cap_ Builtin.min_ Builtin.max_ Builtin.copy_ Builtin.clear_ convert binOp mp blk rob sl sep ex fact old
theorem lplays_ok {c : ConfC} {ps : List PartD} {chs : List ChanC} {mds : List ModeD} {ls : List LevelC} {ns : List NapC} {ds us : List Int} {s0 : SV} {l : List Act19} : Trip Try.prog 10 [.agg (En.enc c).toArray, s0.v].toArray [sl true c.parts.v ps, fzl ps, sl true c.chans.v chs, sl true c.modes.v mds, fzl mds, sl true c.levels.v ls, sl true c.naps.v ns, sl true c.down.v ds, sl true c.up.v us, sl true s0.v l, fzl l] fun v l' => v = .bool true ∧ l' = [] := by
  intro F K hK
  simp only [List.cons_append, List.nil_append]
  obtain ⟨c1, c2, c3, c4, c5, c6, c7, c8, c9, c10, c11, c12, c13⟩ := c
  have hSh := short08_ok (c := ⟨c1, c2, c3, c4, c5, c6, c7, c8, c9, c10, c11, c12, c13⟩) (hd := ⟨rfl⟩) (ps := ps) (chs := chs) (ms := mds) (ls := ls) (ns := ns) (ds := ds) (us := us)
  (refine Tr.enter (rs := [.tmp 4]) mixed fn10 rfl (by simp +arith [Try.ntmps10]) fun u => ?_; simp only [cd10, Try.f10])
  ((try simp only [WKb, ↓reduceIte, Nat.reduceEqDiff, Nat.reduceAdd]) <;> (repeat' ((first
    | (refine G.tr ?_; first | (refine G.call 23 ?_; refine S.kL ?_ (h := hSh); rintro _ _ ⟨b, hshort, rfl, rfl⟩; cases b <;> try (obtain ⟨hs1, hs2⟩ := hshort rfl)) | (refine G.call 25 ?_; refine S.kL ?_ (h := made_ok (c := ⟨c1, c2, c3, c4, c5, c6, c7, c8, c9, c10, c11, c12, c13⟩) (hd := ⟨rfl⟩) (ps := ps) (by omega)); rintro _ _ ⟨s, t, Gm, Rm, hmv, hmr, hma, hmb, rfl, rfl⟩) | refine S.a ?_ | refine Tr.brK ?_ ?_ | (refine G.call 23 ?_; refine S.c ?_ (h := short08_ok)) | (refine G.call 24 ?_; refine S.c ?_ (h := works19_ok)) | (refine G.call 25 ?_; refine S.c ?_ (h := made_ok ?_)) | (refine G.call 37 ?_; refine S.c ?_ (h := like19_ok ?_ ?_ ?_ ?_)) | refine S.n fun _ => ?_ | refine S.i fun hix => ?_ | (refine S.g fun hb => ?_; (try simp only [hb])) | (refine S.s (fun hb => ?_) (fun hb => ?_) <;> ((try simp only [hb]) <;> (try (have hp := hb; simp only [WKs] at hp; (try have hq := Int.not_le.2 hp); (try have hq := Int.not_lt.2 hp))))))
    | rintro _ _ ⟨rfl, rfl⟩
    | rintro _ _ ⟨_, hshort, rfl, rfl⟩
    | rintro _ _ ⟨_, _, Gm, Rm, hmv, hmr, hma, hmb, rfl, rfl⟩
    | ((fail_if_success refine G.tr ?_); exact G.prop S.p)
    | fail) <;> (try simp only [WKb, ↓reduceIte, Nat.reduceEqDiff]))))
  · refine Tr.fin hK ⟨(by first | (simp [*]; done) | (simp only [WKe, ↓reduceIte, reduceCtorEq, Int.reduceEq, eq_self, *]; done) | (simp only [WKe, ↓reduceIte, reduceCtorEq, Int.reduceEq, *]; rfl)), rfl⟩ ?_
    ((try clear hK) <;> (try simp only [WKe, *]) <;> repeat (first | with_reducible exact EntR.done | refine S.e ?_ | (refine S.f ?_ <;> (try simp only [WKe, ↓reduceIte, reduceCtorEq, Int.reduceEq, *])) | with_reducible apply EntR.ex | refine EntR.drop (F := F) ?_ | refine EntR.drop ?_))
  have hI0 := made_inv hmv hmr hma hmb
  have hgl : Gm.length = ps.length := by simpa using congrArg List.length hma
  refine Tr.freezeAt (α := Pt) (xs := Gm.map PG.pt) (by (repeat (first | exact TakeA.here | apply TakeA.next)); done) ?_
  refine Tr.freezeAt (α := Pt) (xs := Rm.map RG.pt) (by (repeat (first | exact TakeA.here | apply TakeA.next)); done) ?_
  refine Tr.loopE (α := Nat × List PG × List RG) [4, 7] [1, 2, 5, 6] (fun x => [.bool false, .int .i64 x.1]) (fun x => [fam portsA x.2.1, fam refA x.2.2]) (fun x => x.1 ≤ l.length ∧ x.1 ≤ 40 ∧ Inv19 x.2.1 x.2.2 (4096 * x.1 + 1) ∧ x.2.1.map PG.pt = Gm.map PG.pt ∧ x.2.2.map RG.pt = Rm.map RG.pt) (fun x => l.length - x.1) (0, Gm, Rm) (by (repeat (first | exact TakeL.nil | (apply TakeL.cons; focus ((first | exact TakeA.dupS | exact TakeA.dupF | ((repeat (first | with_reducible exact TakeA.here | exact TakeA.fam (by omega) (by omega) | with_reducible apply TakeA.next)); done) | ((repeat (first | exact TakeA.here | apply TakeA.next)); done) | exact TakeA.famNil | exact TakeA.nilS))) | fail)); done) rfl ⟨by omega, by omega, hI0, rfl, rfl⟩ fun x u hx => ?_
  obtain ⟨k, Gs, Rs⟩ := x
  simp only at hx ⊢
  obtain ⟨hk, h40, hI, hg, hr⟩ := hx
  have hw := wrapSucc (k := k) (by omega)
  have hgs := pt_len hg
  by_cases hin : k < l.length ∧ k < 40
  · obtain ⟨hi1, hi2⟩ := hin
    by_cases hb : (ix l (k : Int)).b.d.length ≤ 300
    · have hD := done19_ok (c := ⟨c1, c2, c3, c4, c5, c6, c7, c8, c9, c10, c11, c12, c13⟩) (hd := ⟨rfl⟩) (chs := chs) (s := s) (t := t) (a := ix l (k : Int)) hI (by omega) hb
      rw [hg, hr] at hD
      ((try simp only [WKb, ↓reduceIte, Nat.reduceEqDiff]) <;> (repeat' ((first
    | (refine G.tr ?_; first | (refine G.call 26 ?_; refine S.kL ?_ (h := hD); rintro _ _ ⟨Gs2, Rs2, hI2, hg2, hr2, _, rfl, rfl⟩; have hgs2 := pt_len hg2; have hL := like19_ok (s := s) (t := t) hI2.v hI2.r hI2.ab (by omega); rw [hg2, hr2] at hL) | (refine G.call 37 ?_; refine S.kL ?_ (h := hL); rintro _ _ ⟨rfl, rfl⟩) | refine S.a ?_ | refine Tr.brK ?_ ?_ | (refine G.call 23 ?_; refine S.c ?_ (h := short08_ok)) | (refine G.call 24 ?_; refine S.c ?_ (h := works19_ok)) | (refine G.call 25 ?_; refine S.c ?_ (h := made_ok ?_)) | (refine G.call 37 ?_; refine S.c ?_ (h := like19_ok ?_ ?_ ?_ ?_)) | refine S.n fun _ => ?_ | refine S.i fun hix => ?_ | (refine S.g fun hb => ?_; (try simp only [hb])) | (refine S.s (fun hb => ?_) (fun hb => ?_) <;> ((try simp only [hb]) <;> (try (have hp := hb; simp only [WKs] at hp; (try have hq := Int.not_le.2 hp); (try have hq := Int.not_lt.2 hp))))))
    | rintro _ _ ⟨rfl, rfl⟩
    | rintro _ _ ⟨_, hshort, rfl, rfl⟩
    | rintro _ _ ⟨_, _, Gm, Rm, hmv, hmr, hma, hmb, rfl, rfl⟩
    | ((fail_if_success refine G.tr ?_); exact G.prop S.p)
    | fail) <;> (try simp only [WKb, ↓reduceIte, Nat.reduceEqDiff, pl10, hw]))))
      all_goals
        have hI3 : Inv19 Gs2 Rs2 (4096 * (k + 1) + 1) := hI2.up (by omega)
        (apply Tr.againE ((k + 1, Gs2, Rs2)); (focus (simp only [WKb, ↓reduceIte, Nat.reduceEqDiff])); (focus ((try simp only [WKb, ↓reduceIte, Nat.reduceEqDiff]); (all_goals ((repeat (refine cons_eq (by first | rfl | (simp [*]; done)) ?_)); rfl)); done)); rotate_left 2; (focus (((try clear hK) <;> (try simp only [WKe, *]) <;> repeat (first | with_reducible exact EntR.done | refine S.e ?_ | (refine S.f ?_ <;> (try simp only [WKe, ↓reduceIte, reduceCtorEq, Int.reduceEq, *])) | with_reducible apply EntR.ex | refine EntR.drop (F := F) ?_ | refine EntR.drop ?_)))); (focus (first | omega | assumption | (simp only []; omega) | (refine ⟨by omega, by assumption⟩) | (simp only []; refine ⟨by omega, by assumption⟩) | ((try simp only []); (repeat' (first | omega | assumption | apply hI3 | apply hg2 | apply hr2 | refine And.intro ?_ ?_)); done))); (focus (first | omega | (simp only []; omega))))
    · ((try simp only [WKb, ↓reduceIte, Nat.reduceEqDiff]) <;> (repeat' ((first
    | (refine G.tr ?_; first | refine S.a ?_ | refine Tr.brK ?_ ?_ | (refine G.call 23 ?_; refine S.c ?_ (h := short08_ok)) | (refine G.call 24 ?_; refine S.c ?_ (h := works19_ok)) | (refine G.call 25 ?_; refine S.c ?_ (h := made_ok ?_)) | (refine G.call 37 ?_; refine S.c ?_ (h := like19_ok ?_ ?_ ?_ ?_)) | refine S.n fun _ => ?_ | refine S.i fun hix => ?_ | (refine S.g fun hb => ?_; (try simp only [hb])) | (refine S.s (fun hb => ?_) (fun hb => ?_) <;> ((try simp only [hb]) <;> (try (have hp := hb; simp only [WKs] at hp; (try have hq := Int.not_le.2 hp); (try have hq := Int.not_lt.2 hp))))))
    | rintro _ _ ⟨rfl, rfl⟩
    | rintro _ _ ⟨_, hshort, rfl, rfl⟩
    | rintro _ _ ⟨_, _, Gm, Rm, hmv, hmr, hma, hmb, rfl, rfl⟩
    | ((fail_if_success refine G.tr ?_); exact G.prop S.p)
    | fail) <;> (try simp only [WKb, ↓reduceIte, Nat.reduceEqDiff]))))
      all_goals
        refine Tr.fin hK ⟨(by first | (simp [*]; done) | (simp only [WKe, ↓reduceIte, reduceCtorEq, Int.reduceEq, eq_self, *]; done) | (simp only [WKe, ↓reduceIte, reduceCtorEq, Int.reduceEq, *]; rfl)), rfl⟩ ?_
        ((try clear hK) <;> (try simp only [WKe, *]) <;> repeat (first | with_reducible exact EntR.done | refine S.e ?_ | (refine S.f ?_ <;> (try simp only [WKe, ↓reduceIte, reduceCtorEq, Int.reduceEq, *])) | with_reducible apply EntR.ex | refine EntR.drop (F := F) ?_ | refine EntR.drop ?_))
  · have hL := like19_ok (s := s) (t := t) hI.v hI.r hI.ab (by omega)
    rw [hg, hr] at hL
    ((try simp only [WKb, ↓reduceIte, Nat.reduceEqDiff]) <;> (repeat' ((first
    | (refine G.tr ?_; first | (refine G.call 37 ?_; refine S.kL ?_ (h := hL); rintro _ _ ⟨rfl, rfl⟩) | refine S.a ?_ | refine Tr.brK ?_ ?_ | (refine G.call 23 ?_; refine S.c ?_ (h := short08_ok)) | (refine G.call 24 ?_; refine S.c ?_ (h := works19_ok)) | (refine G.call 25 ?_; refine S.c ?_ (h := made_ok ?_)) | (refine G.call 37 ?_; refine S.c ?_ (h := like19_ok ?_ ?_ ?_ ?_)) | refine S.n fun _ => ?_ | refine S.i fun hix => ?_ | (refine S.g fun hb => ?_; (try simp only [hb])) | (refine S.s (fun hb => ?_) (fun hb => ?_) <;> ((try simp only [hb]) <;> (try (have hp := hb; simp only [WKs] at hp; (try have hq := Int.not_le.2 hp); (try have hq := Int.not_lt.2 hp))))))
    | rintro _ _ ⟨rfl, rfl⟩
    | rintro _ _ ⟨_, hshort, rfl, rfl⟩
    | rintro _ _ ⟨_, _, Gm, Rm, hmv, hmr, hma, hmb, rfl, rfl⟩
    | ((fail_if_success refine G.tr ?_); exact G.prop S.p)
    | fail) <;> (try simp only [WKb, ↓reduceIte, Nat.reduceEqDiff]))))
    all_goals
      refine Tr.fin hK ⟨(by first | (simp [*]; done) | (simp only [WKe, ↓reduceIte, reduceCtorEq, Int.reduceEq, eq_self, *]; done) | (simp only [WKe, ↓reduceIte, reduceCtorEq, Int.reduceEq, *]; rfl)), rfl⟩ ?_
      ((try clear hK) <;> (try simp only [WKe, *]) <;> repeat (first | with_reducible exact EntR.done | refine S.e ?_ | (refine S.f ?_ <;> (try simp only [WKe, ↓reduceIte, reduceCtorEq, Int.reduceEq, *])) | with_reducible apply EntR.ex | refine EntR.drop (F := F) ?_ | refine EntR.drop ?_))
end Go.Proofs.Ytlhmbcmkpafjoaa
