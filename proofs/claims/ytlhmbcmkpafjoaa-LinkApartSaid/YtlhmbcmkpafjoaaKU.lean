import Derived.Test.YtlhmbcmkpafjoaaKT
namespace Go.Proofs.Ytlhmbcmkpafjoaa
open Go Go.Wk
set_option maxHeartbeats 6400000
set_option maxRecDepth 100000
theorem lone_pts {n p : Nat} {part : Int} (h0 : 0 ≤ part) (h1 : part < n) : ix ((List.replicate ((n : Int)).toNat (default : Pt)).set part.toNat ⟨some p⟩) part = ⟨some p⟩ ∧ ∀ q : Int, 0 ≤ q → q < n → q ≠ part → ix ((List.replicate ((n : Int)).toNat (default : Pt)).set part.toNat ⟨some p⟩) q = ⟨none⟩ := by
  have hl : (List.replicate ((n : Int)).toNat (default : Pt)).length = n := by rw [List.length_replicate]; omega
  refine ⟨ix_set_k h0 (by rw [hl]; exact h1) _, fun q q0 q1 hne => ?_⟩
  rw [ix_set_ne2 h0 q0 hne]
  unfold ix
  rw [List.getD_eq_getElem?_getD, List.getElem?_replicate]
  split <;> rfl
theorem act_enc {a : Act19} : En.enc a = [.int .i64 a.act, .int .i64 a.part, .int .i64 a.k, a.b.s.v] := rfl
attribute [local irreducible] BrK GenK EGenK EUnitK CallK FnK CallV GuardO GuardC CondW opX opK opKc chkR eqR seqK blkK endL WL WD W LoopW BinK Tr drewK resL PickK NotK NilK ExtrK getK Instr.storeAt Instr.loadAt Instr.fieldAt Instr.indexAt Instr.lookup Instr.mapUpdate Instr.box Instr.alloc Instr.build Instr.buildSlice Instr.makeSlice Instr.makeMap Instr.sliceAt Instr.field Instr.index Instr.makeInterface Instr.typeAssert Builtin.len_ Builtin.append_ Builtin.cap_ Builtin.min_ Builtin.max_ Builtin.copy_ Builtin.clear_ convert binOp mp blk rob sl sep ex fact old
attribute [local irreducible] chn CW
theorem lapart_ok {c : ConfC} {ps : List PartD} {chs : List ChanC} {mds : List ModeD} {ls : List LevelC} {ns : List NapC} {ds us : List Int} {s0 : SV} {l : List Act19} {part : Int} : Trip Try.prog 8 [.agg (En.enc c).toArray, s0.v, .int .i64 part].toArray [sl true c.parts.v ps, fzl ps, sl true c.chans.v chs, sl true c.modes.v mds, fzl mds, sl true c.levels.v ls, sl true c.naps.v ns, sl true c.down.v ds, sl true c.up.v us, sl true s0.v l, fzl l] fun v l' => v = .bool true ∧ l' = [] := by
  intro F K hK
  simp only [List.cons_append, List.nil_append]
  obtain ⟨c1, c2, c3, c4, c5, c6, c7, c8, c9, c10, c11, c12, c13⟩ := c
  have hSh := short08_ok (c := ⟨c1, c2, c3, c4, c5, c6, c7, c8, c9, c10, c11, c12, c13⟩) (hd := ⟨rfl⟩) (ps := ps) (chs := chs) (ms := mds) (ls := ls) (ns := ns) (ds := ds) (us := us)
  (refine Tr.enter (rs := [.tmp 6]) mixed fn8 rfl (by simp +arith [Try.ntmps8]) fun u => ?_; simp only [cd8, Try.f8])
  by_cases hpr : ¬ (0 ≤ part ∧ part < ps.length)
  · ((try simp only [WKb, ↓reduceIte, Nat.reduceEqDiff, Nat.reduceAdd]) <;> (repeat' ((first
    | (refine G.tr ?_; first | (refine G.call 23 ?_; refine S.kL ?_ (h := hSh); rintro _ _ ⟨b, hshort, rfl, rfl⟩; cases b <;> try (obtain ⟨hs1, hs2⟩ := hshort rfl)) | refine S.a ?_ | refine Tr.brK ?_ ?_ | (refine G.call 23 ?_; refine S.c ?_ (h := short08_ok)) | (refine G.call 24 ?_; refine S.c ?_ (h := works19_ok)) | (refine G.call 25 ?_; refine S.c ?_ (h := made_ok ?_)) | (refine G.call 32 ?_; first | refine S.c ?_ (h := pnew2_ok) | refine S.c ?_ (h := pnew1_ok)) | (refine G.call 27 ?_; refine S.c ?_ (h := flush_ok ?_ ?_ ?_)) | refine S.n fun _ => ?_ | refine S.i fun hix => ?_ | (refine S.g fun hb => ?_; (try simp only [hb])) | (refine S.s (fun hb => ?_) (fun hb => ?_) <;> ((try simp only [hb]) <;> (try (have hp := hb; simp only [WKs] at hp; (try have hq := Int.not_le.2 hp); (try have hq := Int.not_lt.2 hp))))))
    | rintro _ _ ⟨rfl, rfl⟩
    | rintro _ _ ⟨_, hshort, rfl, rfl⟩
    | rintro _ _ ⟨_, _, _, _, rfl, rfl⟩
    | rintro _ _ ⟨_, _, _, _, _, _, rfl, rfl⟩
    | rintro _ _ ⟨_, _, Gm, Rm, hmv, hmr, hma, hmb, rfl, rfl⟩
    | rintro _ _ ⟨Gf2, _, _, hfm2, hfv2, hfp2, hfa2, rfl, rfl⟩
    | ((fail_if_success refine G.tr ?_); exact G.prop S.p)
    | fail) <;> (try simp only [WKb, ↓reduceIte, Nat.reduceEqDiff]))))
    all_goals
      refine Tr.fin hK ⟨(by first | (simp [*]; done) | (simp only [WKe, ↓reduceIte, reduceCtorEq, Int.reduceEq, eq_self, *]; done) | (simp only [WKe, ↓reduceIte, reduceCtorEq, Int.reduceEq, *]; rfl)), rfl⟩ ?_
      ((try clear hK) <;> (try simp only [WKe, *]) <;> repeat (first | with_reducible exact EntR.done | refine S.e ?_ | (refine S.f ?_ <;> (try simp only [WKe, ↓reduceIte, reduceCtorEq, Int.reduceEq, *])) | with_reducible apply EntR.ex | refine EntR.drop (F := F) ?_ | refine EntR.drop ?_))
  have hpr2 : 0 ≤ part ∧ part < ps.length := Decidable.not_not.1 hpr
  clear hpr
  obtain ⟨hp0, hp1⟩ := hpr2
  ((try simp only [WKb, ↓reduceIte, Nat.reduceEqDiff, Nat.reduceAdd]) <;> (repeat' ((first
    | (refine G.tr ?_; first | (refine G.call 23 ?_; refine S.kL ?_ (h := hSh); rintro _ _ ⟨b, hshort, rfl, rfl⟩; cases b <;> try (obtain ⟨hs1, hs2⟩ := hshort rfl)) | (refine G.call 25 ?_; refine S.kL ?_ (h := made_ok (c := ⟨c1, c2, c3, c4, c5, c6, c7, c8, c9, c10, c11, c12, c13⟩) (hd := ⟨rfl⟩) (ps := ps) (by omega)); rintro _ _ ⟨s, t, Gm, Rm, hmv, hmr, hma, hmb, rfl, rfl⟩) | refine S.a ?_ | refine Tr.brK ?_ ?_ | (refine G.call 23 ?_; refine S.c ?_ (h := short08_ok)) | (refine G.call 24 ?_; refine S.c ?_ (h := works19_ok)) | (refine G.call 25 ?_; refine S.c ?_ (h := made_ok ?_)) | (refine G.call 32 ?_; first | refine S.c ?_ (h := pnew2_ok) | refine S.c ?_ (h := pnew1_ok)) | (refine G.call 27 ?_; refine S.c ?_ (h := flush_ok ?_ ?_ ?_)) | refine S.n fun _ => ?_ | refine S.i fun hix => ?_ | (refine S.g fun hb => ?_; (try simp only [hb])) | (refine S.s (fun hb => ?_) (fun hb => ?_) <;> ((try simp only [hb]) <;> (try (have hp := hb; simp only [WKs] at hp; (try have hq := Int.not_le.2 hp); (try have hq := Int.not_lt.2 hp))))))
    | rintro _ _ ⟨rfl, rfl⟩
    | rintro _ _ ⟨_, hshort, rfl, rfl⟩
    | rintro _ _ ⟨_, _, _, _, rfl, rfl⟩
    | rintro _ _ ⟨_, _, _, _, _, _, rfl, rfl⟩
    | rintro _ _ ⟨_, _, Gm, Rm, hmv, hmr, hma, hmb, rfl, rfl⟩
    | rintro _ _ ⟨Gf2, _, _, hfm2, hfv2, hfp2, hfa2, rfl, rfl⟩
    | ((fail_if_success refine G.tr ?_); exact G.prop S.p)
    | fail) <;> (try simp only [WKb, ↓reduceIte, Nat.reduceEqDiff]))))
  · refine Tr.fin hK ⟨(by first | (simp [*]; done) | (simp only [WKe, ↓reduceIte, reduceCtorEq, Int.reduceEq, eq_self, *]; done) | (simp only [WKe, ↓reduceIte, reduceCtorEq, Int.reduceEq, *]; rfl)), rfl⟩ ?_
    ((try clear hK) <;> (try simp only [WKe, *]) <;> repeat (first | with_reducible exact EntR.done | refine S.e ?_ | (refine S.f ?_ <;> (try simp only [WKe, ↓reduceIte, reduceCtorEq, Int.reduceEq, *])) | with_reducible apply EntR.ex | refine EntR.drop (F := F) ?_ | refine EntR.drop ?_))
  have hI0 := made_inv hmv hmr hma hmb
  have hgl : Gm.length = ps.length := by simpa using congrArg List.length hma
  have hxm : ix (Gm.map PG.ab) part = newA (ix ps part).ports.d := by rw [hma]; exact ix_map (f := fun p : PartD => newA p.ports.d) hp0 hp1
  have hst0 : inSt (Gm.map PG.ab) part := ⟨hp0, by rw [List.length_map]; omega⟩
  generalize hSt : Gm.map PG.ab = St at hxm hst0
  refine Tr.freezeAt (α := Pt) (xs := Gm.map PG.pt) (by (repeat (first | exact TakeA.here | apply TakeA.next)); done) ?_
  refine Tr.freezeAt (α := Pt) (xs := Rm.map RG.pt) (by (repeat (first | exact TakeA.here | apply TakeA.next)); done) ?_
  refine Tr.loopE (α := Nat × List PG × List RG) [6, 9] [1, 2, 3, 7, 8] (fun x => [.bool false, .int .i64 x.1]) (fun x => [fam portsA x.2.1, fam refA x.2.2]) (fun x => x.1 ≤ l.length ∧ x.1 ≤ 40 ∧ Inv19 x.2.1 x.2.2 (4096 * x.1 + 1) ∧ x.2.1.map PG.pt = Gm.map PG.pt ∧ x.2.2.map RG.pt = Rm.map RG.pt ∧ x.2.1.map PG.ab = foldSt chs (l.take x.1) St ∧ ∀ j : Nat, j < x.1 → (ix l (j : Int)).b.d.length ≤ 300) (fun x => l.length - x.1) (0, Gm, Rm) (by (repeat (first | exact TakeL.nil | (apply TakeL.cons; focus ((first | exact TakeA.dupS | exact TakeA.dupF | ((repeat (first | with_reducible exact TakeA.here | exact TakeA.fam (by omega) (by omega) | with_reducible apply TakeA.next)); done) | ((repeat (first | exact TakeA.here | apply TakeA.next)); done) | exact TakeA.famNil | exact TakeA.nilS))) | fail)); done) rfl ⟨by omega, by omega, hI0, rfl, rfl, hSt, fun j h => by omega⟩ fun x u hx => ?_
  obtain ⟨k, Gs, Rs⟩ := x
  simp only at hx ⊢
  obtain ⟨hk, h40, hI, hg, hr, hS, hall⟩ := hx
  have hw := wrapSucc (k := k) (by omega)
  by_cases hin : k < l.length ∧ k < 40
  · obtain ⟨hi1, hi2⟩ := hin
    by_cases hbk : (ix l (k : Int)).b.d.length ≤ 300
    · have hD := done19_ok (c := ⟨c1, c2, c3, c4, c5, c6, c7, c8, c9, c10, c11, c12, c13⟩) (hd := ⟨rfl⟩) (chs := chs) (s := s) (t := t) (a := ix l (k : Int)) hI (by omega) hbk
      rw [hg, hr] at hD
      ((try simp only [WKb, ↓reduceIte, Nat.reduceEqDiff]) <;> (repeat' ((first
    | (refine G.tr ?_; first | (refine G.call 26 ?_; refine S.kL ?_ (h := hD); rintro _ _ ⟨Gs2, Rs2, hI2, hg2, hr2, hd2, rfl, rfl⟩) | refine S.a ?_ | refine Tr.brK ?_ ?_ | (refine G.call 23 ?_; refine S.c ?_ (h := short08_ok)) | (refine G.call 24 ?_; refine S.c ?_ (h := works19_ok)) | (refine G.call 25 ?_; refine S.c ?_ (h := made_ok ?_)) | (refine G.call 32 ?_; first | refine S.c ?_ (h := pnew2_ok) | refine S.c ?_ (h := pnew1_ok)) | (refine G.call 27 ?_; refine S.c ?_ (h := flush_ok ?_ ?_ ?_)) | refine S.n fun _ => ?_ | refine S.i fun hix => ?_ | (refine S.g fun hb => ?_; (try simp only [hb])) | (refine S.s (fun hb => ?_) (fun hb => ?_) <;> ((try simp only [hb]) <;> (try (have hp := hb; simp only [WKs] at hp; (try have hq := Int.not_le.2 hp); (try have hq := Int.not_lt.2 hp))))))
    | rintro _ _ ⟨rfl, rfl⟩
    | rintro _ _ ⟨_, hshort, rfl, rfl⟩
    | rintro _ _ ⟨_, _, _, _, rfl, rfl⟩
    | rintro _ _ ⟨_, _, _, _, _, _, rfl, rfl⟩
    | rintro _ _ ⟨_, _, Gm, Rm, hmv, hmr, hma, hmb, rfl, rfl⟩
    | rintro _ _ ⟨Gf2, _, _, hfm2, hfv2, hfp2, hfa2, rfl, rfl⟩
    | ((fail_if_success refine G.tr ?_); exact G.prop S.p)
    | fail) <;> (try simp only [WKb, ↓reduceIte, Nat.reduceEqDiff, pl8, hw]))))
      all_goals
        have hI3 : Inv19 Gs2 Rs2 (4096 * (k + 1) + 1) := hI2.up (by omega)
        have hS3 : Gs2.map PG.ab = foldSt chs (l.take (k + 1)) St := by rw [hd2, hS, foldSt_snoc hi1]
        have hall2 : ∀ j : Nat, j < k + 1 → (ix l (j : Int)).b.d.length ≤ 300 := fun j hj => by
          by_cases e : j = k
          · rw [e]; exact hbk
          · exact hall j (by omega)
        clear hd2
        (apply Tr.againE ((k + 1, Gs2, Rs2)); (focus (simp only [WKb, ↓reduceIte, Nat.reduceEqDiff])); (focus ((try simp only [WKb, ↓reduceIte, Nat.reduceEqDiff]); (all_goals ((repeat (refine cons_eq (by first | rfl | (simp [*]; done)) ?_)); rfl)); done)); rotate_left 2; (focus (((try clear hK) <;> (try simp only [WKe, *]) <;> repeat (first | with_reducible exact EntR.done | refine S.e ?_ | (refine S.f ?_ <;> (try simp only [WKe, ↓reduceIte, reduceCtorEq, Int.reduceEq, *])) | with_reducible apply EntR.ex | refine EntR.drop (F := F) ?_ | refine EntR.drop ?_)))); (focus (first | omega | assumption | (simp only []; omega) | (refine ⟨by omega, by assumption⟩) | (simp only []; refine ⟨by omega, by assumption⟩) | ((try simp only []); (repeat' (first | omega | assumption | apply hI3 | apply hg2 | apply hr2 | apply hS3 | apply hall2 | refine And.intro ?_ ?_)); done))); (focus (first | omega | (simp only []; omega))))
    · ((try simp only [WKb, ↓reduceIte, Nat.reduceEqDiff]) <;> (repeat' ((first
    | (refine G.tr ?_; first | refine S.a ?_ | refine Tr.brK ?_ ?_ | (refine G.call 23 ?_; refine S.c ?_ (h := short08_ok)) | (refine G.call 24 ?_; refine S.c ?_ (h := works19_ok)) | (refine G.call 25 ?_; refine S.c ?_ (h := made_ok ?_)) | (refine G.call 32 ?_; first | refine S.c ?_ (h := pnew2_ok) | refine S.c ?_ (h := pnew1_ok)) | (refine G.call 27 ?_; refine S.c ?_ (h := flush_ok ?_ ?_ ?_)) | refine S.n fun _ => ?_ | refine S.i fun hix => ?_ | (refine S.g fun hb => ?_; (try simp only [hb])) | (refine S.s (fun hb => ?_) (fun hb => ?_) <;> ((try simp only [hb]) <;> (try (have hp := hb; simp only [WKs] at hp; (try have hq := Int.not_le.2 hp); (try have hq := Int.not_lt.2 hp))))))
    | rintro _ _ ⟨rfl, rfl⟩
    | rintro _ _ ⟨_, hshort, rfl, rfl⟩
    | rintro _ _ ⟨_, _, _, _, rfl, rfl⟩
    | rintro _ _ ⟨_, _, _, _, _, _, rfl, rfl⟩
    | rintro _ _ ⟨_, _, Gm, Rm, hmv, hmr, hma, hmb, rfl, rfl⟩
    | rintro _ _ ⟨Gf2, _, _, hfm2, hfv2, hfp2, hfa2, rfl, rfl⟩
    | ((fail_if_success refine G.tr ?_); exact G.prop S.p)
    | fail) <;> (try simp only [WKb, ↓reduceIte, Nat.reduceEqDiff]))))
      all_goals
        refine Tr.fin hK ⟨(by first | (simp [*]; done) | (simp only [WKe, ↓reduceIte, reduceCtorEq, Int.reduceEq, eq_self, *]; done) | (simp only [WKe, ↓reduceIte, reduceCtorEq, Int.reduceEq, *]; rfl)), rfl⟩ ?_
        ((try clear hK) <;> (try simp only [WKe, *]) <;> repeat (first | with_reducible exact EntR.done | refine S.e ?_ | (refine S.f ?_ <;> (try simp only [WKe, ↓reduceIte, reduceCtorEq, Int.reduceEq, *])) | with_reducible apply EntR.ex | refine EntR.drop (F := F) ?_ | refine EntR.drop ?_))
  · have hF1 := flush_ok (c := ⟨c1, c2, c3, c4, c5, c6, c7, c8, c9, c10, c11, c12, c13⟩) (hd := ⟨rfl⟩) (chs := chs) (part := part) (win := 1) (all := s) hI.v (by omega) (okS_ix hI.ok)
    rw [hg] at hF1
    have hml : (Gm.map PG.pt).length = ps.length := by rw [List.length_map]; exact hgl
    ((try simp only [WKb, ↓reduceIte, Nat.reduceEqDiff]) <;> (repeat' ((first
    | (refine G.tr ?_; first | refine S.a ?_ | refine Tr.brK ?_ ?_ | (refine G.call 23 ?_; refine S.c ?_ (h := short08_ok)) | (refine G.call 24 ?_; refine S.c ?_ (h := works19_ok)) | (refine G.call 25 ?_; refine S.c ?_ (h := made_ok ?_)) | (refine G.call 32 ?_; first | refine S.c ?_ (h := pnew2_ok) | refine S.c ?_ (h := pnew1_ok)) | (refine G.call 27 ?_; refine S.c ?_ (h := flush_ok ?_ ?_ ?_)) | refine S.n fun _ => ?_ | refine S.i fun hix => ?_ | (refine S.g fun hb => ?_; (try simp only [hb])) | (refine S.s (fun hb => ?_) (fun hb => ?_) <;> ((try simp only [hb]) <;> (try (have hp := hb; simp only [WKs] at hp; (try have hq := Int.not_le.2 hp); (try have hq := Int.not_lt.2 hp))))))
    | rintro _ _ ⟨rfl, rfl⟩
    | rintro _ _ ⟨_, hshort, rfl, rfl⟩
    | rintro _ _ ⟨_, _, _, _, rfl, rfl⟩
    | rintro _ _ ⟨_, _, _, _, _, _, rfl, rfl⟩
    | rintro _ _ ⟨_, _, Gm, Rm, hmv, hmr, hma, hmb, rfl, rfl⟩
    | rintro _ _ ⟨Gf2, _, _, hfm2, hfv2, hfp2, hfa2, rfl, rfl⟩
    | ((fail_if_success refine G.tr ?_); exact G.prop S.p)
    | fail) <;> (try simp only [WKb, ↓reduceIte, Nat.reduceEqDiff]))))
    all_goals
      refine Tr.loopE (α := Nat) [6, 10] [1, 2, 3, 7] (fun j => [.bool false, .int .i64 j]) (fun _ => []) (fun j => j ≤ chs.length ∧ ∀ q : Nat, q < j → (ix chs (q : Int)).tp ≠ part) (fun j => chs.length - j) 0 (by (repeat (first | exact TakeL.nil | (apply TakeL.cons; focus ((first | exact TakeA.dupS | exact TakeA.dupF | ((repeat (first | with_reducible exact TakeA.here | exact TakeA.fam (by omega) (by omega) | with_reducible apply TakeA.next)); done) | ((repeat (first | exact TakeA.here | apply TakeA.next)); done) | exact TakeA.famNil | exact TakeA.nilS))) | fail)); done) rfl ⟨by omega, fun q h => by omega⟩ fun j u hj => ?_
      obtain ⟨hj, hno⟩ := hj
      have hwj := wrapSucc (k := j) (by omega)
      by_cases hinj : j < chs.length
      · by_cases htp : (ix chs (j : Int)).tp = part
        · ((try simp only [WKb, ↓reduceIte, Nat.reduceEqDiff]) <;> (repeat' ((first
    | (refine G.tr ?_; first | refine S.a ?_ | refine Tr.brK ?_ ?_ | (refine G.call 23 ?_; refine S.c ?_ (h := short08_ok)) | (refine G.call 24 ?_; refine S.c ?_ (h := works19_ok)) | (refine G.call 25 ?_; refine S.c ?_ (h := made_ok ?_)) | (refine G.call 32 ?_; first | refine S.c ?_ (h := pnew2_ok) | refine S.c ?_ (h := pnew1_ok)) | (refine G.call 27 ?_; refine S.c ?_ (h := flush_ok ?_ ?_ ?_)) | refine S.n fun _ => ?_ | refine S.i fun hix => ?_ | (refine S.g fun hb => ?_; (try simp only [hb])) | (refine S.s (fun hb => ?_) (fun hb => ?_) <;> ((try simp only [hb]) <;> (try (have hp := hb; simp only [WKs] at hp; (try have hq := Int.not_le.2 hp); (try have hq := Int.not_lt.2 hp))))))
    | rintro _ _ ⟨rfl, rfl⟩
    | rintro _ _ ⟨_, hshort, rfl, rfl⟩
    | rintro _ _ ⟨_, _, _, _, rfl, rfl⟩
    | rintro _ _ ⟨_, _, _, _, _, _, rfl, rfl⟩
    | rintro _ _ ⟨_, _, Gm, Rm, hmv, hmr, hma, hmb, rfl, rfl⟩
    | rintro _ _ ⟨Gf2, _, _, hfm2, hfv2, hfp2, hfa2, rfl, rfl⟩
    | ((fail_if_success refine G.tr ?_); exact G.prop S.p)
    | fail) <;> (try simp only [WKb, ↓reduceIte, Nat.reduceEqDiff, htp]))))
          all_goals
            refine Tr.fin hK ⟨(by first | (simp [*]; done) | (simp only [WKe, ↓reduceIte, reduceCtorEq, Int.reduceEq, eq_self, *]; done) | (simp only [WKe, ↓reduceIte, reduceCtorEq, Int.reduceEq, *]; rfl)), rfl⟩ ?_
            ((try clear hK) <;> (try simp only [WKe, *]) <;> repeat (first | with_reducible exact EntR.done | refine S.e ?_ | (refine S.f ?_ <;> (try simp only [WKe, ↓reduceIte, reduceCtorEq, Int.reduceEq, *])) | with_reducible apply EntR.ex | refine EntR.drop (F := F) ?_ | refine EntR.drop ?_))
        · have hno2 : ∀ q : Nat, q < j + 1 → (ix chs (q : Int)).tp ≠ part := fun q hq => by
            by_cases e : q = j
            · rw [e]; exact htp
            · exact hno q (by omega)
          ((try simp only [WKb, ↓reduceIte, Nat.reduceEqDiff]) <;> (repeat' ((first
    | (refine G.tr ?_; first | refine S.a ?_ | refine Tr.brK ?_ ?_ | (refine G.call 23 ?_; refine S.c ?_ (h := short08_ok)) | (refine G.call 24 ?_; refine S.c ?_ (h := works19_ok)) | (refine G.call 25 ?_; refine S.c ?_ (h := made_ok ?_)) | (refine G.call 32 ?_; first | refine S.c ?_ (h := pnew2_ok) | refine S.c ?_ (h := pnew1_ok)) | (refine G.call 27 ?_; refine S.c ?_ (h := flush_ok ?_ ?_ ?_)) | refine S.n fun _ => ?_ | refine S.i fun hix => ?_ | (refine S.g fun hb => ?_; (try simp only [hb])) | (refine S.s (fun hb => ?_) (fun hb => ?_) <;> ((try simp only [hb]) <;> (try (have hp := hb; simp only [WKs] at hp; (try have hq := Int.not_le.2 hp); (try have hq := Int.not_lt.2 hp))))))
    | rintro _ _ ⟨rfl, rfl⟩
    | rintro _ _ ⟨_, hshort, rfl, rfl⟩
    | rintro _ _ ⟨_, _, _, _, rfl, rfl⟩
    | rintro _ _ ⟨_, _, _, _, _, _, rfl, rfl⟩
    | rintro _ _ ⟨_, _, Gm, Rm, hmv, hmr, hma, hmb, rfl, rfl⟩
    | rintro _ _ ⟨Gf2, _, _, hfm2, hfv2, hfp2, hfa2, rfl, rfl⟩
    | ((fail_if_success refine G.tr ?_); exact G.prop S.p)
    | fail) <;> (try simp only [WKb, ↓reduceIte, Nat.reduceEqDiff, hwj, htp]))))
          all_goals (apply Tr.againE (j + 1); (focus (simp only [WKb, ↓reduceIte, Nat.reduceEqDiff])); (focus ((try simp only [WKb, ↓reduceIte, Nat.reduceEqDiff]); (all_goals ((repeat (refine cons_eq (by first | rfl | (simp [*]; done)) ?_)); rfl)); done)); (focus (first | omega | assumption | (simp only []; omega) | (refine ⟨by omega, by assumption⟩) | (simp only []; refine ⟨by omega, by assumption⟩) | ((try simp only []); (repeat' (first | omega | assumption | apply hno2 | refine And.intro ?_ ?_)); done))); (focus (first | omega | (simp only []; omega))); (focus (((try clear hK) <;> (try simp only [WKe, *]) <;> repeat (first | with_reducible exact EntR.done | refine S.e ?_ | (refine S.f ?_ <;> (try simp only [WKe, ↓reduceIte, reduceCtorEq, Int.reduceEq, *])) | with_reducible apply EntR.ex | refine EntR.drop (F := F) ?_ | refine EntR.drop ?_)))))
      · have hnt : noTo chs part := fun q hq => hno q (by omega)
        clear hno
        ((try simp only [WKb, ↓reduceIte, Nat.reduceEqDiff]) <;> (repeat' ((first
    | (refine G.tr ?_; first | (refine G.call 32 ?_; refine S.kL ?_ (h := pnew_ok (cs := (ix ps part).ports.d)); rintro _ _ ⟨pp, ps1, gs1, hco, rfl, rfl⟩) | refine S.a ?_ | refine Tr.brK ?_ ?_ | (refine G.call 23 ?_; refine S.c ?_ (h := short08_ok)) | (refine G.call 24 ?_; refine S.c ?_ (h := works19_ok)) | (refine G.call 25 ?_; refine S.c ?_ (h := made_ok ?_)) | (refine G.call 32 ?_; first | refine S.c ?_ (h := pnew2_ok) | refine S.c ?_ (h := pnew1_ok)) | (refine G.call 27 ?_; refine S.c ?_ (h := flush_ok ?_ ?_ ?_)) | refine S.n fun _ => ?_ | refine S.i fun hix => ?_ | (refine S.g fun hb => ?_; (try simp only [hb])) | (refine S.s (fun hb => ?_) (fun hb => ?_) <;> ((try simp only [hb]) <;> (try (have hp := hb; simp only [WKs] at hp; (try have hq := Int.not_le.2 hp); (try have hq := Int.not_lt.2 hp))))))
    | rintro _ _ ⟨rfl, rfl⟩
    | rintro _ _ ⟨_, hshort, rfl, rfl⟩
    | rintro _ _ ⟨_, _, _, _, rfl, rfl⟩
    | rintro _ _ ⟨_, _, _, _, _, _, rfl, rfl⟩
    | rintro _ _ ⟨_, _, Gm, Rm, hmv, hmr, hma, hmb, rfl, rfl⟩
    | rintro _ _ ⟨Gf2, _, _, hfm2, hfv2, hfp2, hfa2, rfl, rfl⟩
    | ((fail_if_success refine G.tr ?_); exact G.prop S.p)
    | fail) <;> (try simp only [WKb, ↓reduceIte, Nat.reduceEqDiff, hml]))))
        rename_i sv _
        have hn0 := new_inv hco
        generalize hP : (List.replicate ((ps.length : Int)).toNat (default : Pt)).set part.toNat ⟨some pp⟩ = pts
        have hpl : pts.length = ps.length := by rw [← hP, List.length_set, List.length_replicate]; omega
        have hpq : ix pts part = ⟨some pp⟩ ∧ ∀ q : Int, 0 ≤ q → q < pts.length → q ≠ part → ix pts q = ⟨none⟩ := by
          rw [hpl, ← hP]; exact lone_pts hp0 hp1
        obtain ⟨hpp, hpz⟩ := hpq
        have hpn : ∀ ch : Int, inCh chs ch → 0 ≤ (ix chs ch).tp → (ix chs ch).tp < pts.length → ix pts (ix chs ch).tp = ⟨none⟩ := fun ch hc g0 g1 => by
          have hk : ch = ((ch.toNat : Nat) : Int) := by have := hc.1; omega
          have hne : (ix chs ch).tp ≠ part := by
            rw [hk]; exact hnt _ (by have := hc.1; have := hc.2; omega)
          exact hpz _ g0 g1 hne
        clear hP hix hpz
        refine Tr.freezeAt (α := Pt) (xs := pts) (by (repeat (first | exact TakeA.here | apply TakeA.next)); done) ?_
        refine Tr.loopE (α := Nat × List OneG) [12] [1, 2, 3, 6, 7, 11] (fun x => [.int .i64 x.1]) (fun x => [fam oneA x.2, sl false ps1.v (x.2.map OneG.pt)]) (fun x => x.1 ≤ l.length ∧ x.1 ≤ 40 ∧ invP x.2 x.1 ∧ okA (x.2.map OneG.abs) ∧ x.2.map OneG.abs = ix (foldSt chs (l.take x.1) St) part) (fun x => l.length - x.1) (0, gs1) (by (repeat (first | exact TakeL.nil | (apply TakeL.cons; focus ((first | exact TakeA.dupS | exact TakeA.dupF | ((repeat (first | with_reducible exact TakeA.here | exact TakeA.fam (by omega) (by omega) | with_reducible apply TakeA.next)); done) | ((repeat (first | exact TakeA.here | apply TakeA.next)); done) | exact TakeA.famNil | exact TakeA.nilS))) | fail)); done) rfl ⟨by omega, by omega, hn0.1, (by rw [hn0.2, ← hxm]; exact okS_ix (hSt ▸ hI0.ok)), (by rw [hn0.2, ← hxm]; rfl)⟩ fun x u hx => ?_
        obtain ⟨i, gs⟩ := x
        simp only at hx ⊢
        obtain ⟨hi1, hi2, hiv, hok, hga⟩ := hx
        have hwi := wrapSucc (k := i) (by omega)
        by_cases hini : i < l.length ∧ i < 40
        · obtain ⟨hi3, hi4⟩ := hini
          have hbi := hall i (by omega)
          have hfp := fold_part hnt hi3 hst0
          rw [← hga] at hfp
          have hok2 := okA_lone (chs := chs) (part := part) (act := (ix l (i : Int)).act) (p := (ix l (i : Int)).part) (k := (ix l (i : Int)).k) hok hbi
          by_cases hpa : (ix l (i : Int)).part = part
          · by_cases hac : (ix l (i : Int)).act < 4 ∨ (ix l (i : Int)).act = 4
            · have hR := redo_ok (c := ⟨c1, c2, c3, c4, c5, c6, c7, c8, c9, c10, c11, c12, c13⟩) (hd := ⟨rfl⟩) (chs := chs) (all := sv) (s := ps1) (pts := pts) (gs0 := gs) (a := ix l (i : Int)) hp0 (by omega) hpp hpn hiv (by omega) hok hbi hpa
              rw [hpa] at hR hfp hok2
              rcases hac with hac | hac
              · ((try simp only [WKb, ↓reduceIte, Nat.reduceEqDiff]) <;> (repeat' ((first
    | (refine G.tr ?_; first | (refine G.call 33 ?_; refine S.kL ?_ (h := hR); rintro _ _ ⟨g2, hv2, ha2, rfl, rfl⟩) | refine S.a ?_ | refine Tr.brK ?_ ?_ | (refine G.call 23 ?_; refine S.c ?_ (h := short08_ok)) | (refine G.call 24 ?_; refine S.c ?_ (h := works19_ok)) | (refine G.call 25 ?_; refine S.c ?_ (h := made_ok ?_)) | (refine G.call 32 ?_; first | refine S.c ?_ (h := pnew2_ok) | refine S.c ?_ (h := pnew1_ok)) | (refine G.call 27 ?_; refine S.c ?_ (h := flush_ok ?_ ?_ ?_)) | refine S.n fun _ => ?_ | refine S.i fun hix => ?_ | (refine S.g fun hb => ?_; (try simp only [hb])) | (refine S.s (fun hb => ?_) (fun hb => ?_) <;> ((try simp only [hb]) <;> (try (have hp := hb; simp only [WKs] at hp; (try have hq := Int.not_le.2 hp); (try have hq := Int.not_lt.2 hp))))))
    | rintro _ _ ⟨rfl, rfl⟩
    | rintro _ _ ⟨_, hshort, rfl, rfl⟩
    | rintro _ _ ⟨_, _, _, _, rfl, rfl⟩
    | rintro _ _ ⟨_, _, _, _, _, _, rfl, rfl⟩
    | rintro _ _ ⟨_, _, Gm, Rm, hmv, hmr, hma, hmb, rfl, rfl⟩
    | rintro _ _ ⟨Gf2, _, _, hfm2, hfv2, hfp2, hfa2, rfl, rfl⟩
    | ((fail_if_success refine G.tr ?_); exact G.prop S.p)
    | fail) <;> (try simp only [WKb, ↓reduceIte, Nat.reduceEqDiff, hwi, hpa, act_enc]))))
                all_goals
                  have hq1 : okA (g2.map OneG.abs) := by rw [ha2]; exact hok2
                  have hq2 : g2.map OneG.abs = ix (foldSt chs (l.take (i + 1)) St) part := by rw [ha2, hfp]
                  (apply Tr.againE ((i + 1, g2)); (focus (simp only [WKb, ↓reduceIte, Nat.reduceEqDiff])); (focus ((try simp only [WKb, ↓reduceIte]); (all_goals ((repeat (refine cons_eq (by first | rfl | (simp [*]; done)) ?_)); rfl)); done)); rotate_left 2; (focus (((try clear hK) <;> (try simp only [WKe, *]) <;> repeat (first | with_reducible exact EntR.done | refine S.e ?_ | (refine S.f ?_ <;> (try simp only [WKe, ↓reduceIte, reduceCtorEq, Int.reduceEq, *])) | with_reducible apply EntR.ex | refine EntR.drop (F := F) ?_ | refine EntR.drop ?_)))); (focus (first | omega | assumption | (simp only []; omega) | (refine ⟨by omega, by assumption⟩) | (simp only []; refine ⟨by omega, by assumption⟩) | ((try simp only []); (repeat' (first | omega | assumption | apply hv2 | apply hq1 | apply hq2 | refine And.intro ?_ ?_)); done))); (focus (first | omega | (simp only []; omega))))
              · rw [hac] at hR hfp hok2
                ((try simp only [WKb, ↓reduceIte, Nat.reduceEqDiff]) <;> (repeat' ((first
    | (refine G.tr ?_; first | (refine G.call 33 ?_; refine S.kL ?_ (h := hR); rintro _ _ ⟨g2, hv2, ha2, rfl, rfl⟩) | refine S.a ?_ | refine Tr.brK ?_ ?_ | (refine G.call 23 ?_; refine S.c ?_ (h := short08_ok)) | (refine G.call 24 ?_; refine S.c ?_ (h := works19_ok)) | (refine G.call 25 ?_; refine S.c ?_ (h := made_ok ?_)) | (refine G.call 32 ?_; first | refine S.c ?_ (h := pnew2_ok) | refine S.c ?_ (h := pnew1_ok)) | (refine G.call 27 ?_; refine S.c ?_ (h := flush_ok ?_ ?_ ?_)) | refine S.n fun _ => ?_ | refine S.i fun hix => ?_ | (refine S.g fun hb => ?_; (try simp only [hb])) | (refine S.s (fun hb => ?_) (fun hb => ?_) <;> ((try simp only [hb]) <;> (try (have hp := hb; simp only [WKs] at hp; (try have hq := Int.not_le.2 hp); (try have hq := Int.not_lt.2 hp))))))
    | rintro _ _ ⟨rfl, rfl⟩
    | rintro _ _ ⟨_, hshort, rfl, rfl⟩
    | rintro _ _ ⟨_, _, _, _, rfl, rfl⟩
    | rintro _ _ ⟨_, _, _, _, _, _, rfl, rfl⟩
    | rintro _ _ ⟨_, _, Gm, Rm, hmv, hmr, hma, hmb, rfl, rfl⟩
    | rintro _ _ ⟨Gf2, _, _, hfm2, hfv2, hfp2, hfa2, rfl, rfl⟩
    | ((fail_if_success refine G.tr ?_); exact G.prop S.p)
    | fail) <;> (try simp only [WKb, ↓reduceIte, Nat.reduceEqDiff, Int.reduceLT, hwi, hpa, hac, act_enc]))))
                all_goals
                  have hq1 : okA (g2.map OneG.abs) := by rw [ha2]; exact hok2
                  have hq2 : g2.map OneG.abs = ix (foldSt chs (l.take (i + 1)) St) part := by rw [ha2, hfp]
                  (apply Tr.againE ((i + 1, g2)); (focus (simp only [WKb, ↓reduceIte, Nat.reduceEqDiff])); (focus ((try simp only [WKb, ↓reduceIte]); (all_goals ((repeat (refine cons_eq (by first | rfl | (simp [*]; done)) ?_)); rfl)); done)); rotate_left 2; (focus (((try clear hK) <;> (try simp only [WKe, *]) <;> repeat (first | with_reducible exact EntR.done | refine S.e ?_ | (refine S.f ?_ <;> (try simp only [WKe, ↓reduceIte, reduceCtorEq, Int.reduceEq, *])) | with_reducible apply EntR.ex | refine EntR.drop (F := F) ?_ | refine EntR.drop ?_)))); (focus (first | omega | assumption | (simp only []; omega) | (refine ⟨by omega, by assumption⟩) | (simp only []; refine ⟨by omega, by assumption⟩) | ((try simp only []); (repeat' (first | omega | assumption | apply hv2 | apply hq1 | apply hq2 | refine And.intro ?_ ?_)); done))); (focus (first | omega | (simp only []; omega))))
            · have hq2 : gs.map OneG.abs = ix (foldSt chs (l.take (i + 1)) St) part := by
                rw [hfp]; unfold loneA; rw [if_pos hpa, if_neg (by omega), if_neg (by omega), if_neg (by omega), if_neg (by omega)]
              have hv2 : invP gs (i + 1) := inv_mono hiv
              ((try simp only [WKb, ↓reduceIte, Nat.reduceEqDiff]) <;> (repeat' ((first
    | (refine G.tr ?_; first | refine S.a ?_ | refine Tr.brK ?_ ?_ | (refine G.call 23 ?_; refine S.c ?_ (h := short08_ok)) | (refine G.call 24 ?_; refine S.c ?_ (h := works19_ok)) | (refine G.call 25 ?_; refine S.c ?_ (h := made_ok ?_)) | (refine G.call 32 ?_; first | refine S.c ?_ (h := pnew2_ok) | refine S.c ?_ (h := pnew1_ok)) | (refine G.call 27 ?_; refine S.c ?_ (h := flush_ok ?_ ?_ ?_)) | refine S.n fun _ => ?_ | refine S.i fun hix => ?_ | (refine S.g fun hb => ?_; (try simp only [hb])) | (refine S.s (fun hb => ?_) (fun hb => ?_) <;> ((try simp only [hb]) <;> (try (have hp := hb; simp only [WKs] at hp; (try have hq := Int.not_le.2 hp); (try have hq := Int.not_lt.2 hp))))))
    | rintro _ _ ⟨rfl, rfl⟩
    | rintro _ _ ⟨_, hshort, rfl, rfl⟩
    | rintro _ _ ⟨_, _, _, _, rfl, rfl⟩
    | rintro _ _ ⟨_, _, _, _, _, _, rfl, rfl⟩
    | rintro _ _ ⟨_, _, Gm, Rm, hmv, hmr, hma, hmb, rfl, rfl⟩
    | rintro _ _ ⟨Gf2, _, _, hfm2, hfv2, hfp2, hfa2, rfl, rfl⟩
    | ((fail_if_success refine G.tr ?_); exact G.prop S.p)
    | fail) <;> (try simp only [WKb, ↓reduceIte, Nat.reduceEqDiff, hwi, hpa, act_enc]))))
              all_goals (apply Tr.againE ((i + 1, gs)); (focus (simp only [WKb, ↓reduceIte, Nat.reduceEqDiff])); (focus ((try simp only [WKb, ↓reduceIte]); (all_goals ((repeat (refine cons_eq (by first | rfl | (simp [*]; done)) ?_)); rfl)); done)); rotate_left 2; (focus (((try clear hK) <;> (try simp only [WKe, *]) <;> repeat (first | with_reducible exact EntR.done | refine S.e ?_ | (refine S.f ?_ <;> (try simp only [WKe, ↓reduceIte, reduceCtorEq, Int.reduceEq, *])) | with_reducible apply EntR.ex | refine EntR.drop (F := F) ?_ | refine EntR.drop ?_)))); (focus (first | omega | assumption | (simp only []; omega) | (refine ⟨by omega, by assumption⟩) | (simp only []; refine ⟨by omega, by assumption⟩) | ((try simp only []); (repeat' (first | omega | assumption | apply hv2 | apply hok | apply hq2 | refine And.intro ?_ ?_)); done))); (focus (first | omega | (simp only []; omega))))
          · have hq2 : gs.map OneG.abs = ix (foldSt chs (l.take (i + 1)) St) part := by
              rw [hfp]; unfold loneA; rw [if_neg hpa]
            have hv2 : invP gs (i + 1) := inv_mono hiv
            ((try simp only [WKb, ↓reduceIte, Nat.reduceEqDiff]) <;> (repeat' ((first
    | (refine G.tr ?_; first | refine S.a ?_ | refine Tr.brK ?_ ?_ | (refine G.call 23 ?_; refine S.c ?_ (h := short08_ok)) | (refine G.call 24 ?_; refine S.c ?_ (h := works19_ok)) | (refine G.call 25 ?_; refine S.c ?_ (h := made_ok ?_)) | (refine G.call 32 ?_; first | refine S.c ?_ (h := pnew2_ok) | refine S.c ?_ (h := pnew1_ok)) | (refine G.call 27 ?_; refine S.c ?_ (h := flush_ok ?_ ?_ ?_)) | refine S.n fun _ => ?_ | refine S.i fun hix => ?_ | (refine S.g fun hb => ?_; (try simp only [hb])) | (refine S.s (fun hb => ?_) (fun hb => ?_) <;> ((try simp only [hb]) <;> (try (have hp := hb; simp only [WKs] at hp; (try have hq := Int.not_le.2 hp); (try have hq := Int.not_lt.2 hp))))))
    | rintro _ _ ⟨rfl, rfl⟩
    | rintro _ _ ⟨_, hshort, rfl, rfl⟩
    | rintro _ _ ⟨_, _, _, _, rfl, rfl⟩
    | rintro _ _ ⟨_, _, _, _, _, _, rfl, rfl⟩
    | rintro _ _ ⟨_, _, Gm, Rm, hmv, hmr, hma, hmb, rfl, rfl⟩
    | rintro _ _ ⟨Gf2, _, _, hfm2, hfv2, hfp2, hfa2, rfl, rfl⟩
    | ((fail_if_success refine G.tr ?_); exact G.prop S.p)
    | fail) <;> (try simp only [WKb, ↓reduceIte, Nat.reduceEqDiff, hwi, hpa, act_enc]))))
            all_goals (apply Tr.againE ((i + 1, gs)); (focus (simp only [WKb, ↓reduceIte, Nat.reduceEqDiff])); (focus ((try simp only [WKb, ↓reduceIte]); (all_goals ((repeat (refine cons_eq (by first | rfl | (simp [*]; done)) ?_)); rfl)); done)); rotate_left 2; (focus (((try clear hK) <;> (try simp only [WKe, *]) <;> repeat (first | with_reducible exact EntR.done | refine S.e ?_ | (refine S.f ?_ <;> (try simp only [WKe, ↓reduceIte, reduceCtorEq, Int.reduceEq, *])) | with_reducible apply EntR.ex | refine EntR.drop (F := F) ?_ | refine EntR.drop ?_)))); (focus (first | omega | assumption | (simp only []; omega) | (refine ⟨by omega, by assumption⟩) | (simp only []; refine ⟨by omega, by assumption⟩) | ((try simp only []); (repeat' (first | omega | assumption | apply hv2 | apply hok | apply hq2 | refine And.intro ?_ ?_)); done))); (focus (first | omega | (simp only []; omega))))
        · obtain rfl : i = k := by omega
          have hst : inSt (Gs.map PG.ab) part := ⟨hp0, by rw [hS, foldSt_len]; exact hst0.2⟩
          have hF2 := lflush_ok (c := ⟨c1, c2, c3, c4, c5, c6, c7, c8, c9, c10, c11, c12, c13⟩) (hd := ⟨rfl⟩) (chs := chs) (win := 1) (all := sv) (s := ps1) (pts := pts) (gs0 := gs) hp0 (by omega) hpp hpn hiv (by omega) hok
          have hfl : flushA chs part 1 (Gs.map PG.ab) = flushMs (gs.map OneG.abs) chs part 1 := by unfold flushA; rw [if_pos hst, hS, ← hga]
          ((try simp only [WKb, ↓reduceIte, Nat.reduceEqDiff]) <;> (repeat' ((first
    | (refine G.tr ?_; first | (refine G.call 27 ?_; first | (refine S.kL ?_ (h := hF1); rintro _ _ ⟨Gf, s1, m1, hm1, hv1, hp1', ha1, rfl, rfl⟩) | (refine S.kL ?_ (h := hF2); rintro _ _ ⟨gf, s2, m2, hm2, hv2, ha2, rfl, rfl⟩)) | (refine G.call 34 ?_; first | (refine S.kL ?_ (h := rsame19_ok (xs := m1) (ys := m2) (by rw [hm1, hm2, hfl])); rintro _ _ ⟨rfl, rfl⟩) | refine Tr.freezeAt (α := MsgC) (by (repeat (first | exact TakeA.here | apply TakeA.next)); done) ?_) | refine S.a ?_ | refine Tr.brK ?_ ?_ | (refine G.call 23 ?_; refine S.c ?_ (h := short08_ok)) | (refine G.call 24 ?_; refine S.c ?_ (h := works19_ok)) | (refine G.call 25 ?_; refine S.c ?_ (h := made_ok ?_)) | (refine G.call 32 ?_; first | refine S.c ?_ (h := pnew2_ok) | refine S.c ?_ (h := pnew1_ok)) | (refine G.call 27 ?_; refine S.c ?_ (h := flush_ok ?_ ?_ ?_)) | refine S.n fun _ => ?_ | refine S.i fun hix => ?_ | (refine S.g fun hb => ?_; (try simp only [hb])) | (refine S.s (fun hb => ?_) (fun hb => ?_) <;> ((try simp only [hb]) <;> (try (have hp := hb; simp only [WKs] at hp; (try have hq := Int.not_le.2 hp); (try have hq := Int.not_lt.2 hp))))))
    | rintro _ _ ⟨rfl, rfl⟩
    | rintro _ _ ⟨_, hshort, rfl, rfl⟩
    | rintro _ _ ⟨_, _, _, _, rfl, rfl⟩
    | rintro _ _ ⟨_, _, _, _, _, _, rfl, rfl⟩
    | rintro _ _ ⟨_, _, Gm, Rm, hmv, hmr, hma, hmb, rfl, rfl⟩
    | rintro _ _ ⟨Gf2, _, _, hfm2, hfv2, hfp2, hfa2, rfl, rfl⟩
    | ((fail_if_success refine G.tr ?_); exact G.prop S.p)
    | fail) <;> (try simp only [WKb, ↓reduceIte, Nat.reduceEqDiff, pl8]))))
          all_goals
            refine Tr.fin hK ⟨(by first | (simp [*]; done) | (simp only [WKe, ↓reduceIte, reduceCtorEq, Int.reduceEq, eq_self, *]; done) | (simp only [WKe, ↓reduceIte, reduceCtorEq, Int.reduceEq, *]; rfl)), rfl⟩ ?_
            ((try clear hK) <;> (try simp only [WKe, *]) <;> repeat (first | with_reducible exact EntR.done | refine S.e ?_ | (refine S.f ?_ <;> (try simp only [WKe, ↓reduceIte, reduceCtorEq, Int.reduceEq, *])) | with_reducible apply EntR.ex | refine EntR.drop (F := F) ?_ | refine EntR.drop ?_))
end Go.Proofs.Ytlhmbcmkpafjoaa
