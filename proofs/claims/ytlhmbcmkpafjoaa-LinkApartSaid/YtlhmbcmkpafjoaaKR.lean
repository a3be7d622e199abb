import Derived.Test.YtlhmbcmkpafjoaaKQ
namespace Go.Proofs.Ytlhmbcmkpafjoaa
open Go Go.Wk
set_option maxHeartbeats 6400000
set_option maxRecDepth 100000
theorem carry_snoc {ms : List MsgC} {a : Int} {k : Nat} (h : k < ms.length) : carry ((ms.take (k + 1)).map MsgC.ab) a = carry ((ms.take k).map MsgC.ab) a ++ (if (ix ms (k : Int)).ch = a then [(ix ms (k : Int)).d.d] else []) := by
  unfold carry
  rw [take_ix h, List.map_append, List.filter_append, List.map_append]
  congr 1
  by_cases e : (ix ms (k : Int)).ch = a
  · rw [if_pos e]; simp [MsgC.ab, e]
  · rw [if_neg e]; simp [MsgC.ab, e]
theorem ix_memN {α : Type} [Inhabited α] {xs : List α} {k : Nat} (h : k < xs.length) : ix xs (k : Int) ∈ xs := by unfold ix; simp [h]
attribute [local irreducible] BrK GenK EGenK EUnitK CallK FnK CallV GuardO GuardC CondW opX opK opKc chkR eqR seqK blkK endL WL WD W LoopW BinK Tr drewK resL PickK NotK NilK ExtrK getK Instr.storeAt Instr.loadAt Instr.fieldAt Instr.indexAt Instr.lookup Instr.mapUpdate Instr.box Instr.alloc Instr.build Instr.buildSlice Instr.makeSlice Instr.makeMap Instr.sliceAt Instr.field Instr.index Instr.makeInterface Instr.typeAssert Builtin.len_ Builtin.append_ Builtin.cap_ Builtin.min_ Builtin.max_ Builtin.copy_ Builtin.clear_ convert binOp mp blk rob sl sep ex fact old
attribute [local irreducible] carry
theorem same19_ok {s : SV} {ms : List MsgC} {a b : Int} (hn : ms.length ≤ 10000) (h : carry (ms.map MsgC.ab) a = carry (ms.map MsgC.ab) b) : Trip Try.prog 31 [s.v, .int .i64 a, .int .i64 b].toArray [sl true s.v ms, fzl ms] fun v l' => v = .bool true ∧ l' = [] := by
  intro F K hK
  simp only [List.cons_append, List.nil_append]
  (refine Tr.enter (rs := [.tmp 6]) mixed fn31 rfl (by simp +arith [Try.ntmps31]) fun u => ?_; simp only [cd31, Try.f31])
  ((try simp only [WKb, Nat.reduceAdd]) <;> (repeat' ((first
    | (refine G.tr ?_; first | refine S.a ?_ | refine Tr.brK ?_ ?_ | (refine G.call 60 ?_; first | refine S.c ?_ (h := same2_ok ?_) | refine S.c ?_ (h := same18_ok)) | refine S.n fun _ => ?_ | refine S.i fun hix => ?_ | (refine S.g fun hb => ?_; (try simp only [hb])) | (refine S.s (fun hb => ?_) (fun hb => ?_) <;> ((try simp only [hb]) <;> (try (have hp := hb; simp only [WKs] at hp; (try have hq := Int.not_le.2 hp); (try have hq := Int.not_lt.2 hp))))))
    | rintro _ _ ⟨rfl, rfl⟩
    | ((fail_if_success refine G.tr ?_); exact G.prop S.p)
    | fail) <;> (try simp only [WKb, WKh, ↓reduceIte, Nat.reduceEqDiff, Nat.reduceAdd, Nat.reduceSub, Int.reduceEq, Int.reduceLT, Int.reduceLE, pl31]))))
  refine Tr.nilSl (α := Msg) ?_
  refine Tr.nilSl (α := Msg) ?_
  refine Tr.loopE (α := Nat × SV × SV × List Msg × List Msg) [7, 8, 9] [0, 1, 2, 6] (fun x => [x.2.1.v, x.2.2.1.v, .int .i64 x.1]) (fun x => [sl false x.2.1.v x.2.2.2.1, fzl x.2.2.2.1, sl false x.2.2.1.v x.2.2.2.2, fzl x.2.2.2.2])
    (fun x => x.1 ≤ ms.length ∧ x.2.2.2.1.length ≤ x.1 ∧ x.2.2.2.2.length ≤ x.1 ∧ x.2.2.2.1.map SL.d = carry ((ms.take x.1).map MsgC.ab) a ∧ x.2.2.2.2.map SL.d = carry ((ms.take x.1).map MsgC.ab) b) (fun x => ms.length - x.1)
    (0, ⟨none, 0, 0⟩, ⟨none, 0, 0⟩, [], []) (by (repeat (first | exact TakeL.nil | (apply TakeL.cons; focus ((first | exact TakeA.dupS | exact TakeA.dupF | ((repeat (first | with_reducible exact TakeA.here | exact TakeA.fam (by omega) (by omega) | with_reducible apply TakeA.next)); done) | ((repeat (first | exact TakeA.here | apply TakeA.next)); done) | exact TakeA.famNil | exact TakeA.nilS))) | fail)); done) rfl ⟨by omega, Nat.le_refl _, Nat.le_refl _, (by unfold carry; rfl), (by unfold carry; rfl)⟩ fun x u hx => ?_
  obtain ⟨k, sx, sy, xs, ys⟩ := x
  simp only at hx ⊢
  obtain ⟨hk, hl1, hl2, ha, hb⟩ := hx
  have hw := wrapSucc (k := k) (by omega)
  by_cases hin : k < ms.length
  · have hca := carry_snoc (a := a) hin
    have hcb := carry_snoc (a := b) hin
    have hx2 : (xs ++ [(ix ms (k : Int)).d]).length ≤ k + 1 := by simp; omega
    have hy2 : (ys ++ [(ix ms (k : Int)).d]).length ≤ k + 1 := by simp; omega
    have hx3 : xs.length ≤ k + 1 := by omega
    have hy3 : ys.length ≤ k + 1 := by omega
    by_cases ea : (ix ms (k : Int)).ch = a
    · rw [if_pos ea] at hca
      have hxa : (xs ++ [(ix ms (k : Int)).d]).map SL.d = carry ((ms.take (k + 1)).map MsgC.ab) a := by rw [hca, List.map_append, ha]; rfl
      by_cases eb : (ix ms (k : Int)).ch = b
      · rw [if_pos eb] at hcb
        have hyb : (ys ++ [(ix ms (k : Int)).d]).map SL.d = carry ((ms.take (k + 1)).map MsgC.ab) b := by rw [hcb, List.map_append, hb]; rfl
        clear hca hcb
        ((try simp only [WKb, ↓reduceIte, Nat.reduceEqDiff]) <;> (repeat' ((first
    | (refine G.tr ?_; first | refine S.a ?_ | refine Tr.brK ?_ ?_ | (refine G.call 60 ?_; first | refine S.c ?_ (h := same2_ok ?_) | refine S.c ?_ (h := same18_ok)) | refine S.n fun _ => ?_ | refine S.i fun hix => ?_ | (refine S.g fun hb => ?_; (try simp only [hb])) | (refine S.s (fun hb => ?_) (fun hb => ?_) <;> ((try simp only [hb]) <;> (try (have hp := hb; simp only [WKs] at hp; (try have hq := Int.not_le.2 hp); (try have hq := Int.not_lt.2 hp))))))
    | rintro _ _ ⟨rfl, rfl⟩
    | ((fail_if_success refine G.tr ?_); exact G.prop S.p)
    | fail) <;> (try simp only [WKb, ↓reduceIte, Nat.reduceEqDiff, hw]))))
        all_goals (apply Tr.againE ((k + 1, _, _, xs ++ [(ix ms (k : Int)).d], ys ++ [(ix ms (k : Int)).d])); (focus (simp only [WKb, ↓reduceIte, Nat.reduceEqDiff])); (focus ((try simp only [WKb, ↓reduceIte, Nat.reduceEqDiff]); (all_goals ((repeat (refine cons_eq (by first | rfl | (simp [*]; done)) ?_)); rfl)); done)); rotate_left 2; (focus (((try clear hK) <;> (try simp only [WKe, *]) <;> repeat (first | with_reducible exact EntR.done | refine S.e ?_ | (refine S.f ?_ <;> (try simp only [WKe, ↓reduceIte, reduceCtorEq, Int.reduceEq, *])) | with_reducible apply EntR.ex | refine EntR.drop (F := F) ?_ | refine EntR.drop ?_)))); (focus (first | omega | assumption | (simp only []; omega) | (refine ⟨by omega, by assumption⟩) | (simp only []; refine ⟨by omega, by assumption⟩) | ((try simp only []); (repeat' (first | omega | assumption | apply hxa | apply hyb | apply hx2 | apply hy2 | refine And.intro ?_ ?_)); done))); (focus (first | omega | (simp only []; omega))))
      · rw [if_neg eb, List.append_nil] at hcb
        have hyb : ys.map SL.d = carry ((ms.take (k + 1)).map MsgC.ab) b := by rw [hcb, hb]
        clear hca hcb
        ((try simp only [WKb, ↓reduceIte, Nat.reduceEqDiff]) <;> (repeat' ((first
    | (refine G.tr ?_; first | refine S.a ?_ | refine Tr.brK ?_ ?_ | (refine G.call 60 ?_; first | refine S.c ?_ (h := same2_ok ?_) | refine S.c ?_ (h := same18_ok)) | refine S.n fun _ => ?_ | refine S.i fun hix => ?_ | (refine S.g fun hb => ?_; (try simp only [hb])) | (refine S.s (fun hb => ?_) (fun hb => ?_) <;> ((try simp only [hb]) <;> (try (have hp := hb; simp only [WKs] at hp; (try have hq := Int.not_le.2 hp); (try have hq := Int.not_lt.2 hp))))))
    | rintro _ _ ⟨rfl, rfl⟩
    | ((fail_if_success refine G.tr ?_); exact G.prop S.p)
    | fail) <;> (try simp only [WKb, ↓reduceIte, Nat.reduceEqDiff, hw]))))
        all_goals (apply Tr.againE ((k + 1, _, _, xs ++ [(ix ms (k : Int)).d], ys)); (focus (simp only [WKb, ↓reduceIte, Nat.reduceEqDiff])); (focus ((try simp only [WKb, ↓reduceIte, Nat.reduceEqDiff]); (all_goals ((repeat (refine cons_eq (by first | rfl | (simp [*]; done)) ?_)); rfl)); done)); rotate_left 2; (focus (((try clear hK) <;> (try simp only [WKe, *]) <;> repeat (first | with_reducible exact EntR.done | refine S.e ?_ | (refine S.f ?_ <;> (try simp only [WKe, ↓reduceIte, reduceCtorEq, Int.reduceEq, *])) | with_reducible apply EntR.ex | refine EntR.drop (F := F) ?_ | refine EntR.drop ?_)))); (focus (first | omega | assumption | (simp only []; omega) | (refine ⟨by omega, by assumption⟩) | (simp only []; refine ⟨by omega, by assumption⟩) | ((try simp only []); (repeat' (first | omega | assumption | apply hxa | apply hyb | apply hx2 | apply hy3 | refine And.intro ?_ ?_)); done))); (focus (first | omega | (simp only []; omega))))
    · rw [if_neg ea, List.append_nil] at hca
      have hxa : xs.map SL.d = carry ((ms.take (k + 1)).map MsgC.ab) a := by rw [hca, ha]
      by_cases eb : (ix ms (k : Int)).ch = b
      · rw [if_pos eb] at hcb
        have hyb : (ys ++ [(ix ms (k : Int)).d]).map SL.d = carry ((ms.take (k + 1)).map MsgC.ab) b := by rw [hcb, List.map_append, hb]; rfl
        clear hca hcb
        ((try simp only [WKb, ↓reduceIte, Nat.reduceEqDiff]) <;> (repeat' ((first
    | (refine G.tr ?_; first | refine S.a ?_ | refine Tr.brK ?_ ?_ | (refine G.call 60 ?_; first | refine S.c ?_ (h := same2_ok ?_) | refine S.c ?_ (h := same18_ok)) | refine S.n fun _ => ?_ | refine S.i fun hix => ?_ | (refine S.g fun hb => ?_; (try simp only [hb])) | (refine S.s (fun hb => ?_) (fun hb => ?_) <;> ((try simp only [hb]) <;> (try (have hp := hb; simp only [WKs] at hp; (try have hq := Int.not_le.2 hp); (try have hq := Int.not_lt.2 hp))))))
    | rintro _ _ ⟨rfl, rfl⟩
    | ((fail_if_success refine G.tr ?_); exact G.prop S.p)
    | fail) <;> (try simp only [WKb, ↓reduceIte, Nat.reduceEqDiff, hw]))))
        all_goals (apply Tr.againE ((k + 1, _, _, xs, ys ++ [(ix ms (k : Int)).d])); (focus (simp only [WKb, ↓reduceIte, Nat.reduceEqDiff])); (focus ((try simp only [WKb, ↓reduceIte, Nat.reduceEqDiff]); (all_goals ((repeat (refine cons_eq (by first | rfl | (simp [*]; done)) ?_)); rfl)); done)); rotate_left 2; (focus (((try clear hK) <;> (try simp only [WKe, *]) <;> repeat (first | with_reducible exact EntR.done | refine S.e ?_ | (refine S.f ?_ <;> (try simp only [WKe, ↓reduceIte, reduceCtorEq, Int.reduceEq, *])) | with_reducible apply EntR.ex | refine EntR.drop (F := F) ?_ | refine EntR.drop ?_)))); (focus (first | omega | assumption | (simp only []; omega) | (refine ⟨by omega, by assumption⟩) | (simp only []; refine ⟨by omega, by assumption⟩) | ((try simp only []); (repeat' (first | omega | assumption | apply hxa | apply hyb | apply hx3 | apply hy2 | refine And.intro ?_ ?_)); done))); (focus (first | omega | (simp only []; omega))))
      · rw [if_neg eb, List.append_nil] at hcb
        have hyb : ys.map SL.d = carry ((ms.take (k + 1)).map MsgC.ab) b := by rw [hcb, hb]
        clear hca hcb
        ((try simp only [WKb, ↓reduceIte, Nat.reduceEqDiff]) <;> (repeat' ((first
    | (refine G.tr ?_; first | refine S.a ?_ | refine Tr.brK ?_ ?_ | (refine G.call 60 ?_; first | refine S.c ?_ (h := same2_ok ?_) | refine S.c ?_ (h := same18_ok)) | refine S.n fun _ => ?_ | refine S.i fun hix => ?_ | (refine S.g fun hb => ?_; (try simp only [hb])) | (refine S.s (fun hb => ?_) (fun hb => ?_) <;> ((try simp only [hb]) <;> (try (have hp := hb; simp only [WKs] at hp; (try have hq := Int.not_le.2 hp); (try have hq := Int.not_lt.2 hp))))))
    | rintro _ _ ⟨rfl, rfl⟩
    | ((fail_if_success refine G.tr ?_); exact G.prop S.p)
    | fail) <;> (try simp only [WKb, ↓reduceIte, Nat.reduceEqDiff, hw]))))
        all_goals (apply Tr.againE ((k + 1, _, _, xs, ys)); (focus (simp only [WKb, ↓reduceIte, Nat.reduceEqDiff])); (focus ((try simp only [WKb, ↓reduceIte, Nat.reduceEqDiff]); (all_goals ((repeat (refine cons_eq (by first | rfl | (simp [*]; done)) ?_)); rfl)); done)); rotate_left 2; (focus (((try clear hK) <;> (try simp only [WKe, *]) <;> repeat (first | with_reducible exact EntR.done | refine S.e ?_ | (refine S.f ?_ <;> (try simp only [WKe, ↓reduceIte, reduceCtorEq, Int.reduceEq, *])) | with_reducible apply EntR.ex | refine EntR.drop (F := F) ?_ | refine EntR.drop ?_)))); (focus (first | omega | assumption | (simp only []; omega) | (refine ⟨by omega, by assumption⟩) | (simp only []; refine ⟨by omega, by assumption⟩) | ((try simp only []); (repeat' (first | omega | assumption | apply hxa | apply hyb | apply hx3 | apply hy3 | refine And.intro ?_ ?_)); done))); (focus (first | omega | (simp only []; omega))))
  · obtain rfl : k = ms.length := by omega
    rw [List.take_length] at ha hb
    have hxy : xs.map SL.d = ys.map SL.d := ha.trans (h.trans hb.symm)
    clear ha hb
    ((try simp only [WKb, ↓reduceIte, Nat.reduceEqDiff]) <;> (repeat' ((first
    | (refine G.tr ?_; first | (refine G.call 60 ?_; first | (refine S.kL ?_ (h := same2_ok (xs := xs) (ys := ys) hxy); rintro _ _ ⟨rfl, rfl⟩) | refine Tr.freezeAt (α := Msg) (by (repeat (first | exact TakeA.here | apply TakeA.next)); done) ?_) | refine S.a ?_ | refine Tr.brK ?_ ?_ | (refine G.call 60 ?_; first | refine S.c ?_ (h := same2_ok ?_) | refine S.c ?_ (h := same18_ok)) | refine S.n fun _ => ?_ | refine S.i fun hix => ?_ | (refine S.g fun hb => ?_; (try simp only [hb])) | (refine S.s (fun hb => ?_) (fun hb => ?_) <;> ((try simp only [hb]) <;> (try (have hp := hb; simp only [WKs] at hp; (try have hq := Int.not_le.2 hp); (try have hq := Int.not_lt.2 hp))))))
    | rintro _ _ ⟨rfl, rfl⟩
    | ((fail_if_success refine G.tr ?_); exact G.prop S.p)
    | fail) <;> (try simp only [WKb, ↓reduceIte, Nat.reduceEqDiff]))))
    all_goals
      refine Tr.fin hK ⟨rfl, rfl⟩ ?_
      ((try clear hK) <;> (try simp only [WKe, *]) <;> repeat (first | with_reducible exact EntR.done | refine S.e ?_ | (refine S.f ?_ <;> (try simp only [WKe, ↓reduceIte, reduceCtorEq, Int.reduceEq, *])) | with_reducible apply EntR.ex | refine EntR.drop (F := F) ?_ | refine EntR.drop ?_))
theorem lonce_ok {c : ConfC} {ps : List PartD} {chs : List ChanC} {mds : List ModeD} {ls : List LevelC} {ns : List NapC} {ds us : List Int} {s0 : SV} {l : List Act19} {part : Int} : Trip Try.prog 7 [.agg (En.enc c).toArray, s0.v, .int .i64 part].toArray [sl true c.parts.v ps, fzl ps, sl true c.chans.v chs, sl true c.modes.v mds, fzl mds, sl true c.levels.v ls, sl true c.naps.v ns, sl true c.down.v ds, sl true c.up.v us, sl true s0.v l, fzl l] fun v l' => v = .bool true ∧ l' = [] := by
  intro F K hK
  simp only [List.cons_append, List.nil_append]
  obtain ⟨c1, c2, c3, c4, c5, c6, c7, c8, c9, c10, c11, c12, c13⟩ := c
  have hSh := short08_ok (c := ⟨c1, c2, c3, c4, c5, c6, c7, c8, c9, c10, c11, c12, c13⟩) (hd := ⟨rfl⟩) (ps := ps) (chs := chs) (ms := mds) (ls := ls) (ns := ns) (ds := ds) (us := us)
  (refine Tr.enter (rs := [.tmp 6]) mixed fn7 rfl (by simp +arith [Try.ntmps7]) fun u => ?_; simp only [cd7, Try.f7])
  ((try simp only [WKb, ↓reduceIte, Nat.reduceEqDiff, Nat.reduceAdd]) <;> (repeat' ((first
    | (refine G.tr ?_; first | (refine G.call 23 ?_; refine S.kL ?_ (h := hSh); rintro _ _ ⟨b, hshort, rfl, rfl⟩; cases b <;> try (obtain ⟨hs1, hs2⟩ := hshort rfl)) | (refine G.call 25 ?_; refine S.kL ?_ (h := made_ok (c := ⟨c1, c2, c3, c4, c5, c6, c7, c8, c9, c10, c11, c12, c13⟩) (hd := ⟨rfl⟩) (ps := ps) (by omega)); rintro _ _ ⟨s, t, Gm, Rm, hmv, hmr, hma, hmb, rfl, rfl⟩) | refine S.a ?_ | refine Tr.brK ?_ ?_ | (refine G.call 23 ?_; refine S.c ?_ (h := short08_ok)) | (refine G.call 24 ?_; refine S.c ?_ (h := works19_ok)) | (refine G.call 25 ?_; refine S.c ?_ (h := made_ok ?_)) | (refine G.call 27 ?_; refine S.c ?_ (h := flush_ok ?_ ?_ ?_)) | (refine G.call 28 ?_; refine S.c ?_ (h := outs_ok)) | (refine G.call 30 ?_; refine S.c ?_ (h := routs_ok)) | refine S.n fun _ => ?_ | refine S.i fun hix => ?_ | (refine S.g fun hb => ?_; (try simp only [hb])) | (refine S.s (fun hb => ?_) (fun hb => ?_) <;> ((try simp only [hb]) <;> (try (have hp := hb; simp only [WKs] at hp; (try have hq := Int.not_le.2 hp); (try have hq := Int.not_lt.2 hp))))))
    | rintro _ _ ⟨rfl, rfl⟩
    | rintro _ _ ⟨_, rfl, rfl⟩
    | rintro _ _ ⟨_, hshort, rfl, rfl⟩
    | rintro _ _ ⟨_, _, Gm, Rm, hmv, hmr, hma, hmb, rfl, rfl⟩
    | rintro _ _ ⟨Gf2, _, _, hfm2, hfv2, hfp2, hfa2, rfl, rfl⟩
    | ((fail_if_success refine G.tr ?_); exact G.prop S.p)
    | fail) <;> (try simp only [WKb, ↓reduceIte, Nat.reduceEqDiff]))))
  · refine Tr.fin hK ⟨(by first | (simp [*]; done) | (simp only [WKe, ↓reduceIte, reduceCtorEq, Int.reduceEq, eq_self, *]; done) | (simp only [WKe, ↓reduceIte, reduceCtorEq, Int.reduceEq, *]; rfl)), rfl⟩ ?_
    ((try clear hK) <;> (try simp only [WKe, *]) <;> repeat (first | with_reducible exact EntR.done | refine S.e ?_ | (refine S.f ?_ <;> (try simp only [WKe, ↓reduceIte, reduceCtorEq, Int.reduceEq, *])) | with_reducible apply EntR.ex | refine EntR.drop (F := F) ?_ | refine EntR.drop ?_))
  have hI0 := made_inv hmv hmr hma hmb
  have hS0 : fewS 0 (Gm.map PG.ab) := by rw [hma]; exact fewS_new
  refine Tr.freezeAt (α := Pt) (xs := Gm.map PG.pt) (by (repeat (first | exact TakeA.here | apply TakeA.next)); done) ?_
  refine Tr.freezeAt (α := Pt) (xs := Rm.map RG.pt) (by (repeat (first | exact TakeA.here | apply TakeA.next)); done) ?_
  refine Tr.loopE (α := Nat × List PG × List RG) [6, 9] [1, 2, 3, 7, 8] (fun x => [.bool false, .int .i64 x.1]) (fun x => [fam portsA x.2.1, fam refA x.2.2]) (fun x => x.1 ≤ l.length ∧ x.1 ≤ 40 ∧ Inv19 x.2.1 x.2.2 (4096 * x.1 + 1) ∧ x.2.1.map PG.pt = Gm.map PG.pt ∧ x.2.2.map RG.pt = Rm.map RG.pt ∧ fewS x.1 (x.2.1.map PG.ab)) (fun x => l.length - x.1) (0, Gm, Rm) (by (repeat (first | exact TakeL.nil | (apply TakeL.cons; focus ((first | exact TakeA.dupS | exact TakeA.dupF | ((repeat (first | with_reducible exact TakeA.here | exact TakeA.fam (by omega) (by omega) | with_reducible apply TakeA.next)); done) | ((repeat (first | exact TakeA.here | apply TakeA.next)); done) | exact TakeA.famNil | exact TakeA.nilS))) | fail)); done) rfl ⟨by omega, by omega, hI0, rfl, rfl, hS0⟩ fun x u hx => ?_
  obtain ⟨k, Gs, Rs⟩ := x
  simp only at hx ⊢
  obtain ⟨hk, h40, hI, hg, hr, hS⟩ := hx
  have hw := wrapSucc (k := k) (by omega)
  by_cases hin : k < l.length ∧ k < 40
  · obtain ⟨hi1, hi2⟩ := hin
    by_cases hb : (ix l (k : Int)).b.d.length ≤ 300
    · have hD := done19_ok (c := ⟨c1, c2, c3, c4, c5, c6, c7, c8, c9, c10, c11, c12, c13⟩) (hd := ⟨rfl⟩) (chs := chs) (s := s) (t := t) (a := ix l (k : Int)) hI (by omega) hb
      rw [hg, hr] at hD
      ((try simp only [WKb, ↓reduceIte, Nat.reduceEqDiff]) <;> (repeat' ((first
    | (refine G.tr ?_; first | (refine G.call 26 ?_; refine S.kL ?_ (h := hD); rintro _ _ ⟨Gs2, Rs2, hI2, hg2, hr2, hd2, rfl, rfl⟩) | refine S.a ?_ | refine Tr.brK ?_ ?_ | (refine G.call 23 ?_; refine S.c ?_ (h := short08_ok)) | (refine G.call 24 ?_; refine S.c ?_ (h := works19_ok)) | (refine G.call 25 ?_; refine S.c ?_ (h := made_ok ?_)) | (refine G.call 27 ?_; refine S.c ?_ (h := flush_ok ?_ ?_ ?_)) | (refine G.call 28 ?_; refine S.c ?_ (h := outs_ok)) | (refine G.call 30 ?_; refine S.c ?_ (h := routs_ok)) | refine S.n fun _ => ?_ | refine S.i fun hix => ?_ | (refine S.g fun hb => ?_; (try simp only [hb])) | (refine S.s (fun hb => ?_) (fun hb => ?_) <;> ((try simp only [hb]) <;> (try (have hp := hb; simp only [WKs] at hp; (try have hq := Int.not_le.2 hp); (try have hq := Int.not_lt.2 hp))))))
    | rintro _ _ ⟨rfl, rfl⟩
    | rintro _ _ ⟨_, rfl, rfl⟩
    | rintro _ _ ⟨_, hshort, rfl, rfl⟩
    | rintro _ _ ⟨_, _, Gm, Rm, hmv, hmr, hma, hmb, rfl, rfl⟩
    | rintro _ _ ⟨Gf2, _, _, hfm2, hfv2, hfp2, hfa2, rfl, rfl⟩
    | ((fail_if_success refine G.tr ?_); exact G.prop S.p)
    | fail) <;> (try simp only [WKb, ↓reduceIte, Nat.reduceEqDiff, pl7, hw]))))
      all_goals
        have hI3 : Inv19 Gs2 Rs2 (4096 * (k + 1) + 1) := hI2.up (by omega)
        have hS3 : fewS (k + 1) (Gs2.map PG.ab) := by rw [hd2]; exact fewS_done hS
        clear hd2
        (apply Tr.againE ((k + 1, Gs2, Rs2)); (focus (simp only [WKb, ↓reduceIte, Nat.reduceEqDiff])); (focus ((try simp only [WKb, ↓reduceIte, Nat.reduceEqDiff]); (all_goals ((repeat (refine cons_eq (by first | rfl | (simp [*]; done)) ?_)); rfl)); done)); rotate_left 2; (focus (((try clear hK) <;> (try simp only [WKe, *]) <;> repeat (first | with_reducible exact EntR.done | refine S.e ?_ | (refine S.f ?_ <;> (try simp only [WKe, ↓reduceIte, reduceCtorEq, Int.reduceEq, *])) | with_reducible apply EntR.ex | refine EntR.drop (F := F) ?_ | refine EntR.drop ?_)))); (focus (first | omega | assumption | (simp only []; omega) | (refine ⟨by omega, by assumption⟩) | (simp only []; refine ⟨by omega, by assumption⟩) | ((try simp only []); (repeat' (first | omega | assumption | apply hI3 | apply hg2 | apply hr2 | apply hS3 | refine And.intro ?_ ?_)); done))); (focus (first | omega | (simp only []; omega))))
    · ((try simp only [WKb, ↓reduceIte, Nat.reduceEqDiff]) <;> (repeat' ((first
    | (refine G.tr ?_; first | refine S.a ?_ | refine Tr.brK ?_ ?_ | (refine G.call 23 ?_; refine S.c ?_ (h := short08_ok)) | (refine G.call 24 ?_; refine S.c ?_ (h := works19_ok)) | (refine G.call 25 ?_; refine S.c ?_ (h := made_ok ?_)) | (refine G.call 27 ?_; refine S.c ?_ (h := flush_ok ?_ ?_ ?_)) | (refine G.call 28 ?_; refine S.c ?_ (h := outs_ok)) | (refine G.call 30 ?_; refine S.c ?_ (h := routs_ok)) | refine S.n fun _ => ?_ | refine S.i fun hix => ?_ | (refine S.g fun hb => ?_; (try simp only [hb])) | (refine S.s (fun hb => ?_) (fun hb => ?_) <;> ((try simp only [hb]) <;> (try (have hp := hb; simp only [WKs] at hp; (try have hq := Int.not_le.2 hp); (try have hq := Int.not_lt.2 hp))))))
    | rintro _ _ ⟨rfl, rfl⟩
    | rintro _ _ ⟨_, rfl, rfl⟩
    | rintro _ _ ⟨_, hshort, rfl, rfl⟩
    | rintro _ _ ⟨_, _, Gm, Rm, hmv, hmr, hma, hmb, rfl, rfl⟩
    | rintro _ _ ⟨Gf2, _, _, hfm2, hfv2, hfp2, hfa2, rfl, rfl⟩
    | ((fail_if_success refine G.tr ?_); exact G.prop S.p)
    | fail) <;> (try simp only [WKb, ↓reduceIte, Nat.reduceEqDiff]))))
      all_goals
        refine Tr.fin hK ⟨(by first | (simp [*]; done) | (simp only [WKe, ↓reduceIte, reduceCtorEq, Int.reduceEq, eq_self, *]; done) | (simp only [WKe, ↓reduceIte, reduceCtorEq, Int.reduceEq, *]; rfl)), rfl⟩ ?_
        ((try clear hK) <;> (try simp only [WKe, *]) <;> repeat (first | with_reducible exact EntR.done | refine S.e ?_ | (refine S.f ?_ <;> (try simp only [WKe, ↓reduceIte, reduceCtorEq, Int.reduceEq, *])) | with_reducible apply EntR.ex | refine EntR.drop (F := F) ?_ | refine EntR.drop ?_))
  · have hF1 := flush_ok (c := ⟨c1, c2, c3, c4, c5, c6, c7, c8, c9, c10, c11, c12, c13⟩) (hd := ⟨rfl⟩) (chs := chs) (part := part) (win := 1) (all := s) hI.v (by omega) (okS_ix hI.ok)
    rw [hg] at hF1
    ((try simp only [WKb, ↓reduceIte, Nat.reduceEqDiff]) <;> (repeat' ((first
    | (refine G.tr ?_; first | (refine G.call 27 ?_; first | (refine S.kL ?_ (h := hF1); rintro _ _ ⟨G1, s1, m1, hm1, hv1, hp1, ha1, rfl, rfl⟩; have hF2 := flush_ok (c := ⟨c1, c2, c3, c4, c5, c6, c7, c8, c9, c10, c11, c12, c13⟩) (hd := ⟨rfl⟩) (chs := chs) (part := part) (win := 2) (all := s) hv1 (by omega) (by rw [ha1]; exact okS_ix (okS_flush hI.ok)); rw [hp1] at hF2) | (refine S.kL ?_ (h := hF2); rintro _ _ ⟨G2, s2, m2, hm2, hv2, hp2, ha2, rfl, rfl⟩; rw [ha1, flush_twice] at hm2; obtain rfl : m2 = [] := List.map_eq_nil_iff.1 hm2)) | (refine G.call 29 ?_; first | (refine S.kL ?_ (h := sameI_ok (xs := outsA chs part)); rintro _ _ ⟨rfl, rfl⟩) | refine Tr.freezeAt (α := Int) (xs := outsA chs part) (by (repeat (first | exact TakeA.here | apply TakeA.next)); done) ?_) | refine S.a ?_ | refine Tr.brK ?_ ?_ | (refine G.call 23 ?_; refine S.c ?_ (h := short08_ok)) | (refine G.call 24 ?_; refine S.c ?_ (h := works19_ok)) | (refine G.call 25 ?_; refine S.c ?_ (h := made_ok ?_)) | (refine G.call 27 ?_; refine S.c ?_ (h := flush_ok ?_ ?_ ?_)) | (refine G.call 28 ?_; refine S.c ?_ (h := outs_ok)) | (refine G.call 30 ?_; refine S.c ?_ (h := routs_ok)) | refine S.n fun _ => ?_ | refine S.i fun hix => ?_ | (refine S.g fun hb => ?_; (try simp only [hb])) | (refine S.s (fun hb => ?_) (fun hb => ?_) <;> ((try simp only [hb]) <;> (try (have hp := hb; simp only [WKs] at hp; (try have hq := Int.not_le.2 hp); (try have hq := Int.not_lt.2 hp))))))
    | rintro _ _ ⟨rfl, rfl⟩
    | rintro _ _ ⟨_, rfl, rfl⟩
    | rintro _ _ ⟨_, hshort, rfl, rfl⟩
    | rintro _ _ ⟨_, _, Gm, Rm, hmv, hmr, hma, hmb, rfl, rfl⟩
    | rintro _ _ ⟨Gf2, _, _, hfm2, hfv2, hfp2, hfa2, rfl, rfl⟩
    | ((fail_if_success refine G.tr ?_); exact G.prop S.p)
    | fail) <;> (try simp only [WKb, ↓reduceIte, Nat.reduceEqDiff]))))
    all_goals
      have hml : m1.length ≤ 4096 := by
        have := congrArg List.length hm1
        rw [List.length_map] at this
        rw [this]; exact flushA_len
      clear hF1 hF2
      refine Tr.freezeAt (α := MsgC) (xs := m1) (by (repeat (first | exact TakeA.here | apply TakeA.next)); done) ?_
      refine Tr.loopE (α := Nat) [6, 12] [2, 3, 10, 11] (fun j => [.bool false, .int .i64 j]) (fun _ => []) (fun j => j ≤ m1.length) (fun j => m1.length - j) 0 (by (repeat (first | exact TakeL.nil | (apply TakeL.cons; focus ((first | exact TakeA.dupS | exact TakeA.dupF | ((repeat (first | with_reducible exact TakeA.here | exact TakeA.fam (by omega) (by omega) | with_reducible apply TakeA.next)); done) | ((repeat (first | exact TakeA.here | apply TakeA.next)); done) | exact TakeA.famNil | exact TakeA.nilS))) | fail)); done) rfl (by omega) fun j u hj => ?_
      have hwj := wrapSucc (k := j) (by omega)
      by_cases hinj : j < m1.length
      · obtain ⟨q1, q2, q3, q4, q5⟩ := flush_at hm1 hinj
        by_cases hj0 : 0 < j
        · have q6 := q5 hj0
          have hwp : IntKind.i64.wrap ((j : Int) - 1) = (j : Int) - 1 := wrapId (by omega) (by omega)
          clear q5
          ((try simp only [WKb, ↓reduceIte, Nat.reduceEqDiff]) <;> (repeat' ((first
    | (refine G.tr ?_; first | refine S.a ?_ | refine Tr.brK ?_ ?_ | (refine G.call 23 ?_; refine S.c ?_ (h := short08_ok)) | (refine G.call 24 ?_; refine S.c ?_ (h := works19_ok)) | (refine G.call 25 ?_; refine S.c ?_ (h := made_ok ?_)) | (refine G.call 27 ?_; refine S.c ?_ (h := flush_ok ?_ ?_ ?_)) | (refine G.call 28 ?_; refine S.c ?_ (h := outs_ok)) | (refine G.call 30 ?_; refine S.c ?_ (h := routs_ok)) | refine S.n fun _ => ?_ | refine S.i fun hix => ?_ | (refine S.g fun hb => ?_; (try simp only [hb])) | (refine S.s (fun hb => ?_) (fun hb => ?_) <;> ((try simp only [hb]) <;> (try (have hp := hb; simp only [WKs] at hp; (try have hq := Int.not_le.2 hp); (try have hq := Int.not_lt.2 hp))))))
    | rintro _ _ ⟨rfl, rfl⟩
    | rintro _ _ ⟨_, rfl, rfl⟩
    | rintro _ _ ⟨_, hshort, rfl, rfl⟩
    | rintro _ _ ⟨_, _, Gm, Rm, hmv, hmr, hma, hmb, rfl, rfl⟩
    | rintro _ _ ⟨Gf2, _, _, hfm2, hfv2, hfp2, hfa2, rfl, rfl⟩
    | ((fail_if_success refine G.tr ?_); exact G.prop S.p)
    | fail) <;> (try simp only [WKb, ↓reduceIte, Nat.reduceEqDiff, pl7, hwj, hwp, q1, q4]))))
          all_goals (apply Tr.againE (j + 1); (focus (simp only [WKb, ↓reduceIte, Nat.reduceEqDiff])); (focus ((try simp only [WKb, ↓reduceIte, Nat.reduceEqDiff]); (all_goals ((repeat (refine cons_eq (by first | rfl | (simp [*]; done)) ?_)); rfl)); done)); (focus (first | omega | assumption | (simp only []; omega) | (refine ⟨by omega, by assumption⟩) | (simp only []; refine ⟨by omega, by assumption⟩) | ((try simp only []); (repeat' (first | omega | assumption | refine And.intro ?_ ?_)); done))); (focus (first | omega | (simp only []; omega))); (focus (((try clear hK) <;> (try simp only [WKe, *]) <;> repeat (first | with_reducible exact EntR.done | refine S.e ?_ | (refine S.f ?_ <;> (try simp only [WKe, ↓reduceIte, reduceCtorEq, Int.reduceEq, *])) | with_reducible apply EntR.ex | refine EntR.drop (F := F) ?_ | refine EntR.drop ?_)))))
        · clear q5
          ((try simp only [WKb, ↓reduceIte, Nat.reduceEqDiff]) <;> (repeat' ((first
    | (refine G.tr ?_; first | refine S.a ?_ | refine Tr.brK ?_ ?_ | (refine G.call 23 ?_; refine S.c ?_ (h := short08_ok)) | (refine G.call 24 ?_; refine S.c ?_ (h := works19_ok)) | (refine G.call 25 ?_; refine S.c ?_ (h := made_ok ?_)) | (refine G.call 27 ?_; refine S.c ?_ (h := flush_ok ?_ ?_ ?_)) | (refine G.call 28 ?_; refine S.c ?_ (h := outs_ok)) | (refine G.call 30 ?_; refine S.c ?_ (h := routs_ok)) | refine S.n fun _ => ?_ | refine S.i fun hix => ?_ | (refine S.g fun hb => ?_; (try simp only [hb])) | (refine S.s (fun hb => ?_) (fun hb => ?_) <;> ((try simp only [hb]) <;> (try (have hp := hb; simp only [WKs] at hp; (try have hq := Int.not_le.2 hp); (try have hq := Int.not_lt.2 hp))))))
    | rintro _ _ ⟨rfl, rfl⟩
    | rintro _ _ ⟨_, rfl, rfl⟩
    | rintro _ _ ⟨_, hshort, rfl, rfl⟩
    | rintro _ _ ⟨_, _, Gm, Rm, hmv, hmr, hma, hmb, rfl, rfl⟩
    | rintro _ _ ⟨Gf2, _, _, hfm2, hfv2, hfp2, hfa2, rfl, rfl⟩
    | ((fail_if_success refine G.tr ?_); exact G.prop S.p)
    | fail) <;> (try simp only [WKb, ↓reduceIte, Nat.reduceEqDiff, pl7, hwj, q1, q4]))))
          all_goals (apply Tr.againE (j + 1); (focus (simp only [WKb, ↓reduceIte, Nat.reduceEqDiff])); (focus ((try simp only [WKb, ↓reduceIte, Nat.reduceEqDiff]); (all_goals ((repeat (refine cons_eq (by first | rfl | (simp [*]; done)) ?_)); rfl)); done)); (focus (first | omega | assumption | (simp only []; omega) | (refine ⟨by omega, by assumption⟩) | (simp only []; refine ⟨by omega, by assumption⟩) | ((try simp only []); (repeat' (first | omega | assumption | refine And.intro ?_ ?_)); done))); (focus (first | omega | (simp only []; omega))); (focus (((try clear hK) <;> (try simp only [WKe, *]) <;> repeat (first | with_reducible exact EntR.done | refine S.e ?_ | (refine S.f ?_ <;> (try simp only [WKe, ↓reduceIte, reduceCtorEq, Int.reduceEq, *])) | with_reducible apply EntR.ex | refine EntR.drop (F := F) ?_ | refine EntR.drop ?_)))))
      · have hol : (outsA chs part).length ≤ 16 := Nat.le_trans outsN_len (Nat.min_le_right _ _)
        ((try simp only [WKb, ↓reduceIte, Nat.reduceEqDiff]) <;> (repeat' ((first
    | (refine G.tr ?_; first | refine S.a ?_ | refine Tr.brK ?_ ?_ | (refine G.call 23 ?_; refine S.c ?_ (h := short08_ok)) | (refine G.call 24 ?_; refine S.c ?_ (h := works19_ok)) | (refine G.call 25 ?_; refine S.c ?_ (h := made_ok ?_)) | (refine G.call 27 ?_; refine S.c ?_ (h := flush_ok ?_ ?_ ?_)) | (refine G.call 28 ?_; refine S.c ?_ (h := outs_ok)) | (refine G.call 30 ?_; refine S.c ?_ (h := routs_ok)) | refine S.n fun _ => ?_ | refine S.i fun hix => ?_ | (refine S.g fun hb => ?_; (try simp only [hb])) | (refine S.s (fun hb => ?_) (fun hb => ?_) <;> ((try simp only [hb]) <;> (try (have hp := hb; simp only [WKs] at hp; (try have hq := Int.not_le.2 hp); (try have hq := Int.not_lt.2 hp))))))
    | rintro _ _ ⟨rfl, rfl⟩
    | rintro _ _ ⟨_, rfl, rfl⟩
    | rintro _ _ ⟨_, hshort, rfl, rfl⟩
    | rintro _ _ ⟨_, _, Gm, Rm, hmv, hmr, hma, hmb, rfl, rfl⟩
    | rintro _ _ ⟨Gf2, _, _, hfm2, hfv2, hfp2, hfa2, rfl, rfl⟩
    | ((fail_if_success refine G.tr ?_); exact G.prop S.p)
    | fail) <;> (try simp only [WKb, ↓reduceIte, Nat.reduceEqDiff]))))
        refine Tr.loopE (α := Nat) [6, 13] [3, 10, 11] (fun j => [.bool false, .int .i64 j]) (fun _ => []) (fun j => j ≤ (outsA chs part).length) (fun j => (outsA chs part).length - j) 0 (by (repeat (first | exact TakeL.nil | (apply TakeL.cons; focus ((first | exact TakeA.dupS | exact TakeA.dupF | ((repeat (first | with_reducible exact TakeA.here | exact TakeA.fam (by omega) (by omega) | with_reducible apply TakeA.next)); done) | ((repeat (first | exact TakeA.here | apply TakeA.next)); done) | exact TakeA.famNil | exact TakeA.nilS))) | fail)); done) rfl (by omega) fun i u hi => ?_
        have hwi := wrapSucc (k := i) (by omega)
        by_cases hini : i < (outsA chs part).length
        · have hmi := ix_memN hini
          obtain ⟨i1, i2, i3⟩ := outs_memA hmi
          ((try simp only [WKb, ↓reduceIte, Nat.reduceEqDiff]) <;> (repeat' ((first
    | (refine G.tr ?_; first | refine S.a ?_ | refine Tr.brK ?_ ?_ | (refine G.call 23 ?_; refine S.c ?_ (h := short08_ok)) | (refine G.call 24 ?_; refine S.c ?_ (h := works19_ok)) | (refine G.call 25 ?_; refine S.c ?_ (h := made_ok ?_)) | (refine G.call 27 ?_; refine S.c ?_ (h := flush_ok ?_ ?_ ?_)) | (refine G.call 28 ?_; refine S.c ?_ (h := outs_ok)) | (refine G.call 30 ?_; refine S.c ?_ (h := routs_ok)) | refine S.n fun _ => ?_ | refine S.i fun hix => ?_ | (refine S.g fun hb => ?_; (try simp only [hb])) | (refine S.s (fun hb => ?_) (fun hb => ?_) <;> ((try simp only [hb]) <;> (try (have hp := hb; simp only [WKs] at hp; (try have hq := Int.not_le.2 hp); (try have hq := Int.not_lt.2 hp))))))
    | rintro _ _ ⟨rfl, rfl⟩
    | rintro _ _ ⟨_, rfl, rfl⟩
    | rintro _ _ ⟨_, hshort, rfl, rfl⟩
    | rintro _ _ ⟨_, _, Gm, Rm, hmv, hmr, hma, hmb, rfl, rfl⟩
    | rintro _ _ ⟨Gf2, _, _, hfm2, hfv2, hfp2, hfa2, rfl, rfl⟩
    | ((fail_if_success refine G.tr ?_); exact G.prop S.p)
    | fail) <;> (try simp only [WKb, ↓reduceIte, Nat.reduceEqDiff]))))
          refine Tr.loopE (α := Nat) [6, 14] [3, 10, 11, 13] (fun j => [.bool false, .int .i64 j]) (fun _ => []) (fun j => j ≤ i) (fun j => i - j) 0 (by (repeat (first | exact TakeL.nil | (apply TakeL.cons; focus ((first | exact TakeA.dupS | exact TakeA.dupF | ((repeat (first | with_reducible exact TakeA.here | exact TakeA.fam (by omega) (by omega) | with_reducible apply TakeA.next)); done) | ((repeat (first | exact TakeA.here | apply TakeA.next)); done) | exact TakeA.famNil | exact TakeA.nilS))) | fail)); done) rfl (by omega) fun p u hp => ?_
          have hwp := wrapSucc (k := p) (by omega)
          by_cases hinp : p < i
          · have hlp : p < (outsA chs part).length := by omega
            have hmp := ix_memN hlp
            obtain ⟨p1, p2, p3⟩ := outs_memA hmp
            by_cases hfo : (ix chs (ix (outsA chs part) (p : Int))).fo = (ix chs (ix (outsA chs part) (i : Int))).fo
            · have hsm : carry (m1.map MsgC.ab) (ix (outsA chs part) (p : Int)) = carry (m1.map MsgC.ab) (ix (outsA chs part) (i : Int)) := by rw [hm1]; exact flush_same hS (by omega) hmp hmi hfo
              ((try simp only [WKb, ↓reduceIte, Nat.reduceEqDiff]) <;> (repeat' ((first
    | (refine G.tr ?_; first | (refine G.call 31 ?_; refine S.kL ?_ (h := same19_ok (ms := m1) (by omega) hsm); rintro _ _ ⟨rfl, rfl⟩) | refine S.a ?_ | refine Tr.brK ?_ ?_ | (refine G.call 23 ?_; refine S.c ?_ (h := short08_ok)) | (refine G.call 24 ?_; refine S.c ?_ (h := works19_ok)) | (refine G.call 25 ?_; refine S.c ?_ (h := made_ok ?_)) | (refine G.call 27 ?_; refine S.c ?_ (h := flush_ok ?_ ?_ ?_)) | (refine G.call 28 ?_; refine S.c ?_ (h := outs_ok)) | (refine G.call 30 ?_; refine S.c ?_ (h := routs_ok)) | refine S.n fun _ => ?_ | refine S.i fun hix => ?_ | (refine S.g fun hb => ?_; (try simp only [hb])) | (refine S.s (fun hb => ?_) (fun hb => ?_) <;> ((try simp only [hb]) <;> (try (have hp := hb; simp only [WKs] at hp; (try have hq := Int.not_le.2 hp); (try have hq := Int.not_lt.2 hp))))))
    | rintro _ _ ⟨rfl, rfl⟩
    | rintro _ _ ⟨_, rfl, rfl⟩
    | rintro _ _ ⟨_, hshort, rfl, rfl⟩
    | rintro _ _ ⟨_, _, Gm, Rm, hmv, hmr, hma, hmb, rfl, rfl⟩
    | rintro _ _ ⟨Gf2, _, _, hfm2, hfv2, hfp2, hfa2, rfl, rfl⟩
    | ((fail_if_success refine G.tr ?_); exact G.prop S.p)
    | fail) <;> (try simp only [WKb, ↓reduceIte, Nat.reduceEqDiff, pl7, hwp, hfo]))))
              all_goals (apply Tr.againE (p + 1); (focus (simp only [WKb, ↓reduceIte, Nat.reduceEqDiff])); (focus ((try simp only [WKb, ↓reduceIte, Nat.reduceEqDiff]); (all_goals ((repeat (refine cons_eq (by first | rfl | (simp [*]; done)) ?_)); rfl)); done)); (focus (first | omega | assumption | (simp only []; omega) | (refine ⟨by omega, by assumption⟩) | (simp only []; refine ⟨by omega, by assumption⟩) | ((try simp only []); (repeat' (first | omega | assumption | refine And.intro ?_ ?_)); done))); (focus (first | omega | (simp only []; omega))); (focus (((try clear hK) <;> (try simp only [WKe, *]) <;> repeat (first | with_reducible exact EntR.done | refine S.e ?_ | (refine S.f ?_ <;> (try simp only [WKe, ↓reduceIte, reduceCtorEq, Int.reduceEq, *])) | with_reducible apply EntR.ex | refine EntR.drop (F := F) ?_ | refine EntR.drop ?_)))))
            · ((try simp only [WKb, ↓reduceIte, Nat.reduceEqDiff]) <;> (repeat' ((first
    | (refine G.tr ?_; first | refine S.a ?_ | refine Tr.brK ?_ ?_ | (refine G.call 23 ?_; refine S.c ?_ (h := short08_ok)) | (refine G.call 24 ?_; refine S.c ?_ (h := works19_ok)) | (refine G.call 25 ?_; refine S.c ?_ (h := made_ok ?_)) | (refine G.call 27 ?_; refine S.c ?_ (h := flush_ok ?_ ?_ ?_)) | (refine G.call 28 ?_; refine S.c ?_ (h := outs_ok)) | (refine G.call 30 ?_; refine S.c ?_ (h := routs_ok)) | refine S.n fun _ => ?_ | refine S.i fun hix => ?_ | (refine S.g fun hb => ?_; (try simp only [hb])) | (refine S.s (fun hb => ?_) (fun hb => ?_) <;> ((try simp only [hb]) <;> (try (have hp := hb; simp only [WKs] at hp; (try have hq := Int.not_le.2 hp); (try have hq := Int.not_lt.2 hp))))))
    | rintro _ _ ⟨rfl, rfl⟩
    | rintro _ _ ⟨_, rfl, rfl⟩
    | rintro _ _ ⟨_, hshort, rfl, rfl⟩
    | rintro _ _ ⟨_, _, Gm, Rm, hmv, hmr, hma, hmb, rfl, rfl⟩
    | rintro _ _ ⟨Gf2, _, _, hfm2, hfv2, hfp2, hfa2, rfl, rfl⟩
    | ((fail_if_success refine G.tr ?_); exact G.prop S.p)
    | fail) <;> (try simp only [WKb, ↓reduceIte, Nat.reduceEqDiff, pl7, hwp, hfo]))))
              all_goals (apply Tr.againE (p + 1); (focus (simp only [WKb, ↓reduceIte, Nat.reduceEqDiff])); (focus ((try simp only [WKb, ↓reduceIte, Nat.reduceEqDiff]); (all_goals ((repeat (refine cons_eq (by first | rfl | (simp [*]; done)) ?_)); rfl)); done)); (focus (first | omega | assumption | (simp only []; omega) | (refine ⟨by omega, by assumption⟩) | (simp only []; refine ⟨by omega, by assumption⟩) | ((try simp only []); (repeat' (first | omega | assumption | refine And.intro ?_ ?_)); done))); (focus (first | omega | (simp only []; omega))); (focus (((try clear hK) <;> (try simp only [WKe, *]) <;> repeat (first | with_reducible exact EntR.done | refine S.e ?_ | (refine S.f ?_ <;> (try simp only [WKe, ↓reduceIte, reduceCtorEq, Int.reduceEq, *])) | with_reducible apply EntR.ex | refine EntR.drop (F := F) ?_ | refine EntR.drop ?_)))))
          · ((try simp only [WKb, ↓reduceIte, Nat.reduceEqDiff]) <;> (repeat' ((first
    | (refine G.tr ?_; first | refine S.a ?_ | refine Tr.brK ?_ ?_ | (refine G.call 23 ?_; refine S.c ?_ (h := short08_ok)) | (refine G.call 24 ?_; refine S.c ?_ (h := works19_ok)) | (refine G.call 25 ?_; refine S.c ?_ (h := made_ok ?_)) | (refine G.call 27 ?_; refine S.c ?_ (h := flush_ok ?_ ?_ ?_)) | (refine G.call 28 ?_; refine S.c ?_ (h := outs_ok)) | (refine G.call 30 ?_; refine S.c ?_ (h := routs_ok)) | refine S.n fun _ => ?_ | refine S.i fun hix => ?_ | (refine S.g fun hb => ?_; (try simp only [hb])) | (refine S.s (fun hb => ?_) (fun hb => ?_) <;> ((try simp only [hb]) <;> (try (have hp := hb; simp only [WKs] at hp; (try have hq := Int.not_le.2 hp); (try have hq := Int.not_lt.2 hp))))))
    | rintro _ _ ⟨rfl, rfl⟩
    | rintro _ _ ⟨_, rfl, rfl⟩
    | rintro _ _ ⟨_, hshort, rfl, rfl⟩
    | rintro _ _ ⟨_, _, Gm, Rm, hmv, hmr, hma, hmb, rfl, rfl⟩
    | rintro _ _ ⟨Gf2, _, _, hfm2, hfv2, hfp2, hfa2, rfl, rfl⟩
    | ((fail_if_success refine G.tr ?_); exact G.prop S.p)
    | fail) <;> (try simp only [WKb, ↓reduceIte, Nat.reduceEqDiff, hwi]))))
            all_goals (apply Tr.againE (i + 1); (focus (simp only [WKb, ↓reduceIte, Nat.reduceEqDiff])); (focus ((try simp only [WKb, ↓reduceIte, Nat.reduceEqDiff]); (all_goals ((repeat (refine cons_eq (by first | rfl | (simp [*]; done)) ?_)); rfl)); done)); (focus (first | omega | assumption | (simp only []; omega) | (refine ⟨by omega, by assumption⟩) | (simp only []; refine ⟨by omega, by assumption⟩) | ((try simp only []); (repeat' (first | omega | assumption | refine And.intro ?_ ?_)); done))); (focus (first | omega | (simp only []; omega))); (focus (((try clear hK) <;> (try simp only [WKe, *]) <;> repeat (first | with_reducible exact EntR.done | refine S.e ?_ | (refine S.f ?_ <;> (try simp only [WKe, ↓reduceIte, reduceCtorEq, Int.reduceEq, *])) | with_reducible apply EntR.ex | refine EntR.drop (F := F) ?_ | refine EntR.drop ?_)))))
        · ((try simp only [WKb, ↓reduceIte, Nat.reduceEqDiff]) <;> (repeat' ((first
    | (refine G.tr ?_; first | refine S.a ?_ | refine Tr.brK ?_ ?_ | (refine G.call 23 ?_; refine S.c ?_ (h := short08_ok)) | (refine G.call 24 ?_; refine S.c ?_ (h := works19_ok)) | (refine G.call 25 ?_; refine S.c ?_ (h := made_ok ?_)) | (refine G.call 27 ?_; refine S.c ?_ (h := flush_ok ?_ ?_ ?_)) | (refine G.call 28 ?_; refine S.c ?_ (h := outs_ok)) | (refine G.call 30 ?_; refine S.c ?_ (h := routs_ok)) | refine S.n fun _ => ?_ | refine S.i fun hix => ?_ | (refine S.g fun hb => ?_; (try simp only [hb])) | (refine S.s (fun hb => ?_) (fun hb => ?_) <;> ((try simp only [hb]) <;> (try (have hp := hb; simp only [WKs] at hp; (try have hq := Int.not_le.2 hp); (try have hq := Int.not_lt.2 hp))))))
    | rintro _ _ ⟨rfl, rfl⟩
    | rintro _ _ ⟨_, rfl, rfl⟩
    | rintro _ _ ⟨_, hshort, rfl, rfl⟩
    | rintro _ _ ⟨_, _, Gm, Rm, hmv, hmr, hma, hmb, rfl, rfl⟩
    | rintro _ _ ⟨Gf2, _, _, hfm2, hfv2, hfp2, hfa2, rfl, rfl⟩
    | ((fail_if_success refine G.tr ?_); exact G.prop S.p)
    | fail) <;> (try simp only [WKb, ↓reduceIte, Nat.reduceEqDiff]))))
          all_goals
            refine Tr.fin hK ⟨(by first | (simp [*]; done) | (simp only [WKe, ↓reduceIte, reduceCtorEq, Int.reduceEq, eq_self, *]; done) | (simp only [WKe, ↓reduceIte, reduceCtorEq, Int.reduceEq, *]; rfl)), rfl⟩ ?_
            ((try clear hK) <;> (try simp only [WKe, *]) <;> repeat (first | with_reducible exact EntR.done | refine S.e ?_ | (refine S.f ?_ <;> (try simp only [WKe, ↓reduceIte, reduceCtorEq, Int.reduceEq, *])) | with_reducible apply EntR.ex | refine EntR.drop (F := F) ?_ | refine EntR.drop ?_))
end Go.Proofs.Ytlhmbcmkpafjoaa
