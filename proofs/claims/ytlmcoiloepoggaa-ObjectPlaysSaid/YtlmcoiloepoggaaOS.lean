import Derived.Test.YtlmcoiloepoggaaOR
namespace Go.Proofs.Ytlmcoiloepoggaa
open Go Go.Wk
set_option maxHeartbeats 6400000
set_option maxRecDepth 10000
instance : Fz Act20 := ⟨fun p => sep (Fz.fz p.act) (sep (Fz.fz p.k) (sep (Fz.fz p.b) (fact True))), fun _ => dup_sep (Fz.dup _) (dup_sep (Fz.dup _) (dup_sep (Fz.dup _) (dup_fact _)))⟩
instance : FzD Act20 := ⟨fun R w => sepI (FzD.h R w) (sepI (FzD.h R w) (sepI (FzD.h R w) trivial))⟩
instance (priority := 700) hass_act20 {l : List Asrt} {x : Act20} [hz : HasZ l x] : HasS l x.b.s.v true UInt8 inferInstance x.b.d := ⟨hz.h.imp fun h => ⟨fun _ => False, sl_of_fz (sep_l (sep_r (sep_r (Fz.dup x h))))⟩⟩
theorem S.k20 {P : Program} {f : FuncId} {args : Array Value} {pre : List Asrt} {post : Value → List Asrt → Prop} {l F : List Asrt} {K : Value → WP} (hk : ∀ v l', post v l' → Tr (l' ++ F) (K v)) (hp : TakeL l pre F := by
    (repeat (first | with_reducible exact TakeL.nil | (apply TakeL.cons; focus ((first | exact TakeA.dupS | exact TakeA.dupF | ((repeat (first | with_reducible exact TakeA.here | exact TakeA.fam (by omega) (by omega) | with_reducible apply TakeA.next)); done) | ((repeat (first | exact TakeA.here | apply TakeA.next)); done) | exact TakeA.famNil | exact TakeA.nilS))) | fail)); done) (h : Trip P f args pre post) : Tr l (CallK P f args K) := Tr.callC hp h hk
attribute [local irreducible] BrK GenK EGenK EUnitK CallK FnK CallV GuardO GuardC CondW opX opK opKc chkR eqR seqK blkK endL WL WD W LoopW BinK Tr drewK resL PickK NotK NilK ExtrK getK Instr.storeAt Instr.loadAt Instr.fieldAt Instr.indexAt Instr.lookup Instr.mapUpdate Instr.box Instr.alloc Instr.build Instr.buildSlice Instr.makeSlice Instr.makeMap Instr.sliceAt Instr.field Instr.index Instr.makeInterface Instr.typeAssert Builtin.len_ Builtin.append_ Builtin.cap_ Builtin.min_ Builtin.max_ Builtin.copy_ Builtin.clear_ convert binOp mp blk rob sl sep ex fact old
theorem short20_ok {s : SV} {acts : List Act20} : Trip Try.prog 60 [s.v].toArray [sl true s.v acts, fzl acts] fun v l' => ∃ b : Bool, (b = true → ∀ k : Nat, k < acts.length → k < 40 → (ix acts k).b.d.length ≤ 300) ∧ v = .bool b ∧ l' = [] := by
  intro F K hK
  simp only [List.cons_append, List.nil_append]
  (refine Tr.enter (rs := [.tmp 2]) mixed fn60 rfl (by simp +arith [Try.ntmps60]) fun u => ?_; simp only [cd60, Try.f60])
  ((try simp only [WKb]) <;> (repeat' ((first
    | (refine G.tr ?_; first | refine S.a ?_ | refine Tr.brK ?_ ?_ | refine S.n fun _ => ?_ | refine S.i fun hix => ?_ | (refine S.g fun hb => ?_; (try simp only [hb])) | (refine S.s (fun hb => ?_) (fun hb => ?_) <;> ((try simp only [hb]) <;> (try (have hp := hb; simp only [WKs] at hp; (try have hq := Int.not_le.2 hp); (try have hq := Int.not_lt.2 hp))))))
    | ((fail_if_success refine G.tr ?_); exact G.prop S.p)
    | fail) <;> (try simp only [WKb, WKh, ↓reduceIte, Nat.reduceEqDiff, Nat.reduceAdd, Nat.reduceSub, Int.reduceEq, Int.reduceLT, Int.reduceLE, pl60]))))
  refine Tr.loopE (α := Nat) [2, 3] [0] (fun k => [.bool false, .int .i64 k]) (fun _ => []) (fun j => j ≤ 40 ∧ ∀ k : Nat, k < j → k < acts.length → (ix acts k).b.d.length ≤ 300) (fun j => 40 - j) 0 (by (repeat (first | exact TakeL.nil | (apply TakeL.cons; focus ((first | exact TakeA.dupS | exact TakeA.dupF | ((repeat (first | with_reducible exact TakeA.here | exact TakeA.fam (by omega) (by omega) | with_reducible apply TakeA.next)); done) | ((repeat (first | exact TakeA.here | apply TakeA.next)); done) | exact TakeA.famNil | exact TakeA.nilS))) | fail)); done) rfl ⟨by omega, fun k hk => by omega⟩ fun j u hj => ?_
  obtain ⟨hj, hall⟩ := hj
  have hw := wrapSucc (k := j) (by omega)
  by_cases hin : (j : Int) < acts.length ∧ (j : Int) < 40
  · obtain ⟨hi1, hi2⟩ := hin
    by_cases hB : (ix acts (j : Int)).b.d.length ≤ 300
    · have hnx : ∀ k : Nat, k < j + 1 → k < acts.length → (ix acts k).b.d.length ≤ 300 := fun k hk hl => by
        rcases Nat.lt_succ_iff_lt_or_eq.1 hk with h | h
        · exact hall k h hl
        · rw [h]; exact hB
      ((try simp only [WKb, ↓reduceIte, Nat.reduceEqDiff]) <;> (repeat' ((first
    | (refine G.tr ?_; first | refine S.a ?_ | refine Tr.brK ?_ ?_ | refine S.n fun _ => ?_ | refine S.i fun hix => ?_ | (refine S.g fun hb => ?_; (try simp only [hb])) | (refine S.s (fun hb => ?_) (fun hb => ?_) <;> ((try simp only [hb]) <;> (try (have hp := hb; simp only [WKs] at hp; (try have hq := Int.not_le.2 hp); (try have hq := Int.not_lt.2 hp))))))
    | ((fail_if_success refine G.tr ?_); exact G.prop S.p)
    | fail) <;> (try simp only [WKb, ↓reduceIte, Nat.reduceEqDiff, hw]))))
      all_goals (apply Tr.againE (j + 1); (focus (simp only [WKb, ↓reduceIte, Nat.reduceEqDiff])); (focus ((try simp only [WKb, ↓reduceIte, Nat.reduceEqDiff]); (all_goals ((repeat (refine cons_eq (by first | rfl | (simp [*]; done)) ?_)); rfl)); done)); (focus (first | omega | assumption | (simp only []; omega) | (refine ⟨by omega, by assumption⟩) | (simp only []; refine ⟨by omega, by assumption⟩) | ((try simp only []); (repeat' (first | omega | assumption | refine And.intro ?_ ?_)); done))); (focus (first | omega | (simp only []; omega))); (focus (((try clear hK) <;> (try simp only [WKe, *]) <;> repeat (first | with_reducible exact EntR.done | refine S.e ?_ | (refine S.f ?_ <;> (try simp only [WKe, ↓reduceIte, reduceCtorEq, Int.reduceEq, *])) | with_reducible apply EntR.ex | refine EntR.drop (F := F) ?_ | refine EntR.drop ?_)))))
    · ((try simp only [WKb, ↓reduceIte, Nat.reduceEqDiff]) <;> (repeat' ((first
    | (refine G.tr ?_; first | refine S.a ?_ | refine Tr.brK ?_ ?_ | refine S.n fun _ => ?_ | refine S.i fun hix => ?_ | (refine S.g fun hb => ?_; (try simp only [hb])) | (refine S.s (fun hb => ?_) (fun hb => ?_) <;> ((try simp only [hb]) <;> (try (have hp := hb; simp only [WKs] at hp; (try have hq := Int.not_le.2 hp); (try have hq := Int.not_lt.2 hp))))))
    | ((fail_if_success refine G.tr ?_); exact G.prop S.p)
    | fail) <;> (try simp only [WKb, ↓reduceIte, Nat.reduceEqDiff]))))
      all_goals
        apply Tr.fin hK ⟨false, (fun h => by cases h), rfl, rfl⟩
        ((try clear hK) <;> (try simp only [WKe, *]) <;> repeat (first | with_reducible exact EntR.done | refine S.e ?_ | (refine S.f ?_ <;> (try simp only [WKe, ↓reduceIte, reduceCtorEq, Int.reduceEq, *])) | with_reducible apply EntR.ex | refine EntR.drop (F := F) ?_ | refine EntR.drop ?_))
  · ((try simp only [WKb, ↓reduceIte, Nat.reduceEqDiff]) <;> (repeat' ((first
    | (refine G.tr ?_; first | refine S.a ?_ | refine Tr.brK ?_ ?_ | refine S.n fun _ => ?_ | refine S.i fun hix => ?_ | (refine S.g fun hb => ?_; (try simp only [hb])) | (refine S.s (fun hb => ?_) (fun hb => ?_) <;> ((try simp only [hb]) <;> (try (have hp := hb; simp only [WKs] at hp; (try have hq := Int.not_le.2 hp); (try have hq := Int.not_lt.2 hp))))))
    | ((fail_if_success refine G.tr ?_); exact G.prop S.p)
    | fail) <;> (try simp only [WKb, ↓reduceIte, Nat.reduceEqDiff]))))
    all_goals
      apply Tr.fin hK ⟨true, (fun _ k h1 h2 => hall k (by omega) h1), rfl, rfl⟩
      ((try clear hK) <;> (try simp only [WKe, *]) <;> repeat (first | with_reducible exact EntR.done | refine S.e ?_ | (refine S.f ?_ <;> (try simp only [WKe, ↓reduceIte, reduceCtorEq, Int.reduceEq, *])) | with_reducible apply EntR.ex | refine EntR.drop (F := F) ?_ | refine EntR.drop ?_))

theorem new20e_ok {c : PartC} {cs : List SemC} {ps : List PoolC} {ls : List Int} : Trip Try.prog 16 [.agg (En.enc c).toArray].toArray [sl true c.sems.v cs, sl true c.pools.v ps, sl true c.slates.v ls]
    fun v l' => ∃ b s1 s2 s3 s4 g1 g2 g3 g4, g1.map SemG.mo = (cs.take 4).map semM ∧ g2.map FlagG.mo = List.replicate (nflags c.flags) false ∧ g3.map PoolG.mo = (ps.take 4).map poolM ∧ g4.map SlateG.mo = (ls.take 4).map slateM ∧
      v = .pointer (some ⟨b, 0, none⟩) ∧ l' = [obB b ⟨c, s1, s2, s3, s4⟩, sl false s1.v (g1.map SemG.pt), fam semA g1, sl false s2.v (g2.map FlagG.pt), fam flagA g2, sl false s3.v (g3.map PoolG.pt), fam poolA g3, sl false s4.v (g4.map SlateG.pt), fam slateA g4] := new_ok (hd := ⟨rfl⟩)
theorem done20e_ok {b r : Nat} {c : PartC} {p1 p2 p3 p4 q1 q2 q3 q4 : SV} {gS : List SemG} {gF : List FlagG} {gP : List PoolG} {gL : List SlateG} {xs ys : List (SL Msg)} {cs : List SemC} {cp : List PoolC} {cl : List Int} {act : Act20} {n : Nat} (hx : xs.map mo = gP.map PoolG.mm) (hy : ys.map mo = gL.map SlateG.mm) (hv : InvO cs cp cl gS gF gP gL n) (hn : n ≤ 90000) (hB : act.b.d.length ≤ 300) :
    Trip Try.prog 62 [.pointer (some ⟨b, 0, none⟩), .pointer (some ⟨r, 0, none⟩), .agg (En.enc act).toArray].toArray [obB b ⟨c, p1, p2, p3, p4⟩, sl false p1.v (gS.map SemG.pt), fam semA gS, sl false p2.v (gF.map FlagG.pt), fam flagA gF, sl false p3.v (gP.map PoolG.pt), fam poolA gP, sl false p4.v (gL.map SlateG.pt), fam slateA gL, rOB r ⟨c, q1, q2, q3, q4⟩, sl false q1.v (gS.map SemG.count), sl false q2.v (gF.map FlagG.up), sl false q3.v xs, fzl xs, sl false q4.v ys, fzl ys, sl true c.sems.v cs, sl true c.pools.v cp, sl true c.slates.v cl, sl true act.b.s.v act.b.d]
    fun v l' => ∃ p1' p2' p3' p4' q1' q2' q3' q4' gS' gF' gP' gL' xs' ys', InvO cs cp cl gS' gF' gP' gL' (n + 1) ∧ xs'.map mo = gP'.map PoolG.mm ∧ ys'.map mo = gL'.map SlateG.mm ∧ v = .bool true ∧ l' = [obB b ⟨c, p1', p2', p3', p4'⟩, sl false p1'.v (gS'.map SemG.pt), fam semA gS', sl false p2'.v (gF'.map FlagG.pt), fam flagA gF', sl false p3'.v (gP'.map PoolG.pt), fam poolA gP', sl false p4'.v (gL'.map SlateG.pt), fam slateA gL', rOB r ⟨c, q1', q2', q3', q4'⟩, sl false q1'.v (gS'.map SemG.count), sl false q2'.v (gF'.map FlagG.up), sl false q3'.v xs', fzl xs', sl false q4'.v ys', fzl ys'] := done20_ok hx hy hv hn hB


theorem plays20_ok {c : PartC} {s2 : SV} {cs : List SemC} {cp : List PoolC} {cl : List Int} {acts : List Act20} : Trip Try.prog 13 [.agg (En.enc c).toArray, s2.v].toArray [sl true c.sems.v cs, sl true c.pools.v cp, sl true c.slates.v cl, sl true s2.v acts, fzl acts] fun v l' => v = .bool true ∧ l' = [] := by
  intro F K hK
  simp only [List.cons_append, List.nil_append]
  (refine Tr.enter (rs := [.tmp 4]) mixed fn13 rfl (by simp +arith [Try.ntmps13]) fun u => ?_; simp only [cd13, Try.f13])
  ((try simp only [WKb, ↓reduceIte, Nat.reduceEqDiff, Nat.reduceAdd]) <;> (repeat' ((first
    | (refine G.tr ?_; first | (refine G.call 16 ?_; refine S.k20 ?_ (h := new20e_ok (cs := cs) (ps := cp) (ls := cl)); rintro _ _ ⟨_, _, _, _, _, _, _, _, _, hm1, hm2, hm3, hm4, rfl, rfl⟩) | (refine G.call 61 ?_; refine S.k20 ?_ (h := rnew20e_ok (cs := cs) (cp := cp) (cl := cl)); rintro _ _ ⟨_, _, _, _, _, rfl, rfl⟩) | refine S.a ?_ | refine Tr.brK ?_ ?_ | (refine G.call 60 ?_; refine S.c ?_ (h := short20_ok)) | (refine G.call 15 ?_; refine S.c ?_ (h := works20_ok)) | (refine G.call 16 ?_; refine S.c ?_ (h := new1_ok)) | (refine G.call 61 ?_; refine S.c ?_ (h := rnew20_ok)) | (refine G.call 62 ?_; refine S.c ?_ (h := done20e_ok ?_ ?_ ?_ ?_ ?_)) | (refine G.call 63 ?_; refine S.c ?_ (h := like20_ok ?_ ?_ ?_ ?_)) | refine S.n fun _ => ?_ | refine S.i fun hix => ?_ | (refine S.g fun hb => ?_; (try simp only [hb])) | (refine S.s (fun hb => ?_) (fun hb => ?_) <;> ((try simp only [hb]) <;> (try (have hp := hb; simp only [WKs] at hp; (try have hq := Int.not_le.2 hp); (try have hq := Int.not_lt.2 hp))))))
    | rintro _ _ ⟨rfl, rfl⟩
    | rintro _ _ ⟨_, hsh, rfl, rfl⟩
    | rintro _ _ ⟨_, _, _, _, _, rfl, rfl⟩
    | rintro _ _ ⟨_, _, _, _, _, _, _, _, _, rfl, rfl⟩
    | rintro _ _ ⟨_, _, _, _, _, _, _, _, _, _, _, _, _, _, hv2, hx2, hy2, rfl, rfl⟩
    | ((fail_if_success refine G.tr ?_); exact G.prop S.p)
    | fail) <;> (try simp only [WKb, ↓reduceIte, Nat.reduceEqDiff, pl13]))))
  · refine Tr.fin hK ⟨rfl, rfl⟩ ?_
    ((try clear hK) <;> (try simp only [WKe, *]) <;> repeat (first | with_reducible exact EntR.done | refine S.e ?_ | (refine S.f ?_ <;> (try simp only [WKe, ↓reduceIte, reduceCtorEq, Int.reduceEq, *])) | with_reducible apply EntR.ex | refine EntR.drop (F := F) ?_ | refine EntR.drop ?_))
  rename_i b p1 p2 p3 p4 g1 g2 g3 g4 r q1 q2 q3 q4
  obtain ⟨hf1, hf2, hf3, hf4, hf5⟩ := fresh_inv hm1 hm2 hm3 hm4
  simp only [← hf2, ← hf3]
  have hshk := hsh (by assumption)
  clear hm1 hm2 hm3 hm4 hf2 hf3 hsh
  refine Tr.loopE (α := Nat × SV × SV × SV × SV × SV × SV × SV × SV × List SemG × List FlagG × List PoolG × List SlateG × List (SL Msg) × List (SL Msg)) [4, 7] [1, 5, 6] (fun x => [.bool false, .int .i64 x.1]) (fun x => [obB b ⟨c, x.2.1, x.2.2.1, x.2.2.2.1, x.2.2.2.2.1⟩, sl false x.2.1.v (x.2.2.2.2.2.2.2.2.2.1.map SemG.pt), fam semA x.2.2.2.2.2.2.2.2.2.1, sl false x.2.2.1.v (x.2.2.2.2.2.2.2.2.2.2.1.map FlagG.pt), fam flagA x.2.2.2.2.2.2.2.2.2.2.1, sl false x.2.2.2.1.v (x.2.2.2.2.2.2.2.2.2.2.2.1.map PoolG.pt), fam poolA x.2.2.2.2.2.2.2.2.2.2.2.1, sl false x.2.2.2.2.1.v (x.2.2.2.2.2.2.2.2.2.2.2.2.1.map SlateG.pt), fam slateA x.2.2.2.2.2.2.2.2.2.2.2.2.1, rOB r ⟨c, x.2.2.2.2.2.1, x.2.2.2.2.2.2.1, x.2.2.2.2.2.2.2.1, x.2.2.2.2.2.2.2.2.1⟩, sl false x.2.2.2.2.2.1.v (x.2.2.2.2.2.2.2.2.2.1.map SemG.count), sl false x.2.2.2.2.2.2.1.v (x.2.2.2.2.2.2.2.2.2.2.1.map FlagG.up), sl false x.2.2.2.2.2.2.2.1.v x.2.2.2.2.2.2.2.2.2.2.2.2.2.1, fzl x.2.2.2.2.2.2.2.2.2.2.2.2.2.1, sl false x.2.2.2.2.2.2.2.2.1.v x.2.2.2.2.2.2.2.2.2.2.2.2.2.2, fzl x.2.2.2.2.2.2.2.2.2.2.2.2.2.2])
    (fun x => x.1 ≤ 40 ∧ InvO cs cp cl x.2.2.2.2.2.2.2.2.2.1 x.2.2.2.2.2.2.2.2.2.2.1 x.2.2.2.2.2.2.2.2.2.2.2.1 x.2.2.2.2.2.2.2.2.2.2.2.2.1 x.1 ∧ x.2.2.2.2.2.2.2.2.2.2.2.2.2.1.map mo = x.2.2.2.2.2.2.2.2.2.2.2.1.map PoolG.mm ∧ x.2.2.2.2.2.2.2.2.2.2.2.2.2.2.map mo = x.2.2.2.2.2.2.2.2.2.2.2.2.1.map SlateG.mm) (fun x => 40 - x.1) (0, p1, p2, p3, p4, q1, q2, q3, q4, g1, g2, g3, g4, _, _) (by (repeat (first | exact TakeL.nil | (apply TakeL.cons; focus ((first | exact TakeA.dupS | exact TakeA.dupF | ((repeat (first | with_reducible exact TakeA.here | exact TakeA.fam (by omega) (by omega) | with_reducible apply TakeA.next)); done) | ((repeat (first | exact TakeA.here | apply TakeA.next)); done) | exact TakeA.famNil | exact TakeA.nilS))) | fail)); done) rfl ⟨by omega, hf1 0, hf4, hf5⟩ fun x u hx => ?_
  obtain ⟨k, p1', p2', p3', p4', q1', q2', q3', q4', gS, gF, gP, gL, xs, ys⟩ := x
  simp only at hx ⊢
  obtain ⟨hk, hv, hx, hy⟩ := hx
  have hcp := hv.hcp
  have hcl := hv.hcl
  have hw := wrapSucc (k := k) (by omega)
  by_cases hin : (k : Int) < acts.length ∧ (k : Int) < 40
  · obtain ⟨hi1, hi2⟩ := hin
    have hB := hshk k (by omega) (by omega)
    ((try simp only [WKb, ↓reduceIte, Nat.reduceEqDiff]) <;> (repeat' ((first
    | (refine G.tr ?_; first | (refine G.call 62 ?_; refine S.k20 ?_ (h := done20e_ok hx hy hv (by omega) hB)) | (refine G.call 63 ?_; refine S.k20 ?_ (h := like20_ok hx2 hy2 hv2.hcp hv2.hcl)) | refine S.a ?_ | refine Tr.brK ?_ ?_ | (refine G.call 60 ?_; refine S.c ?_ (h := short20_ok)) | (refine G.call 15 ?_; refine S.c ?_ (h := works20_ok)) | (refine G.call 16 ?_; refine S.c ?_ (h := new1_ok)) | (refine G.call 61 ?_; refine S.c ?_ (h := rnew20_ok)) | (refine G.call 62 ?_; refine S.c ?_ (h := done20e_ok ?_ ?_ ?_ ?_ ?_)) | (refine G.call 63 ?_; refine S.c ?_ (h := like20_ok ?_ ?_ ?_ ?_)) | refine S.n fun _ => ?_ | refine S.i fun hix => ?_ | (refine S.g fun hb => ?_; (try simp only [hb])) | (refine S.s (fun hb => ?_) (fun hb => ?_) <;> ((try simp only [hb]) <;> (try (have hp := hb; simp only [WKs] at hp; (try have hq := Int.not_le.2 hp); (try have hq := Int.not_lt.2 hp))))))
    | rintro _ _ ⟨rfl, rfl⟩
    | rintro _ _ ⟨_, hsh, rfl, rfl⟩
    | rintro _ _ ⟨_, _, _, _, _, rfl, rfl⟩
    | rintro _ _ ⟨_, _, _, _, _, _, _, _, _, rfl, rfl⟩
    | rintro _ _ ⟨_, _, _, _, _, _, _, _, _, _, _, _, _, _, hv2, hx2, hy2, rfl, rfl⟩
    | ((fail_if_success refine G.tr ?_); exact G.prop S.p)
    | fail) <;> (try simp only [WKb, ↓reduceIte, Nat.reduceEqDiff, hw]))))
    all_goals (apply Tr.againE (k + 1, _, _, _, _, _, _, _, _, _, _, _, _, _, _); (focus (simp only [WKb, ↓reduceIte, Nat.reduceEqDiff])); (focus ((try simp only [WKb, ↓reduceIte, Nat.reduceEqDiff]); (all_goals ((repeat (refine cons_eq (by first | rfl | (simp [*]; done)) ?_)); rfl)); done)); (focus (first | omega | assumption | (simp only []; omega) | (refine ⟨by omega, by assumption⟩) | (simp only []; refine ⟨by omega, by assumption⟩) | ((try simp only []); (repeat' (first | omega | assumption | refine And.intro ?_ ?_)); done))); (focus (first | omega | (simp only []; omega))); (focus (((try clear hK) <;> (try simp only [WKe, *]) <;> repeat (first | with_reducible exact EntR.done | refine S.e ?_ | (refine S.f ?_ <;> (try simp only [WKe, ↓reduceIte, reduceCtorEq, Int.reduceEq, *])) | with_reducible apply EntR.ex | refine EntR.drop (F := F) ?_ | refine EntR.drop ?_)))))
  · ((try simp only [WKb, ↓reduceIte, Nat.reduceEqDiff]) <;> (repeat' ((first
    | (refine G.tr ?_; first | (refine G.call 63 ?_; refine S.k20 ?_ (h := like20_ok hx hy hcp hcl)) | refine S.a ?_ | refine Tr.brK ?_ ?_ | (refine G.call 60 ?_; refine S.c ?_ (h := short20_ok)) | (refine G.call 15 ?_; refine S.c ?_ (h := works20_ok)) | (refine G.call 16 ?_; refine S.c ?_ (h := new1_ok)) | (refine G.call 61 ?_; refine S.c ?_ (h := rnew20_ok)) | (refine G.call 62 ?_; refine S.c ?_ (h := done20e_ok ?_ ?_ ?_ ?_ ?_)) | (refine G.call 63 ?_; refine S.c ?_ (h := like20_ok ?_ ?_ ?_ ?_)) | refine S.n fun _ => ?_ | refine S.i fun hix => ?_ | (refine S.g fun hb => ?_; (try simp only [hb])) | (refine S.s (fun hb => ?_) (fun hb => ?_) <;> ((try simp only [hb]) <;> (try (have hp := hb; simp only [WKs] at hp; (try have hq := Int.not_le.2 hp); (try have hq := Int.not_lt.2 hp))))))
    | rintro _ _ ⟨rfl, rfl⟩
    | rintro _ _ ⟨_, hsh, rfl, rfl⟩
    | rintro _ _ ⟨_, _, _, _, _, rfl, rfl⟩
    | rintro _ _ ⟨_, _, _, _, _, _, _, _, _, rfl, rfl⟩
    | rintro _ _ ⟨_, _, _, _, _, _, _, _, _, _, _, _, _, _, hv2, hx2, hy2, rfl, rfl⟩
    | ((fail_if_success refine G.tr ?_); exact G.prop S.p)
    | fail) <;> (try simp only [WKb, ↓reduceIte, Nat.reduceEqDiff]))))
    all_goals
      refine Tr.fin hK ⟨rfl, rfl⟩ ?_
      ((try clear hK) <;> (try simp only [WKe, *]) <;> repeat (first | with_reducible exact EntR.done | refine S.e ?_ | (refine S.f ?_ <;> (try simp only [WKe, ↓reduceIte, reduceCtorEq, Int.reduceEq, *])) | with_reducible apply EntR.ex | refine EntR.drop (F := F) ?_ | refine EntR.drop ?_))
end Go.Proofs.Ytlmcoiloepoggaa
