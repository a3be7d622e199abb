import Derived.Test.YtlmcoiloepoggaaPO
namespace Go.Proofs.Ytlmcoiloepoggaa
open Go Go.Wk
set_option maxHeartbeats 6400000
set_option maxRecDepth 10000
instance : Fz Act18 := ⟨fun p => sep (Fz.fz p.act) (sep (Fz.fz p.k) (sep (Fz.fz p.b) (fact True))), fun _ => dup_sep (Fz.dup _) (dup_sep (Fz.dup _) (dup_sep (Fz.dup _) (dup_fact _)))⟩
instance : FzD Act18 := ⟨fun R w => sepI (FzD.h R w) (sepI (FzD.h R w) (sepI (FzD.h R w) trivial))⟩
instance (priority := 700) hass_act18 {l : List Asrt} {x : Act18} [hz : HasZ l x] : HasS l x.b.s.v true UInt8 inferInstance x.b.d := ⟨hz.h.imp fun h => ⟨fun _ => False, sl_of_fz (sep_l (sep_r (sep_r (Fz.dup x h))))⟩⟩
theorem S.k {P : Program} {f : FuncId} {args : Array Value} {pre : List Asrt} {post : Value → List Asrt → Prop} {l F : List Asrt} {K : Value → WP} (hk : ∀ v l', post v l' → Tr (l' ++ F) (K v)) (hp : TakeL l pre F := by
    (repeat (first | with_reducible exact TakeL.nil | (apply TakeL.cons; focus ((first | exact TakeA.dupS | exact TakeA.dupF | ((repeat (first | with_reducible exact TakeA.here | exact TakeA.fam (by omega) (by omega) | with_reducible apply TakeA.next)); done) | ((repeat (first | exact TakeA.here | apply TakeA.next)); done) | exact TakeA.famNil | exact TakeA.nilS))) | fail)); done) (h : Trip P f args pre post) : Tr l (CallK P f args K) := Tr.callC hp h hk

theorem done18e_ok {p r : Nat} {s a b c d : SV} {gs : List OneG} {xs : List (SL Msg)} {act : Act18} {n : Nat} (hx : xs.map mo = (gs.map OneG.abs).map AP.ms) (hv : invP gs n) (hn : n ≤ 100000) (hB : act.b.d.length ≤ 300) :
    Trip Try.prog 55 [.pointer (some ⟨p, 0, none⟩), .pointer (some ⟨r, 0, none⟩), .agg (En.enc act).toArray].toArray [poB p s, fam oneA gs, sl false s.v (gs.map OneG.pt), rB r a b c d, sl true a.v ((gs.map OneG.abs).map AP.c), sl false b.v xs, fzl xs, sl false c.v ((gs.map OneG.abs).map AP.fresh), sl false d.v ((gs.map OneG.abs).map AP.lost), sl true act.b.s.v act.b.d]
    fun v l' => ∃ gs2 b2 c2 d2 xs2, invP gs2 (n + 1) ∧ xs2.map mo = (gs2.map OneG.abs).map AP.ms ∧ v = .bool true ∧ l' = [poB p s, fam oneA gs2, sl false s.v (gs2.map OneG.pt), rB r a b2 c2 d2, sl true a.v ((gs2.map OneG.abs).map AP.c), sl false b2.v xs2, fzl xs2, sl false c2.v ((gs2.map OneG.abs).map AP.fresh), sl false d2.v ((gs2.map OneG.abs).map AP.lost)] := done18_ok hx hv hn hB

attribute [local irreducible] BrK GenK EGenK EUnitK CallK FnK CallV GuardO GuardC CondW opX opK opKc chkR eqR seqK blkK endL WL WD W LoopW BinK Tr drewK resL PickK NotK NilK ExtrK getK Instr.storeAt Instr.loadAt Instr.fieldAt Instr.indexAt Instr.lookup Instr.mapUpdate Instr.box Instr.alloc Instr.build Instr.buildSlice Instr.makeSlice Instr.makeMap Instr.sliceAt Instr.field Instr.index Instr.makeInterface Instr.typeAssert Builtin.len_ Builtin.append_ Builtin.cap_ Builtin.min_ Builtin.max_ Builtin.copy_ Builtin.clear_ convert binOp mp blk rob sl sep ex fact old
theorem plays18_ok {s0 s2 : SV} {cs : List PortC} {acts : List Act18} : Trip Try.prog 11 [s0.v, s2.v].toArray [sl true s0.v cs, sl true s2.v acts, fzl acts] fun v l' => v = .bool true ∧ l' = [] := by
  intro F K hK
  simp only [List.cons_append, List.nil_append]
  (refine Tr.enter (rs := [.tmp 4]) mixed fn11 rfl (by simp +arith [Try.ntmps11]) fun u => ?_; simp only [cd11, Try.f11])
  ((try simp only [WKb, ↓reduceIte, Nat.reduceEqDiff, Nat.reduceAdd]) <;> (repeat' ((first
    | (refine G.tr ?_; first | (refine G.call 43 ?_; refine S.k ?_ (h := pnew_ok)) | refine S.a ?_ | refine Tr.brK ?_ ?_ | (refine G.call 43 ?_; first | refine S.c ?_ (h := pnew_ok) | refine S.c ?_ (h := pnew2_ok) | refine S.c ?_ (h := pnew1_ok)) | (refine G.call 53 ?_; refine S.c ?_ (h := rnew_ok)) | (refine G.call 44 ?_; refine S.c ?_ (h := works18_ok)) | (refine G.call 54 ?_; refine S.c ?_ (h := like18_ok ?_ ?_)) | (refine G.call 55 ?_; first | refine S.c ?_ (h := done18_ok ?_ ?_ ?_ ?_) | refine S.c ?_ (h := done18e_ok ?_ ?_ ?_ ?_)) | refine S.n fun _ => ?_ | refine S.i fun hix => ?_ | (refine S.g fun hb => ?_; (try simp only [hb])) | (refine S.s (fun hb => ?_) (fun hb => ?_) <;> ((try simp only [hb]) <;> (try (have hp := hb; simp only [WKs] at hp; (try have hq := Int.not_le.2 hp); (try have hq := Int.not_lt.2 hp))))))
    | rintro _ _ ⟨rfl, rfl⟩
    | rintro _ _ ⟨_, _, _, _, rfl, rfl⟩
    | rintro _ _ ⟨_, _, _, hco, rfl, rfl⟩
    | rintro _ _ ⟨_, _, _, _, _, _, rfl, rfl⟩
    | rintro _ _ ⟨_, _, _, _, _, _, hxs, rfl, rfl⟩
    | rintro _ _ ⟨_, _, _, _, _, hv2, hx2, rfl, rfl⟩
    | ((fail_if_success refine G.tr ?_); exact G.prop S.p)
    | fail) <;> (try simp only [WKb, ↓reduceIte, Nat.reduceEqDiff]))))
  rename_i p s1 gs hco r a b c d xs
  have hci := core_inv hco (by simp; omega)
  have hnew : newA cs = gs.map OneG.abs := hci.2.symm
  have h8 : gs.length ≤ 8 := hci.1.1
  rw [hnew] at hxs
  ((try simp only [hnew]) <;> (repeat' ((first
    | (refine G.tr ?_; first | refine S.a ?_ | refine Tr.brK ?_ ?_ | (refine G.call 43 ?_; first | refine S.c ?_ (h := pnew_ok) | refine S.c ?_ (h := pnew2_ok) | refine S.c ?_ (h := pnew1_ok)) | (refine G.call 53 ?_; refine S.c ?_ (h := rnew_ok)) | (refine G.call 44 ?_; refine S.c ?_ (h := works18_ok)) | (refine G.call 54 ?_; refine S.c ?_ (h := like18_ok ?_ ?_)) | (refine G.call 55 ?_; first | refine S.c ?_ (h := done18_ok ?_ ?_ ?_ ?_) | refine S.c ?_ (h := done18e_ok ?_ ?_ ?_ ?_)) | refine S.n fun _ => ?_ | refine S.i fun hix => ?_ | (refine S.g fun hb => ?_; (try simp only [hb])) | (refine S.s (fun hb => ?_) (fun hb => ?_) <;> ((try simp only [hb]) <;> (try (have hp := hb; simp only [WKs] at hp; (try have hq := Int.not_le.2 hp); (try have hq := Int.not_lt.2 hp))))))
    | rintro _ _ ⟨rfl, rfl⟩
    | rintro _ _ ⟨_, _, _, _, rfl, rfl⟩
    | rintro _ _ ⟨_, _, _, hco, rfl, rfl⟩
    | rintro _ _ ⟨_, _, _, _, _, _, rfl, rfl⟩
    | rintro _ _ ⟨_, _, _, _, _, _, hxs, rfl, rfl⟩
    | rintro _ _ ⟨_, _, _, _, _, hv2, hx2, rfl, rfl⟩
    | ((fail_if_success refine G.tr ?_); exact G.prop S.p)
    | fail) <;> (try simp only [WKb, ↓reduceIte, Nat.reduceEqDiff]))))
  clear hnew
  refine Tr.loopE (α := Nat × List OneG × SV × SV × SV × List (SL Msg)) [4, 7] [1, 5, 6] (fun x => [.bool false, .int .i64 x.1]) (fun x => [fam oneA x.2.1, sl false s1.v (x.2.1.map OneG.pt), rB r a x.2.2.1 x.2.2.2.1 x.2.2.2.2.1, sl true a.v ((x.2.1.map OneG.abs).map AP.c), sl false x.2.2.1.v x.2.2.2.2.2, fzl x.2.2.2.2.2, sl false x.2.2.2.1.v ((x.2.1.map OneG.abs).map AP.fresh), sl false x.2.2.2.2.1.v ((x.2.1.map OneG.abs).map AP.lost)])
    (fun x => x.1 ≤ 40 ∧ invP x.2.1 x.1 ∧ x.2.2.2.2.2.map mo = (x.2.1.map OneG.abs).map AP.ms) (fun x => 40 - x.1) (0, gs, b, c, d, xs) (by (repeat (first | exact TakeL.nil | (apply TakeL.cons; focus ((first | exact TakeA.dupS | exact TakeA.dupF | ((repeat (first | with_reducible exact TakeA.here | exact TakeA.fam (by omega) (by omega) | with_reducible apply TakeA.next)); done) | ((repeat (first | exact TakeA.here | apply TakeA.next)); done) | exact TakeA.famNil | exact TakeA.nilS))) | fail)); done) rfl ⟨by omega, hci.1, hxs⟩ fun x u hx => ?_
  obtain ⟨k, gs2, b2, c2, d2, xs2⟩ := x
  simp only at hx ⊢
  obtain ⟨hk, hv, hx⟩ := hx
  have hw := wrapSucc (k := k) (by omega)
  have hv8 := hv.1
  by_cases hin : (k : Int) < acts.length ∧ (k : Int) < 40
  · obtain ⟨hi1, hi2⟩ := hin
    have hd3 : decide ((k : Int) < acts.length) = true := by simpa using hi1
    have hd4 : decide ((k : Int) < 40) = true := by simpa using hi2
    by_cases hB : (ix acts (k : Int)).b.d.length ≤ 300
    · ((try simp only [WKb, ↓reduceIte, Nat.reduceEqDiff]) <;> (repeat' ((first
    | (refine G.tr ?_; first | (refine G.call 55 ?_; refine S.k ?_ (h := done18e_ok hx hv (by omega) hB)) | refine S.a ?_ | refine Tr.brK ?_ ?_ | (refine G.call 43 ?_; first | refine S.c ?_ (h := pnew_ok) | refine S.c ?_ (h := pnew2_ok) | refine S.c ?_ (h := pnew1_ok)) | (refine G.call 53 ?_; refine S.c ?_ (h := rnew_ok)) | (refine G.call 44 ?_; refine S.c ?_ (h := works18_ok)) | (refine G.call 54 ?_; refine S.c ?_ (h := like18_ok ?_ ?_)) | (refine G.call 55 ?_; first | refine S.c ?_ (h := done18_ok ?_ ?_ ?_ ?_) | refine S.c ?_ (h := done18e_ok ?_ ?_ ?_ ?_)) | refine S.n fun _ => ?_ | refine S.i fun hix => ?_ | (refine S.g fun hb => ?_; (try simp only [hb])) | (refine S.s (fun hb => ?_) (fun hb => ?_) <;> ((try simp only [hb]) <;> (try (have hp := hb; simp only [WKs] at hp; (try have hq := Int.not_le.2 hp); (try have hq := Int.not_lt.2 hp))))))
    | rintro _ _ ⟨rfl, rfl⟩
    | rintro _ _ ⟨_, _, _, _, rfl, rfl⟩
    | rintro _ _ ⟨_, _, _, hco, rfl, rfl⟩
    | rintro _ _ ⟨_, _, _, _, _, _, rfl, rfl⟩
    | rintro _ _ ⟨_, _, _, _, _, _, hxs, rfl, rfl⟩
    | rintro _ _ ⟨_, _, _, _, _, hv2, hx2, rfl, rfl⟩
    | exact (‹invP _ (k + 1)›).1
    | ((fail_if_success refine G.tr ?_); exact G.prop S.p)
    | fail) <;> (try simp only [WKb, ↓reduceIte, Nat.reduceEqDiff, hw, hd3, hd4]))))
      all_goals (apply Tr.againE (k + 1, _, _, _, _, _); (focus (simp only [WKb, ↓reduceIte, Nat.reduceEqDiff])); (focus ((try simp only [WKb, ↓reduceIte, Nat.reduceEqDiff]); (all_goals ((repeat (refine cons_eq (by first | rfl | (simp [*]; done)) ?_)); rfl)); done)); (focus (first | omega | assumption | (simp only []; omega) | (refine ⟨by omega, by assumption⟩) | (simp only []; refine ⟨by omega, by assumption⟩) | ((try simp only []); (repeat' (first | omega | assumption | refine And.intro ?_ ?_)); done))); (focus (first | omega | (simp only []; omega))); (focus (((try clear hK) <;> (try simp only [WKe, *]) <;> repeat (first | with_reducible exact EntR.done | refine S.e ?_ | (refine S.f ?_ <;> (try simp only [WKe, ↓reduceIte, reduceCtorEq, Int.reduceEq, *])) | with_reducible apply EntR.ex | refine EntR.drop (F := F) ?_ | refine EntR.drop ?_)))))
    · ((try simp only [WKb, ↓reduceIte, Nat.reduceEqDiff]) <;> (repeat' ((first
    | (refine G.tr ?_; first | refine S.a ?_ | refine Tr.brK ?_ ?_ | (refine G.call 43 ?_; first | refine S.c ?_ (h := pnew_ok) | refine S.c ?_ (h := pnew2_ok) | refine S.c ?_ (h := pnew1_ok)) | (refine G.call 53 ?_; refine S.c ?_ (h := rnew_ok)) | (refine G.call 44 ?_; refine S.c ?_ (h := works18_ok)) | (refine G.call 54 ?_; refine S.c ?_ (h := like18_ok ?_ ?_)) | (refine G.call 55 ?_; first | refine S.c ?_ (h := done18_ok ?_ ?_ ?_ ?_) | refine S.c ?_ (h := done18e_ok ?_ ?_ ?_ ?_)) | refine S.n fun _ => ?_ | refine S.i fun hix => ?_ | (refine S.g fun hb => ?_; (try simp only [hb])) | (refine S.s (fun hb => ?_) (fun hb => ?_) <;> ((try simp only [hb]) <;> (try (have hp := hb; simp only [WKs] at hp; (try have hq := Int.not_le.2 hp); (try have hq := Int.not_lt.2 hp))))))
    | rintro _ _ ⟨rfl, rfl⟩
    | rintro _ _ ⟨_, _, _, _, rfl, rfl⟩
    | rintro _ _ ⟨_, _, _, hco, rfl, rfl⟩
    | rintro _ _ ⟨_, _, _, _, _, _, rfl, rfl⟩
    | rintro _ _ ⟨_, _, _, _, _, _, hxs, rfl, rfl⟩
    | rintro _ _ ⟨_, _, _, _, _, hv2, hx2, rfl, rfl⟩
    | ((fail_if_success refine G.tr ?_); exact G.prop S.p)
    | fail) <;> (try simp only [WKb, ↓reduceIte, Nat.reduceEqDiff, hd3, hd4]))))
      all_goals
        refine Tr.fin hK ⟨rfl, rfl⟩ ?_
        ((try clear hK) <;> (try simp only [WKe, *]) <;> repeat (first | with_reducible exact EntR.done | refine S.e ?_ | (refine S.f ?_ <;> (try simp only [WKe, ↓reduceIte, reduceCtorEq, Int.reduceEq, *])) | with_reducible apply EntR.ex | refine EntR.drop (F := F) ?_ | refine EntR.drop ?_))
  · ((try simp only [WKb, ↓reduceIte, Nat.reduceEqDiff]) <;> (repeat' ((first
    | (refine G.tr ?_; first | refine S.a ?_ | refine Tr.brK ?_ ?_ | (refine G.call 43 ?_; first | refine S.c ?_ (h := pnew_ok) | refine S.c ?_ (h := pnew2_ok) | refine S.c ?_ (h := pnew1_ok)) | (refine G.call 53 ?_; refine S.c ?_ (h := rnew_ok)) | (refine G.call 44 ?_; refine S.c ?_ (h := works18_ok)) | (refine G.call 54 ?_; refine S.c ?_ (h := like18_ok ?_ ?_)) | (refine G.call 55 ?_; first | refine S.c ?_ (h := done18_ok ?_ ?_ ?_ ?_) | refine S.c ?_ (h := done18e_ok ?_ ?_ ?_ ?_)) | refine S.n fun _ => ?_ | refine S.i fun hix => ?_ | (refine S.g fun hb => ?_; (try simp only [hb])) | (refine S.s (fun hb => ?_) (fun hb => ?_) <;> ((try simp only [hb]) <;> (try (have hp := hb; simp only [WKs] at hp; (try have hq := Int.not_le.2 hp); (try have hq := Int.not_lt.2 hp))))))
    | rintro _ _ ⟨rfl, rfl⟩
    | rintro _ _ ⟨_, _, _, _, rfl, rfl⟩
    | rintro _ _ ⟨_, _, _, hco, rfl, rfl⟩
    | rintro _ _ ⟨_, _, _, _, _, _, rfl, rfl⟩
    | rintro _ _ ⟨_, _, _, _, _, _, hxs, rfl, rfl⟩
    | rintro _ _ ⟨_, _, _, _, _, hv2, hx2, rfl, rfl⟩
    | ((fail_if_success refine G.tr ?_); exact G.prop S.p)
    | fail) <;> (try simp only [WKb, ↓reduceIte, Nat.reduceEqDiff]))))
    all_goals
      refine Tr.fin hK ⟨rfl, rfl⟩ ?_
      ((try clear hK) <;> (try simp only [WKe, *]) <;> repeat (first | with_reducible exact EntR.done | refine S.e ?_ | (refine S.f ?_ <;> (try simp only [WKe, ↓reduceIte, reduceCtorEq, Int.reduceEq, *])) | with_reducible apply EntR.ex | refine EntR.drop (F := F) ?_ | refine EntR.drop ?_))
end Go.Proofs.Ytlmcoiloepoggaa
