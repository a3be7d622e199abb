import Derived.Test.YtlmcoiloepoggaaQE
namespace Go.Proofs.Ytlmcoiloepoggaa
open Go Go.Wk
set_option maxHeartbeats 1600000
set_option maxRecDepth 10000
theorem ahead_prio {p q : One} : (p.ahead q = true → q.prio ≤ p.prio) ∧ (p.ahead q = false → p.prio ≤ q.prio) := by
  unfold One.ahead
  split
  · rename_i h; exact ⟨fun _ => by omega, fun _ => by omega⟩
  · simp only [decide_eq_true_eq, decide_eq_false_iff_not]
    exact ⟨fun _ => by omega, fun _ => by omega⟩
theorem best_spec (t : Tb) (q : One → Bool) : ∀ k : Nat, (t.bestTo q k = -1 ∨ (0 ≤ t.bestTo q k ∧ t.bestTo q k < k ∧ q (t.at (t.bestTo q k)) = true)) ∧ ∀ j : Nat, j < k → q (t.at j) = true → 0 ≤ t.bestTo q k ∧ (t.at j).prio ≤ (t.at (t.bestTo q k)).prio
  | 0 => ⟨.inl rfl, fun j h => by omega⟩
  | k + 1 => by
    obtain ⟨h1, h2⟩ := best_spec t q k
    simp only [Tb.bestTo]
    generalize t.bestTo q k = b at h1 h2 ⊢
    by_cases hq : q (t.at k) = true
    · by_cases hb : b < 0
      · simp only [hq, hb, decide_true, Bool.true_or, Bool.and_self, if_true]
        refine ⟨.inr ⟨by omega, by omega, trivial⟩, fun j hj hqj => ⟨by omega, ?_⟩⟩
        by_cases hjk : j = k
        · subst hjk; exact Int.le_refl _
        · have := h2 j (by omega) hqj; omega
      · by_cases ha : (t.at k).ahead (t.at b) = true
        · simp only [hq, ha, Bool.or_true, Bool.and_self, if_true]
          have hp := ahead_prio.1 ha
          refine ⟨.inr ⟨by omega, by omega, trivial⟩, fun j hj hqj => ⟨by omega, ?_⟩⟩
          by_cases hjk : j = k
          · subst hjk; exact Int.le_refl _
          · have := h2 j (by omega) hqj; omega
        · simp only [Bool.not_eq_true] at ha
          have hb2 : decide (b < 0) = false := by simpa using hb
          simp only [hq, ha, hb2, Bool.or_false, Bool.and_false, Bool.false_eq_true, if_false]
          have hp := ahead_prio.2 ha
          have hbb : 0 ≤ b ∧ b < k ∧ q (t.at b) = true := by
            rcases h1 with h1 | h1
            · omega
            · exact h1
          refine ⟨.inr ⟨by omega, by omega, hbb.2.2⟩, fun j hj hqj => ⟨by omega, ?_⟩⟩
          by_cases hjk : j = k
          · subst hjk; exact hp
          · exact (h2 j (by omega) hqj).2
    · simp only [hq, Bool.false_and, Bool.false_eq_true, if_false]
      refine ⟨h1.imp id fun h => ⟨h.1, by omega, h.2.2⟩, fun j hj hqj => ?_⟩
      by_cases hjk : j = k
      · subst hjk; exact absurd hqj hq
      · exact h2 j (by omega) hqj

theorem refA_open {b : Nat} {t : Tb} {l F : List Asrt} {X : WP} (ht : TakeA l (refA b t) F) (h : ∀ s, Tr (refB b s t.turns :: refS s t.d :: F) X) : Tr l X := Tr.perm ht (by
  unfold refA; rw [Tr.ex_iff]; intro s; rw [Tr.sep_iff]; exact h s)
attribute [local irreducible] GenK EGenK EUnitK CallK FnK CallV GuardO GuardC CondW opX opK opKc chkR eqR seqK blkK endL WL WD W LoopW BinK Tr drewK resL PickK NotK NilK ExtrK getK Instr.storeAt Instr.loadAt Instr.fieldAt Instr.indexAt Instr.lookup Instr.mapUpdate Instr.box Instr.alloc Instr.build Instr.buildSlice Instr.makeSlice Instr.makeMap Instr.sliceAt Instr.field Instr.index Instr.makeInterface Instr.typeAssert Builtin.len_ Builtin.append_ Builtin.cap_ Builtin.min_ Builtin.max_ Builtin.copy_ Builtin.clear_ convert binOp mp blk rob sl sep ex fact old
attribute [local irreducible] refA
attribute [local irreducible] tabA
theorem picks21_ok {s1 s2 : SV} {l : List PConf} {acts : List ActP} : Trip Try.prog 5 [s1.v, s2.v].toArray [sl true s1.v l, sl true s2.v acts]
    fun v l' => v = .bool true ∧ l' = [sl true s1.v l, sl true s2.v acts] := by
  intro F K hK
  simp only [List.cons_append, List.nil_append]
  have hnl : (Tb.new l).d.length ≤ 8 := by simp [Tb.new]; omega
  refine Tr.enter (rs := [.tmp 4]) mixed fn5 rfl (by simp +arith [Try.ntmps5]) fun u => ?_
  simp only [cd5, Try.f5]
  ((try simp only [WKb, ↓reduceIte, Nat.reduceEqDiff, Nat.reduceAdd]) <;> (repeat' ((first
    | (refine G.load ?_; first | refine A.ldW (by rfl) ?_ | refine A.ld1 (by rfl) ?_ | refine A.ldN (by rfl) (by rfl) ?_ | refine A.lS0 (by assumption) (by rfl) ?_ | refine A.lS1 (by assumption) (by rfl) ?_ | refine A.lSW (by assumption) (by rfl) ?_ | refine A.lSN (by assumption) (by rfl) (by rfl) ?_)
    | refine Tr.drewK ?_
    | refine Tr.eqR rfl ?_
    | refine Tr.box rfl fun _ => ?_
    | refine Tr.alloc rfl fun _ => ?_
    | refine Tr.build rfl ?_
    | (refine G.store ?_; first | refine A.stW (by rfl) (by rfl) (by rfl) (by rfl) ?_ | refine A.st (by rfl) (by rfl) (by rfl) (by first | exact Nat.le_of_ble_eq_true rfl | (simp only [WKl, setL_length, En.len]; omega)) ?_ | refine A.stE (by rfl) (by first | omega | assumption | (simp only [WKl]; omega)) (by first | omega | assumption | (simp only [WKl]; omega)) ?_)
    | (refine G.cond ?_; first | refine Tr.condT (by first | rfl | assumption | (simp only [WKs]; omega)) ?_ | refine Tr.condF (by first | rfl | assumption | (simp only [WKs]; omega)) ?_ | (refine Tr.condS (fun hb => ?_) (fun hb => ?_) <;> ((try simp only [hb]) <;> (try (have hp := hb; simp only [WKs] at hp; (try have hq := Int.not_le.2 hp); (try have hq := Int.not_lt.2 hp))))))
    | (refine G.guard ?_; first | (refine Tr.guardTT (by first | rfl | assumption | (simp only [WKs]; omega)) (fun hb => ?_) <;> (try simp only [hb])) | (refine Tr.guardFF (by first | rfl | assumption | (simp only [WKs]; omega)) (fun hb => ?_) <;> (try simp only [hb])) | (refine Tr.guardS (fun hb => ?_) (fun hb => ?_) <;> ((try simp only [hb]) <;> (try (have hp := hb; simp only [WKs] at hp; (try have hq := Int.not_le.2 hp); (try have hq := Int.not_lt.2 hp))))))
    | (refine G.guardC ?_; refine Tr.guardCS (fun hb => ?_) (fun hb => ?_) <;> ((try simp only [hb]) <;> (try (have hp := hb; simp only [WKs] at hp; (try have hq := Int.not_le.2 hp); (try have hq := Int.not_lt.2 hp)))))
    | (refine G.idx ?_; first | refine Tr.indexArr (by omega) (by omega) ?_ | refine A.idx (by rfl) (by first | omega | assumption | (simp only [WKl]; omega)) (by first | omega | assumption | (simp only [WKl]; omega)) fun hix => ?_)
    | (refine G.len ?_; first | refine A.len ?_ | refine A.lenM ?_ | refine Tr.lenMapNil ?_)
    | (refine G.call 20 ?_; apply Tr.callC ?_ (new_ok _ _) ?_)
    | (refine G.call 21 ?_; apply Tr.callC ?_ (rnew_ok _ _) ?_)
    | (refine G.call 22 ?_; apply Tr.callC ?_ (done21_ok ?_) ?_)
    | (refine G.call 28 ?_; refine Tr.callC (by (repeat (first | exact TakeL.nil | (apply TakeL.cons; focus ((first | ((repeat (first | with_reducible exact TakeA.here | with_reducible apply TakeA.next)); done) | ((repeat (first | exact TakeA.here | apply TakeA.next)); done)))) | fail)); done) (pick0n_ok) ?_)
    | (refine G.call 28 ?_; refine Tr.callC (by (repeat (first | exact TakeL.nil | (apply TakeL.cons; focus ((first | ((repeat (first | with_reducible exact TakeA.here | with_reducible apply TakeA.next)); done) | ((repeat (first | exact TakeA.here | apply TakeA.next)); done)))) | fail)); done) (pick0e_ok) ?_)
    | (refine G.call 28 ?_; apply Tr.callC ?_ (pick_ok _ _ ?_) ?_)
    | (refine G.call 29 ?_; refine Tr.callC (by (repeat (first | exact TakeL.nil | (apply TakeL.cons; focus ((first | ((repeat (first | with_reducible exact TakeA.here | with_reducible apply TakeA.next)); done) | ((repeat (first | exact TakeA.here | apply TakeA.next)); done)))) | fail)); done) (state0n_ok) ?_)
    | (refine G.call 29 ?_; refine Tr.callC (by (repeat (first | exact TakeL.nil | (apply TakeL.cons; focus ((first | ((repeat (first | with_reducible exact TakeA.here | with_reducible apply TakeA.next)); done) | ((repeat (first | exact TakeA.here | apply TakeA.next)); done)))) | fail)); done) (state0e_ok) ?_)
    | (refine G.call 29 ?_; apply Tr.callC ?_ (state_ok _ _ _) ?_)
    | (refine G.call 30 ?_; refine Tr.callC (by (repeat (first | exact TakeL.nil | (apply TakeL.cons; focus ((first | ((repeat (first | with_reducible exact TakeA.here | with_reducible apply TakeA.next)); done) | ((repeat (first | exact TakeA.here | apply TakeA.next)); done)))) | fail)); done) (prio0n_ok) ?_)
    | (refine G.call 30 ?_; refine Tr.callC (by (repeat (first | exact TakeL.nil | (apply TakeL.cons; focus ((first | ((repeat (first | with_reducible exact TakeA.here | with_reducible apply TakeA.next)); done) | ((repeat (first | exact TakeA.here | apply TakeA.next)); done)))) | fail)); done) (prio0e_ok) ?_)
    | (refine G.call 30 ?_; apply Tr.callC ?_ (prio_ok _ _ _) ?_)
    | (refine G.call 24 ?_; apply Tr.callC ?_ (works21_ok) ?_)
    | with_reducible exact TakeL.nil
    | with_reducible apply TakeL.cons
    | rintro _ _ ⟨rfl, rfl⟩
    | rintro _ _ ⟨_, rfl, rfl⟩
    | (refine G.app ?_; first | refine A.app0 (by rfl) (by decide) (by first | omega | assumption | (simp only [WKl]; omega)) fun _ => ?_ | refine A.app (by rfl) (by decide) (by first | omega | assumption | (simp only [WKl]; omega)) fun _ => ?_)
    | (refine G.bs ?_; first | refine Tr.buildNil rfl fun _ => ?_ | refine Tr.build1 _ rfl rfl (by decide) fun _ => ?_)
    | (refine G.cut ?_; refine A.cutTo (by rfl) (by omega) (by omega) fun _ => ?_)
    | (refine G.look ?_; first | refine A.look ?_ | refine Tr.lookupNil ?_)
    | (refine G.mapu ?_; refine A.mapu ?_)
    | refine Tr.makeMap fun _ => ?_
    | (refine G.rem ?_; refine Tr.rem (by omega) ?_)
    | (refine G.prop ?_; first | omega | assumption | exact Nat.le_of_ble_eq_true rfl)
    | ((apply G.take; first | ((repeat (first | with_reducible exact TakeA.here | with_reducible apply TakeA.next)); done) | ((repeat (first | exact TakeA.here | apply TakeA.next)); done)))) <;> (try simp only [WKb, ↓reduceIte, Nat.reduceEqDiff]))))
  rename_i a b
  refine Tr.loopE (α := Nat × Tb) [7] [1, 4, 5, 6] (fun x => [.int .i64 x.1]) (fun x => [tabA a x.2, refA b x.2, sl true s1.v l, sl true s2.v acts]) (fun x => x.1 ≤ 60 ∧ x.2.d.length ≤ 8) (fun x => 60 - x.1) (0, Tb.new l) (by (repeat (first | exact TakeL.nil | apply TakeL.cons (by (repeat (first | exact TakeA.here | apply TakeA.next)); done))); done) rfl ⟨by simp, hnl⟩ fun x u hx => ?_
  obtain ⟨k, t⟩ := x
  simp only at hx ⊢
  have hw := wrap_succ (k := k) (by omega)
  have hal := act_len t (ix acts (k : Int))
  obtain ⟨hb1, hb2⟩ := best_spec t One.ready t.d.length
  have hbe : t.bestTo One.ready t.d.length = t.best One.ready := rfl
  rw [hbe] at hb1 hb2
  have hst : t.best One.ready < 0 ∨ (0 ≤ t.best One.ready ∧ (t.at (t.best One.ready)).state = 1) := by
    rcases hb1 with h1 | ⟨h0, _, h1⟩
    · exact .inl (by omega)
    · simp [One.ready] at h1; exact .inr ⟨h0, h1.1⟩
  clear hb1
  ((try simp only [WKb, ↓reduceIte, Nat.reduceEqDiff]) <;> (repeat' ((first
    | (refine G.load ?_; first | refine A.ldW (by rfl) ?_ | refine A.ld1 (by rfl) ?_ | refine A.ldN (by rfl) (by rfl) ?_ | refine A.lS0 (by assumption) (by rfl) ?_ | refine A.lS1 (by assumption) (by rfl) ?_ | refine A.lSW (by assumption) (by rfl) ?_ | refine A.lSN (by assumption) (by rfl) (by rfl) ?_)
    | refine Tr.drewK ?_
    | refine Tr.eqR rfl ?_
    | refine Tr.box rfl fun _ => ?_
    | refine Tr.alloc rfl fun _ => ?_
    | refine Tr.build rfl ?_
    | (refine G.store ?_; first | refine A.stW (by rfl) (by rfl) (by rfl) (by rfl) ?_ | refine A.st (by rfl) (by rfl) (by rfl) (by first | exact Nat.le_of_ble_eq_true rfl | (simp only [WKl, setL_length, En.len]; omega)) ?_ | refine A.stE (by rfl) (by first | omega | assumption | (simp only [WKl]; omega)) (by first | omega | assumption | (simp only [WKl]; omega)) ?_)
    | (refine G.cond ?_; first | refine Tr.condT (by first | rfl | assumption | (simp only [WKs]; omega)) ?_ | refine Tr.condF (by first | rfl | assumption | (simp only [WKs]; omega)) ?_ | (refine Tr.condS (fun hb => ?_) (fun hb => ?_) <;> ((try simp only [hb]) <;> (try (have hp := hb; simp only [WKs] at hp; (try have hq := Int.not_le.2 hp); (try have hq := Int.not_lt.2 hp))))))
    | (refine G.guard ?_; first | (refine Tr.guardTT (by first | rfl | assumption | (simp only [WKs]; omega)) (fun hb => ?_) <;> (try simp only [hb])) | (refine Tr.guardFF (by first | rfl | assumption | (simp only [WKs]; omega)) (fun hb => ?_) <;> (try simp only [hb])) | (refine Tr.guardS (fun hb => ?_) (fun hb => ?_) <;> ((try simp only [hb]) <;> (try (have hp := hb; simp only [WKs] at hp; (try have hq := Int.not_le.2 hp); (try have hq := Int.not_lt.2 hp))))))
    | (refine G.guardC ?_; refine Tr.guardCS (fun hb => ?_) (fun hb => ?_) <;> ((try simp only [hb]) <;> (try (have hp := hb; simp only [WKs] at hp; (try have hq := Int.not_le.2 hp); (try have hq := Int.not_lt.2 hp)))))
    | (refine G.idx ?_; first | refine Tr.indexArr (by omega) (by omega) ?_ | refine A.idx (by rfl) (by first | omega | assumption | (simp only [WKl]; omega)) (by first | omega | assumption | (simp only [WKl]; omega)) fun hix => ?_)
    | (refine G.len ?_; first | refine A.len ?_ | refine A.lenM ?_ | refine Tr.lenMapNil ?_)
    | (refine G.call 20 ?_; apply Tr.callC ?_ (new_ok _ _) ?_)
    | (refine G.call 21 ?_; apply Tr.callC ?_ (rnew_ok _ _) ?_)
    | (refine G.call 22 ?_; apply Tr.callC ?_ (done21_ok ?_) ?_)
    | (refine G.call 28 ?_; refine Tr.callC (by (repeat (first | exact TakeL.nil | (apply TakeL.cons; focus ((first | ((repeat (first | with_reducible exact TakeA.here | with_reducible apply TakeA.next)); done) | ((repeat (first | exact TakeA.here | apply TakeA.next)); done)))) | fail)); done) (pick0n_ok) ?_)
    | (refine G.call 28 ?_; refine Tr.callC (by (repeat (first | exact TakeL.nil | (apply TakeL.cons; focus ((first | ((repeat (first | with_reducible exact TakeA.here | with_reducible apply TakeA.next)); done) | ((repeat (first | exact TakeA.here | apply TakeA.next)); done)))) | fail)); done) (pick0e_ok) ?_)
    | (refine G.call 28 ?_; apply Tr.callC ?_ (pick_ok _ _ ?_) ?_)
    | (refine G.call 29 ?_; refine Tr.callC (by (repeat (first | exact TakeL.nil | (apply TakeL.cons; focus ((first | ((repeat (first | with_reducible exact TakeA.here | with_reducible apply TakeA.next)); done) | ((repeat (first | exact TakeA.here | apply TakeA.next)); done)))) | fail)); done) (state0n_ok) ?_)
    | (refine G.call 29 ?_; refine Tr.callC (by (repeat (first | exact TakeL.nil | (apply TakeL.cons; focus ((first | ((repeat (first | with_reducible exact TakeA.here | with_reducible apply TakeA.next)); done) | ((repeat (first | exact TakeA.here | apply TakeA.next)); done)))) | fail)); done) (state0e_ok) ?_)
    | (refine G.call 29 ?_; apply Tr.callC ?_ (state_ok _ _ _) ?_)
    | (refine G.call 30 ?_; refine Tr.callC (by (repeat (first | exact TakeL.nil | (apply TakeL.cons; focus ((first | ((repeat (first | with_reducible exact TakeA.here | with_reducible apply TakeA.next)); done) | ((repeat (first | exact TakeA.here | apply TakeA.next)); done)))) | fail)); done) (prio0n_ok) ?_)
    | (refine G.call 30 ?_; refine Tr.callC (by (repeat (first | exact TakeL.nil | (apply TakeL.cons; focus ((first | ((repeat (first | with_reducible exact TakeA.here | with_reducible apply TakeA.next)); done) | ((repeat (first | exact TakeA.here | apply TakeA.next)); done)))) | fail)); done) (prio0e_ok) ?_)
    | (refine G.call 30 ?_; apply Tr.callC ?_ (prio_ok _ _ _) ?_)
    | (refine G.call 24 ?_; apply Tr.callC ?_ (works21_ok) ?_)
    | with_reducible exact TakeL.nil
    | with_reducible apply TakeL.cons
    | rintro _ _ ⟨rfl, rfl⟩
    | rintro _ _ ⟨_, rfl, rfl⟩
    | (refine G.app ?_; first | refine A.app0 (by rfl) (by decide) (by first | omega | assumption | (simp only [WKl]; omega)) fun _ => ?_ | refine A.app (by rfl) (by decide) (by first | omega | assumption | (simp only [WKl]; omega)) fun _ => ?_)
    | (refine G.bs ?_; first | refine Tr.buildNil rfl fun _ => ?_ | refine Tr.build1 _ rfl rfl (by decide) fun _ => ?_)
    | (refine G.cut ?_; refine A.cutTo (by rfl) (by omega) (by omega) fun _ => ?_)
    | (refine G.look ?_; first | refine A.look ?_ | refine Tr.lookupNil ?_)
    | (refine G.mapu ?_; refine A.mapu ?_)
    | refine Tr.makeMap fun _ => ?_
    | (refine G.rem ?_; refine Tr.rem (by omega) ?_)
    | (refine G.prop ?_; first | omega | assumption | exact Nat.le_of_ble_eq_true rfl)
    | ((apply G.take; first | ((repeat (first | with_reducible exact TakeA.here | with_reducible apply TakeA.next)); done) | ((repeat (first | exact TakeA.here | apply TakeA.next)); done)))) <;> (try simp only [WKb, ↓reduceIte, Nat.reduceEqDiff, hw]))))
  · (apply Tr.againE (k + 1, t.act (ix acts (k : Int))); (focus (simp only [WKb, ↓reduceIte, Nat.reduceEqDiff])); (focus ((try simp only [WKb, ↓reduceIte]); (all_goals ((repeat (refine cons_eq (by first | rfl | (simp [*]; done)) ?_)); rfl)); done)); (focus (first | omega | assumption | (simp only []; omega) | (refine ⟨by omega, by assumption⟩) | (simp only []; refine ⟨by omega, by assumption⟩) | ((try simp only []); (repeat' (first | omega | assumption | refine And.intro ?_ ?_)); done))); (focus (first | omega | (simp only []; omega))); (focus (((try clear hK) <;> (try simp only [WKe, *]) <;> repeat (first
    | with_reducible exact EntR.done
    | (apply EntR.take; focus (first | ((repeat (first | with_reducible exact TakeA.here | with_reducible apply TakeA.next)); done) | ((repeat (first | exact TakeA.here | apply TakeA.next)); done)))
    | with_reducible refine EntR.sep ?_
    | with_reducible apply EntR.ex
    | with_reducible refine EntR.fact (by first | rfl | assumption | omega | simp) ?_
    | refine EntR.drop (F := F) ?_
    | refine EntR.drop ?_)))))
  all_goals
    refine refA_open (by (repeat (first | exact TakeA.here | apply TakeA.next)); done) fun s => ?_
    refine Tr.loopE (α := Nat) [4, 9] [5, 6, 8] (fun k => [.bool false, .int .i64 k]) (fun _ => [refB b s t.turns, refS s t.d, tabA a t, sl true s1.v l, sl true s2.v acts]) (fun k => k ≤ 8) (fun k => 8 - k) 0 (by (repeat (first | exact TakeL.nil | apply TakeL.cons (by (repeat (first | exact TakeA.here | apply TakeA.next)); done))); done) rfl (by simp) fun j u hj => ?_
    by_cases hjl : j < t.d.length
    · have hw := wrap_succ (k := j) (by omega)
      have hbj := hb2 j hjl
      rw [at_nat] at hbj
      clear hb2
      have hat := at_nat (t := t) (k := j)
      cases hs1 : decide ((ix t.d (j : Int)).state = 1)
      · ((try simp only [WKb, ↓reduceIte, Nat.reduceEqDiff]) <;> (repeat' ((first
    | (refine G.load ?_; first | refine A.ldW (by rfl) ?_ | refine A.ld1 (by rfl) ?_ | refine A.ldN (by rfl) (by rfl) ?_ | refine A.lS0 (by assumption) (by rfl) ?_ | refine A.lS1 (by assumption) (by rfl) ?_ | refine A.lSW (by assumption) (by rfl) ?_ | refine A.lSN (by assumption) (by rfl) (by rfl) ?_)
    | refine Tr.drewK ?_
    | refine Tr.eqR rfl ?_
    | refine Tr.box rfl fun _ => ?_
    | refine Tr.alloc rfl fun _ => ?_
    | refine Tr.build rfl ?_
    | (refine G.store ?_; first | refine A.stW (by rfl) (by rfl) (by rfl) (by rfl) ?_ | refine A.st (by rfl) (by rfl) (by rfl) (by first | exact Nat.le_of_ble_eq_true rfl | (simp only [WKl, setL_length, En.len]; omega)) ?_ | refine A.stE (by rfl) (by first | omega | assumption | (simp only [WKl]; omega)) (by first | omega | assumption | (simp only [WKl]; omega)) ?_)
    | (refine G.cond ?_; first | refine Tr.condT (by first | rfl | assumption | (simp only [WKs]; omega)) ?_ | refine Tr.condF (by first | rfl | assumption | (simp only [WKs]; omega)) ?_ | (refine Tr.condS (fun hb => ?_) (fun hb => ?_) <;> ((try simp only [hb]) <;> (try (have hp := hb; simp only [WKs] at hp; (try have hq := Int.not_le.2 hp); (try have hq := Int.not_lt.2 hp))))))
    | (refine G.guard ?_; first | (refine Tr.guardTT (by first | rfl | assumption | (simp only [WKs]; omega)) (fun hb => ?_) <;> (try simp only [hb])) | (refine Tr.guardFF (by first | rfl | assumption | (simp only [WKs]; omega)) (fun hb => ?_) <;> (try simp only [hb])) | (refine Tr.guardS (fun hb => ?_) (fun hb => ?_) <;> ((try simp only [hb]) <;> (try (have hp := hb; simp only [WKs] at hp; (try have hq := Int.not_le.2 hp); (try have hq := Int.not_lt.2 hp))))))
    | (refine G.guardC ?_; refine Tr.guardCS (fun hb => ?_) (fun hb => ?_) <;> ((try simp only [hb]) <;> (try (have hp := hb; simp only [WKs] at hp; (try have hq := Int.not_le.2 hp); (try have hq := Int.not_lt.2 hp)))))
    | (refine G.idx ?_; first | refine Tr.indexArr (by omega) (by omega) ?_ | refine A.idx (by rfl) (by first | omega | assumption | (simp only [WKl]; omega)) (by first | omega | assumption | (simp only [WKl]; omega)) fun hix => ?_)
    | (refine G.len ?_; first | refine A.len ?_ | refine A.lenM ?_ | refine Tr.lenMapNil ?_)
    | (refine G.call 20 ?_; apply Tr.callC ?_ (new_ok _ _) ?_)
    | (refine G.call 21 ?_; apply Tr.callC ?_ (rnew_ok _ _) ?_)
    | (refine G.call 22 ?_; apply Tr.callC ?_ (done21_ok ?_) ?_)
    | (refine G.call 28 ?_; refine Tr.callC (by (repeat (first | exact TakeL.nil | (apply TakeL.cons; focus ((first | ((repeat (first | with_reducible exact TakeA.here | with_reducible apply TakeA.next)); done) | ((repeat (first | exact TakeA.here | apply TakeA.next)); done)))) | fail)); done) (pick0n_ok) ?_)
    | (refine G.call 28 ?_; refine Tr.callC (by (repeat (first | exact TakeL.nil | (apply TakeL.cons; focus ((first | ((repeat (first | with_reducible exact TakeA.here | with_reducible apply TakeA.next)); done) | ((repeat (first | exact TakeA.here | apply TakeA.next)); done)))) | fail)); done) (pick0e_ok) ?_)
    | (refine G.call 28 ?_; apply Tr.callC ?_ (pick_ok _ _ ?_) ?_)
    | (refine G.call 29 ?_; refine Tr.callC (by (repeat (first | exact TakeL.nil | (apply TakeL.cons; focus ((first | ((repeat (first | with_reducible exact TakeA.here | with_reducible apply TakeA.next)); done) | ((repeat (first | exact TakeA.here | apply TakeA.next)); done)))) | fail)); done) (state0n_ok) ?_)
    | (refine G.call 29 ?_; refine Tr.callC (by (repeat (first | exact TakeL.nil | (apply TakeL.cons; focus ((first | ((repeat (first | with_reducible exact TakeA.here | with_reducible apply TakeA.next)); done) | ((repeat (first | exact TakeA.here | apply TakeA.next)); done)))) | fail)); done) (state0e_ok) ?_)
    | (refine G.call 29 ?_; apply Tr.callC ?_ (state_ok _ _ _) ?_)
    | (refine G.call 30 ?_; refine Tr.callC (by (repeat (first | exact TakeL.nil | (apply TakeL.cons; focus ((first | ((repeat (first | with_reducible exact TakeA.here | with_reducible apply TakeA.next)); done) | ((repeat (first | exact TakeA.here | apply TakeA.next)); done)))) | fail)); done) (prio0n_ok) ?_)
    | (refine G.call 30 ?_; refine Tr.callC (by (repeat (first | exact TakeL.nil | (apply TakeL.cons; focus ((first | ((repeat (first | with_reducible exact TakeA.here | with_reducible apply TakeA.next)); done) | ((repeat (first | exact TakeA.here | apply TakeA.next)); done)))) | fail)); done) (prio0e_ok) ?_)
    | (refine G.call 30 ?_; apply Tr.callC ?_ (prio_ok _ _ _) ?_)
    | (refine G.call 24 ?_; apply Tr.callC ?_ (works21_ok) ?_)
    | with_reducible exact TakeL.nil
    | with_reducible apply TakeL.cons
    | rintro _ _ ⟨rfl, rfl⟩
    | rintro _ _ ⟨_, rfl, rfl⟩
    | (refine G.app ?_; first | refine A.app0 (by rfl) (by decide) (by first | omega | assumption | (simp only [WKl]; omega)) fun _ => ?_ | refine A.app (by rfl) (by decide) (by first | omega | assumption | (simp only [WKl]; omega)) fun _ => ?_)
    | (refine G.bs ?_; first | refine Tr.buildNil rfl fun _ => ?_ | refine Tr.build1 _ rfl rfl (by decide) fun _ => ?_)
    | (refine G.cut ?_; refine A.cutTo (by rfl) (by omega) (by omega) fun _ => ?_)
    | (refine G.look ?_; first | refine A.look ?_ | refine Tr.lookupNil ?_)
    | (refine G.mapu ?_; refine A.mapu ?_)
    | refine Tr.makeMap fun _ => ?_
    | (refine G.rem ?_; refine Tr.rem (by omega) ?_)
    | (refine G.prop ?_; first | omega | assumption | exact Nat.le_of_ble_eq_true rfl)
    | ((apply G.take; first | ((repeat (first | with_reducible exact TakeA.here | with_reducible apply TakeA.next)); done) | ((repeat (first | exact TakeA.here | apply TakeA.next)); done)))) <;> (try simp only [WKb, ↓reduceIte, Nat.reduceEqDiff, ix_mk, hw, hs1]))))
        all_goals first
          | (apply Tr.againE (j + 1); (focus (simp only [WKb, ↓reduceIte, Nat.reduceEqDiff])); (focus ((try simp only [WKb, ↓reduceIte, Nat.reduceEqDiff]); (all_goals ((repeat (refine cons_eq (by first | rfl | (simp [*]; done)) ?_)); rfl)); done)); (focus (first | omega | assumption | (simp only []; omega) | (refine ⟨by omega, by assumption⟩) | (simp only []; refine ⟨by omega, by assumption⟩) | ((try simp only []); (repeat' (first | omega | assumption | refine And.intro ?_ ?_)); done))); (focus (first | omega | (simp only []; omega))); (focus (((try clear hK) <;> (try simp only [WKe, *]) <;> repeat (first
    | with_reducible exact EntR.done
    | (apply EntR.take; focus (first | ((repeat (first | with_reducible exact TakeA.here | with_reducible apply TakeA.next)); done) | ((repeat (first | exact TakeA.here | apply TakeA.next)); done)))
    | with_reducible refine EntR.sep ?_
    | with_reducible apply EntR.ex
    | with_reducible refine EntR.fact (by first | rfl | assumption | omega | simp) ?_
    | refine EntR.drop (F := F) ?_
    | refine EntR.drop ?_)))))
          | (refine Tr.fin hK ⟨rfl, rfl⟩ ?_; ((try clear hK) <;> (try simp only [WKe, ↓reduceIte, reduceCtorEq, Int.reduceEq, *]) <;> repeat (first
    | with_reducible exact EntR.done
    | (apply EntR.take; focus (first | ((repeat (first | with_reducible exact TakeA.here | with_reducible apply TakeA.next)); done) | ((repeat (first | exact TakeA.here | apply TakeA.next)); done)))
    | with_reducible refine EntR.sep ?_
    | with_reducible apply EntR.ex
    | with_reducible refine EntR.fact (by first | rfl | assumption | omega | simp) ?_
    | refine EntR.drop (F := F) ?_
    | refine EntR.drop ?_)))
      · cases hp1 : (ix t.d (j : Int)).parked
        · have hbk := hbj (by simp only [One.ready, hs1, hp1]; rfl)
          clear hbj
          ((try simp only [WKb, ↓reduceIte, Nat.reduceEqDiff]) <;> (repeat' ((first
    | (refine G.load ?_; first | refine A.ldW (by rfl) ?_ | refine A.ld1 (by rfl) ?_ | refine A.ldN (by rfl) (by rfl) ?_ | refine A.lS0 (by assumption) (by rfl) ?_ | refine A.lS1 (by assumption) (by rfl) ?_ | refine A.lSW (by assumption) (by rfl) ?_ | refine A.lSN (by assumption) (by rfl) (by rfl) ?_)
    | refine Tr.drewK ?_
    | refine Tr.eqR rfl ?_
    | refine Tr.box rfl fun _ => ?_
    | refine Tr.alloc rfl fun _ => ?_
    | refine Tr.build rfl ?_
    | (refine G.store ?_; first | refine A.stW (by rfl) (by rfl) (by rfl) (by rfl) ?_ | refine A.st (by rfl) (by rfl) (by rfl) (by first | exact Nat.le_of_ble_eq_true rfl | (simp only [WKl, setL_length, En.len]; omega)) ?_ | refine A.stE (by rfl) (by first | omega | assumption | (simp only [WKl]; omega)) (by first | omega | assumption | (simp only [WKl]; omega)) ?_)
    | (refine G.cond ?_; first | refine Tr.condT (by first | rfl | assumption | (simp only [WKs]; omega)) ?_ | refine Tr.condF (by first | rfl | assumption | (simp only [WKs]; omega)) ?_ | (refine Tr.condS (fun hb => ?_) (fun hb => ?_) <;> ((try simp only [hb]) <;> (try (have hp := hb; simp only [WKs] at hp; (try have hq := Int.not_le.2 hp); (try have hq := Int.not_lt.2 hp))))))
    | (refine G.guard ?_; first | (refine Tr.guardTT (by first | rfl | assumption | (simp only [WKs]; omega)) (fun hb => ?_) <;> (try simp only [hb])) | (refine Tr.guardFF (by first | rfl | assumption | (simp only [WKs]; omega)) (fun hb => ?_) <;> (try simp only [hb])) | (refine Tr.guardS (fun hb => ?_) (fun hb => ?_) <;> ((try simp only [hb]) <;> (try (have hp := hb; simp only [WKs] at hp; (try have hq := Int.not_le.2 hp); (try have hq := Int.not_lt.2 hp))))))
    | (refine G.guardC ?_; refine Tr.guardCS (fun hb => ?_) (fun hb => ?_) <;> ((try simp only [hb]) <;> (try (have hp := hb; simp only [WKs] at hp; (try have hq := Int.not_le.2 hp); (try have hq := Int.not_lt.2 hp)))))
    | (refine G.idx ?_; first | refine Tr.indexArr (by omega) (by omega) ?_ | refine A.idx (by rfl) (by first | omega | assumption | (simp only [WKl]; omega)) (by first | omega | assumption | (simp only [WKl]; omega)) fun hix => ?_)
    | (refine G.len ?_; first | refine A.len ?_ | refine A.lenM ?_ | refine Tr.lenMapNil ?_)
    | (refine G.call 20 ?_; apply Tr.callC ?_ (new_ok _ _) ?_)
    | (refine G.call 21 ?_; apply Tr.callC ?_ (rnew_ok _ _) ?_)
    | (refine G.call 22 ?_; apply Tr.callC ?_ (done21_ok ?_) ?_)
    | (refine G.call 28 ?_; refine Tr.callC (by (repeat (first | exact TakeL.nil | (apply TakeL.cons; focus ((first | ((repeat (first | with_reducible exact TakeA.here | with_reducible apply TakeA.next)); done) | ((repeat (first | exact TakeA.here | apply TakeA.next)); done)))) | fail)); done) (pick0n_ok) ?_)
    | (refine G.call 28 ?_; refine Tr.callC (by (repeat (first | exact TakeL.nil | (apply TakeL.cons; focus ((first | ((repeat (first | with_reducible exact TakeA.here | with_reducible apply TakeA.next)); done) | ((repeat (first | exact TakeA.here | apply TakeA.next)); done)))) | fail)); done) (pick0e_ok) ?_)
    | (refine G.call 28 ?_; apply Tr.callC ?_ (pick_ok _ _ ?_) ?_)
    | (refine G.call 29 ?_; refine Tr.callC (by (repeat (first | exact TakeL.nil | (apply TakeL.cons; focus ((first | ((repeat (first | with_reducible exact TakeA.here | with_reducible apply TakeA.next)); done) | ((repeat (first | exact TakeA.here | apply TakeA.next)); done)))) | fail)); done) (state0n_ok) ?_)
    | (refine G.call 29 ?_; refine Tr.callC (by (repeat (first | exact TakeL.nil | (apply TakeL.cons; focus ((first | ((repeat (first | with_reducible exact TakeA.here | with_reducible apply TakeA.next)); done) | ((repeat (first | exact TakeA.here | apply TakeA.next)); done)))) | fail)); done) (state0e_ok) ?_)
    | (refine G.call 29 ?_; apply Tr.callC ?_ (state_ok _ _ _) ?_)
    | (refine G.call 30 ?_; refine Tr.callC (by (repeat (first | exact TakeL.nil | (apply TakeL.cons; focus ((first | ((repeat (first | with_reducible exact TakeA.here | with_reducible apply TakeA.next)); done) | ((repeat (first | exact TakeA.here | apply TakeA.next)); done)))) | fail)); done) (prio0n_ok) ?_)
    | (refine G.call 30 ?_; refine Tr.callC (by (repeat (first | exact TakeL.nil | (apply TakeL.cons; focus ((first | ((repeat (first | with_reducible exact TakeA.here | with_reducible apply TakeA.next)); done) | ((repeat (first | exact TakeA.here | apply TakeA.next)); done)))) | fail)); done) (prio0e_ok) ?_)
    | (refine G.call 30 ?_; apply Tr.callC ?_ (prio_ok _ _ _) ?_)
    | (refine G.call 24 ?_; apply Tr.callC ?_ (works21_ok) ?_)
    | with_reducible exact TakeL.nil
    | with_reducible apply TakeL.cons
    | rintro _ _ ⟨rfl, rfl⟩
    | rintro _ _ ⟨_, rfl, rfl⟩
    | (refine G.app ?_; first | refine A.app0 (by rfl) (by decide) (by first | omega | assumption | (simp only [WKl]; omega)) fun _ => ?_ | refine A.app (by rfl) (by decide) (by first | omega | assumption | (simp only [WKl]; omega)) fun _ => ?_)
    | (refine G.bs ?_; first | refine Tr.buildNil rfl fun _ => ?_ | refine Tr.build1 _ rfl rfl (by decide) fun _ => ?_)
    | (refine G.cut ?_; refine A.cutTo (by rfl) (by omega) (by omega) fun _ => ?_)
    | (refine G.look ?_; first | refine A.look ?_ | refine Tr.lookupNil ?_)
    | (refine G.mapu ?_; refine A.mapu ?_)
    | refine Tr.makeMap fun _ => ?_
    | (refine G.rem ?_; refine Tr.rem (by omega) ?_)
    | (refine G.prop ?_; first | omega | assumption | exact Nat.le_of_ble_eq_true rfl)
    | ((apply G.take; first | ((repeat (first | with_reducible exact TakeA.here | with_reducible apply TakeA.next)); done) | ((repeat (first | exact TakeA.here | apply TakeA.next)); done)))) <;> (try simp only [WKb, ↓reduceIte, Nat.reduceEqDiff, ix_mk, hw, hat, hs1, hp1]))))
          all_goals first
            | (apply Tr.againE (j + 1); (focus (simp only [WKb, ↓reduceIte, Nat.reduceEqDiff])); (focus ((try simp only [WKb, ↓reduceIte, Nat.reduceEqDiff]); (all_goals ((repeat (refine cons_eq (by first | rfl | (simp [*]; done)) ?_)); rfl)); done)); (focus (first | omega | assumption | (simp only []; omega) | (refine ⟨by omega, by assumption⟩) | (simp only []; refine ⟨by omega, by assumption⟩) | ((try simp only []); (repeat' (first | omega | assumption | refine And.intro ?_ ?_)); done))); (focus (first | omega | (simp only []; omega))); (focus (((try clear hK) <;> (try simp only [WKe, *]) <;> repeat (first
    | with_reducible exact EntR.done
    | (apply EntR.take; focus (first | ((repeat (first | with_reducible exact TakeA.here | with_reducible apply TakeA.next)); done) | ((repeat (first | exact TakeA.here | apply TakeA.next)); done)))
    | with_reducible refine EntR.sep ?_
    | with_reducible apply EntR.ex
    | with_reducible refine EntR.fact (by first | rfl | assumption | omega | simp) ?_
    | refine EntR.drop (F := F) ?_
    | refine EntR.drop ?_)))))
            | (refine Tr.fin hK ⟨rfl, rfl⟩ ?_; ((try clear hK) <;> (try simp only [WKe, ↓reduceIte, reduceCtorEq, Int.reduceEq, *]) <;> repeat (first
    | with_reducible exact EntR.done
    | (apply EntR.take; focus (first | ((repeat (first | with_reducible exact TakeA.here | with_reducible apply TakeA.next)); done) | ((repeat (first | exact TakeA.here | apply TakeA.next)); done)))
    | with_reducible refine EntR.sep ?_
    | with_reducible apply EntR.ex
    | with_reducible refine EntR.fact (by first | rfl | assumption | omega | simp) ?_
    | refine EntR.drop (F := F) ?_
    | refine EntR.drop ?_)))
        · ((try simp only [WKb, ↓reduceIte, Nat.reduceEqDiff]) <;> (repeat' ((first
    | (refine G.load ?_; first | refine A.ldW (by rfl) ?_ | refine A.ld1 (by rfl) ?_ | refine A.ldN (by rfl) (by rfl) ?_ | refine A.lS0 (by assumption) (by rfl) ?_ | refine A.lS1 (by assumption) (by rfl) ?_ | refine A.lSW (by assumption) (by rfl) ?_ | refine A.lSN (by assumption) (by rfl) (by rfl) ?_)
    | refine Tr.drewK ?_
    | refine Tr.eqR rfl ?_
    | refine Tr.box rfl fun _ => ?_
    | refine Tr.alloc rfl fun _ => ?_
    | refine Tr.build rfl ?_
    | (refine G.store ?_; first | refine A.stW (by rfl) (by rfl) (by rfl) (by rfl) ?_ | refine A.st (by rfl) (by rfl) (by rfl) (by first | exact Nat.le_of_ble_eq_true rfl | (simp only [WKl, setL_length, En.len]; omega)) ?_ | refine A.stE (by rfl) (by first | omega | assumption | (simp only [WKl]; omega)) (by first | omega | assumption | (simp only [WKl]; omega)) ?_)
    | (refine G.cond ?_; first | refine Tr.condT (by first | rfl | assumption | (simp only [WKs]; omega)) ?_ | refine Tr.condF (by first | rfl | assumption | (simp only [WKs]; omega)) ?_ | (refine Tr.condS (fun hb => ?_) (fun hb => ?_) <;> ((try simp only [hb]) <;> (try (have hp := hb; simp only [WKs] at hp; (try have hq := Int.not_le.2 hp); (try have hq := Int.not_lt.2 hp))))))
    | (refine G.guard ?_; first | (refine Tr.guardTT (by first | rfl | assumption | (simp only [WKs]; omega)) (fun hb => ?_) <;> (try simp only [hb])) | (refine Tr.guardFF (by first | rfl | assumption | (simp only [WKs]; omega)) (fun hb => ?_) <;> (try simp only [hb])) | (refine Tr.guardS (fun hb => ?_) (fun hb => ?_) <;> ((try simp only [hb]) <;> (try (have hp := hb; simp only [WKs] at hp; (try have hq := Int.not_le.2 hp); (try have hq := Int.not_lt.2 hp))))))
    | (refine G.guardC ?_; refine Tr.guardCS (fun hb => ?_) (fun hb => ?_) <;> ((try simp only [hb]) <;> (try (have hp := hb; simp only [WKs] at hp; (try have hq := Int.not_le.2 hp); (try have hq := Int.not_lt.2 hp)))))
    | (refine G.idx ?_; first | refine Tr.indexArr (by omega) (by omega) ?_ | refine A.idx (by rfl) (by first | omega | assumption | (simp only [WKl]; omega)) (by first | omega | assumption | (simp only [WKl]; omega)) fun hix => ?_)
    | (refine G.len ?_; first | refine A.len ?_ | refine A.lenM ?_ | refine Tr.lenMapNil ?_)
    | (refine G.call 20 ?_; apply Tr.callC ?_ (new_ok _ _) ?_)
    | (refine G.call 21 ?_; apply Tr.callC ?_ (rnew_ok _ _) ?_)
    | (refine G.call 22 ?_; apply Tr.callC ?_ (done21_ok ?_) ?_)
    | (refine G.call 28 ?_; refine Tr.callC (by (repeat (first | exact TakeL.nil | (apply TakeL.cons; focus ((first | ((repeat (first | with_reducible exact TakeA.here | with_reducible apply TakeA.next)); done) | ((repeat (first | exact TakeA.here | apply TakeA.next)); done)))) | fail)); done) (pick0n_ok) ?_)
    | (refine G.call 28 ?_; refine Tr.callC (by (repeat (first | exact TakeL.nil | (apply TakeL.cons; focus ((first | ((repeat (first | with_reducible exact TakeA.here | with_reducible apply TakeA.next)); done) | ((repeat (first | exact TakeA.here | apply TakeA.next)); done)))) | fail)); done) (pick0e_ok) ?_)
    | (refine G.call 28 ?_; apply Tr.callC ?_ (pick_ok _ _ ?_) ?_)
    | (refine G.call 29 ?_; refine Tr.callC (by (repeat (first | exact TakeL.nil | (apply TakeL.cons; focus ((first | ((repeat (first | with_reducible exact TakeA.here | with_reducible apply TakeA.next)); done) | ((repeat (first | exact TakeA.here | apply TakeA.next)); done)))) | fail)); done) (state0n_ok) ?_)
    | (refine G.call 29 ?_; refine Tr.callC (by (repeat (first | exact TakeL.nil | (apply TakeL.cons; focus ((first | ((repeat (first | with_reducible exact TakeA.here | with_reducible apply TakeA.next)); done) | ((repeat (first | exact TakeA.here | apply TakeA.next)); done)))) | fail)); done) (state0e_ok) ?_)
    | (refine G.call 29 ?_; apply Tr.callC ?_ (state_ok _ _ _) ?_)
    | (refine G.call 30 ?_; refine Tr.callC (by (repeat (first | exact TakeL.nil | (apply TakeL.cons; focus ((first | ((repeat (first | with_reducible exact TakeA.here | with_reducible apply TakeA.next)); done) | ((repeat (first | exact TakeA.here | apply TakeA.next)); done)))) | fail)); done) (prio0n_ok) ?_)
    | (refine G.call 30 ?_; refine Tr.callC (by (repeat (first | exact TakeL.nil | (apply TakeL.cons; focus ((first | ((repeat (first | with_reducible exact TakeA.here | with_reducible apply TakeA.next)); done) | ((repeat (first | exact TakeA.here | apply TakeA.next)); done)))) | fail)); done) (prio0e_ok) ?_)
    | (refine G.call 30 ?_; apply Tr.callC ?_ (prio_ok _ _ _) ?_)
    | (refine G.call 24 ?_; apply Tr.callC ?_ (works21_ok) ?_)
    | with_reducible exact TakeL.nil
    | with_reducible apply TakeL.cons
    | rintro _ _ ⟨rfl, rfl⟩
    | rintro _ _ ⟨_, rfl, rfl⟩
    | (refine G.app ?_; first | refine A.app0 (by rfl) (by decide) (by first | omega | assumption | (simp only [WKl]; omega)) fun _ => ?_ | refine A.app (by rfl) (by decide) (by first | omega | assumption | (simp only [WKl]; omega)) fun _ => ?_)
    | (refine G.bs ?_; first | refine Tr.buildNil rfl fun _ => ?_ | refine Tr.build1 _ rfl rfl (by decide) fun _ => ?_)
    | (refine G.cut ?_; refine A.cutTo (by rfl) (by omega) (by omega) fun _ => ?_)
    | (refine G.look ?_; first | refine A.look ?_ | refine Tr.lookupNil ?_)
    | (refine G.mapu ?_; refine A.mapu ?_)
    | refine Tr.makeMap fun _ => ?_
    | (refine G.rem ?_; refine Tr.rem (by omega) ?_)
    | (refine G.prop ?_; first | omega | assumption | exact Nat.le_of_ble_eq_true rfl)
    | ((apply G.take; first | ((repeat (first | with_reducible exact TakeA.here | with_reducible apply TakeA.next)); done) | ((repeat (first | exact TakeA.here | apply TakeA.next)); done)))) <;> (try simp only [WKb, ↓reduceIte, Nat.reduceEqDiff, ix_mk, hw, hs1, hp1]))))
          all_goals first
            | (apply Tr.againE (j + 1); (focus (simp only [WKb, ↓reduceIte, Nat.reduceEqDiff])); (focus ((try simp only [WKb, ↓reduceIte, Nat.reduceEqDiff]); (all_goals ((repeat (refine cons_eq (by first | rfl | (simp [*]; done)) ?_)); rfl)); done)); (focus (first | omega | assumption | (simp only []; omega) | (refine ⟨by omega, by assumption⟩) | (simp only []; refine ⟨by omega, by assumption⟩) | ((try simp only []); (repeat' (first | omega | assumption | refine And.intro ?_ ?_)); done))); (focus (first | omega | (simp only []; omega))); (focus (((try clear hK) <;> (try simp only [WKe, *]) <;> repeat (first
    | with_reducible exact EntR.done
    | (apply EntR.take; focus (first | ((repeat (first | with_reducible exact TakeA.here | with_reducible apply TakeA.next)); done) | ((repeat (first | exact TakeA.here | apply TakeA.next)); done)))
    | with_reducible refine EntR.sep ?_
    | with_reducible apply EntR.ex
    | with_reducible refine EntR.fact (by first | rfl | assumption | omega | simp) ?_
    | refine EntR.drop (F := F) ?_
    | refine EntR.drop ?_)))))
            | (refine Tr.fin hK ⟨rfl, rfl⟩ ?_; ((try clear hK) <;> (try simp only [WKe, ↓reduceIte, reduceCtorEq, Int.reduceEq, *]) <;> repeat (first
    | with_reducible exact EntR.done
    | (apply EntR.take; focus (first | ((repeat (first | with_reducible exact TakeA.here | with_reducible apply TakeA.next)); done) | ((repeat (first | exact TakeA.here | apply TakeA.next)); done)))
    | with_reducible refine EntR.sep ?_
    | with_reducible apply EntR.ex
    | with_reducible refine EntR.fact (by first | rfl | assumption | omega | simp) ?_
    | refine EntR.drop (F := F) ?_
    | refine EntR.drop ?_)))
    · ((try simp only [WKb, ↓reduceIte, Nat.reduceEqDiff]) <;> (repeat' ((first
    | (refine G.load ?_; first | refine A.ldW (by rfl) ?_ | refine A.ld1 (by rfl) ?_ | refine A.ldN (by rfl) (by rfl) ?_ | refine A.lS0 (by assumption) (by rfl) ?_ | refine A.lS1 (by assumption) (by rfl) ?_ | refine A.lSW (by assumption) (by rfl) ?_ | refine A.lSN (by assumption) (by rfl) (by rfl) ?_)
    | refine Tr.drewK ?_
    | refine Tr.eqR rfl ?_
    | refine Tr.box rfl fun _ => ?_
    | refine Tr.alloc rfl fun _ => ?_
    | refine Tr.build rfl ?_
    | (refine G.store ?_; first | refine A.stW (by rfl) (by rfl) (by rfl) (by rfl) ?_ | refine A.st (by rfl) (by rfl) (by rfl) (by first | exact Nat.le_of_ble_eq_true rfl | (simp only [WKl, setL_length, En.len]; omega)) ?_ | refine A.stE (by rfl) (by first | omega | assumption | (simp only [WKl]; omega)) (by first | omega | assumption | (simp only [WKl]; omega)) ?_)
    | (refine G.cond ?_; first | refine Tr.condT (by first | rfl | assumption | (simp only [WKs]; omega)) ?_ | refine Tr.condF (by first | rfl | assumption | (simp only [WKs]; omega)) ?_ | (refine Tr.condS (fun hb => ?_) (fun hb => ?_) <;> ((try simp only [hb]) <;> (try (have hp := hb; simp only [WKs] at hp; (try have hq := Int.not_le.2 hp); (try have hq := Int.not_lt.2 hp))))))
    | (refine G.guard ?_; first | (refine Tr.guardTT (by first | rfl | assumption | (simp only [WKs]; omega)) (fun hb => ?_) <;> (try simp only [hb])) | (refine Tr.guardFF (by first | rfl | assumption | (simp only [WKs]; omega)) (fun hb => ?_) <;> (try simp only [hb])) | (refine Tr.guardS (fun hb => ?_) (fun hb => ?_) <;> ((try simp only [hb]) <;> (try (have hp := hb; simp only [WKs] at hp; (try have hq := Int.not_le.2 hp); (try have hq := Int.not_lt.2 hp))))))
    | (refine G.guardC ?_; refine Tr.guardCS (fun hb => ?_) (fun hb => ?_) <;> ((try simp only [hb]) <;> (try (have hp := hb; simp only [WKs] at hp; (try have hq := Int.not_le.2 hp); (try have hq := Int.not_lt.2 hp)))))
    | (refine G.idx ?_; first | refine Tr.indexArr (by omega) (by omega) ?_ | refine A.idx (by rfl) (by first | omega | assumption | (simp only [WKl]; omega)) (by first | omega | assumption | (simp only [WKl]; omega)) fun hix => ?_)
    | (refine G.len ?_; first | refine A.len ?_ | refine A.lenM ?_ | refine Tr.lenMapNil ?_)
    | (refine G.call 20 ?_; apply Tr.callC ?_ (new_ok _ _) ?_)
    | (refine G.call 21 ?_; apply Tr.callC ?_ (rnew_ok _ _) ?_)
    | (refine G.call 22 ?_; apply Tr.callC ?_ (done21_ok ?_) ?_)
    | (refine G.call 28 ?_; refine Tr.callC (by (repeat (first | exact TakeL.nil | (apply TakeL.cons; focus ((first | ((repeat (first | with_reducible exact TakeA.here | with_reducible apply TakeA.next)); done) | ((repeat (first | exact TakeA.here | apply TakeA.next)); done)))) | fail)); done) (pick0n_ok) ?_)
    | (refine G.call 28 ?_; refine Tr.callC (by (repeat (first | exact TakeL.nil | (apply TakeL.cons; focus ((first | ((repeat (first | with_reducible exact TakeA.here | with_reducible apply TakeA.next)); done) | ((repeat (first | exact TakeA.here | apply TakeA.next)); done)))) | fail)); done) (pick0e_ok) ?_)
    | (refine G.call 28 ?_; apply Tr.callC ?_ (pick_ok _ _ ?_) ?_)
    | (refine G.call 29 ?_; refine Tr.callC (by (repeat (first | exact TakeL.nil | (apply TakeL.cons; focus ((first | ((repeat (first | with_reducible exact TakeA.here | with_reducible apply TakeA.next)); done) | ((repeat (first | exact TakeA.here | apply TakeA.next)); done)))) | fail)); done) (state0n_ok) ?_)
    | (refine G.call 29 ?_; refine Tr.callC (by (repeat (first | exact TakeL.nil | (apply TakeL.cons; focus ((first | ((repeat (first | with_reducible exact TakeA.here | with_reducible apply TakeA.next)); done) | ((repeat (first | exact TakeA.here | apply TakeA.next)); done)))) | fail)); done) (state0e_ok) ?_)
    | (refine G.call 29 ?_; apply Tr.callC ?_ (state_ok _ _ _) ?_)
    | (refine G.call 30 ?_; refine Tr.callC (by (repeat (first | exact TakeL.nil | (apply TakeL.cons; focus ((first | ((repeat (first | with_reducible exact TakeA.here | with_reducible apply TakeA.next)); done) | ((repeat (first | exact TakeA.here | apply TakeA.next)); done)))) | fail)); done) (prio0n_ok) ?_)
    | (refine G.call 30 ?_; refine Tr.callC (by (repeat (first | exact TakeL.nil | (apply TakeL.cons; focus ((first | ((repeat (first | with_reducible exact TakeA.here | with_reducible apply TakeA.next)); done) | ((repeat (first | exact TakeA.here | apply TakeA.next)); done)))) | fail)); done) (prio0e_ok) ?_)
    | (refine G.call 30 ?_; apply Tr.callC ?_ (prio_ok _ _ _) ?_)
    | (refine G.call 24 ?_; apply Tr.callC ?_ (works21_ok) ?_)
    | with_reducible exact TakeL.nil
    | with_reducible apply TakeL.cons
    | rintro _ _ ⟨rfl, rfl⟩
    | rintro _ _ ⟨_, rfl, rfl⟩
    | (refine G.app ?_; first | refine A.app0 (by rfl) (by decide) (by first | omega | assumption | (simp only [WKl]; omega)) fun _ => ?_ | refine A.app (by rfl) (by decide) (by first | omega | assumption | (simp only [WKl]; omega)) fun _ => ?_)
    | (refine G.bs ?_; first | refine Tr.buildNil rfl fun _ => ?_ | refine Tr.build1 _ rfl rfl (by decide) fun _ => ?_)
    | (refine G.cut ?_; refine A.cutTo (by rfl) (by omega) (by omega) fun _ => ?_)
    | (refine G.look ?_; first | refine A.look ?_ | refine Tr.lookupNil ?_)
    | (refine G.mapu ?_; refine A.mapu ?_)
    | refine Tr.makeMap fun _ => ?_
    | (refine G.rem ?_; refine Tr.rem (by omega) ?_)
    | (refine G.prop ?_; first | omega | assumption | exact Nat.le_of_ble_eq_true rfl)
    | ((apply G.take; first | ((repeat (first | with_reducible exact TakeA.here | with_reducible apply TakeA.next)); done) | ((repeat (first | exact TakeA.here | apply TakeA.next)); done)))) <;> (try simp only [WKb, ↓reduceIte, Nat.reduceEqDiff]))))
      all_goals
        refine Tr.fin hK ⟨rfl, rfl⟩ ?_
        ((try clear hK) <;> (try simp only [WKe, *]) <;> repeat (first
    | with_reducible exact EntR.done
    | (apply EntR.take; focus (first | ((repeat (first | with_reducible exact TakeA.here | with_reducible apply TakeA.next)); done) | ((repeat (first | exact TakeA.here | apply TakeA.next)); done)))
    | with_reducible refine EntR.sep ?_
    | with_reducible apply EntR.ex
    | with_reducible refine EntR.fact (by first | rfl | assumption | omega | simp) ?_
    | refine EntR.drop (F := F) ?_
    | refine EntR.drop ?_))
end Go.Proofs.Ytlmcoiloepoggaa
