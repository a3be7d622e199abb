import Derived.Test.YtlmcoiloepoggaaQD
namespace Go.Proofs.Ytlmcoiloepoggaa
open Go Go.Wk
set_option maxHeartbeats 1600000
set_option maxRecDepth 10000

theorem at_out {t : Tb} {k : Int} (h : ¬ (0 ≤ k ∧ k < t.d.length)) : t.at k = One.zero := by
  unfold Tb.at
  split
  · rename_i h0
    have h1 : t.d.length ≤ k.toNat := by omega
    simp [List.getD_eq_getElem?_getD, List.getElem?_eq_none h1]
  · rfl
attribute [local irreducible] GenK EGenK EUnitK CallK FnK CallV GuardO GuardC CondW opX opK opKc chkR eqR seqK blkK endL WL WD W LoopW BinK Tr drewK resL PickK NotK NilK ExtrK getK Instr.storeAt Instr.loadAt Instr.fieldAt Instr.indexAt Instr.lookup Instr.mapUpdate Instr.box Instr.alloc Instr.build Instr.buildSlice Instr.makeSlice Instr.makeMap Instr.sliceAt Instr.field Instr.index Instr.makeInterface Instr.typeAssert Builtin.len_ Builtin.append_ Builtin.cap_ Builtin.min_ Builtin.max_ Builtin.copy_ Builtin.clear_ convert binOp mp blk rob sl sep ex fact old
attribute [local irreducible] tabA
theorem like21_ok {p r : Nat} {t : Tb} {c wh : Int} (hn : t.d.length ≤ 1000000) : Trip Try.prog 35 [.pointer (some ⟨p, 0, none⟩), .pointer (some ⟨r, 0, none⟩), .int .i64 c, .int .i64 wh].toArray [tabA p t, refA r t]
    fun v l' => v = .bool true ∧ l' = [tabA p t, refA r t] := by
  intro F K hK
  simp only [List.cons_append, List.nil_append, refA]
  refine Tr.front [1] ?_
  rw [show ∀ A B C, front [1] (A :: B :: C) = B :: A :: C from fun _ _ _ => rfl]
  simp only [Tr.ex_iff, Tr.sep_iff]
  intro s
  refine Tr.enter (rs := [.tmp 8]) mixed fn35 rfl (by simp +arith [Try.ntmps35]) fun u => ?_
  simp only [cd35, Try.f35]
  ((try simp only [WKb, ↓reduceIte, Nat.reduceEqDiff, Nat.reduceAdd, Nat.reduceSub, Int.reduceEq, Int.reduceLT, Int.reduceLE, rone_st, ix_mk, pl35]) <;> (repeat' ((first
    | (refine G.load ?_; first | refine A.ldW (by rfl) ?_ | refine A.ld1 (by rfl) ?_ | refine A.ldN (by rfl) (by rfl) ?_ | refine A.lS0 (by assumption) (by rfl) ?_ | refine A.lS1 (by assumption) (by rfl) ?_ | refine A.lSW (by assumption) (by rfl) ?_ | refine A.lSN (by assumption) (by rfl) (by rfl) ?_)
    | refine Tr.drewK ?_
    | refine Tr.eqR rfl ?_
    | refine Tr.box rfl fun _ => ?_
    | refine Tr.alloc rfl fun _ => ?_
    | refine Tr.build rfl ?_
    | (refine G.store ?_; first | refine A.stW (by rfl) (by rfl) (by rfl) (by rfl) ?_ | refine A.st (by rfl) (by rfl) (by rfl) (by first | exact Nat.le_of_ble_eq_true rfl | (simp only [WKl, setL_length, En.len]; omega)) ?_ | refine A.stE (by rfl) (by first | omega | assumption | (simp only [WKl]; omega)) (by first | omega | assumption | (simp only [WKl]; omega)) ?_)
    | (refine G.cond ?_; first | refine Tr.condT (by first | rfl | assumption | (simp only [WKs]; omega)) ?_ | refine Tr.condF (by first | rfl | assumption | (simp only [WKs]; omega)) ?_ | (refine Tr.condS (fun hb => ?_) (fun hb => ?_) <;> ((try simp only [hb]) <;> (try (have hp := hb; simp only [WKs] at hp; (try have hq := Int.not_le.2 hp); (try have hq := Int.not_lt.2 hp))))))
    | (refine G.guard ?_; first | (refine Tr.guardTT (by first | rfl | assumption | (simp only [WKs]; omega)) (fun hb => ?_) <;> (try simp only [hb])) | (refine Tr.guardFF (by first | rfl | assumption | (simp only [WKs]; omega)) (fun hb => ?_) <;> (try simp only [hb])) | (refine Tr.guardS (fun hb => ?_) (fun hb => ?_) <;> ((try simp only [hb]) <;> (try (have hp := hb; simp only [WKs] at hp; (try have hq := Int.not_le.2 hp); (try have hq := Int.not_lt.2 hp))))))
    | (refine G.guardC ?_; refine Tr.guardCS (fun hb => ?_) (fun hb => ?_) <;> ((try simp only [hb]) <;> (try (have hp := hb; simp only [WKs] at hp; (try have hq := Int.not_le.2 hp); (try have hq := Int.not_lt.2 hp)))))
    | (refine G.idx ?_; first | refine Tr.indexArr (by omega) (by omega) ?_ | refine A.idx (by rfl) (by first | omega | assumption | (simp only [WKl]; omega)) (by first | omega | assumption | (simp only [WKl]; omega)) fun hix => ?_)
    | (refine G.len ?_; first | refine A.len ?_ | refine A.lenM ?_ | refine Tr.lenMapNil ?_)
    | (refine G.call 23 ?_; refine Tr.callC (by (repeat (first | exact TakeL.nil | (apply TakeL.cons; focus ((first | ((repeat (first | with_reducible exact TakeA.here | with_reducible apply TakeA.next)); done) | ((repeat (first | exact TakeA.here | apply TakeA.next)); done)))) | fail)); done) (len0n_ok) ?_)
    | (refine G.call 23 ?_; refine Tr.callC (by (repeat (first | exact TakeL.nil | (apply TakeL.cons; focus ((first | ((repeat (first | with_reducible exact TakeA.here | with_reducible apply TakeA.next)); done) | ((repeat (first | exact TakeA.here | apply TakeA.next)); done)))) | fail)); done) (len0e_ok) ?_)
    | (refine G.call 23 ?_; apply Tr.callC ?_ (len_ok _ _) ?_)
    | (refine G.call 28 ?_; refine Tr.callC (by (repeat (first | exact TakeL.nil | (apply TakeL.cons; focus ((first | ((repeat (first | with_reducible exact TakeA.here | with_reducible apply TakeA.next)); done) | ((repeat (first | exact TakeA.here | apply TakeA.next)); done)))) | fail)); done) (pick0n_ok) ?_)
    | (refine G.call 28 ?_; refine Tr.callC (by (repeat (first | exact TakeL.nil | (apply TakeL.cons; focus ((first | ((repeat (first | with_reducible exact TakeA.here | with_reducible apply TakeA.next)); done) | ((repeat (first | exact TakeA.here | apply TakeA.next)); done)))) | fail)); done) (pick0e_ok) ?_)
    | (refine G.call 28 ?_; apply Tr.callC ?_ (pick_ok _ _ ?_) ?_)
    | (refine G.call 88 ?_; apply Tr.callC ?_ (rpick_ok ?_) ?_)
    | (refine G.call 42 ?_; refine Tr.callC (by (repeat (first | exact TakeL.nil | (apply TakeL.cons; focus ((first | ((repeat (first | with_reducible exact TakeA.here | with_reducible apply TakeA.next)); done) | ((repeat (first | exact TakeA.here | apply TakeA.next)); done)))) | fail)); done) (first0n_ok) ?_)
    | (refine G.call 42 ?_; refine Tr.callC (by (repeat (first | exact TakeL.nil | (apply TakeL.cons; focus ((first | ((repeat (first | with_reducible exact TakeA.here | with_reducible apply TakeA.next)); done) | ((repeat (first | exact TakeA.here | apply TakeA.next)); done)))) | fail)); done) (first0e_ok) ?_)
    | (refine G.call 42 ?_; apply Tr.callC ?_ (first_ok _ _ _ _ ?_) ?_)
    | (refine G.call 89 ?_; apply Tr.callC ?_ (rfirst_ok ?_) ?_)
    | (refine G.call 90 ?_; apply Tr.callC ?_ (ris_ok) ?_)
    | (refine G.call 36 ?_; refine Tr.callC (by (repeat (first | exact TakeL.nil | (apply TakeL.cons; focus ((first | ((repeat (first | with_reducible exact TakeA.here | with_reducible apply TakeA.next)); done) | ((repeat (first | exact TakeA.here | apply TakeA.next)); done)))) | fail)); done) (waits0n_ok) ?_)
    | (refine G.call 36 ?_; refine Tr.callC (by (repeat (first | exact TakeL.nil | (apply TakeL.cons; focus ((first | ((repeat (first | with_reducible exact TakeA.here | with_reducible apply TakeA.next)); done) | ((repeat (first | exact TakeA.here | apply TakeA.next)); done)))) | fail)); done) (waits0e_ok) ?_)
    | (refine G.call 36 ?_; apply Tr.callC ?_ (waits_ok _ _ _) ?_)
    | (refine G.call 29 ?_; refine Tr.callC (by (repeat (first | exact TakeL.nil | (apply TakeL.cons; focus ((first | ((repeat (first | with_reducible exact TakeA.here | with_reducible apply TakeA.next)); done) | ((repeat (first | exact TakeA.here | apply TakeA.next)); done)))) | fail)); done) (state0n_ok) ?_)
    | (refine G.call 29 ?_; refine Tr.callC (by (repeat (first | exact TakeL.nil | (apply TakeL.cons; focus ((first | ((repeat (first | with_reducible exact TakeA.here | with_reducible apply TakeA.next)); done) | ((repeat (first | exact TakeA.here | apply TakeA.next)); done)))) | fail)); done) (state0e_ok) ?_)
    | (refine G.call 29 ?_; apply Tr.callC ?_ (state_ok _ _ _) ?_)
    | (refine G.call 30 ?_; refine Tr.callC (by (repeat (first | exact TakeL.nil | (apply TakeL.cons; focus ((first | ((repeat (first | with_reducible exact TakeA.here | with_reducible apply TakeA.next)); done) | ((repeat (first | exact TakeA.here | apply TakeA.next)); done)))) | fail)); done) (prio0n_ok) ?_)
    | (refine G.call 30 ?_; refine Tr.callC (by (repeat (first | exact TakeL.nil | (apply TakeL.cons; focus ((first | ((repeat (first | with_reducible exact TakeA.here | with_reducible apply TakeA.next)); done) | ((repeat (first | exact TakeA.here | apply TakeA.next)); done)))) | fail)); done) (prio0e_ok) ?_)
    | (refine G.call 30 ?_; apply Tr.callC ?_ (prio_ok _ _ _) ?_)
    | with_reducible exact TakeL.nil
    | with_reducible apply TakeL.cons
    | rintro _ _ ⟨rfl, rfl⟩
    | (refine G.app ?_; first | refine A.app0 (by rfl) (by decide) (by first | omega | assumption | (simp only [WKl]; omega)) fun _ => ?_ | refine A.app (by rfl) (by decide) (by first | omega | assumption | (simp only [WKl]; omega)) fun _ => ?_)
    | (refine G.bs ?_; first | refine Tr.buildNil rfl fun _ => ?_ | refine Tr.build1 _ rfl rfl (by decide) fun _ => ?_)
    | (refine G.cut ?_; refine A.cutTo (by rfl) (by omega) (by omega) fun _ => ?_)
    | (refine G.look ?_; first | refine A.look ?_ | refine Tr.lookupNil ?_)
    | (refine G.mapu ?_; refine A.mapu ?_)
    | refine Tr.makeMap fun _ => ?_
    | (refine G.rem ?_; refine Tr.rem (by omega) ?_)
    | (refine G.prop ?_; first | omega | assumption | exact Nat.le_of_ble_eq_true rfl)
    | ((apply G.take; first | ((repeat (first | with_reducible exact TakeA.here | with_reducible apply TakeA.next)); done) | ((repeat (first | exact TakeA.here | apply TakeA.next)); done)))) <;> (try simp only [WKb, ↓reduceIte, Nat.reduceEqDiff, Nat.reduceAdd, Nat.reduceSub, Int.reduceEq, Int.reduceLT, Int.reduceLE, rone_st, ix_mk, pl35]))))
  refine Tr.loopE (α := Nat) [8, 9] [0, 1] (fun j => [.bool false, .int .i64 ((j : Int) - 1)]) (fun _ => [refB r s t.turns, refS s t.d, tabA p t]) (fun j => j ≤ t.d.length + 2) (fun j => t.d.length + 2 - j) 0 (by (repeat (first | exact TakeL.nil | apply TakeL.cons (by (repeat (first | exact TakeA.here | apply TakeA.next)); done))); done) rfl (by omega) fun j u hj => ?_
  have hw : IntKind.i64.wrap ((j : Int) - 1 + 1) = ((j + 1 : Nat) : Int) - 1 := by rw [wrap_id (by omega) (by omega)]; push_cast; omega
  by_cases hr : 0 ≤ (j : Int) - 1 ∧ (j : Int) - 1 < t.d.length
  · have hat := at_ix (t := t) hr.1
    have hdd : decide (0 ≤ (j : Int) - 1 ∧ (j : Int) - 1 < t.d.length) = true := by simpa using hr
    ((try simp only [WKb, ↓reduceIte, Nat.reduceEqDiff, Nat.reduceAdd, Nat.reduceSub, Int.reduceEq, Int.reduceLT, Int.reduceLE, rone_st, ix_mk, pl35, hw, hat, hdd]) <;> (repeat' ((first
    | (refine G.load ?_; first | refine A.ldW (by rfl) ?_ | refine A.ld1 (by rfl) ?_ | refine A.ldN (by rfl) (by rfl) ?_ | refine A.lS0 (by assumption) (by rfl) ?_ | refine A.lS1 (by assumption) (by rfl) ?_ | refine A.lSW (by assumption) (by rfl) ?_ | refine A.lSN (by assumption) (by rfl) (by rfl) ?_)
    | refine Tr.drewK ?_
    | refine Tr.eqR rfl ?_
    | refine Tr.box rfl fun _ => ?_
    | refine Tr.alloc rfl fun _ => ?_
    | refine Tr.build rfl ?_
    | (refine G.store ?_; first | refine A.stW (by rfl) (by rfl) (by rfl) (by rfl) ?_ | refine A.st (by rfl) (by rfl) (by rfl) (by first | exact Nat.le_of_ble_eq_true rfl | (simp only [WKl, setL_length, En.len]; omega)) ?_ | refine A.stE (by rfl) (by first | omega | assumption | (simp only [WKl]; omega)) (by first | omega | assumption | (simp only [WKl]; omega)) ?_)
    | (refine G.cond ?_; first | refine Tr.condT (by first | rfl | assumption | (simp only [WKs]; omega)) ?_ | refine Tr.condF (by first | rfl | assumption | (simp only [WKs]; omega)) ?_ | (refine Tr.condS (fun hb => ?_) (fun hb => ?_) <;> ((try simp only [hb]) <;> (try (have hp := hb; simp only [WKs] at hp; (try have hq := Int.not_le.2 hp); (try have hq := Int.not_lt.2 hp))))))
    | (refine G.guard ?_; first | (refine Tr.guardTT (by first | rfl | assumption | (simp only [WKs]; omega)) (fun hb => ?_) <;> (try simp only [hb])) | (refine Tr.guardFF (by first | rfl | assumption | (simp only [WKs]; omega)) (fun hb => ?_) <;> (try simp only [hb])) | (refine Tr.guardS (fun hb => ?_) (fun hb => ?_) <;> ((try simp only [hb]) <;> (try (have hp := hb; simp only [WKs] at hp; (try have hq := Int.not_le.2 hp); (try have hq := Int.not_lt.2 hp))))))
    | (refine G.guardC ?_; refine Tr.guardCS (fun hb => ?_) (fun hb => ?_) <;> ((try simp only [hb]) <;> (try (have hp := hb; simp only [WKs] at hp; (try have hq := Int.not_le.2 hp); (try have hq := Int.not_lt.2 hp)))))
    | (refine G.idx ?_; first | refine Tr.indexArr (by omega) (by omega) ?_ | refine A.idx (by rfl) (by first | omega | assumption | (simp only [WKl]; omega)) (by first | omega | assumption | (simp only [WKl]; omega)) fun hix => ?_)
    | (refine G.len ?_; first | refine A.len ?_ | refine A.lenM ?_ | refine Tr.lenMapNil ?_)
    | (refine G.call 23 ?_; refine Tr.callC (by (repeat (first | exact TakeL.nil | (apply TakeL.cons; focus ((first | ((repeat (first | with_reducible exact TakeA.here | with_reducible apply TakeA.next)); done) | ((repeat (first | exact TakeA.here | apply TakeA.next)); done)))) | fail)); done) (len0n_ok) ?_)
    | (refine G.call 23 ?_; refine Tr.callC (by (repeat (first | exact TakeL.nil | (apply TakeL.cons; focus ((first | ((repeat (first | with_reducible exact TakeA.here | with_reducible apply TakeA.next)); done) | ((repeat (first | exact TakeA.here | apply TakeA.next)); done)))) | fail)); done) (len0e_ok) ?_)
    | (refine G.call 23 ?_; apply Tr.callC ?_ (len_ok _ _) ?_)
    | (refine G.call 28 ?_; refine Tr.callC (by (repeat (first | exact TakeL.nil | (apply TakeL.cons; focus ((first | ((repeat (first | with_reducible exact TakeA.here | with_reducible apply TakeA.next)); done) | ((repeat (first | exact TakeA.here | apply TakeA.next)); done)))) | fail)); done) (pick0n_ok) ?_)
    | (refine G.call 28 ?_; refine Tr.callC (by (repeat (first | exact TakeL.nil | (apply TakeL.cons; focus ((first | ((repeat (first | with_reducible exact TakeA.here | with_reducible apply TakeA.next)); done) | ((repeat (first | exact TakeA.here | apply TakeA.next)); done)))) | fail)); done) (pick0e_ok) ?_)
    | (refine G.call 28 ?_; apply Tr.callC ?_ (pick_ok _ _ ?_) ?_)
    | (refine G.call 88 ?_; apply Tr.callC ?_ (rpick_ok ?_) ?_)
    | (refine G.call 42 ?_; refine Tr.callC (by (repeat (first | exact TakeL.nil | (apply TakeL.cons; focus ((first | ((repeat (first | with_reducible exact TakeA.here | with_reducible apply TakeA.next)); done) | ((repeat (first | exact TakeA.here | apply TakeA.next)); done)))) | fail)); done) (first0n_ok) ?_)
    | (refine G.call 42 ?_; refine Tr.callC (by (repeat (first | exact TakeL.nil | (apply TakeL.cons; focus ((first | ((repeat (first | with_reducible exact TakeA.here | with_reducible apply TakeA.next)); done) | ((repeat (first | exact TakeA.here | apply TakeA.next)); done)))) | fail)); done) (first0e_ok) ?_)
    | (refine G.call 42 ?_; apply Tr.callC ?_ (first_ok _ _ _ _ ?_) ?_)
    | (refine G.call 89 ?_; apply Tr.callC ?_ (rfirst_ok ?_) ?_)
    | (refine G.call 90 ?_; apply Tr.callC ?_ (ris_ok) ?_)
    | (refine G.call 36 ?_; refine Tr.callC (by (repeat (first | exact TakeL.nil | (apply TakeL.cons; focus ((first | ((repeat (first | with_reducible exact TakeA.here | with_reducible apply TakeA.next)); done) | ((repeat (first | exact TakeA.here | apply TakeA.next)); done)))) | fail)); done) (waits0n_ok) ?_)
    | (refine G.call 36 ?_; refine Tr.callC (by (repeat (first | exact TakeL.nil | (apply TakeL.cons; focus ((first | ((repeat (first | with_reducible exact TakeA.here | with_reducible apply TakeA.next)); done) | ((repeat (first | exact TakeA.here | apply TakeA.next)); done)))) | fail)); done) (waits0e_ok) ?_)
    | (refine G.call 36 ?_; apply Tr.callC ?_ (waits_ok _ _ _) ?_)
    | (refine G.call 29 ?_; refine Tr.callC (by (repeat (first | exact TakeL.nil | (apply TakeL.cons; focus ((first | ((repeat (first | with_reducible exact TakeA.here | with_reducible apply TakeA.next)); done) | ((repeat (first | exact TakeA.here | apply TakeA.next)); done)))) | fail)); done) (state0n_ok) ?_)
    | (refine G.call 29 ?_; refine Tr.callC (by (repeat (first | exact TakeL.nil | (apply TakeL.cons; focus ((first | ((repeat (first | with_reducible exact TakeA.here | with_reducible apply TakeA.next)); done) | ((repeat (first | exact TakeA.here | apply TakeA.next)); done)))) | fail)); done) (state0e_ok) ?_)
    | (refine G.call 29 ?_; apply Tr.callC ?_ (state_ok _ _ _) ?_)
    | (refine G.call 30 ?_; refine Tr.callC (by (repeat (first | exact TakeL.nil | (apply TakeL.cons; focus ((first | ((repeat (first | with_reducible exact TakeA.here | with_reducible apply TakeA.next)); done) | ((repeat (first | exact TakeA.here | apply TakeA.next)); done)))) | fail)); done) (prio0n_ok) ?_)
    | (refine G.call 30 ?_; refine Tr.callC (by (repeat (first | exact TakeL.nil | (apply TakeL.cons; focus ((first | ((repeat (first | with_reducible exact TakeA.here | with_reducible apply TakeA.next)); done) | ((repeat (first | exact TakeA.here | apply TakeA.next)); done)))) | fail)); done) (prio0e_ok) ?_)
    | (refine G.call 30 ?_; apply Tr.callC ?_ (prio_ok _ _ _) ?_)
    | with_reducible exact TakeL.nil
    | with_reducible apply TakeL.cons
    | rintro _ _ ⟨rfl, rfl⟩
    | (refine G.app ?_; first | refine A.app0 (by rfl) (by decide) (by first | omega | assumption | (simp only [WKl]; omega)) fun _ => ?_ | refine A.app (by rfl) (by decide) (by first | omega | assumption | (simp only [WKl]; omega)) fun _ => ?_)
    | (refine G.bs ?_; first | refine Tr.buildNil rfl fun _ => ?_ | refine Tr.build1 _ rfl rfl (by decide) fun _ => ?_)
    | (refine G.cut ?_; refine A.cutTo (by rfl) (by omega) (by omega) fun _ => ?_)
    | (refine G.look ?_; first | refine A.look ?_ | refine Tr.lookupNil ?_)
    | (refine G.mapu ?_; refine A.mapu ?_)
    | refine Tr.makeMap fun _ => ?_
    | (refine G.rem ?_; refine Tr.rem (by omega) ?_)
    | (refine G.prop ?_; first | omega | assumption | exact Nat.le_of_ble_eq_true rfl)
    | ((apply G.take; first | ((repeat (first | with_reducible exact TakeA.here | with_reducible apply TakeA.next)); done) | ((repeat (first | exact TakeA.here | apply TakeA.next)); done)))) <;> (try simp only [WKb, ↓reduceIte, Nat.reduceEqDiff, Nat.reduceAdd, Nat.reduceSub, Int.reduceEq, Int.reduceLT, Int.reduceLE, rone_st, ix_mk, pl35, hw, hat, hdd]))))
    all_goals first
      | (apply Tr.againE (j + 1); (focus (simp only [WKb, ↓reduceIte, Nat.reduceEqDiff, Nat.reduceAdd, Nat.reduceSub])); (focus ((try simp only [WKb, ↓reduceIte, Nat.reduceEqDiff, Nat.reduceAdd, Nat.reduceSub, hw]); (all_goals ((repeat (refine cons_eq (by first | rfl | ((try clear hK) <;> first | (simp [*, at_ix]; done) | (simp [*, at_ix]; omega) | (simp [*, at_ix] <;> (try split) <;> simp_all <;> omega))) ?_)); rfl)); done)); (focus (first | omega | assumption | (simp only []; omega) | (refine ⟨by omega, by assumption⟩) | (simp only []; refine ⟨by omega, by assumption⟩) | ((try simp only []); (repeat' (first | omega | assumption | refine And.intro ?_ ?_)); done))); (focus (first | omega | (simp only []; omega))); (focus (((try clear hK) <;> (try simp only [WKe, at_ix, ↓reduceIte, reduceCtorEq, Int.reduceEq, *]) <;> repeat (first
    | with_reducible exact EntR.done
    | (apply EntR.take; focus (first | ((repeat (first | with_reducible exact TakeA.here | with_reducible apply TakeA.next)); done) | ((repeat (first | exact TakeA.here | apply TakeA.next)); done)))
    | with_reducible refine EntR.sep ?_
    | with_reducible apply EntR.ex
    | with_reducible refine EntR.fact (by first | rfl | assumption | omega | simp) ?_
    | refine EntR.drop (F := F) ?_
    | refine EntR.drop ?_)))))
      | (refine Tr.fin hK ⟨rfl, rfl⟩ ?_; ((try clear hK) <;> (try simp only [WKe, refA, ↓reduceIte, reduceCtorEq, Int.reduceEq, *]) <;> repeat (first
    | with_reducible exact EntR.done
    | (apply EntR.take; focus (first | ((repeat (first | with_reducible exact TakeA.here | with_reducible apply TakeA.next)); done) | ((repeat (first | exact TakeA.here | apply TakeA.next)); done)))
    | with_reducible refine EntR.sep ?_
    | with_reducible apply EntR.ex
    | with_reducible refine EntR.fact (by first | rfl | assumption | omega | simp) ?_
    | refine EntR.drop (F := F) ?_
    | refine EntR.drop ?_)))
  · have hat := at_out hr
    have hdd : decide (0 ≤ (j : Int) - 1 ∧ (j : Int) - 1 < t.d.length) = false := by simpa using hr
    ((try simp only [WKb, ↓reduceIte, Nat.reduceEqDiff, Nat.reduceAdd, Nat.reduceSub, Int.reduceEq, Int.reduceLT, Int.reduceLE, rone_st, ix_mk, pl35, hw, hat, hdd, One.zero]) <;> (repeat' ((first
    | (refine G.load ?_; first | refine A.ldW (by rfl) ?_ | refine A.ld1 (by rfl) ?_ | refine A.ldN (by rfl) (by rfl) ?_ | refine A.lS0 (by assumption) (by rfl) ?_ | refine A.lS1 (by assumption) (by rfl) ?_ | refine A.lSW (by assumption) (by rfl) ?_ | refine A.lSN (by assumption) (by rfl) (by rfl) ?_)
    | refine Tr.drewK ?_
    | refine Tr.eqR rfl ?_
    | refine Tr.box rfl fun _ => ?_
    | refine Tr.alloc rfl fun _ => ?_
    | refine Tr.build rfl ?_
    | (refine G.store ?_; first | refine A.stW (by rfl) (by rfl) (by rfl) (by rfl) ?_ | refine A.st (by rfl) (by rfl) (by rfl) (by first | exact Nat.le_of_ble_eq_true rfl | (simp only [WKl, setL_length, En.len]; omega)) ?_ | refine A.stE (by rfl) (by first | omega | assumption | (simp only [WKl]; omega)) (by first | omega | assumption | (simp only [WKl]; omega)) ?_)
    | (refine G.cond ?_; first | refine Tr.condT (by first | rfl | assumption | (simp only [WKs]; omega)) ?_ | refine Tr.condF (by first | rfl | assumption | (simp only [WKs]; omega)) ?_ | (refine Tr.condS (fun hb => ?_) (fun hb => ?_) <;> ((try simp only [hb]) <;> (try (have hp := hb; simp only [WKs] at hp; (try have hq := Int.not_le.2 hp); (try have hq := Int.not_lt.2 hp))))))
    | (refine G.guard ?_; first | (refine Tr.guardTT (by first | rfl | assumption | (simp only [WKs]; omega)) (fun hb => ?_) <;> (try simp only [hb])) | (refine Tr.guardFF (by first | rfl | assumption | (simp only [WKs]; omega)) (fun hb => ?_) <;> (try simp only [hb])) | (refine Tr.guardS (fun hb => ?_) (fun hb => ?_) <;> ((try simp only [hb]) <;> (try (have hp := hb; simp only [WKs] at hp; (try have hq := Int.not_le.2 hp); (try have hq := Int.not_lt.2 hp))))))
    | (refine G.guardC ?_; refine Tr.guardCS (fun hb => ?_) (fun hb => ?_) <;> ((try simp only [hb]) <;> (try (have hp := hb; simp only [WKs] at hp; (try have hq := Int.not_le.2 hp); (try have hq := Int.not_lt.2 hp)))))
    | (refine G.idx ?_; first | refine Tr.indexArr (by omega) (by omega) ?_ | refine A.idx (by rfl) (by first | omega | assumption | (simp only [WKl]; omega)) (by first | omega | assumption | (simp only [WKl]; omega)) fun hix => ?_)
    | (refine G.len ?_; first | refine A.len ?_ | refine A.lenM ?_ | refine Tr.lenMapNil ?_)
    | (refine G.call 23 ?_; refine Tr.callC (by (repeat (first | exact TakeL.nil | (apply TakeL.cons; focus ((first | ((repeat (first | with_reducible exact TakeA.here | with_reducible apply TakeA.next)); done) | ((repeat (first | exact TakeA.here | apply TakeA.next)); done)))) | fail)); done) (len0n_ok) ?_)
    | (refine G.call 23 ?_; refine Tr.callC (by (repeat (first | exact TakeL.nil | (apply TakeL.cons; focus ((first | ((repeat (first | with_reducible exact TakeA.here | with_reducible apply TakeA.next)); done) | ((repeat (first | exact TakeA.here | apply TakeA.next)); done)))) | fail)); done) (len0e_ok) ?_)
    | (refine G.call 23 ?_; apply Tr.callC ?_ (len_ok _ _) ?_)
    | (refine G.call 28 ?_; refine Tr.callC (by (repeat (first | exact TakeL.nil | (apply TakeL.cons; focus ((first | ((repeat (first | with_reducible exact TakeA.here | with_reducible apply TakeA.next)); done) | ((repeat (first | exact TakeA.here | apply TakeA.next)); done)))) | fail)); done) (pick0n_ok) ?_)
    | (refine G.call 28 ?_; refine Tr.callC (by (repeat (first | exact TakeL.nil | (apply TakeL.cons; focus ((first | ((repeat (first | with_reducible exact TakeA.here | with_reducible apply TakeA.next)); done) | ((repeat (first | exact TakeA.here | apply TakeA.next)); done)))) | fail)); done) (pick0e_ok) ?_)
    | (refine G.call 28 ?_; apply Tr.callC ?_ (pick_ok _ _ ?_) ?_)
    | (refine G.call 88 ?_; apply Tr.callC ?_ (rpick_ok ?_) ?_)
    | (refine G.call 42 ?_; refine Tr.callC (by (repeat (first | exact TakeL.nil | (apply TakeL.cons; focus ((first | ((repeat (first | with_reducible exact TakeA.here | with_reducible apply TakeA.next)); done) | ((repeat (first | exact TakeA.here | apply TakeA.next)); done)))) | fail)); done) (first0n_ok) ?_)
    | (refine G.call 42 ?_; refine Tr.callC (by (repeat (first | exact TakeL.nil | (apply TakeL.cons; focus ((first | ((repeat (first | with_reducible exact TakeA.here | with_reducible apply TakeA.next)); done) | ((repeat (first | exact TakeA.here | apply TakeA.next)); done)))) | fail)); done) (first0e_ok) ?_)
    | (refine G.call 42 ?_; apply Tr.callC ?_ (first_ok _ _ _ _ ?_) ?_)
    | (refine G.call 89 ?_; apply Tr.callC ?_ (rfirst_ok ?_) ?_)
    | (refine G.call 90 ?_; apply Tr.callC ?_ (ris_ok) ?_)
    | (refine G.call 36 ?_; refine Tr.callC (by (repeat (first | exact TakeL.nil | (apply TakeL.cons; focus ((first | ((repeat (first | with_reducible exact TakeA.here | with_reducible apply TakeA.next)); done) | ((repeat (first | exact TakeA.here | apply TakeA.next)); done)))) | fail)); done) (waits0n_ok) ?_)
    | (refine G.call 36 ?_; refine Tr.callC (by (repeat (first | exact TakeL.nil | (apply TakeL.cons; focus ((first | ((repeat (first | with_reducible exact TakeA.here | with_reducible apply TakeA.next)); done) | ((repeat (first | exact TakeA.here | apply TakeA.next)); done)))) | fail)); done) (waits0e_ok) ?_)
    | (refine G.call 36 ?_; apply Tr.callC ?_ (waits_ok _ _ _) ?_)
    | (refine G.call 29 ?_; refine Tr.callC (by (repeat (first | exact TakeL.nil | (apply TakeL.cons; focus ((first | ((repeat (first | with_reducible exact TakeA.here | with_reducible apply TakeA.next)); done) | ((repeat (first | exact TakeA.here | apply TakeA.next)); done)))) | fail)); done) (state0n_ok) ?_)
    | (refine G.call 29 ?_; refine Tr.callC (by (repeat (first | exact TakeL.nil | (apply TakeL.cons; focus ((first | ((repeat (first | with_reducible exact TakeA.here | with_reducible apply TakeA.next)); done) | ((repeat (first | exact TakeA.here | apply TakeA.next)); done)))) | fail)); done) (state0e_ok) ?_)
    | (refine G.call 29 ?_; apply Tr.callC ?_ (state_ok _ _ _) ?_)
    | (refine G.call 30 ?_; refine Tr.callC (by (repeat (first | exact TakeL.nil | (apply TakeL.cons; focus ((first | ((repeat (first | with_reducible exact TakeA.here | with_reducible apply TakeA.next)); done) | ((repeat (first | exact TakeA.here | apply TakeA.next)); done)))) | fail)); done) (prio0n_ok) ?_)
    | (refine G.call 30 ?_; refine Tr.callC (by (repeat (first | exact TakeL.nil | (apply TakeL.cons; focus ((first | ((repeat (first | with_reducible exact TakeA.here | with_reducible apply TakeA.next)); done) | ((repeat (first | exact TakeA.here | apply TakeA.next)); done)))) | fail)); done) (prio0e_ok) ?_)
    | (refine G.call 30 ?_; apply Tr.callC ?_ (prio_ok _ _ _) ?_)
    | with_reducible exact TakeL.nil
    | with_reducible apply TakeL.cons
    | rintro _ _ ⟨rfl, rfl⟩
    | (refine G.app ?_; first | refine A.app0 (by rfl) (by decide) (by first | omega | assumption | (simp only [WKl]; omega)) fun _ => ?_ | refine A.app (by rfl) (by decide) (by first | omega | assumption | (simp only [WKl]; omega)) fun _ => ?_)
    | (refine G.bs ?_; first | refine Tr.buildNil rfl fun _ => ?_ | refine Tr.build1 _ rfl rfl (by decide) fun _ => ?_)
    | (refine G.cut ?_; refine A.cutTo (by rfl) (by omega) (by omega) fun _ => ?_)
    | (refine G.look ?_; first | refine A.look ?_ | refine Tr.lookupNil ?_)
    | (refine G.mapu ?_; refine A.mapu ?_)
    | refine Tr.makeMap fun _ => ?_
    | (refine G.rem ?_; refine Tr.rem (by omega) ?_)
    | (refine G.prop ?_; first | omega | assumption | exact Nat.le_of_ble_eq_true rfl)
    | ((apply G.take; first | ((repeat (first | with_reducible exact TakeA.here | with_reducible apply TakeA.next)); done) | ((repeat (first | exact TakeA.here | apply TakeA.next)); done)))) <;> (try simp only [WKb, ↓reduceIte, Nat.reduceEqDiff, Nat.reduceAdd, Nat.reduceSub, Int.reduceEq, Int.reduceLT, Int.reduceLE, rone_st, ix_mk, pl35, hw, hat, hdd, One.zero]))))
    all_goals first
      | (apply Tr.againE (j + 1); (focus (simp only [WKb, ↓reduceIte, Nat.reduceEqDiff, Nat.reduceAdd, Nat.reduceSub])); (focus ((try simp only [WKb, ↓reduceIte, Nat.reduceEqDiff, Nat.reduceAdd, Nat.reduceSub, hw]); (all_goals ((repeat (refine cons_eq (by first | rfl | ((try clear hK) <;> first | (simp [*, at_ix]; done) | (simp [*, at_ix]; omega) | (simp [*, at_ix] <;> (try split) <;> simp_all <;> omega))) ?_)); rfl)); done)); (focus (first | omega | assumption | (simp only []; omega) | (refine ⟨by omega, by assumption⟩) | (simp only []; refine ⟨by omega, by assumption⟩) | ((try simp only []); (repeat' (first | omega | assumption | refine And.intro ?_ ?_)); done))); (focus (first | omega | (simp only []; omega))); (focus (((try clear hK) <;> (try simp only [WKe, at_ix, ↓reduceIte, reduceCtorEq, Int.reduceEq, *]) <;> repeat (first
    | with_reducible exact EntR.done
    | (apply EntR.take; focus (first | ((repeat (first | with_reducible exact TakeA.here | with_reducible apply TakeA.next)); done) | ((repeat (first | exact TakeA.here | apply TakeA.next)); done)))
    | with_reducible refine EntR.sep ?_
    | with_reducible apply EntR.ex
    | with_reducible refine EntR.fact (by first | rfl | assumption | omega | simp) ?_
    | refine EntR.drop (F := F) ?_
    | refine EntR.drop ?_)))))
      | (refine Tr.fin hK ⟨rfl, rfl⟩ ?_; ((try clear hK) <;> (try simp only [WKe, refA, ↓reduceIte, reduceCtorEq, Int.reduceEq, *]) <;> repeat (first
    | with_reducible exact EntR.done
    | (apply EntR.take; focus (first | ((repeat (first | with_reducible exact TakeA.here | with_reducible apply TakeA.next)); done) | ((repeat (first | exact TakeA.here | apply TakeA.next)); done)))
    | with_reducible refine EntR.sep ?_
    | with_reducible apply EntR.ex
    | with_reducible refine EntR.fact (by first | rfl | assumption | omega | simp) ?_
    | refine EntR.drop (F := F) ?_
    | refine EntR.drop ?_)))

end Go.Proofs.Ytlmcoiloepoggaa
