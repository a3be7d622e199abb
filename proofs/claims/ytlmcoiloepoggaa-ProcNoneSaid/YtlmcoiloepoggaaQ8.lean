import Derived.Test.YtlmcoiloepoggaaQ7
import Derived.Test.YtlmcoiloepoggaaWk9
namespace Go.Proofs.Ytlmcoiloepoggaa
open Go Go.Wk
set_option maxHeartbeats 800000
set_option maxRecDepth 10000
structure ROne where
  o : One
instance : Inhabited ROne := ⟨⟨One.zero⟩⟩
instance : En ROne := ⟨fun r => [.int .i64 r.o.cprio, .int .i64 r.o.period, .int .i64 r.o.cost, .int .i64 r.o.state, .int .i64 r.o.prio, .int .i64 r.o.turn, .int .i64 r.o.next, .int .i64 r.o.call, .int .i64 r.o.what, .int .i64 r.o.wake, .bool r.o.parked], 11, fun _ => rfl, fun _ => rfl, by decide⟩
theorem rone_st : (∀ (p : One) (x : Int), (En.enc (ROne.mk p)).set 0 (.int .i64 x) = En.enc (ROne.mk { p with cprio := x })) ∧
    (∀ (p : One) (x : Int), (En.enc (ROne.mk p)).set 1 (.int .i64 x) = En.enc (ROne.mk { p with period := x })) ∧
    (∀ (p : One) (x : Int), (En.enc (ROne.mk p)).set 2 (.int .i64 x) = En.enc (ROne.mk { p with cost := x })) ∧
    (∀ (p : One) (x : Int), (En.enc (ROne.mk p)).set 3 (.int .i64 x) = En.enc (ROne.mk { p with state := x })) ∧
    (∀ (p : One) (x : Int), (En.enc (ROne.mk p)).set 4 (.int .i64 x) = En.enc (ROne.mk { p with prio := x })) ∧
    (∀ (p : One) (x : Int), (En.enc (ROne.mk p)).set 5 (.int .i64 x) = En.enc (ROne.mk { p with turn := x })) ∧
    (∀ (p : One) (x : Int), (En.enc (ROne.mk p)).set 6 (.int .i64 x) = En.enc (ROne.mk { p with next := x })) ∧
    (∀ (p : One) (x : Int), (En.enc (ROne.mk p)).set 7 (.int .i64 x) = En.enc (ROne.mk { p with call := x })) ∧
    (∀ (p : One) (x : Int), (En.enc (ROne.mk p)).set 8 (.int .i64 x) = En.enc (ROne.mk { p with what := x })) ∧
    (∀ (p : One) (x : Int), (En.enc (ROne.mk p)).set 9 (.int .i64 x) = En.enc (ROne.mk { p with wake := x })) ∧
    (∀ (p : One) (x : Bool), (En.enc (ROne.mk p)).set 10 (.bool x) = En.enc (ROne.mk { p with parked := x })) := ⟨fun _ _ => rfl, fun _ _ => rfl, fun _ _ => rfl, fun _ _ => rfl, fun _ _ => rfl, fun _ _ => rfl, fun _ _ => rfl, fun _ _ => rfl, fun _ _ => rfl, fun _ _ => rfl, fun _ _ => rfl⟩
def One.r (d : One) : Value := .agg (En.enc (ROne.mk d)).toArray
abbrev refB (a : Nat) (s : SV) (n : Int) : Asrt := blk a (.cells [s.v, .int .i64 n].toArray 52 (0, 0))
abbrev refS (s : SV) (d : List One) : Asrt := sl false s.v (d.map ROne.mk)
def refA (a : Nat) (t : Tb) : Asrt := ex fun s : SV => sep (refB a s t.turns) (refS s t.d)
theorem ix_rone (t : Tb) (k : Int) (h0 : 0 ≤ k) : ix (t.d.map ROne.mk) k = ROne.mk (t.at k) := by
  unfold ix Tb.at; rw [if_pos h0]
  simp only [List.getD_eq_getElem?_getD, List.getElem?_map]
  cases t.d[k.toNat]? <;> rfl
instance : ElT 50 ROne := ⟨⟩
instance : ElT 33 Int := ⟨⟩
attribute [local irreducible] GenK EGenK EUnitK CallK FnK CallV GuardO GuardC CondW opX opK opKc chkR eqR seqK blkK endL WL WD W LoopW BinK Tr drewK resL PickK NotK NilK ExtrK getK Instr.storeAt Instr.loadAt Instr.fieldAt Instr.indexAt Instr.lookup Instr.mapUpdate Instr.box Instr.alloc Instr.build Instr.buildSlice Instr.makeSlice Instr.makeMap Instr.sliceAt Instr.field Instr.index Instr.makeInterface Instr.typeAssert Builtin.len_ Builtin.append_ Builtin.cap_ Builtin.min_ Builtin.max_ Builtin.copy_ Builtin.clear_ convert binOp mp blk rob sl sep ex fact old
theorem ris_ok {a : Nat} {s : SV} {n : Int} {d : List One} {k : Int} : Trip Try.prog 90 [.pointer (some ⟨a, 0, none⟩), .int .i64 k].toArray [refB a s n, refS s d]
    fun v l' => v = .bool (decide (0 ≤ k ∧ k < d.length)) ∧ l' = [refB a s n, refS s d] := by
  intro F K hK
  simp only [List.cons_append, List.nil_append]
  refine Tr.enter (rs := [.tmp 4]) mixed fn90 rfl (by simp +arith [Try.ntmps90]) fun u => ?_
  simp only [cd90, Try.f90]
  ((try simp only [WKb, ↓reduceIte, Nat.reduceEqDiff, Nat.reduceAdd, Nat.reduceSub, Int.reduceEq, Int.reduceLT, Int.reduceLE, rone_st, pl90]) <;> (repeat' ((first
    | (refine G.load ?_; first | refine A.ldW (by rfl) ?_ | refine A.ld1 (by rfl) ?_ | refine A.ldN (by rfl) (by rfl) ?_ | refine A.lS0 (by assumption) (by rfl) ?_ | refine A.lS1 (by assumption) (by rfl) ?_ | refine A.lSW (by assumption) (by rfl) ?_ | refine A.lSN (by assumption) (by rfl) (by rfl) ?_)
    | refine Tr.drewK ?_
    | refine Tr.eqR rfl ?_
    | refine Tr.box rfl fun _ => ?_
    | refine Tr.alloc rfl fun _ => ?_
    | refine Tr.build rfl ?_
    | (refine G.store ?_; first | refine A.stW (by rfl) (by rfl) (by rfl) (by rfl) ?_ | refine A.st (by rfl) (by rfl) (by rfl) (by first | exact Nat.le_of_ble_eq_true rfl | (simp only [WKl, setL_length, En.len]; omega)) ?_ | refine A.stE (by rfl) (by first | omega | assumption | (simp only [WKl]; omega)) (by first | omega | assumption | (simp only [WKl]; omega)) ?_)
    | (refine G.cond ?_; first | refine Tr.condT (by first | rfl | assumption | (simp only [WKs]; omega)) ?_ | refine Tr.condF (by first | rfl | assumption | (simp only [WKs]; omega)) ?_ | (refine Tr.condS (fun hb => ?_) (fun hb => ?_) <;> ((try simp only [hb]) <;> (try (have hp := hb; simp only [WKs] at hp; (try have hq := Int.not_le.2 hp); (try have hq := Int.not_lt.2 hp))))))
    | (refine G.guard ?_; first | (refine Tr.guardTT (by first | rfl | assumption | (simp only [WKs]; omega)) (fun hb => ?_) <;> (try simp only [hb])) | (refine Tr.guardFF (by first | rfl | assumption | (simp only [WKs]; omega)) (fun hb => ?_) <;> (try simp only [hb])) | (refine Tr.guardS (fun hb => ?_) (fun hb => ?_) <;> ((try simp only [hb]) <;> (try (have hp := hb; simp only [WKs] at hp; (try have hq := Int.not_le.2 hp); (try have hq := Int.not_lt.2 hp))))))
    | (refine G.guardC ?_; refine Tr.guardCS (fun hb => ?_) (fun hb => ?_) <;> ((try simp only [hb]) <;> (try (have hp := hb; simp only [WKs] at hp; (try have hq := Int.not_le.2 hp); (try have hq := Int.not_lt.2 hp)))))
    | (refine G.idx ?_; first | refine Tr.indexArr (by omega) (by omega) ?_ | refine A.idx (by rfl) (by first | omega | assumption | (simp only [WKl]; omega)) (by first | omega | assumption | (simp only [WKl]; omega)) fun hix => ?_)
    | (refine G.len ?_; first | refine A.len ?_ | refine A.lenM ?_ | refine Tr.lenMapNil ?_)
    | (refine G.app ?_; first | refine A.app0 (by rfl) (by decide) (by first | omega | assumption | (simp only [WKl]; omega)) fun _ => ?_ | refine A.app (by rfl) (by decide) (by first | omega | assumption | (simp only [WKl]; omega)) fun _ => ?_)
    | (refine G.bs ?_; first | refine Tr.buildNil rfl fun _ => ?_ | refine Tr.build1 _ rfl rfl (by decide) fun _ => ?_)
    | (refine G.cut ?_; refine A.cutTo (by rfl) (by omega) (by omega) fun _ => ?_)
    | (refine G.look ?_; first | refine A.look ?_ | refine Tr.lookupNil ?_)
    | (refine G.mapu ?_; refine A.mapu ?_)
    | refine Tr.makeMap fun _ => ?_
    | (refine G.rem ?_; refine Tr.rem (by omega) ?_)
    | (refine G.prop ?_; first | omega | assumption | exact Nat.le_of_ble_eq_true rfl)) <;> (try simp only [WKb, ↓reduceIte, Nat.reduceEqDiff, Nat.reduceAdd, Nat.reduceSub, Int.reduceEq, Int.reduceLT, Int.reduceLE, rone_st, pl90]))))
  all_goals
    refine Tr.fin hK ⟨?_, rfl⟩ ?_
    · clear hK; simp; omega
    · ((try clear hK) <;> (try simp only [WKe, ↓reduceIte, reduceCtorEq, Int.reduceEq, *]) <;> repeat (first
    | with_reducible exact EntR.done
    | (apply EntR.take; focus (first | ((repeat (first | with_reducible exact TakeA.here | with_reducible apply TakeA.next)); done) | ((repeat (first | exact TakeA.here | apply TakeA.next)); done)))
    | with_reducible refine EntR.sep ?_
    | with_reducible apply EntR.ex
    | with_reducible refine EntR.fact (by first | rfl | assumption | omega | simp) ?_
    | refine EntR.drop (F := F) ?_
    | refine EntR.drop ?_))

theorem rahead_ok {p q : One} : Trip Try.prog 131 [p.r, q.r].toArray [] fun v l' => v = .bool (p.ahead q) ∧ l' = [] := by
  intro F K hK
  simp only [List.nil_append]
  refine Tr.enter (rs := [.tmp 4]) mixed fn131 rfl (by simp +arith [Try.ntmps131]) fun u => ?_
  simp only [cd131, Try.f131]
  ((try simp only [WKb, ↓reduceIte, Nat.reduceEqDiff, Nat.reduceAdd, Nat.reduceSub, Int.reduceEq, Int.reduceLT, Int.reduceLE, rone_st, pl131]) <;> (repeat' ((first
    | (refine G.load ?_; first | refine A.ldW (by rfl) ?_ | refine A.ld1 (by rfl) ?_ | refine A.ldN (by rfl) (by rfl) ?_ | refine A.lS0 (by assumption) (by rfl) ?_ | refine A.lS1 (by assumption) (by rfl) ?_ | refine A.lSW (by assumption) (by rfl) ?_ | refine A.lSN (by assumption) (by rfl) (by rfl) ?_)
    | refine Tr.drewK ?_
    | refine Tr.eqR rfl ?_
    | refine Tr.box rfl fun _ => ?_
    | refine Tr.alloc rfl fun _ => ?_
    | refine Tr.build rfl ?_
    | (refine G.store ?_; first | refine A.stW (by rfl) (by rfl) (by rfl) (by rfl) ?_ | refine A.st (by rfl) (by rfl) (by rfl) (by first | exact Nat.le_of_ble_eq_true rfl | (simp only [WKl, setL_length, En.len]; omega)) ?_ | refine A.stE (by rfl) (by first | omega | assumption | (simp only [WKl]; omega)) (by first | omega | assumption | (simp only [WKl]; omega)) ?_)
    | (refine G.cond ?_; first | refine Tr.condT (by first | rfl | assumption | (simp only [WKs]; omega)) ?_ | refine Tr.condF (by first | rfl | assumption | (simp only [WKs]; omega)) ?_ | (refine Tr.condS (fun hb => ?_) (fun hb => ?_) <;> ((try simp only [hb]) <;> (try (have hp := hb; simp only [WKs] at hp; (try have hq := Int.not_le.2 hp); (try have hq := Int.not_lt.2 hp))))))
    | (refine G.guard ?_; first | (refine Tr.guardTT (by first | rfl | assumption | (simp only [WKs]; omega)) (fun hb => ?_) <;> (try simp only [hb])) | (refine Tr.guardFF (by first | rfl | assumption | (simp only [WKs]; omega)) (fun hb => ?_) <;> (try simp only [hb])) | (refine Tr.guardS (fun hb => ?_) (fun hb => ?_) <;> ((try simp only [hb]) <;> (try (have hp := hb; simp only [WKs] at hp; (try have hq := Int.not_le.2 hp); (try have hq := Int.not_lt.2 hp))))))
    | (refine G.guardC ?_; refine Tr.guardCS (fun hb => ?_) (fun hb => ?_) <;> ((try simp only [hb]) <;> (try (have hp := hb; simp only [WKs] at hp; (try have hq := Int.not_le.2 hp); (try have hq := Int.not_lt.2 hp)))))
    | (refine G.idx ?_; first | refine Tr.indexArr (by omega) (by omega) ?_ | refine A.idx (by rfl) (by first | omega | assumption | (simp only [WKl]; omega)) (by first | omega | assumption | (simp only [WKl]; omega)) fun hix => ?_)
    | (refine G.len ?_; first | refine A.len ?_ | refine A.lenM ?_ | refine Tr.lenMapNil ?_)
    | (refine G.app ?_; first | refine A.app0 (by rfl) (by decide) (by first | omega | assumption | (simp only [WKl]; omega)) fun _ => ?_ | refine A.app (by rfl) (by decide) (by first | omega | assumption | (simp only [WKl]; omega)) fun _ => ?_)
    | (refine G.bs ?_; first | refine Tr.buildNil rfl fun _ => ?_ | refine Tr.build1 _ rfl rfl (by decide) fun _ => ?_)
    | (refine G.cut ?_; refine A.cutTo (by rfl) (by omega) (by omega) fun _ => ?_)
    | (refine G.look ?_; first | refine A.look ?_ | refine Tr.lookupNil ?_)
    | (refine G.mapu ?_; refine A.mapu ?_)
    | refine Tr.makeMap fun _ => ?_
    | (refine G.rem ?_; refine Tr.rem (by omega) ?_)
    | (refine G.prop ?_; first | omega | assumption | exact Nat.le_of_ble_eq_true rfl)) <;> (try simp only [WKb, ↓reduceIte, Nat.reduceEqDiff, Nat.reduceAdd, Nat.reduceSub, Int.reduceEq, Int.reduceLT, Int.reduceLE, rone_st, pl131]))))
  all_goals
    refine Tr.fin hK ⟨?_, rfl⟩ ?_
    · clear hK; unfold One.ahead; split <;> simp <;> omega
    · ((try clear hK) <;> (try simp only [WKe, ↓reduceIte, reduceCtorEq, Int.reduceEq, *]) <;> repeat (first
    | with_reducible exact EntR.done
    | (apply EntR.take; focus (first | ((repeat (first | with_reducible exact TakeA.here | with_reducible apply TakeA.next)); done) | ((repeat (first | exact TakeA.here | apply TakeA.next)); done)))
    | with_reducible refine EntR.sep ?_
    | with_reducible apply EntR.ex
    | with_reducible refine EntR.fact (by first | rfl | assumption | omega | simp) ?_
    | refine EntR.drop (F := F) ?_
    | refine EntR.drop ?_))

theorem rset_ok {a : Nat} {s : SV} {n : Int} {d : List One} {k : Int} {p : One} (hn : d.length ≤ 1000000) (h0 : 0 ≤ k) (h1 : k < d.length) : Trip Try.prog 127 [.pointer (some ⟨a, 0, none⟩), .int .i64 k, p.r].toArray [refB a s n, refS s d]
    fun v l' => ∃ s', v = .tuple #[] ∧ l' = [refB a s' n, refS s' (d.set k.toNat p)] := by
  intro F K hK
  simp only [List.cons_append, List.nil_append]
  refine Tr.enter (rs := []) mixed fn127 rfl (by simp +arith [Try.ntmps127]) fun u => ?_
  simp only [cd127, Try.f127]
  ((try simp only [WKb, ↓reduceIte, Nat.reduceEqDiff, Nat.reduceAdd, Nat.reduceSub, Int.reduceEq, Int.reduceLT, Int.reduceLE, rone_st, pl127]) <;> (repeat' ((first
    | (refine G.load ?_; first | refine A.ldW (by rfl) ?_ | refine A.ld1 (by rfl) ?_ | refine A.ldN (by rfl) (by rfl) ?_ | refine A.lS0 (by assumption) (by rfl) ?_ | refine A.lS1 (by assumption) (by rfl) ?_ | refine A.lSW (by assumption) (by rfl) ?_ | refine A.lSN (by assumption) (by rfl) (by rfl) ?_)
    | refine Tr.drewK ?_
    | refine Tr.eqR rfl ?_
    | refine Tr.box rfl fun _ => ?_
    | refine Tr.alloc rfl fun _ => ?_
    | refine Tr.build rfl ?_
    | (refine G.store ?_; first | refine A.stW (by rfl) (by rfl) (by rfl) (by rfl) ?_ | refine A.st (by rfl) (by rfl) (by rfl) (by first | exact Nat.le_of_ble_eq_true rfl | (simp only [WKl, setL_length, En.len]; omega)) ?_ | refine A.stE (by rfl) (by first | omega | assumption | (simp only [WKl]; omega)) (by first | omega | assumption | (simp only [WKl]; omega)) ?_)
    | (refine G.cond ?_; first | refine Tr.condT (by first | rfl | assumption | (simp only [WKs]; omega)) ?_ | refine Tr.condF (by first | rfl | assumption | (simp only [WKs]; omega)) ?_ | (refine Tr.condS (fun hb => ?_) (fun hb => ?_) <;> ((try simp only [hb]) <;> (try (have hp := hb; simp only [WKs] at hp; (try have hq := Int.not_le.2 hp); (try have hq := Int.not_lt.2 hp))))))
    | (refine G.guard ?_; first | (refine Tr.guardTT (by first | rfl | assumption | (simp only [WKs]; omega)) (fun hb => ?_) <;> (try simp only [hb])) | (refine Tr.guardFF (by first | rfl | assumption | (simp only [WKs]; omega)) (fun hb => ?_) <;> (try simp only [hb])) | (refine Tr.guardS (fun hb => ?_) (fun hb => ?_) <;> ((try simp only [hb]) <;> (try (have hp := hb; simp only [WKs] at hp; (try have hq := Int.not_le.2 hp); (try have hq := Int.not_lt.2 hp))))))
    | (refine G.guardC ?_; refine Tr.guardCS (fun hb => ?_) (fun hb => ?_) <;> ((try simp only [hb]) <;> (try (have hp := hb; simp only [WKs] at hp; (try have hq := Int.not_le.2 hp); (try have hq := Int.not_lt.2 hp)))))
    | (refine G.idx ?_; first | refine Tr.indexArr (by omega) (by omega) ?_ | refine A.idx (by rfl) (by first | omega | assumption | (simp only [WKl]; omega)) (by first | omega | assumption | (simp only [WKl]; omega)) fun hix => ?_)
    | (refine G.len ?_; first | refine A.len ?_ | refine A.lenM ?_ | refine Tr.lenMapNil ?_)
    | (refine G.app ?_; first | refine A.app0 (by rfl) (by decide) (by first | omega | assumption | (simp only [WKl]; omega)) fun _ => ?_ | refine A.app (by rfl) (by decide) (by first | omega | assumption | (simp only [WKl]; omega)) fun _ => ?_)
    | (refine G.bs ?_; first | refine Tr.buildNil rfl fun _ => ?_ | refine Tr.build1 _ rfl rfl (by decide) fun _ => ?_)
    | (refine G.cut ?_; refine A.cutTo (by rfl) (by omega) (by omega) fun _ => ?_)
    | (refine G.look ?_; first | refine A.look ?_ | refine Tr.lookupNil ?_)
    | (refine G.mapu ?_; refine A.mapu ?_)
    | refine Tr.makeMap fun _ => ?_
    | (refine G.rem ?_; refine Tr.rem (by omega) ?_)
    | (refine G.prop ?_; first | omega | assumption | exact Nat.le_of_ble_eq_true rfl)) <;> (try simp only [WKb, ↓reduceIte, Nat.reduceEqDiff, Nat.reduceAdd, Nat.reduceSub, Int.reduceEq, Int.reduceLT, Int.reduceLE, rone_st, pl127]))))
  all_goals
    apply Tr.fin hK ⟨_, rfl, rfl⟩
    ((try clear hK) <;> (try simp only [WKe, refS, refB, List.map_set, ↓reduceIte, reduceCtorEq, Int.reduceEq, *]) <;> repeat (first
    | with_reducible exact EntR.done
    | (apply EntR.take; focus (first | ((repeat (first | with_reducible exact TakeA.here | with_reducible apply TakeA.next)); done) | ((repeat (first | exact TakeA.here | apply TakeA.next)); done)))
    | with_reducible refine EntR.sep ?_
    | with_reducible apply EntR.ex
    | with_reducible refine EntR.fact (by first | rfl | assumption | omega | simp) ?_
    | refine EntR.drop (F := F) ?_
    | refine EntR.drop ?_))

theorem rput_ok {a : Nat} {s : SV} {n : Int} {d : List One} {k : Int} {p : One} {st : Int} (hn : d.length ≤ 1000000) (h0 : 0 ≤ k) (h1 : k < d.length) : Trip Try.prog 126 [.pointer (some ⟨a, 0, none⟩), .int .i64 k, p.r, .int .i64 st].toArray [refB a s n, refS s d]
    fun v l' => ∃ s', v = .tuple #[] ∧ l' = [refB a s' (Tb.putT ⟨d, n⟩ st), refS s' (d.set k.toNat (Tb.putP ⟨d, n⟩ p st))] := by
  intro F K hK
  simp only [List.cons_append, List.nil_append]
  refine Tr.enter (rs := []) mixed fn126 rfl (by simp +arith [Try.ntmps126]) fun u => ?_
  simp only [cd126, Try.f126]
  ((try simp only [WKb, ↓reduceIte, Nat.reduceEqDiff, Nat.reduceAdd, Nat.reduceSub, Int.reduceEq, Int.reduceLT, Int.reduceLE, rone_st, pl126]) <;> (repeat' ((first
    | (refine G.load ?_; first | refine A.ldW (by rfl) ?_ | refine A.ld1 (by rfl) ?_ | refine A.ldN (by rfl) (by rfl) ?_ | refine A.lS0 (by assumption) (by rfl) ?_ | refine A.lS1 (by assumption) (by rfl) ?_ | refine A.lSW (by assumption) (by rfl) ?_ | refine A.lSN (by assumption) (by rfl) (by rfl) ?_)
    | refine Tr.drewK ?_
    | refine Tr.eqR rfl ?_
    | refine Tr.box rfl fun _ => ?_
    | refine Tr.alloc rfl fun _ => ?_
    | refine Tr.build rfl ?_
    | (refine G.store ?_; first | refine A.stW (by rfl) (by rfl) (by rfl) (by rfl) ?_ | refine A.st (by rfl) (by rfl) (by rfl) (by first | exact Nat.le_of_ble_eq_true rfl | (simp only [WKl, setL_length, En.len]; omega)) ?_ | refine A.stE (by rfl) (by first | omega | assumption | (simp only [WKl]; omega)) (by first | omega | assumption | (simp only [WKl]; omega)) ?_)
    | (refine G.cond ?_; first | refine Tr.condT (by first | rfl | assumption | (simp only [WKs]; omega)) ?_ | refine Tr.condF (by first | rfl | assumption | (simp only [WKs]; omega)) ?_ | (refine Tr.condS (fun hb => ?_) (fun hb => ?_) <;> ((try simp only [hb]) <;> (try (have hp := hb; simp only [WKs] at hp; (try have hq := Int.not_le.2 hp); (try have hq := Int.not_lt.2 hp))))))
    | (refine G.guard ?_; first | (refine Tr.guardTT (by first | rfl | assumption | (simp only [WKs]; omega)) (fun hb => ?_) <;> (try simp only [hb])) | (refine Tr.guardFF (by first | rfl | assumption | (simp only [WKs]; omega)) (fun hb => ?_) <;> (try simp only [hb])) | (refine Tr.guardS (fun hb => ?_) (fun hb => ?_) <;> ((try simp only [hb]) <;> (try (have hp := hb; simp only [WKs] at hp; (try have hq := Int.not_le.2 hp); (try have hq := Int.not_lt.2 hp))))))
    | (refine G.guardC ?_; refine Tr.guardCS (fun hb => ?_) (fun hb => ?_) <;> ((try simp only [hb]) <;> (try (have hp := hb; simp only [WKs] at hp; (try have hq := Int.not_le.2 hp); (try have hq := Int.not_lt.2 hp)))))
    | (refine G.idx ?_; first | refine Tr.indexArr (by omega) (by omega) ?_ | refine A.idx (by rfl) (by first | omega | assumption | (simp only [WKl]; omega)) (by first | omega | assumption | (simp only [WKl]; omega)) fun hix => ?_)
    | (refine G.len ?_; first | refine A.len ?_ | refine A.lenM ?_ | refine Tr.lenMapNil ?_)
    | (refine G.call 127 ?_; apply Tr.callC ?_ (rset_ok ?_ ?_ ?_) ?_)
    | with_reducible exact TakeL.nil
    | with_reducible apply TakeL.cons
    | rintro _ _ ⟨_, rfl, rfl⟩
    | (refine G.app ?_; first | refine A.app0 (by rfl) (by decide) (by first | omega | assumption | (simp only [WKl]; omega)) fun _ => ?_ | refine A.app (by rfl) (by decide) (by first | omega | assumption | (simp only [WKl]; omega)) fun _ => ?_)
    | (refine G.bs ?_; first | refine Tr.buildNil rfl fun _ => ?_ | refine Tr.build1 _ rfl rfl (by decide) fun _ => ?_)
    | (refine G.cut ?_; refine A.cutTo (by rfl) (by omega) (by omega) fun _ => ?_)
    | (refine G.look ?_; first | refine A.look ?_ | refine Tr.lookupNil ?_)
    | (refine G.mapu ?_; refine A.mapu ?_)
    | refine Tr.makeMap fun _ => ?_
    | (refine G.rem ?_; refine Tr.rem (by omega) ?_)
    | (refine G.prop ?_; first | omega | assumption | exact Nat.le_of_ble_eq_true rfl)
    | ((apply G.take; first | ((repeat (first | with_reducible exact TakeA.here | with_reducible apply TakeA.next)); done) | ((repeat (first | exact TakeA.here | apply TakeA.next)); done)))) <;> (try simp only [WKb, ↓reduceIte, Nat.reduceEqDiff, Nat.reduceAdd, Nat.reduceSub, Int.reduceEq, Int.reduceLT, Int.reduceLE, rone_st, pl126]))))
  all_goals
    apply Tr.fin hK ⟨_, rfl, rfl⟩
    ((try clear hK) <;> (try simp only [WKe, refS, refB, Tb.put, Tb.putP, Tb.putT, List.map_set, ↓reduceIte, reduceCtorEq, Int.reduceEq, *]) <;> repeat (first
    | with_reducible exact EntR.done
    | (apply EntR.take; focus (first | ((repeat (first | with_reducible exact TakeA.here | with_reducible apply TakeA.next)); done) | ((repeat (first | exact TakeA.here | apply TakeA.next)); done)))
    | with_reducible refine EntR.sep ?_
    | with_reducible apply EntR.ex
    | with_reducible refine EntR.fact (by first | rfl | assumption | omega | simp) ?_
    | refine EntR.drop (F := F) ?_
    | refine EntR.drop ?_))

end Go.Proofs.Ytlmcoiloepoggaa
