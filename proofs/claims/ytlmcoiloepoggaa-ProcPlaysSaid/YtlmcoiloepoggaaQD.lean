import Derived.Test.YtlmcoiloepoggaaQC
namespace Go.Proofs.Ytlmcoiloepoggaa
open Go Go.Wk
set_option maxHeartbeats 1600000
set_option maxRecDepth 10000

structure ActP where
  Do : Int
  K : Int
  A : Int
  B : Int
  C : Int
instance : Inhabited ActP := ⟨⟨0, 0, 0, 0, 0⟩⟩
instance : En ActP := ⟨fun d => [.int .i64 d.Do, .int .i64 d.K, .int .i64 d.A, .int .i64 d.B, .int .i64 d.C], 5, fun _ => rfl, fun _ => rfl, by decide⟩
instance : ElT 38 ActP := ⟨⟩
def ActP.v (d : ActP) : Value := .agg (En.enc d).toArray
def Tb.act (t : Tb) (a : ActP) : Tb :=
  if a.Do = 0 then t.start a.K a.A else if a.Do = 1 then t.set a.K a.A else if a.Do = 2 then t.wait a.K a.A a.B a.C else if a.Do = 3 then t.rank a.K a.A else if a.Do = 4 then t.park a.K
  else if a.Do = 5 then t.free else if a.Do = 6 then t else (t.relTo a.A t.d.length).t
theorem act_len (t : Tb) (a : ActP) : (t.act a).d.length = t.d.length := by
  unfold Tb.act
  repeat' split
  all_goals first
    | rfl
    | (simp [Tb.start, Tb.set, Tb.wait, Tb.rank, Tb.park, Tb.put] <;> split <;> simp; done)
    | exact freeTo_len t _
    | exact (relTo_len t _ _).1
attribute [local irreducible] GenK EGenK EUnitK CallK FnK CallV GuardO GuardC CondW opX opK opKc chkR eqR seqK blkK endL WL WD W LoopW BinK Tr drewK resL PickK NotK NilK ExtrK getK Instr.storeAt Instr.loadAt Instr.fieldAt Instr.indexAt Instr.lookup Instr.mapUpdate Instr.box Instr.alloc Instr.build Instr.buildSlice Instr.makeSlice Instr.makeMap Instr.sliceAt Instr.field Instr.index Instr.makeInterface Instr.typeAssert Builtin.len_ Builtin.append_ Builtin.cap_ Builtin.min_ Builtin.max_ Builtin.copy_ Builtin.clear_ convert binOp mp blk rob sl sep ex fact old
theorem works21_ok : Trip Try.prog 24 [].toArray [] fun v l' => v = .bool true ∧ l' = [] := by
  intro F K hK
  simp only [List.nil_append]
  refine Tr.enter (rs := [.tmp 0]) mixed fn24 rfl (by simp +arith [Try.ntmps24]) fun u => ?_
  simp only [cd24, Try.f24]
  ((try simp only [WKb, ↓reduceIte, Nat.reduceEqDiff, Nat.reduceAdd, Nat.reduceSub, Int.reduceEq, Int.reduceLT, Int.reduceLE, rone_st, ix_mk, pl24]) <;> (repeat' ((first
    | (refine G.load ?_; first | refine Tr.load1 (by first | ((repeat (first | ((with_reducible apply Cell.blk); exact rfl) | ((with_reducible apply Cell.rob); exact rfl) | with_reducible apply Cell.next)); done) | exact Cell.sl0 (by first | ((repeat (first | with_reducible exact Has.here | with_reducible apply Has.next)); done) | ((repeat (first | exact Has.here | apply Has.next)); done)) (by assumption) rfl | exact Cell.slj (by first | ((repeat (first | with_reducible exact Has.here | with_reducible apply Has.next)); done) | ((repeat (first | exact Has.here | apply Has.next)); done)) (by assumption) rfl) ?_ | refine Tr.loadN (by first | ((repeat (first | exact CellsAt.blk0 rfl | exact CellsAt.blk rfl rfl | exact CellsAt.rob0 rfl | exact CellsAt.rob rfl rfl | with_reducible apply CellsAt.next)); done) | exact CellsAt.sl0 (by first | ((repeat (first | with_reducible exact Has.here | with_reducible apply Has.next)); done) | ((repeat (first | exact Has.here | apply Has.next)); done)) (by assumption) rfl | exact CellsAt.slj (by first | ((repeat (first | with_reducible exact Has.here | with_reducible apply Has.next)); done) | ((repeat (first | exact Has.here | apply Has.next)); done)) (by assumption) rfl rfl) ?_)
    | refine Tr.drewK ?_
    | refine Tr.eqR rfl ?_
    | refine Tr.box rfl fun _ => ?_
    | refine Tr.alloc rfl fun _ => ?_
    | refine Tr.build rfl ?_
    | (refine G.store ?_; first | refine Tr.storeW rfl rfl rfl (by (repeat (first | exact Upd.here | apply Upd.next)); done) (by rfl) ?_ | refine Tr.store rfl rfl rfl (by (repeat (first | exact Upd.here | apply Upd.next)); done) (by first | exact Nat.le_of_ble_eq_true rfl | (simp only [WKl, setL_length, En.len]; omega)) ?_ | refine Tr.storeElI (by first | ((repeat (first | with_reducible exact TakeA.here | with_reducible apply TakeA.next)); done) | ((repeat (first | exact TakeA.here | apply TakeA.next)); done)) rfl (by (first | omega | assumption | (simp only [WKl]; omega))) (by (first | omega | assumption | (simp only [WKl]; omega))) ?_)
    | (refine G.cond ?_; first | refine Tr.condT (by first | rfl | assumption | (simp only [WKs]; omega)) ?_ | refine Tr.condF (by first | rfl | assumption | (simp only [WKs]; omega)) ?_ | (refine Tr.condS (fun hb => ?_) (fun hb => ?_) <;> (try simp only [hb]) <;> (try (have hp := hb; simp only [WKs] at hp; (try have hq := Int.not_le.2 hp); (try have hq := Int.not_lt.2 hp)))))
    | (refine G.guard ?_; first | refine Tr.guardTT (by first | rfl | assumption | (simp only [WKs]; omega)) ?_ | refine Tr.guardFF (by first | rfl | assumption | (simp only [WKs]; omega)) ?_ | (refine Tr.guardS (fun hb => ?_) (fun hb => ?_) <;> (try simp only [hb]) <;> (try (have hp := hb; simp only [WKs] at hp; (try have hq := Int.not_le.2 hp); (try have hq := Int.not_lt.2 hp)))))
    | (refine G.guardC ?_; refine Tr.guardCS (fun hb => ?_) (fun hb => ?_) <;> (try simp only [hb]) <;> (try (have hp := hb; simp only [WKs] at hp; (try have hq := Int.not_le.2 hp); (try have hq := Int.not_lt.2 hp))))
    | (refine G.idx ?_; first | refine Tr.indexArr (by omega) (by omega) ?_ | refine Tr.indexI (by first | ((repeat (first | with_reducible exact Has.here | with_reducible apply Has.next)); done) | ((repeat (first | exact Has.here | apply Has.next)); done)) (by rfl) (by (first | omega | assumption | (simp only [WKl]; omega))) (by (first | omega | assumption | (simp only [WKl]; omega))) fun hix => ?_)
    | (refine G.len ?_; first | refine Tr.len (by first | ((repeat (first | with_reducible exact Has.here | with_reducible apply Has.next)); done) | ((repeat (first | exact Has.here | apply Has.next)); done)) ?_ | refine Tr.lenMap (by first | ((repeat (first | with_reducible exact Has.here | with_reducible apply Has.next)); done) | ((repeat (first | exact Has.here | apply Has.next)); done)) ?_ | refine Tr.lenMapNil ?_)
    | (refine G.call 20 ?_; refine Tr.callT (new_ok _ _) (by (repeat (first | exact TakeL.nil | apply TakeL.cons (by first | ((repeat (first | with_reducible exact TakeA.here | with_reducible apply TakeA.next)); done) | ((repeat (first | exact TakeA.here | apply TakeA.next)); done)))); done) ?_; rintro _ _ ⟨_, rfl, rfl⟩)
    | (refine G.call 39 ?_; refine Tr.callT (start_ok _ _ _ _) (by (repeat (first | exact TakeL.nil | apply TakeL.cons (by first | ((repeat (first | with_reducible exact TakeA.here | with_reducible apply TakeA.next)); done) | ((repeat (first | exact TakeA.here | apply TakeA.next)); done)))); done) ?_; rintro _ _ ⟨rfl, rfl⟩)
    | (refine G.call 28 ?_; refine Tr.callT (pick_ok _ _ ?_) (by (repeat (first | exact TakeL.nil | apply TakeL.cons (by first | ((repeat (first | with_reducible exact TakeA.here | with_reducible apply TakeA.next)); done) | ((repeat (first | exact TakeA.here | apply TakeA.next)); done)))); done) ?_; rotate_left 1; rintro _ _ ⟨rfl, rfl⟩)
    | (refine G.call 41 ?_; refine Tr.callT (park_ok _ _ _) (by (repeat (first | exact TakeL.nil | apply TakeL.cons (by first | ((repeat (first | with_reducible exact TakeA.here | with_reducible apply TakeA.next)); done) | ((repeat (first | exact TakeA.here | apply TakeA.next)); done)))); done) ?_; rintro _ _ ⟨rfl, rfl⟩)
    | (refine G.call 29 ?_; refine Tr.callT (state_ok _ _ _) (by (repeat (first | exact TakeL.nil | apply TakeL.cons (by first | ((repeat (first | with_reducible exact TakeA.here | with_reducible apply TakeA.next)); done) | ((repeat (first | exact TakeA.here | apply TakeA.next)); done)))); done) ?_; rintro _ _ ⟨rfl, rfl⟩)
    | (refine G.call 23 ?_; refine Tr.callT (len_ok _ _) (by (repeat (first | exact TakeL.nil | apply TakeL.cons (by first | ((repeat (first | with_reducible exact TakeA.here | with_reducible apply TakeA.next)); done) | ((repeat (first | exact TakeA.here | apply TakeA.next)); done)))); done) ?_; rintro _ _ ⟨rfl, rfl⟩)
    | (refine G.app ?_; first | refine Tr.appendNil (by first | ((repeat (first | with_reducible exact Has.here | with_reducible apply Has.next)); done) | ((repeat (first | exact Has.here | apply Has.next)); done)) (by rfl) (by decide) (by (first | omega | assumption | (simp only [WKl]; omega))) fun _ => ?_ | refine Tr.appendE (by first | ((repeat (first | with_reducible exact TakeA.here | with_reducible apply TakeA.next)); done) | ((repeat (first | exact TakeA.here | apply TakeA.next)); done)) (by first | ((repeat (first | with_reducible exact Has.here | with_reducible apply Has.next)); done) | ((repeat (first | exact Has.here | apply Has.next)); done)) (by rfl) (by decide) (by (first | omega | assumption | (simp only [WKl]; omega))) fun _ => ?_)
    | (refine G.bs ?_; first | refine Tr.buildNil rfl fun _ => ?_ | refine Tr.build1 _ rfl rfl (by decide) fun _ => ?_)
    | (refine G.cut ?_; refine Tr.cutTo (by first | ((repeat (first | with_reducible exact Has.here | with_reducible apply Has.next)); done) | ((repeat (first | exact Has.here | apply Has.next)); done)) (by rfl) (by omega) (by omega) fun _ => ?_)
    | (refine G.look ?_; first | refine Tr.lookup (by first | ((repeat (first | with_reducible exact Has.here | with_reducible apply Has.next)); done) | ((repeat (first | exact Has.here | apply Has.next)); done)) ?_ | refine Tr.lookupNil ?_)
    | (refine G.mapu ?_; refine Tr.mapUpdate (by (repeat (first | exact UpdA.here | apply UpdA.next)); done) ?_)
    | refine Tr.makeMap fun _ => ?_
    | (refine G.rem ?_; refine Tr.rem (by omega) ?_)
    | (first | omega | assumption | exact Nat.le_of_ble_eq_true rfl)) <;> (try simp only [WKb, ↓reduceIte, Nat.reduceEqDiff, Nat.reduceAdd, Nat.reduceSub, Int.reduceEq, Int.reduceLT, Int.reduceLE, rone_st, ix_mk, pl24]))))
  refine Tr.buildSlice (α := PConf) (xs := [⟨1, 0, 0⟩, ⟨1, 2, 0⟩]) (d := ⟨0, 0, 0⟩) rfl rfl (by decide) rfl fun s0 => ?_
  refine Tr.freezeSl ?_
  ((try simp only [WKb, ↓reduceIte, Nat.reduceEqDiff, Nat.reduceAdd, Nat.reduceSub, Int.reduceEq, Int.reduceLT, Int.reduceLE, rone_st, ix_mk, pl24]) <;> (repeat' ((first
    | (refine G.load ?_; first | refine Tr.load1 (by first | ((repeat (first | ((with_reducible apply Cell.blk); exact rfl) | ((with_reducible apply Cell.rob); exact rfl) | with_reducible apply Cell.next)); done) | exact Cell.sl0 (by first | ((repeat (first | with_reducible exact Has.here | with_reducible apply Has.next)); done) | ((repeat (first | exact Has.here | apply Has.next)); done)) (by assumption) rfl | exact Cell.slj (by first | ((repeat (first | with_reducible exact Has.here | with_reducible apply Has.next)); done) | ((repeat (first | exact Has.here | apply Has.next)); done)) (by assumption) rfl) ?_ | refine Tr.loadN (by first | ((repeat (first | exact CellsAt.blk0 rfl | exact CellsAt.blk rfl rfl | exact CellsAt.rob0 rfl | exact CellsAt.rob rfl rfl | with_reducible apply CellsAt.next)); done) | exact CellsAt.sl0 (by first | ((repeat (first | with_reducible exact Has.here | with_reducible apply Has.next)); done) | ((repeat (first | exact Has.here | apply Has.next)); done)) (by assumption) rfl | exact CellsAt.slj (by first | ((repeat (first | with_reducible exact Has.here | with_reducible apply Has.next)); done) | ((repeat (first | exact Has.here | apply Has.next)); done)) (by assumption) rfl rfl) ?_)
    | refine Tr.drewK ?_
    | refine Tr.eqR rfl ?_
    | refine Tr.box rfl fun _ => ?_
    | refine Tr.alloc rfl fun _ => ?_
    | refine Tr.build rfl ?_
    | (refine G.store ?_; first | refine Tr.storeW rfl rfl rfl (by (repeat (first | exact Upd.here | apply Upd.next)); done) (by rfl) ?_ | refine Tr.store rfl rfl rfl (by (repeat (first | exact Upd.here | apply Upd.next)); done) (by first | exact Nat.le_of_ble_eq_true rfl | (simp only [WKl, setL_length, En.len]; omega)) ?_ | refine Tr.storeElI (by first | ((repeat (first | with_reducible exact TakeA.here | with_reducible apply TakeA.next)); done) | ((repeat (first | exact TakeA.here | apply TakeA.next)); done)) rfl (by (first | omega | assumption | (simp only [WKl]; omega))) (by (first | omega | assumption | (simp only [WKl]; omega))) ?_)
    | (refine G.cond ?_; first | refine Tr.condT (by first | rfl | assumption | (simp only [WKs]; omega)) ?_ | refine Tr.condF (by first | rfl | assumption | (simp only [WKs]; omega)) ?_ | (refine Tr.condS (fun hb => ?_) (fun hb => ?_) <;> (try simp only [hb]) <;> (try (have hp := hb; simp only [WKs] at hp; (try have hq := Int.not_le.2 hp); (try have hq := Int.not_lt.2 hp)))))
    | (refine G.guard ?_; first | refine Tr.guardTT (by first | rfl | assumption | (simp only [WKs]; omega)) ?_ | refine Tr.guardFF (by first | rfl | assumption | (simp only [WKs]; omega)) ?_ | (refine Tr.guardS (fun hb => ?_) (fun hb => ?_) <;> (try simp only [hb]) <;> (try (have hp := hb; simp only [WKs] at hp; (try have hq := Int.not_le.2 hp); (try have hq := Int.not_lt.2 hp)))))
    | (refine G.guardC ?_; refine Tr.guardCS (fun hb => ?_) (fun hb => ?_) <;> (try simp only [hb]) <;> (try (have hp := hb; simp only [WKs] at hp; (try have hq := Int.not_le.2 hp); (try have hq := Int.not_lt.2 hp))))
    | (refine G.idx ?_; first | refine Tr.indexArr (by omega) (by omega) ?_ | refine Tr.indexI (by first | ((repeat (first | with_reducible exact Has.here | with_reducible apply Has.next)); done) | ((repeat (first | exact Has.here | apply Has.next)); done)) (by rfl) (by (first | omega | assumption | (simp only [WKl]; omega))) (by (first | omega | assumption | (simp only [WKl]; omega))) fun hix => ?_)
    | (refine G.len ?_; first | refine Tr.len (by first | ((repeat (first | with_reducible exact Has.here | with_reducible apply Has.next)); done) | ((repeat (first | exact Has.here | apply Has.next)); done)) ?_ | refine Tr.lenMap (by first | ((repeat (first | with_reducible exact Has.here | with_reducible apply Has.next)); done) | ((repeat (first | exact Has.here | apply Has.next)); done)) ?_ | refine Tr.lenMapNil ?_)
    | (refine G.call 20 ?_; refine Tr.callT (new_ok _ _) (by (repeat (first | exact TakeL.nil | apply TakeL.cons (by first | ((repeat (first | with_reducible exact TakeA.here | with_reducible apply TakeA.next)); done) | ((repeat (first | exact TakeA.here | apply TakeA.next)); done)))); done) ?_; rintro _ _ ⟨_, rfl, rfl⟩)
    | (refine G.call 39 ?_; refine Tr.callT (start_ok _ _ _ _) (by (repeat (first | exact TakeL.nil | apply TakeL.cons (by first | ((repeat (first | with_reducible exact TakeA.here | with_reducible apply TakeA.next)); done) | ((repeat (first | exact TakeA.here | apply TakeA.next)); done)))); done) ?_; rintro _ _ ⟨rfl, rfl⟩)
    | (refine G.call 28 ?_; refine Tr.callT (pick_ok _ _ ?_) (by (repeat (first | exact TakeL.nil | apply TakeL.cons (by first | ((repeat (first | with_reducible exact TakeA.here | with_reducible apply TakeA.next)); done) | ((repeat (first | exact TakeA.here | apply TakeA.next)); done)))); done) ?_; rotate_left 1; rintro _ _ ⟨rfl, rfl⟩)
    | (refine G.call 41 ?_; refine Tr.callT (park_ok _ _ _) (by (repeat (first | exact TakeL.nil | apply TakeL.cons (by first | ((repeat (first | with_reducible exact TakeA.here | with_reducible apply TakeA.next)); done) | ((repeat (first | exact TakeA.here | apply TakeA.next)); done)))); done) ?_; rintro _ _ ⟨rfl, rfl⟩)
    | (refine G.call 29 ?_; refine Tr.callT (state_ok _ _ _) (by (repeat (first | exact TakeL.nil | apply TakeL.cons (by first | ((repeat (first | with_reducible exact TakeA.here | with_reducible apply TakeA.next)); done) | ((repeat (first | exact TakeA.here | apply TakeA.next)); done)))); done) ?_; rintro _ _ ⟨rfl, rfl⟩)
    | (refine G.call 23 ?_; refine Tr.callT (len_ok _ _) (by (repeat (first | exact TakeL.nil | apply TakeL.cons (by first | ((repeat (first | with_reducible exact TakeA.here | with_reducible apply TakeA.next)); done) | ((repeat (first | exact TakeA.here | apply TakeA.next)); done)))); done) ?_; rintro _ _ ⟨rfl, rfl⟩)
    | (refine G.app ?_; first | refine Tr.appendNil (by first | ((repeat (first | with_reducible exact Has.here | with_reducible apply Has.next)); done) | ((repeat (first | exact Has.here | apply Has.next)); done)) (by rfl) (by decide) (by (first | omega | assumption | (simp only [WKl]; omega))) fun _ => ?_ | refine Tr.appendE (by first | ((repeat (first | with_reducible exact TakeA.here | with_reducible apply TakeA.next)); done) | ((repeat (first | exact TakeA.here | apply TakeA.next)); done)) (by first | ((repeat (first | with_reducible exact Has.here | with_reducible apply Has.next)); done) | ((repeat (first | exact Has.here | apply Has.next)); done)) (by rfl) (by decide) (by (first | omega | assumption | (simp only [WKl]; omega))) fun _ => ?_)
    | (refine G.bs ?_; first | refine Tr.buildNil rfl fun _ => ?_ | refine Tr.build1 _ rfl rfl (by decide) fun _ => ?_)
    | (refine G.cut ?_; refine Tr.cutTo (by first | ((repeat (first | with_reducible exact Has.here | with_reducible apply Has.next)); done) | ((repeat (first | exact Has.here | apply Has.next)); done)) (by rfl) (by omega) (by omega) fun _ => ?_)
    | (refine G.look ?_; first | refine Tr.lookup (by first | ((repeat (first | with_reducible exact Has.here | with_reducible apply Has.next)); done) | ((repeat (first | exact Has.here | apply Has.next)); done)) ?_ | refine Tr.lookupNil ?_)
    | (refine G.mapu ?_; refine Tr.mapUpdate (by (repeat (first | exact UpdA.here | apply UpdA.next)); done) ?_)
    | refine Tr.makeMap fun _ => ?_
    | (refine G.rem ?_; refine Tr.rem (by omega) ?_)
    | (first | omega | assumption | exact Nat.le_of_ble_eq_true rfl)) <;> (try simp only [WKb, ↓reduceIte, Nat.reduceEqDiff, Nat.reduceAdd, Nat.reduceSub, Int.reduceEq, Int.reduceLT, Int.reduceLE, rone_st, ix_mk, pl24]))))
  all_goals
    refine Tr.fin hK ⟨rfl, rfl⟩ ?_
    ((try clear hK) <;> (try simp only [WKe, ↓reduceIte, reduceCtorEq, Int.reduceEq, *]) <;> repeat (first
    | with_reducible exact EntR.done
    | (apply EntR.take; focus (first | ((repeat (first | with_reducible exact TakeA.here | with_reducible apply TakeA.next)); done) | ((repeat (first | exact TakeA.here | apply TakeA.next)); done)))
    | with_reducible refine EntR.sep ?_
    | with_reducible apply EntR.ex
    | with_reducible refine EntR.fact (by first | rfl | assumption | omega | simp) ?_
    | refine EntR.drop (F := F) ?_
    | refine EntR.drop ?_))
attribute [local irreducible] tabA refA
theorem done21_ok {p r : Nat} {t : Tb} {a : ActP} (hn : t.d.length ≤ 1000000) : Trip Try.prog 22 [.pointer (some ⟨p, 0, none⟩), .pointer (some ⟨r, 0, none⟩), a.v].toArray [tabA p t, refA r t]
    fun v l' => v = .bool true ∧ l' = [tabA p (t.act a), refA r (t.act a)] := by
  intro F K hK
  simp only [List.cons_append, List.nil_append]
  have hd1 := dueTo_len t a.A t.d.length
  have hd2 := relTo_len t a.A t.d.length
  refine Tr.enter (rs := [.tmp 6]) mixed fn22 rfl (by simp +arith [Try.ntmps22]) fun u => ?_
  simp only [cd22, Try.f22]
  ((try simp only [WKb, ↓reduceIte, Nat.reduceEqDiff, Nat.reduceAdd, Nat.reduceSub, Int.reduceEq, Int.reduceLT, Int.reduceLE, rone_st, ix_mk, pl22]) <;> (repeat' ((first
    | (refine G.load ?_; first | refine Tr.load1 (by first | ((repeat (first | ((with_reducible apply Cell.blk); exact rfl) | ((with_reducible apply Cell.rob); exact rfl) | with_reducible apply Cell.next)); done) | exact Cell.sl0 (by first | ((repeat (first | with_reducible exact Has.here | with_reducible apply Has.next)); done) | ((repeat (first | exact Has.here | apply Has.next)); done)) (by assumption) rfl | exact Cell.slj (by first | ((repeat (first | with_reducible exact Has.here | with_reducible apply Has.next)); done) | ((repeat (first | exact Has.here | apply Has.next)); done)) (by assumption) rfl) ?_ | refine Tr.loadN (by first | ((repeat (first | exact CellsAt.blk0 rfl | exact CellsAt.blk rfl rfl | exact CellsAt.rob0 rfl | exact CellsAt.rob rfl rfl | with_reducible apply CellsAt.next)); done) | exact CellsAt.sl0 (by first | ((repeat (first | with_reducible exact Has.here | with_reducible apply Has.next)); done) | ((repeat (first | exact Has.here | apply Has.next)); done)) (by assumption) rfl | exact CellsAt.slj (by first | ((repeat (first | with_reducible exact Has.here | with_reducible apply Has.next)); done) | ((repeat (first | exact Has.here | apply Has.next)); done)) (by assumption) rfl rfl) ?_)
    | refine Tr.drewK ?_
    | refine Tr.eqR rfl ?_
    | refine Tr.box rfl fun _ => ?_
    | refine Tr.alloc rfl fun _ => ?_
    | refine Tr.build rfl ?_
    | (refine G.store ?_; first | refine Tr.storeW rfl rfl rfl (by (repeat (first | exact Upd.here | apply Upd.next)); done) (by rfl) ?_ | refine Tr.store rfl rfl rfl (by (repeat (first | exact Upd.here | apply Upd.next)); done) (by first | exact Nat.le_of_ble_eq_true rfl | (simp only [WKl, setL_length, En.len]; omega)) ?_ | refine Tr.storeElI (by first | ((repeat (first | with_reducible exact TakeA.here | with_reducible apply TakeA.next)); done) | ((repeat (first | exact TakeA.here | apply TakeA.next)); done)) rfl (by (first | omega | assumption | (simp only [WKl]; omega))) (by (first | omega | assumption | (simp only [WKl]; omega))) ?_)
    | (refine G.cond ?_; first | refine Tr.condT (by first | rfl | assumption | (simp only [WKs]; omega)) ?_ | refine Tr.condF (by first | rfl | assumption | (simp only [WKs]; omega)) ?_ | (refine Tr.condS (fun hb => ?_) (fun hb => ?_) <;> (try simp only [hb]) <;> (try (have hp := hb; simp only [WKs] at hp; (try have hq := Int.not_le.2 hp); (try have hq := Int.not_lt.2 hp)))))
    | (refine G.guard ?_; first | refine Tr.guardTT (by first | rfl | assumption | (simp only [WKs]; omega)) ?_ | refine Tr.guardFF (by first | rfl | assumption | (simp only [WKs]; omega)) ?_ | (refine Tr.guardS (fun hb => ?_) (fun hb => ?_) <;> (try simp only [hb]) <;> (try (have hp := hb; simp only [WKs] at hp; (try have hq := Int.not_le.2 hp); (try have hq := Int.not_lt.2 hp)))))
    | (refine G.guardC ?_; refine Tr.guardCS (fun hb => ?_) (fun hb => ?_) <;> (try simp only [hb]) <;> (try (have hp := hb; simp only [WKs] at hp; (try have hq := Int.not_le.2 hp); (try have hq := Int.not_lt.2 hp))))
    | (refine G.idx ?_; first | refine Tr.indexArr (by omega) (by omega) ?_ | refine Tr.indexI (by first | ((repeat (first | with_reducible exact Has.here | with_reducible apply Has.next)); done) | ((repeat (first | exact Has.here | apply Has.next)); done)) (by rfl) (by (first | omega | assumption | (simp only [WKl]; omega))) (by (first | omega | assumption | (simp only [WKl]; omega))) fun hix => ?_)
    | (refine G.len ?_; first | refine Tr.len (by first | ((repeat (first | with_reducible exact Has.here | with_reducible apply Has.next)); done) | ((repeat (first | exact Has.here | apply Has.next)); done)) ?_ | refine Tr.lenMap (by first | ((repeat (first | with_reducible exact Has.here | with_reducible apply Has.next)); done) | ((repeat (first | exact Has.here | apply Has.next)); done)) ?_ | refine Tr.lenMapNil ?_)
    | (refine G.call 39 ?_; refine Tr.callT (start_ok _ _ _ _) (by (repeat (first | exact TakeL.nil | apply TakeL.cons (by first | ((repeat (first | with_reducible exact TakeA.here | with_reducible apply TakeA.next)); done) | ((repeat (first | exact TakeA.here | apply TakeA.next)); done)))); done) ?_; rintro _ _ ⟨rfl, rfl⟩)
    | (refine G.call 70 ?_; refine Tr.callT (rstart_ok ?_) (by (repeat (first | exact TakeL.nil | apply TakeL.cons (by first | ((repeat (first | with_reducible exact TakeA.here | with_reducible apply TakeA.next)); done) | ((repeat (first | exact TakeA.here | apply TakeA.next)); done)))); done) ?_; rotate_left 1; rintro _ _ ⟨rfl, rfl⟩)
    | (refine G.call 26 ?_; refine Tr.callT (set_ok _ _ _ _) (by (repeat (first | exact TakeL.nil | apply TakeL.cons (by first | ((repeat (first | with_reducible exact TakeA.here | with_reducible apply TakeA.next)); done) | ((repeat (first | exact TakeA.here | apply TakeA.next)); done)))); done) ?_; rintro _ _ ⟨rfl, rfl⟩)
    | (refine G.call 71 ?_; refine Tr.callT (rsetst_ok ?_) (by (repeat (first | exact TakeL.nil | apply TakeL.cons (by first | ((repeat (first | with_reducible exact TakeA.here | with_reducible apply TakeA.next)); done) | ((repeat (first | exact TakeA.here | apply TakeA.next)); done)))); done) ?_; rotate_left 1; rintro _ _ ⟨rfl, rfl⟩)
    | (refine G.call 40 ?_; refine Tr.callT (wait_ok _ _ _ _ _ _) (by (repeat (first | exact TakeL.nil | apply TakeL.cons (by first | ((repeat (first | with_reducible exact TakeA.here | with_reducible apply TakeA.next)); done) | ((repeat (first | exact TakeA.here | apply TakeA.next)); done)))); done) ?_; rintro _ _ ⟨rfl, rfl⟩)
    | (refine G.call 72 ?_; refine Tr.callT (rwait_ok ?_) (by (repeat (first | exact TakeL.nil | apply TakeL.cons (by first | ((repeat (first | with_reducible exact TakeA.here | with_reducible apply TakeA.next)); done) | ((repeat (first | exact TakeA.here | apply TakeA.next)); done)))); done) ?_; rotate_left 1; rintro _ _ ⟨rfl, rfl⟩)
    | (refine G.call 27 ?_; refine Tr.callT (rank_ok _ _ _ _) (by (repeat (first | exact TakeL.nil | apply TakeL.cons (by first | ((repeat (first | with_reducible exact TakeA.here | with_reducible apply TakeA.next)); done) | ((repeat (first | exact TakeA.here | apply TakeA.next)); done)))); done) ?_; rintro _ _ ⟨rfl, rfl⟩)
    | (refine G.call 73 ?_; refine Tr.callT (rrank_ok ?_) (by (repeat (first | exact TakeL.nil | apply TakeL.cons (by first | ((repeat (first | with_reducible exact TakeA.here | with_reducible apply TakeA.next)); done) | ((repeat (first | exact TakeA.here | apply TakeA.next)); done)))); done) ?_; rotate_left 1; rintro _ _ ⟨rfl, rfl⟩)
    | (refine G.call 41 ?_; refine Tr.callT (park_ok _ _ _) (by (repeat (first | exact TakeL.nil | apply TakeL.cons (by first | ((repeat (first | with_reducible exact TakeA.here | with_reducible apply TakeA.next)); done) | ((repeat (first | exact TakeA.here | apply TakeA.next)); done)))); done) ?_; rintro _ _ ⟨rfl, rfl⟩)
    | (refine G.call 74 ?_; refine Tr.callT (rpark_ok ?_) (by (repeat (first | exact TakeL.nil | apply TakeL.cons (by first | ((repeat (first | with_reducible exact TakeA.here | with_reducible apply TakeA.next)); done) | ((repeat (first | exact TakeA.here | apply TakeA.next)); done)))); done) ?_; rotate_left 1; rintro _ _ ⟨rfl, rfl⟩)
    | (refine G.call 25 ?_; refine Tr.callT (free_ok _ _ ?_) (by (repeat (first | exact TakeL.nil | apply TakeL.cons (by first | ((repeat (first | with_reducible exact TakeA.here | with_reducible apply TakeA.next)); done) | ((repeat (first | exact TakeA.here | apply TakeA.next)); done)))); done) ?_; rotate_left 1; rintro _ _ ⟨rfl, rfl⟩)
    | (refine G.call 75 ?_; refine Tr.callT (rfree_ok ?_) (by (repeat (first | exact TakeL.nil | apply TakeL.cons (by first | ((repeat (first | with_reducible exact TakeA.here | with_reducible apply TakeA.next)); done) | ((repeat (first | exact TakeA.here | apply TakeA.next)); done)))); done) ?_; rotate_left 1; rintro _ _ ⟨rfl, rfl⟩)
    | (refine G.call 38 ?_; refine Tr.callT (due_ok _ _ _ ?_) (by (repeat (first | exact TakeL.nil | apply TakeL.cons (by first | ((repeat (first | with_reducible exact TakeA.here | with_reducible apply TakeA.next)); done) | ((repeat (first | exact TakeA.here | apply TakeA.next)); done)))); done) ?_; rotate_left 1; rintro _ _ ⟨_, rfl, rfl⟩)
    | (refine G.call 77 ?_; refine Tr.callT (rdue_ok ?_) (by (repeat (first | exact TakeL.nil | apply TakeL.cons (by first | ((repeat (first | with_reducible exact TakeA.here | with_reducible apply TakeA.next)); done) | ((repeat (first | exact TakeA.here | apply TakeA.next)); done)))); done) ?_; rotate_left 1; rintro _ _ ⟨_, rfl, rfl⟩)
    | (refine G.call 76 ?_; refine Tr.callT (same_ok ?_) (by (repeat (first | exact TakeL.nil | apply TakeL.cons (by first | ((repeat (first | with_reducible exact TakeA.here | with_reducible apply TakeA.next)); done) | ((repeat (first | exact TakeA.here | apply TakeA.next)); done)))); done) ?_; rotate_left 1; rintro _ _ ⟨rfl, rfl⟩)
    | (refine G.call 37 ?_; refine Tr.callT (release_ok _ _ _ ?_) (by (repeat (first | exact TakeL.nil | apply TakeL.cons (by first | ((repeat (first | with_reducible exact TakeA.here | with_reducible apply TakeA.next)); done) | ((repeat (first | exact TakeA.here | apply TakeA.next)); done)))); done) ?_; rotate_left 1; rintro _ _ ⟨_, _, rfl, rfl⟩)
    | (refine G.call 78 ?_; refine Tr.callT (rrel_ok ?_) (by (repeat (first | exact TakeL.nil | apply TakeL.cons (by first | ((repeat (first | with_reducible exact TakeA.here | with_reducible apply TakeA.next)); done) | ((repeat (first | exact TakeA.here | apply TakeA.next)); done)))); done) ?_; rotate_left 1; rintro _ _ ⟨_, _, rfl, rfl⟩)
    | (refine G.app ?_; first | refine Tr.appendNil (by first | ((repeat (first | with_reducible exact Has.here | with_reducible apply Has.next)); done) | ((repeat (first | exact Has.here | apply Has.next)); done)) (by rfl) (by decide) (by (first | omega | assumption | (simp only [WKl]; omega))) fun _ => ?_ | refine Tr.appendE (by first | ((repeat (first | with_reducible exact TakeA.here | with_reducible apply TakeA.next)); done) | ((repeat (first | exact TakeA.here | apply TakeA.next)); done)) (by first | ((repeat (first | with_reducible exact Has.here | with_reducible apply Has.next)); done) | ((repeat (first | exact Has.here | apply Has.next)); done)) (by rfl) (by decide) (by (first | omega | assumption | (simp only [WKl]; omega))) fun _ => ?_)
    | (refine G.bs ?_; first | refine Tr.buildNil rfl fun _ => ?_ | refine Tr.build1 _ rfl rfl (by decide) fun _ => ?_)
    | (refine G.cut ?_; refine Tr.cutTo (by first | ((repeat (first | with_reducible exact Has.here | with_reducible apply Has.next)); done) | ((repeat (first | exact Has.here | apply Has.next)); done)) (by rfl) (by omega) (by omega) fun _ => ?_)
    | (refine G.look ?_; first | refine Tr.lookup (by first | ((repeat (first | with_reducible exact Has.here | with_reducible apply Has.next)); done) | ((repeat (first | exact Has.here | apply Has.next)); done)) ?_ | refine Tr.lookupNil ?_)
    | (refine G.mapu ?_; refine Tr.mapUpdate (by (repeat (first | exact UpdA.here | apply UpdA.next)); done) ?_)
    | refine Tr.makeMap fun _ => ?_
    | (refine G.rem ?_; refine Tr.rem (by omega) ?_)
    | (first | omega | assumption | exact Nat.le_of_ble_eq_true rfl)) <;> (try simp only [WKb, ↓reduceIte, Nat.reduceEqDiff, Nat.reduceAdd, Nat.reduceSub, Int.reduceEq, Int.reduceLT, Int.reduceLE, rone_st, ix_mk, pl22]))))
  all_goals
    refine Tr.fin hK ⟨rfl, rfl⟩ ?_
    ((try clear hK) <;> (try simp only [WKe, Tb.act, ↓reduceIte, reduceCtorEq, Int.reduceEq, *]) <;> repeat (first
    | with_reducible exact EntR.done
    | (apply EntR.take; focus (first | ((repeat (first | with_reducible exact TakeA.here | with_reducible apply TakeA.next)); done) | ((repeat (first | exact TakeA.here | apply TakeA.next)); done)))
    | with_reducible refine EntR.sep ?_
    | with_reducible apply EntR.ex
    | with_reducible refine EntR.fact (by first | rfl | assumption | omega | simp) ?_
    | refine EntR.drop (F := F) ?_
    | refine EntR.drop ?_))


end Go.Proofs.Ytlmcoiloepoggaa
