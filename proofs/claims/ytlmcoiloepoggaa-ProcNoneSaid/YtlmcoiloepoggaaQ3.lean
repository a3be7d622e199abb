import Derived.Test.YtlmcoiloepoggaaQ2
namespace Go.Proofs.Ytlmcoiloepoggaa
open Go Go.Wk
set_option maxHeartbeats 400000
attribute [local irreducible] GenK EGenK EUnitK CallK FnK CallV GuardO GuardC CondW opX opK opKc chkR eqR seqK blkK endL WL WD W LoopW BinK Tr drewK resL PickK NotK NilK ExtrK getK Instr.storeAt Instr.loadAt Instr.fieldAt Instr.indexAt Instr.lookup Instr.mapUpdate Instr.box Instr.alloc Instr.build Instr.buildSlice Instr.makeSlice Instr.makeMap Instr.sliceAt Instr.field Instr.index Instr.makeInterface Instr.typeAssert Builtin.len_ Builtin.append_ Builtin.cap_ Builtin.min_ Builtin.max_ Builtin.copy_ Builtin.clear_ convert binOp mp blk rob sl sep ex fact old
set_option maxRecDepth 10000
theorem has_spec {t : Tb} {k : Int} (h : t.has k = true) : 0 ≤ k ∧ k < t.d.length := by simpa [Tb.has] using h
theorem waits_ok (a : Nat) (t : Tb) (k : Int) : Trip Try.prog 36 [.pointer (some ⟨a, 0, none⟩), .int .i64 k].toArray [tabA a t] fun v l' => v = .tuple #[.int .i64 (t.at k).call, .int .i64 (t.at k).what, .int .i64 (t.at k).wake] ∧ l' = [tabA a t] := by
  intro F K hK
  have hh := hK _ _ ⟨rfl, rfl⟩
  clear hK
  refine Tr.enter (rs := [.tmp 4, .tmp 5, .tmp 6]) mixed fn36 rfl (by simp +arith [Try.ntmps36]) fun u => ?_
  simp only [cd36, Try.f36]
  (repeat (first
    | simp only [WKb, ↓reduceIte, Nat.reduceEqDiff, Nat.reduceAdd, Nat.reduceSub, pl36]
    | refine Tr.load1 (by (repeat (first | exact Cell.blk rfl | exact Cell.rob rfl | exact Cell.sl0 (by (repeat (first | exact Has.here | apply Has.next)); done) (by assumption) rfl | exact Cell.slj (by (repeat (first | exact Has.here | apply Has.next)); done) (by assumption) rfl | apply Cell.next))) ?_
    | refine Tr.loadN (by (repeat (first | exact CellsAt.blk0 rfl | exact CellsAt.blk rfl rfl | exact CellsAt.rob0 rfl | exact CellsAt.rob rfl rfl | exact CellsAt.sl0 (by (repeat (first | exact Has.here | apply Has.next)); done) (by assumption) rfl | exact CellsAt.slj (by (repeat (first | exact Has.here | apply Has.next)); done) (by assumption) rfl rfl | apply CellsAt.next))) ?_
    | refine Tr.box rfl fun _ => ?_
    | refine Tr.alloc rfl fun _ => ?_
    | refine Tr.build rfl ?_
    | refine Tr.drewK ?_
    | refine Tr.eqR rfl ?_
    | refine Tr.storeW rfl rfl rfl (by (repeat (first | exact Upd.here | apply Upd.next)); done) (by rfl) ?_
    | refine Tr.store rfl rfl rfl (by (repeat (first | exact Upd.here | apply Upd.next)); done) (by first | exact Nat.le_of_ble_eq_true rfl | (simp only [WKl, setL_length, En.len]; omega)) ?_
    | refine Tr.len (by (repeat (first | exact Has.here | apply Has.next)); done) ?_
    | refine Tr.cutTo (by (repeat (first | exact Has.here | apply Has.next)); done) (by rfl) (by omega) (by omega) fun _ => ?_
    | refine Tr.lookup (by (repeat (first | exact Has.here | apply Has.next)); done) ?_
    | refine Tr.mapUpdate (by (repeat (first | exact UpdA.here | apply UpdA.next)); done) ?_
    | refine Tr.lenMap (by (repeat (first | exact Has.here | apply Has.next)); done) ?_
    | refine Tr.makeMap fun _ => ?_
    | refine Tr.index (by (repeat (first | exact Has.here | apply Has.next)); done) (by rfl) (by omega) (by omega) ?_
    | refine Tr.condT (by first | rfl | (simp only [decide_eq_true_eq]; omega)) ?_
    | refine Tr.condF (by first | rfl | (simp only [decide_eq_false_iff_not]; omega)) ?_))
  refine Tr.call (find_ok a t k) [0] rfl ?_
  rintro v l' ⟨rfl, rfl⟩
  (repeat (first
    | simp only [WKb, ↓reduceIte, Nat.reduceEqDiff, Nat.reduceAdd, Nat.reduceSub, pl36]
    | refine Tr.load1 (by (repeat (first | exact Cell.blk rfl | exact Cell.rob rfl | exact Cell.sl0 (by (repeat (first | exact Has.here | apply Has.next)); done) (by assumption) rfl | exact Cell.slj (by (repeat (first | exact Has.here | apply Has.next)); done) (by assumption) rfl | apply Cell.next))) ?_
    | refine Tr.loadN (by (repeat (first | exact CellsAt.blk0 rfl | exact CellsAt.blk rfl rfl | exact CellsAt.rob0 rfl | exact CellsAt.rob rfl rfl | exact CellsAt.sl0 (by (repeat (first | exact Has.here | apply Has.next)); done) (by assumption) rfl | exact CellsAt.slj (by (repeat (first | exact Has.here | apply Has.next)); done) (by assumption) rfl rfl | apply CellsAt.next))) ?_
    | refine Tr.box rfl fun _ => ?_
    | refine Tr.alloc rfl fun _ => ?_
    | refine Tr.build rfl ?_
    | refine Tr.drewK ?_
    | refine Tr.eqR rfl ?_
    | refine Tr.storeW rfl rfl rfl (by (repeat (first | exact Upd.here | apply Upd.next)); done) (by rfl) ?_
    | refine Tr.store rfl rfl rfl (by (repeat (first | exact Upd.here | apply Upd.next)); done) (by first | exact Nat.le_of_ble_eq_true rfl | (simp only [WKl, setL_length, En.len]; omega)) ?_
    | refine Tr.len (by (repeat (first | exact Has.here | apply Has.next)); done) ?_
    | refine Tr.cutTo (by (repeat (first | exact Has.here | apply Has.next)); done) (by rfl) (by omega) (by omega) fun _ => ?_
    | refine Tr.lookup (by (repeat (first | exact Has.here | apply Has.next)); done) ?_
    | refine Tr.mapUpdate (by (repeat (first | exact UpdA.here | apply UpdA.next)); done) ?_
    | refine Tr.lenMap (by (repeat (first | exact Has.here | apply Has.next)); done) ?_
    | refine Tr.makeMap fun _ => ?_
    | refine Tr.index (by (repeat (first | exact Has.here | apply Has.next)); done) (by rfl) (by omega) (by omega) ?_
    | refine Tr.condT (by first | rfl | (simp only [decide_eq_true_eq]; omega)) ?_
    | refine Tr.condF (by first | rfl | (simp only [decide_eq_false_iff_not]; omega)) ?_))
  repeat (first | exact hh | refine Tr.drop ?_)
def Tb.setB (t : Tb) (k s : Int) : Bool := t.has k && (decide (0 ≤ s) && (decide (s < 5) && !decide (s = 2)))
def Tb.set (t : Tb) (k s : Int) : Tb := if t.setB k s then t.put k (t.at k) s else t
theorem set_ok (a : Nat) (t : Tb) (k s : Int) : Trip Try.prog 26 [.pointer (some ⟨a, 0, none⟩), .int .i64 k, .int .i64 s].toArray [tabA a t] fun v l' => v = .bool (t.setB k s) ∧ l' = [tabA a (t.set k s)] := by
  intro F K hK
  have hh := hK _ _ ⟨rfl, rfl⟩
  clear hK
  refine Tr.enter (rs := [.tmp 6]) mixed fn26 rfl (by simp +arith [Try.ntmps26]) fun u => ?_
  simp only [cd26, Try.f26]
  (repeat (first
    | simp only [WKb, ↓reduceIte, Nat.reduceEqDiff, Nat.reduceAdd, Nat.reduceSub, pl26]
    | refine Tr.load1 (by (repeat (first | exact Cell.blk rfl | exact Cell.rob rfl | exact Cell.sl0 (by (repeat (first | exact Has.here | apply Has.next)); done) (by assumption) rfl | exact Cell.slj (by (repeat (first | exact Has.here | apply Has.next)); done) (by assumption) rfl | apply Cell.next))) ?_
    | refine Tr.loadN (by (repeat (first | exact CellsAt.blk0 rfl | exact CellsAt.blk rfl rfl | exact CellsAt.rob0 rfl | exact CellsAt.rob rfl rfl | exact CellsAt.sl0 (by (repeat (first | exact Has.here | apply Has.next)); done) (by assumption) rfl | exact CellsAt.slj (by (repeat (first | exact Has.here | apply Has.next)); done) (by assumption) rfl rfl | apply CellsAt.next))) ?_
    | refine Tr.box rfl fun _ => ?_
    | refine Tr.alloc rfl fun _ => ?_
    | refine Tr.build rfl ?_
    | refine Tr.drewK ?_
    | refine Tr.eqR rfl ?_
    | refine Tr.storeW rfl rfl rfl (by (repeat (first | exact Upd.here | apply Upd.next)); done) (by rfl) ?_
    | refine Tr.store rfl rfl rfl (by (repeat (first | exact Upd.here | apply Upd.next)); done) (by first | exact Nat.le_of_ble_eq_true rfl | (simp only [WKl, setL_length, En.len]; omega)) ?_
    | refine Tr.len (by (repeat (first | exact Has.here | apply Has.next)); done) ?_
    | refine Tr.cutTo (by (repeat (first | exact Has.here | apply Has.next)); done) (by rfl) (by omega) (by omega) fun _ => ?_
    | refine Tr.lookup (by (repeat (first | exact Has.here | apply Has.next)); done) ?_
    | refine Tr.mapUpdate (by (repeat (first | exact UpdA.here | apply UpdA.next)); done) ?_
    | refine Tr.lenMap (by (repeat (first | exact Has.here | apply Has.next)); done) ?_
    | refine Tr.makeMap fun _ => ?_
    | refine Tr.index (by (repeat (first | exact Has.here | apply Has.next)); done) (by rfl) (by omega) (by omega) ?_
    | refine Tr.condT (by first | rfl | (simp only [decide_eq_true_eq]; omega)) ?_
    | refine Tr.condF (by first | rfl | (simp only [decide_eq_false_iff_not]; omega)) ?_))
  refine Tr.call (find_ok a t k) [0] rfl ?_
  rintro v l' ⟨rfl, rfl⟩
  unfold Tb.set at hh
  cases e : t.has k
  · simp only [Tb.setB, e, Bool.false_and, Bool.false_eq_true, if_false] at hh
    (repeat (first
    | simp only [WKb, ↓reduceIte, Nat.reduceEqDiff, Nat.reduceAdd, Nat.reduceSub, pl26, e]
    | refine Tr.load1 (by (repeat (first | exact Cell.blk rfl | exact Cell.rob rfl | exact Cell.sl0 (by (repeat (first | exact Has.here | apply Has.next)); done) (by assumption) rfl | exact Cell.slj (by (repeat (first | exact Has.here | apply Has.next)); done) (by assumption) rfl | apply Cell.next))) ?_
    | refine Tr.loadN (by (repeat (first | exact CellsAt.blk0 rfl | exact CellsAt.blk rfl rfl | exact CellsAt.rob0 rfl | exact CellsAt.rob rfl rfl | exact CellsAt.sl0 (by (repeat (first | exact Has.here | apply Has.next)); done) (by assumption) rfl | exact CellsAt.slj (by (repeat (first | exact Has.here | apply Has.next)); done) (by assumption) rfl rfl | apply CellsAt.next))) ?_
    | refine Tr.box rfl fun _ => ?_
    | refine Tr.alloc rfl fun _ => ?_
    | refine Tr.build rfl ?_
    | refine Tr.drewK ?_
    | refine Tr.eqR rfl ?_
    | refine Tr.storeW rfl rfl rfl (by (repeat (first | exact Upd.here | apply Upd.next)); done) (by rfl) ?_
    | refine Tr.store rfl rfl rfl (by (repeat (first | exact Upd.here | apply Upd.next)); done) (by first | exact Nat.le_of_ble_eq_true rfl | (simp only [WKl, setL_length, En.len]; omega)) ?_
    | refine Tr.len (by (repeat (first | exact Has.here | apply Has.next)); done) ?_
    | refine Tr.cutTo (by (repeat (first | exact Has.here | apply Has.next)); done) (by rfl) (by omega) (by omega) fun _ => ?_
    | refine Tr.lookup (by (repeat (first | exact Has.here | apply Has.next)); done) ?_
    | refine Tr.mapUpdate (by (repeat (first | exact UpdA.here | apply UpdA.next)); done) ?_
    | refine Tr.lenMap (by (repeat (first | exact Has.here | apply Has.next)); done) ?_
    | refine Tr.makeMap fun _ => ?_
    | refine Tr.index (by (repeat (first | exact Has.here | apply Has.next)); done) (by rfl) (by omega) (by omega) ?_
    | refine Tr.condT (by first | rfl | (simp only [decide_eq_true_eq]; omega)) ?_
    | refine Tr.condF (by first | rfl | (simp only [decide_eq_false_iff_not]; omega)) ?_))
    repeat (first | exact hh | refine Tr.drop ?_)
  · cases e1 : decide (s < 0)
    · have f1 : decide (0 ≤ s) = true := by simp at e1 ⊢; omega
      cases e2 : decide (5 ≤ s)
      · have f2 : decide (s < 5) = true := by simp at e2 ⊢; omega
        cases e3 : decide (s = 2)
        · have f3 : ¬ s = 2 := by simpa using e3
          simp only [Tb.setB, e, f1, f2, e3, Bool.true_and, Bool.not_false, if_true] at hh
          (repeat (first
    | simp only [WKb, ↓reduceIte, Nat.reduceEqDiff, Nat.reduceAdd, Nat.reduceSub, pl26, e, e1, e2, e3]
    | refine Tr.load1 (by (repeat (first | exact Cell.blk rfl | exact Cell.rob rfl | exact Cell.sl0 (by (repeat (first | exact Has.here | apply Has.next)); done) (by assumption) rfl | exact Cell.slj (by (repeat (first | exact Has.here | apply Has.next)); done) (by assumption) rfl | apply Cell.next))) ?_
    | refine Tr.loadN (by (repeat (first | exact CellsAt.blk0 rfl | exact CellsAt.blk rfl rfl | exact CellsAt.rob0 rfl | exact CellsAt.rob rfl rfl | exact CellsAt.sl0 (by (repeat (first | exact Has.here | apply Has.next)); done) (by assumption) rfl | exact CellsAt.slj (by (repeat (first | exact Has.here | apply Has.next)); done) (by assumption) rfl rfl | apply CellsAt.next))) ?_
    | refine Tr.box rfl fun _ => ?_
    | refine Tr.alloc rfl fun _ => ?_
    | refine Tr.build rfl ?_
    | refine Tr.drewK ?_
    | refine Tr.eqR rfl ?_
    | refine Tr.storeW rfl rfl rfl (by (repeat (first | exact Upd.here | apply Upd.next)); done) (by rfl) ?_
    | refine Tr.store rfl rfl rfl (by (repeat (first | exact Upd.here | apply Upd.next)); done) (by first | exact Nat.le_of_ble_eq_true rfl | (simp only [WKl, setL_length, En.len]; omega)) ?_
    | refine Tr.len (by (repeat (first | exact Has.here | apply Has.next)); done) ?_
    | refine Tr.cutTo (by (repeat (first | exact Has.here | apply Has.next)); done) (by rfl) (by omega) (by omega) fun _ => ?_
    | refine Tr.lookup (by (repeat (first | exact Has.here | apply Has.next)); done) ?_
    | refine Tr.mapUpdate (by (repeat (first | exact UpdA.here | apply UpdA.next)); done) ?_
    | refine Tr.lenMap (by (repeat (first | exact Has.here | apply Has.next)); done) ?_
    | refine Tr.makeMap fun _ => ?_
    | refine Tr.index (by (repeat (first | exact Has.here | apply Has.next)); done) (by rfl) (by omega) (by omega) ?_
    | refine Tr.condT (by first | rfl | (simp only [decide_eq_true_eq]; omega)) ?_
    | refine Tr.condF (by first | rfl | (simp only [decide_eq_false_iff_not]; omega)) ?_))
          refine Tr.call (put_ok a t k (t.at k) s (has_spec e).1 (has_spec e).2) [1] rfl ?_
          rintro v l' ⟨rfl, rfl⟩
          (repeat (first
    | simp only [WKb, ↓reduceIte, Nat.reduceEqDiff, Nat.reduceAdd, Nat.reduceSub, pl26]
    | refine Tr.load1 (by (repeat (first | exact Cell.blk rfl | exact Cell.rob rfl | exact Cell.sl0 (by (repeat (first | exact Has.here | apply Has.next)); done) (by assumption) rfl | exact Cell.slj (by (repeat (first | exact Has.here | apply Has.next)); done) (by assumption) rfl | apply Cell.next))) ?_
    | refine Tr.loadN (by (repeat (first | exact CellsAt.blk0 rfl | exact CellsAt.blk rfl rfl | exact CellsAt.rob0 rfl | exact CellsAt.rob rfl rfl | exact CellsAt.sl0 (by (repeat (first | exact Has.here | apply Has.next)); done) (by assumption) rfl | exact CellsAt.slj (by (repeat (first | exact Has.here | apply Has.next)); done) (by assumption) rfl rfl | apply CellsAt.next))) ?_
    | refine Tr.box rfl fun _ => ?_
    | refine Tr.alloc rfl fun _ => ?_
    | refine Tr.build rfl ?_
    | refine Tr.drewK ?_
    | refine Tr.eqR rfl ?_
    | refine Tr.storeW rfl rfl rfl (by (repeat (first | exact Upd.here | apply Upd.next)); done) (by rfl) ?_
    | refine Tr.store rfl rfl rfl (by (repeat (first | exact Upd.here | apply Upd.next)); done) (by first | exact Nat.le_of_ble_eq_true rfl | (simp only [WKl, setL_length, En.len]; omega)) ?_
    | refine Tr.len (by (repeat (first | exact Has.here | apply Has.next)); done) ?_
    | refine Tr.cutTo (by (repeat (first | exact Has.here | apply Has.next)); done) (by rfl) (by omega) (by omega) fun _ => ?_
    | refine Tr.lookup (by (repeat (first | exact Has.here | apply Has.next)); done) ?_
    | refine Tr.mapUpdate (by (repeat (first | exact UpdA.here | apply UpdA.next)); done) ?_
    | refine Tr.lenMap (by (repeat (first | exact Has.here | apply Has.next)); done) ?_
    | refine Tr.makeMap fun _ => ?_
    | refine Tr.index (by (repeat (first | exact Has.here | apply Has.next)); done) (by rfl) (by omega) (by omega) ?_
    | refine Tr.condT (by first | rfl | (simp only [decide_eq_true_eq]; omega)) ?_
    | refine Tr.condF (by first | rfl | (simp only [decide_eq_false_iff_not]; omega)) ?_))
          refine Tr.perm (List.Perm.swap _ _ _) ?_
          refine Tr.drop ?_
          exact hh
        · simp only [Tb.setB, e, f1, f2, e3, Bool.true_and, Bool.not_true, Bool.false_eq_true, if_false] at hh
          (repeat (first
    | simp only [WKb, ↓reduceIte, Nat.reduceEqDiff, Nat.reduceAdd, Nat.reduceSub, pl26, e, e1, e2, e3]
    | refine Tr.load1 (by (repeat (first | exact Cell.blk rfl | exact Cell.rob rfl | exact Cell.sl0 (by (repeat (first | exact Has.here | apply Has.next)); done) (by assumption) rfl | exact Cell.slj (by (repeat (first | exact Has.here | apply Has.next)); done) (by assumption) rfl | apply Cell.next))) ?_
    | refine Tr.loadN (by (repeat (first | exact CellsAt.blk0 rfl | exact CellsAt.blk rfl rfl | exact CellsAt.rob0 rfl | exact CellsAt.rob rfl rfl | exact CellsAt.sl0 (by (repeat (first | exact Has.here | apply Has.next)); done) (by assumption) rfl | exact CellsAt.slj (by (repeat (first | exact Has.here | apply Has.next)); done) (by assumption) rfl rfl | apply CellsAt.next))) ?_
    | refine Tr.box rfl fun _ => ?_
    | refine Tr.alloc rfl fun _ => ?_
    | refine Tr.build rfl ?_
    | refine Tr.drewK ?_
    | refine Tr.eqR rfl ?_
    | refine Tr.storeW rfl rfl rfl (by (repeat (first | exact Upd.here | apply Upd.next)); done) (by rfl) ?_
    | refine Tr.store rfl rfl rfl (by (repeat (first | exact Upd.here | apply Upd.next)); done) (by first | exact Nat.le_of_ble_eq_true rfl | (simp only [WKl, setL_length, En.len]; omega)) ?_
    | refine Tr.len (by (repeat (first | exact Has.here | apply Has.next)); done) ?_
    | refine Tr.cutTo (by (repeat (first | exact Has.here | apply Has.next)); done) (by rfl) (by omega) (by omega) fun _ => ?_
    | refine Tr.lookup (by (repeat (first | exact Has.here | apply Has.next)); done) ?_
    | refine Tr.mapUpdate (by (repeat (first | exact UpdA.here | apply UpdA.next)); done) ?_
    | refine Tr.lenMap (by (repeat (first | exact Has.here | apply Has.next)); done) ?_
    | refine Tr.makeMap fun _ => ?_
    | refine Tr.index (by (repeat (first | exact Has.here | apply Has.next)); done) (by rfl) (by omega) (by omega) ?_
    | refine Tr.condT (by first | rfl | (simp only [decide_eq_true_eq]; omega)) ?_
    | refine Tr.condF (by first | rfl | (simp only [decide_eq_false_iff_not]; omega)) ?_))
          repeat (first | exact hh | refine Tr.drop ?_)
      · have f2 : decide (s < 5) = false := by simp at e2 ⊢; omega
        simp only [Tb.setB, e, f1, f2, Bool.true_and, Bool.false_and, Bool.false_eq_true, if_false] at hh
        (repeat (first
    | simp only [WKb, ↓reduceIte, Nat.reduceEqDiff, Nat.reduceAdd, Nat.reduceSub, pl26, e, e1, e2]
    | refine Tr.load1 (by (repeat (first | exact Cell.blk rfl | exact Cell.rob rfl | exact Cell.sl0 (by (repeat (first | exact Has.here | apply Has.next)); done) (by assumption) rfl | exact Cell.slj (by (repeat (first | exact Has.here | apply Has.next)); done) (by assumption) rfl | apply Cell.next))) ?_
    | refine Tr.loadN (by (repeat (first | exact CellsAt.blk0 rfl | exact CellsAt.blk rfl rfl | exact CellsAt.rob0 rfl | exact CellsAt.rob rfl rfl | exact CellsAt.sl0 (by (repeat (first | exact Has.here | apply Has.next)); done) (by assumption) rfl | exact CellsAt.slj (by (repeat (first | exact Has.here | apply Has.next)); done) (by assumption) rfl rfl | apply CellsAt.next))) ?_
    | refine Tr.box rfl fun _ => ?_
    | refine Tr.alloc rfl fun _ => ?_
    | refine Tr.build rfl ?_
    | refine Tr.drewK ?_
    | refine Tr.eqR rfl ?_
    | refine Tr.storeW rfl rfl rfl (by (repeat (first | exact Upd.here | apply Upd.next)); done) (by rfl) ?_
    | refine Tr.store rfl rfl rfl (by (repeat (first | exact Upd.here | apply Upd.next)); done) (by first | exact Nat.le_of_ble_eq_true rfl | (simp only [WKl, setL_length, En.len]; omega)) ?_
    | refine Tr.len (by (repeat (first | exact Has.here | apply Has.next)); done) ?_
    | refine Tr.cutTo (by (repeat (first | exact Has.here | apply Has.next)); done) (by rfl) (by omega) (by omega) fun _ => ?_
    | refine Tr.lookup (by (repeat (first | exact Has.here | apply Has.next)); done) ?_
    | refine Tr.mapUpdate (by (repeat (first | exact UpdA.here | apply UpdA.next)); done) ?_
    | refine Tr.lenMap (by (repeat (first | exact Has.here | apply Has.next)); done) ?_
    | refine Tr.makeMap fun _ => ?_
    | refine Tr.index (by (repeat (first | exact Has.here | apply Has.next)); done) (by rfl) (by omega) (by omega) ?_
    | refine Tr.condT (by first | rfl | (simp only [decide_eq_true_eq]; omega)) ?_
    | refine Tr.condF (by first | rfl | (simp only [decide_eq_false_iff_not]; omega)) ?_))
        repeat (first | exact hh | refine Tr.drop ?_)
    · have f1 : decide (0 ≤ s) = false := by simp at e1 ⊢; omega
      simp only [Tb.setB, e, f1, Bool.true_and, Bool.false_and, Bool.false_eq_true, if_false] at hh
      (repeat (first
    | simp only [WKb, ↓reduceIte, Nat.reduceEqDiff, Nat.reduceAdd, Nat.reduceSub, pl26, e, e1]
    | refine Tr.load1 (by (repeat (first | exact Cell.blk rfl | exact Cell.rob rfl | exact Cell.sl0 (by (repeat (first | exact Has.here | apply Has.next)); done) (by assumption) rfl | exact Cell.slj (by (repeat (first | exact Has.here | apply Has.next)); done) (by assumption) rfl | apply Cell.next))) ?_
    | refine Tr.loadN (by (repeat (first | exact CellsAt.blk0 rfl | exact CellsAt.blk rfl rfl | exact CellsAt.rob0 rfl | exact CellsAt.rob rfl rfl | exact CellsAt.sl0 (by (repeat (first | exact Has.here | apply Has.next)); done) (by assumption) rfl | exact CellsAt.slj (by (repeat (first | exact Has.here | apply Has.next)); done) (by assumption) rfl rfl | apply CellsAt.next))) ?_
    | refine Tr.box rfl fun _ => ?_
    | refine Tr.alloc rfl fun _ => ?_
    | refine Tr.build rfl ?_
    | refine Tr.drewK ?_
    | refine Tr.eqR rfl ?_
    | refine Tr.storeW rfl rfl rfl (by (repeat (first | exact Upd.here | apply Upd.next)); done) (by rfl) ?_
    | refine Tr.store rfl rfl rfl (by (repeat (first | exact Upd.here | apply Upd.next)); done) (by first | exact Nat.le_of_ble_eq_true rfl | (simp only [WKl, setL_length, En.len]; omega)) ?_
    | refine Tr.len (by (repeat (first | exact Has.here | apply Has.next)); done) ?_
    | refine Tr.cutTo (by (repeat (first | exact Has.here | apply Has.next)); done) (by rfl) (by omega) (by omega) fun _ => ?_
    | refine Tr.lookup (by (repeat (first | exact Has.here | apply Has.next)); done) ?_
    | refine Tr.mapUpdate (by (repeat (first | exact UpdA.here | apply UpdA.next)); done) ?_
    | refine Tr.lenMap (by (repeat (first | exact Has.here | apply Has.next)); done) ?_
    | refine Tr.makeMap fun _ => ?_
    | refine Tr.index (by (repeat (first | exact Has.here | apply Has.next)); done) (by rfl) (by omega) (by omega) ?_
    | refine Tr.condT (by first | rfl | (simp only [decide_eq_true_eq]; omega)) ?_
    | refine Tr.condF (by first | rfl | (simp only [decide_eq_false_iff_not]; omega)) ?_))
      repeat (first | exact hh | refine Tr.drop ?_)
def Tb.wait (t : Tb) (k c wh wk : Int) : Tb := if t.has k then t.put k { t.at k with call := c, what := wh, wake := wk } 2 else t
theorem wait_ok (a : Nat) (t : Tb) (k c wh wk : Int) : Trip Try.prog 40 [.pointer (some ⟨a, 0, none⟩), .int .i64 k, .int .i64 c, .int .i64 wh, .int .i64 wk].toArray [tabA a t] fun v l' => v = .bool (t.has k) ∧ l' = [tabA a (t.wait k c wh wk)] := by
  intro F K hK
  have hh := hK _ _ ⟨rfl, rfl⟩
  clear hK
  refine Tr.enter (rs := [.tmp 10]) mixed fn40 rfl (by simp +arith [Try.ntmps40]) fun u => ?_
  simp only [cd40, Try.f40]
  (repeat (first
    | simp only [WKb, ↓reduceIte, Nat.reduceEqDiff, Nat.reduceAdd, Nat.reduceSub, pl40]
    | refine Tr.load1 (by (repeat (first | exact Cell.blk rfl | exact Cell.rob rfl | exact Cell.sl0 (by (repeat (first | exact Has.here | apply Has.next)); done) (by assumption) rfl | exact Cell.slj (by (repeat (first | exact Has.here | apply Has.next)); done) (by assumption) rfl | apply Cell.next))) ?_
    | refine Tr.loadN (by (repeat (first | exact CellsAt.blk0 rfl | exact CellsAt.blk rfl rfl | exact CellsAt.rob0 rfl | exact CellsAt.rob rfl rfl | exact CellsAt.sl0 (by (repeat (first | exact Has.here | apply Has.next)); done) (by assumption) rfl | exact CellsAt.slj (by (repeat (first | exact Has.here | apply Has.next)); done) (by assumption) rfl rfl | apply CellsAt.next))) ?_
    | refine Tr.box rfl fun _ => ?_
    | refine Tr.alloc rfl fun _ => ?_
    | refine Tr.build rfl ?_
    | refine Tr.drewK ?_
    | refine Tr.eqR rfl ?_
    | refine Tr.storeW rfl rfl rfl (by (repeat (first | exact Upd.here | apply Upd.next)); done) (by rfl) ?_
    | refine Tr.store rfl rfl rfl (by (repeat (first | exact Upd.here | apply Upd.next)); done) (by first | exact Nat.le_of_ble_eq_true rfl | (simp only [WKl, setL_length, En.len]; omega)) ?_
    | refine Tr.len (by (repeat (first | exact Has.here | apply Has.next)); done) ?_
    | refine Tr.cutTo (by (repeat (first | exact Has.here | apply Has.next)); done) (by rfl) (by omega) (by omega) fun _ => ?_
    | refine Tr.lookup (by (repeat (first | exact Has.here | apply Has.next)); done) ?_
    | refine Tr.mapUpdate (by (repeat (first | exact UpdA.here | apply UpdA.next)); done) ?_
    | refine Tr.lenMap (by (repeat (first | exact Has.here | apply Has.next)); done) ?_
    | refine Tr.makeMap fun _ => ?_
    | refine Tr.index (by (repeat (first | exact Has.here | apply Has.next)); done) (by rfl) (by omega) (by omega) ?_
    | refine Tr.condT (by first | rfl | (simp only [decide_eq_true_eq]; omega)) ?_
    | refine Tr.condF (by first | rfl | (simp only [decide_eq_false_iff_not]; omega)) ?_))
  refine Tr.call (find_ok a t k) [0] rfl ?_
  rintro v l' ⟨rfl, rfl⟩
  unfold Tb.wait at hh
  cases e : t.has k
  · simp only [e, Bool.false_eq_true, if_false] at hh
    (repeat (first
    | simp only [WKb, ↓reduceIte, Nat.reduceEqDiff, Nat.reduceAdd, Nat.reduceSub, pl40, e]
    | refine Tr.load1 (by (repeat (first | exact Cell.blk rfl | exact Cell.rob rfl | exact Cell.sl0 (by (repeat (first | exact Has.here | apply Has.next)); done) (by assumption) rfl | exact Cell.slj (by (repeat (first | exact Has.here | apply Has.next)); done) (by assumption) rfl | apply Cell.next))) ?_
    | refine Tr.loadN (by (repeat (first | exact CellsAt.blk0 rfl | exact CellsAt.blk rfl rfl | exact CellsAt.rob0 rfl | exact CellsAt.rob rfl rfl | exact CellsAt.sl0 (by (repeat (first | exact Has.here | apply Has.next)); done) (by assumption) rfl | exact CellsAt.slj (by (repeat (first | exact Has.here | apply Has.next)); done) (by assumption) rfl rfl | apply CellsAt.next))) ?_
    | refine Tr.box rfl fun _ => ?_
    | refine Tr.alloc rfl fun _ => ?_
    | refine Tr.build rfl ?_
    | refine Tr.drewK ?_
    | refine Tr.eqR rfl ?_
    | refine Tr.storeW rfl rfl rfl (by (repeat (first | exact Upd.here | apply Upd.next)); done) (by rfl) ?_
    | refine Tr.store rfl rfl rfl (by (repeat (first | exact Upd.here | apply Upd.next)); done) (by first | exact Nat.le_of_ble_eq_true rfl | (simp only [WKl, setL_length, En.len]; omega)) ?_
    | refine Tr.len (by (repeat (first | exact Has.here | apply Has.next)); done) ?_
    | refine Tr.cutTo (by (repeat (first | exact Has.here | apply Has.next)); done) (by rfl) (by omega) (by omega) fun _ => ?_
    | refine Tr.lookup (by (repeat (first | exact Has.here | apply Has.next)); done) ?_
    | refine Tr.mapUpdate (by (repeat (first | exact UpdA.here | apply UpdA.next)); done) ?_
    | refine Tr.lenMap (by (repeat (first | exact Has.here | apply Has.next)); done) ?_
    | refine Tr.makeMap fun _ => ?_
    | refine Tr.index (by (repeat (first | exact Has.here | apply Has.next)); done) (by rfl) (by omega) (by omega) ?_
    | refine Tr.condT (by first | rfl | (simp only [decide_eq_true_eq]; omega)) ?_
    | refine Tr.condF (by first | rfl | (simp only [decide_eq_false_iff_not]; omega)) ?_))
    repeat (first | exact hh | refine Tr.drop ?_)
  · simp only [e, if_true] at hh
    (repeat (first
    | simp only [WKb, ↓reduceIte, Nat.reduceEqDiff, Nat.reduceAdd, Nat.reduceSub, pl40, e]
    | refine Tr.load1 (by (repeat (first | exact Cell.blk rfl | exact Cell.rob rfl | exact Cell.sl0 (by (repeat (first | exact Has.here | apply Has.next)); done) (by assumption) rfl | exact Cell.slj (by (repeat (first | exact Has.here | apply Has.next)); done) (by assumption) rfl | apply Cell.next))) ?_
    | refine Tr.loadN (by (repeat (first | exact CellsAt.blk0 rfl | exact CellsAt.blk rfl rfl | exact CellsAt.rob0 rfl | exact CellsAt.rob rfl rfl | exact CellsAt.sl0 (by (repeat (first | exact Has.here | apply Has.next)); done) (by assumption) rfl | exact CellsAt.slj (by (repeat (first | exact Has.here | apply Has.next)); done) (by assumption) rfl rfl | apply CellsAt.next))) ?_
    | refine Tr.box rfl fun _ => ?_
    | refine Tr.alloc rfl fun _ => ?_
    | refine Tr.build rfl ?_
    | refine Tr.drewK ?_
    | refine Tr.eqR rfl ?_
    | refine Tr.storeW rfl rfl rfl (by (repeat (first | exact Upd.here | apply Upd.next)); done) (by rfl) ?_
    | refine Tr.store rfl rfl rfl (by (repeat (first | exact Upd.here | apply Upd.next)); done) (by first | exact Nat.le_of_ble_eq_true rfl | (simp only [WKl, setL_length, En.len]; omega)) ?_
    | refine Tr.len (by (repeat (first | exact Has.here | apply Has.next)); done) ?_
    | refine Tr.cutTo (by (repeat (first | exact Has.here | apply Has.next)); done) (by rfl) (by omega) (by omega) fun _ => ?_
    | refine Tr.lookup (by (repeat (first | exact Has.here | apply Has.next)); done) ?_
    | refine Tr.mapUpdate (by (repeat (first | exact UpdA.here | apply UpdA.next)); done) ?_
    | refine Tr.lenMap (by (repeat (first | exact Has.here | apply Has.next)); done) ?_
    | refine Tr.makeMap fun _ => ?_
    | refine Tr.index (by (repeat (first | exact Has.here | apply Has.next)); done) (by rfl) (by omega) (by omega) ?_
    | refine Tr.condT (by first | rfl | (simp only [decide_eq_true_eq]; omega)) ?_
    | refine Tr.condF (by first | rfl | (simp only [decide_eq_false_iff_not]; omega)) ?_))
    refine Tr.call (put_ok a t k { t.at k with call := c, what := wh, wake := wk } 2 (has_spec e).1 (has_spec e).2) [1] rfl ?_
    rintro v l' ⟨rfl, rfl⟩
    (repeat (first
    | simp only [WKb, ↓reduceIte, Nat.reduceEqDiff, Nat.reduceAdd, Nat.reduceSub, pl40]
    | refine Tr.load1 (by (repeat (first | exact Cell.blk rfl | exact Cell.rob rfl | exact Cell.sl0 (by (repeat (first | exact Has.here | apply Has.next)); done) (by assumption) rfl | exact Cell.slj (by (repeat (first | exact Has.here | apply Has.next)); done) (by assumption) rfl | apply Cell.next))) ?_
    | refine Tr.loadN (by (repeat (first | exact CellsAt.blk0 rfl | exact CellsAt.blk rfl rfl | exact CellsAt.rob0 rfl | exact CellsAt.rob rfl rfl | exact CellsAt.sl0 (by (repeat (first | exact Has.here | apply Has.next)); done) (by assumption) rfl | exact CellsAt.slj (by (repeat (first | exact Has.here | apply Has.next)); done) (by assumption) rfl rfl | apply CellsAt.next))) ?_
    | refine Tr.box rfl fun _ => ?_
    | refine Tr.alloc rfl fun _ => ?_
    | refine Tr.build rfl ?_
    | refine Tr.drewK ?_
    | refine Tr.eqR rfl ?_
    | refine Tr.storeW rfl rfl rfl (by (repeat (first | exact Upd.here | apply Upd.next)); done) (by rfl) ?_
    | refine Tr.store rfl rfl rfl (by (repeat (first | exact Upd.here | apply Upd.next)); done) (by first | exact Nat.le_of_ble_eq_true rfl | (simp only [WKl, setL_length, En.len]; omega)) ?_
    | refine Tr.len (by (repeat (first | exact Has.here | apply Has.next)); done) ?_
    | refine Tr.cutTo (by (repeat (first | exact Has.here | apply Has.next)); done) (by rfl) (by omega) (by omega) fun _ => ?_
    | refine Tr.lookup (by (repeat (first | exact Has.here | apply Has.next)); done) ?_
    | refine Tr.mapUpdate (by (repeat (first | exact UpdA.here | apply UpdA.next)); done) ?_
    | refine Tr.lenMap (by (repeat (first | exact Has.here | apply Has.next)); done) ?_
    | refine Tr.makeMap fun _ => ?_
    | refine Tr.index (by (repeat (first | exact Has.here | apply Has.next)); done) (by rfl) (by omega) (by omega) ?_
    | refine Tr.condT (by first | rfl | (simp only [decide_eq_true_eq]; omega)) ?_
    | refine Tr.condF (by first | rfl | (simp only [decide_eq_false_iff_not]; omega)) ?_))
    refine Tr.perm (List.Perm.swap _ _ _) ?_
    refine Tr.drop ?_
    exact hh
end Go.Proofs.Ytlmcoiloepoggaa
