import Derived.Test.YtlmcoiloepoggaaQ4
import Derived.Test.YtlmcoiloepoggaaWk8
namespace Go.Proofs.Ytlmcoiloepoggaa
open Go Go.Wk
set_option maxHeartbeats 400000
attribute [local irreducible] GenK EGenK EUnitK CallK FnK CallV GuardO GuardC CondW opX opK opKc chkR eqR seqK blkK endL WL WD W LoopW BinK Tr drewK resL PickK NotK NilK ExtrK getK Instr.storeAt Instr.loadAt Instr.fieldAt Instr.indexAt Instr.lookup Instr.mapUpdate Instr.box Instr.alloc Instr.build Instr.buildSlice Instr.makeSlice Instr.makeMap Instr.sliceAt Instr.field Instr.index Instr.makeInterface Instr.typeAssert Builtin.len_ Builtin.append_ Builtin.cap_ Builtin.min_ Builtin.max_ Builtin.copy_ Builtin.clear_ convert binOp mp blk rob sl sep ex fact old
set_option maxRecDepth 10000
def Tb.startB (t : Tb) (k : Int) : Bool := t.has k && decide ((t.at k).state = 0)
def Tb.start (t : Tb) (k win : Int) : Tb := if t.startB k then t.put k { t.at k with prio := (t.at k).cprio, next := IntKind.i64.wrap (win + (t.at k).period) } 1 else t
theorem start_ok (a : Nat) (t : Tb) (k win : Int) : Trip Try.prog 39 [.pointer (some ⟨a, 0, none⟩), .int .i64 k, .int .i64 win].toArray [tabA a t] fun v l' => v = .bool (t.startB k) ∧ l' = [tabA a (t.start k win)] := by
  intro F K hK
  have hh := hK _ _ ⟨rfl, rfl⟩
  clear hK
  refine Tr.enter (rs := [.tmp 6]) mixed fn39 rfl (by simp +arith [Try.ntmps39]) fun u => ?_
  simp only [cd39, Try.f39]
  (repeat (first
    | simp only [WKb, ↓reduceIte, Nat.reduceEqDiff, Nat.reduceAdd, Nat.reduceSub, pl39]
    | refine Tr.load1 (by (repeat (first | exact Cell.blk rfl | exact Cell.rob rfl | exact Cell.sl0 (by (repeat (first | exact Has.here | apply Has.next)); done) (by assumption) rfl | exact Cell.slj (by (repeat (first | exact Has.here | apply Has.next)); done) (by assumption) rfl | apply Cell.next))) ?_
    | refine Tr.loadN (by (repeat (first | exact CellsAt.blk0 rfl | exact CellsAt.blk rfl rfl | exact CellsAt.rob0 rfl | exact CellsAt.rob rfl rfl | exact CellsAt.sl0 (by (repeat (first | exact Has.here | apply Has.next)); done) (by assumption) rfl | exact CellsAt.slj (by (repeat (first | exact Has.here | apply Has.next)); done) (by assumption) rfl rfl | apply CellsAt.next))) ?_
    | refine Tr.box rfl fun _ => ?_
    | refine Tr.alloc rfl fun _ => ?_
    | refine Tr.build rfl ?_
    | refine Tr.drewK ?_
    | refine Tr.eqR rfl ?_
    | refine Tr.storeW rfl rfl rfl (by (repeat (first | exact Upd.here | apply Upd.next)); done) (by rfl) ?_
    | refine Tr.store rfl rfl rfl (by (repeat (first | exact Upd.here | apply Upd.next)); done) (by first | exact Nat.le_of_ble_eq_true rfl | (simp only [WKl, setL_length, En.len]; omega)) ?_
    | refine Tr.len (by (repeat (first | exact Has.here | apply Has.next)); done) ?_
    | refine Tr.cutTo (by (repeat (first | exact Has.here | apply Has.next)); done) (by rfl) (by omega) (by omega) fun _ => ?_
    | refine Tr.lookup (by (repeat (first | exact Has.here | apply Has.next)); done) ?_
    | refine Tr.mapUpdate (by (repeat (first | exact UpdA.here | apply UpdA.next)); done) ?_
    | refine Tr.lenMap (by (repeat (first | exact Has.here | apply Has.next)); done) ?_
    | refine Tr.makeMap fun _ => ?_
    | refine Tr.index (by (repeat (first | exact Has.here | apply Has.next)); done) (by rfl) (by omega) (by omega) ?_
    | refine Tr.condT (by first | rfl | (simp only [decide_eq_true_eq]; omega)) ?_
    | refine Tr.condF (by first | rfl | (simp only [decide_eq_false_iff_not]; omega)) ?_))
  refine Tr.call (find_ok a t k) [0] rfl ?_
  rintro v l' ⟨rfl, rfl⟩
  unfold Tb.start at hh
  cases e : t.has k
  · simp only [Tb.startB, e, Bool.false_and, Bool.false_eq_true, if_false] at hh
    (repeat (first
    | simp only [WKb, ↓reduceIte, Nat.reduceEqDiff, Nat.reduceAdd, Nat.reduceSub, pl39, e]
    | refine Tr.load1 (by (repeat (first | exact Cell.blk rfl | exact Cell.rob rfl | exact Cell.sl0 (by (repeat (first | exact Has.here | apply Has.next)); done) (by assumption) rfl | exact Cell.slj (by (repeat (first | exact Has.here | apply Has.next)); done) (by assumption) rfl | apply Cell.next))) ?_
    | refine Tr.loadN (by (repeat (first | exact CellsAt.blk0 rfl | exact CellsAt.blk rfl rfl | exact CellsAt.rob0 rfl | exact CellsAt.rob rfl rfl | exact CellsAt.sl0 (by (repeat (first | exact Has.here | apply Has.next)); done) (by assumption) rfl | exact CellsAt.slj (by (repeat (first | exact Has.here | apply Has.next)); done) (by assumption) rfl rfl | apply CellsAt.next))) ?_
    | refine Tr.box rfl fun _ => ?_
    | refine Tr.alloc rfl fun _ => ?_
    | refine Tr.build rfl ?_
    | refine Tr.drewK ?_
    | refine Tr.eqR rfl ?_
    | refine Tr.storeW rfl rfl rfl (by (repeat (first | exact Upd.here | apply Upd.next)); done) (by rfl) ?_
    | refine Tr.store rfl rfl rfl (by (repeat (first | exact Upd.here | apply Upd.next)); done) (by first | exact Nat.le_of_ble_eq_true rfl | (simp only [WKl, setL_length, En.len]; omega)) ?_
    | refine Tr.len (by (repeat (first | exact Has.here | apply Has.next)); done) ?_
    | refine Tr.cutTo (by (repeat (first | exact Has.here | apply Has.next)); done) (by rfl) (by omega) (by omega) fun _ => ?_
    | refine Tr.lookup (by (repeat (first | exact Has.here | apply Has.next)); done) ?_
    | refine Tr.mapUpdate (by (repeat (first | exact UpdA.here | apply UpdA.next)); done) ?_
    | refine Tr.lenMap (by (repeat (first | exact Has.here | apply Has.next)); done) ?_
    | refine Tr.makeMap fun _ => ?_
    | refine Tr.index (by (repeat (first | exact Has.here | apply Has.next)); done) (by rfl) (by omega) (by omega) ?_
    | refine Tr.condT (by first | rfl | (simp only [decide_eq_true_eq]; omega)) ?_
    | refine Tr.condF (by first | rfl | (simp only [decide_eq_false_iff_not]; omega)) ?_))
    repeat (first | exact hh | refine Tr.drop ?_)
  · cases e1 : decide ((t.at k).state = 0)
    · simp only [Tb.startB, e, e1, Bool.true_and, Bool.false_eq_true, if_false] at hh
      (repeat (first
    | simp only [WKb, ↓reduceIte, Nat.reduceEqDiff, Nat.reduceAdd, Nat.reduceSub, pl39, e, e1]
    | refine Tr.load1 (by (repeat (first | exact Cell.blk rfl | exact Cell.rob rfl | exact Cell.sl0 (by (repeat (first | exact Has.here | apply Has.next)); done) (by assumption) rfl | exact Cell.slj (by (repeat (first | exact Has.here | apply Has.next)); done) (by assumption) rfl | apply Cell.next))) ?_
    | refine Tr.loadN (by (repeat (first | exact CellsAt.blk0 rfl | exact CellsAt.blk rfl rfl | exact CellsAt.rob0 rfl | exact CellsAt.rob rfl rfl | exact CellsAt.sl0 (by (repeat (first | exact Has.here | apply Has.next)); done) (by assumption) rfl | exact CellsAt.slj (by (repeat (first | exact Has.here | apply Has.next)); done) (by assumption) rfl rfl | apply CellsAt.next))) ?_
    | refine Tr.box rfl fun _ => ?_
    | refine Tr.alloc rfl fun _ => ?_
    | refine Tr.build rfl ?_
    | refine Tr.drewK ?_
    | refine Tr.eqR rfl ?_
    | refine Tr.storeW rfl rfl rfl (by (repeat (first | exact Upd.here | apply Upd.next)); done) (by rfl) ?_
    | refine Tr.store rfl rfl rfl (by (repeat (first | exact Upd.here | apply Upd.next)); done) (by first | exact Nat.le_of_ble_eq_true rfl | (simp only [WKl, setL_length, En.len]; omega)) ?_
    | refine Tr.len (by (repeat (first | exact Has.here | apply Has.next)); done) ?_
    | refine Tr.cutTo (by (repeat (first | exact Has.here | apply Has.next)); done) (by rfl) (by omega) (by omega) fun _ => ?_
    | refine Tr.lookup (by (repeat (first | exact Has.here | apply Has.next)); done) ?_
    | refine Tr.mapUpdate (by (repeat (first | exact UpdA.here | apply UpdA.next)); done) ?_
    | refine Tr.lenMap (by (repeat (first | exact Has.here | apply Has.next)); done) ?_
    | refine Tr.makeMap fun _ => ?_
    | refine Tr.index (by (repeat (first | exact Has.here | apply Has.next)); done) (by rfl) (by omega) (by omega) ?_
    | refine Tr.condT (by first | rfl | (simp only [decide_eq_true_eq]; omega)) ?_
    | refine Tr.condF (by first | rfl | (simp only [decide_eq_false_iff_not]; omega)) ?_))
      repeat (first | exact hh | refine Tr.drop ?_)
    · simp only [Tb.startB, e, e1, Bool.true_and, if_true] at hh
      (repeat (first
    | simp only [WKb, ↓reduceIte, Nat.reduceEqDiff, Nat.reduceAdd, Nat.reduceSub, pl39, e, e1]
    | refine Tr.load1 (by (repeat (first | exact Cell.blk rfl | exact Cell.rob rfl | exact Cell.sl0 (by (repeat (first | exact Has.here | apply Has.next)); done) (by assumption) rfl | exact Cell.slj (by (repeat (first | exact Has.here | apply Has.next)); done) (by assumption) rfl | apply Cell.next))) ?_
    | refine Tr.loadN (by (repeat (first | exact CellsAt.blk0 rfl | exact CellsAt.blk rfl rfl | exact CellsAt.rob0 rfl | exact CellsAt.rob rfl rfl | exact CellsAt.sl0 (by (repeat (first | exact Has.here | apply Has.next)); done) (by assumption) rfl | exact CellsAt.slj (by (repeat (first | exact Has.here | apply Has.next)); done) (by assumption) rfl rfl | apply CellsAt.next))) ?_
    | refine Tr.box rfl fun _ => ?_
    | refine Tr.alloc rfl fun _ => ?_
    | refine Tr.build rfl ?_
    | refine Tr.drewK ?_
    | refine Tr.eqR rfl ?_
    | refine Tr.storeW rfl rfl rfl (by (repeat (first | exact Upd.here | apply Upd.next)); done) (by rfl) ?_
    | refine Tr.store rfl rfl rfl (by (repeat (first | exact Upd.here | apply Upd.next)); done) (by first | exact Nat.le_of_ble_eq_true rfl | (simp only [WKl, setL_length, En.len]; omega)) ?_
    | refine Tr.len (by (repeat (first | exact Has.here | apply Has.next)); done) ?_
    | refine Tr.cutTo (by (repeat (first | exact Has.here | apply Has.next)); done) (by rfl) (by omega) (by omega) fun _ => ?_
    | refine Tr.lookup (by (repeat (first | exact Has.here | apply Has.next)); done) ?_
    | refine Tr.mapUpdate (by (repeat (first | exact UpdA.here | apply UpdA.next)); done) ?_
    | refine Tr.lenMap (by (repeat (first | exact Has.here | apply Has.next)); done) ?_
    | refine Tr.makeMap fun _ => ?_
    | refine Tr.index (by (repeat (first | exact Has.here | apply Has.next)); done) (by rfl) (by omega) (by omega) ?_
    | refine Tr.condT (by first | rfl | (simp only [decide_eq_true_eq]; omega)) ?_
    | refine Tr.condF (by first | rfl | (simp only [decide_eq_false_iff_not]; omega)) ?_))
      refine Tr.call (put_ok a t k { t.at k with prio := (t.at k).cprio, next := IntKind.i64.wrap (win + (t.at k).period) } 1 (has_spec e).1 (has_spec e).2) [1] rfl ?_
      rintro v l' ⟨rfl, rfl⟩
      (repeat (first
    | simp only [WKb, ↓reduceIte, Nat.reduceEqDiff, Nat.reduceAdd, Nat.reduceSub, pl39]
    | refine Tr.load1 (by (repeat (first | exact Cell.blk rfl | exact Cell.rob rfl | exact Cell.sl0 (by (repeat (first | exact Has.here | apply Has.next)); done) (by assumption) rfl | exact Cell.slj (by (repeat (first | exact Has.here | apply Has.next)); done) (by assumption) rfl | apply Cell.next))) ?_
    | refine Tr.loadN (by (repeat (first | exact CellsAt.blk0 rfl | exact CellsAt.blk rfl rfl | exact CellsAt.rob0 rfl | exact CellsAt.rob rfl rfl | exact CellsAt.sl0 (by (repeat (first | exact Has.here | apply Has.next)); done) (by assumption) rfl | exact CellsAt.slj (by (repeat (first | exact Has.here | apply Has.next)); done) (by assumption) rfl rfl | apply CellsAt.next))) ?_
    | refine Tr.box rfl fun _ => ?_
    | refine Tr.alloc rfl fun _ => ?_
    | refine Tr.build rfl ?_
    | refine Tr.drewK ?_
    | refine Tr.eqR rfl ?_
    | refine Tr.storeW rfl rfl rfl (by (repeat (first | exact Upd.here | apply Upd.next)); done) (by rfl) ?_
    | refine Tr.store rfl rfl rfl (by (repeat (first | exact Upd.here | apply Upd.next)); done) (by first | exact Nat.le_of_ble_eq_true rfl | (simp only [WKl, setL_length, En.len]; omega)) ?_
    | refine Tr.len (by (repeat (first | exact Has.here | apply Has.next)); done) ?_
    | refine Tr.cutTo (by (repeat (first | exact Has.here | apply Has.next)); done) (by rfl) (by omega) (by omega) fun _ => ?_
    | refine Tr.lookup (by (repeat (first | exact Has.here | apply Has.next)); done) ?_
    | refine Tr.mapUpdate (by (repeat (first | exact UpdA.here | apply UpdA.next)); done) ?_
    | refine Tr.lenMap (by (repeat (first | exact Has.here | apply Has.next)); done) ?_
    | refine Tr.makeMap fun _ => ?_
    | refine Tr.index (by (repeat (first | exact Has.here | apply Has.next)); done) (by rfl) (by omega) (by omega) ?_
    | refine Tr.condT (by first | rfl | (simp only [decide_eq_true_eq]; omega)) ?_
    | refine Tr.condF (by first | rfl | (simp only [decide_eq_false_iff_not]; omega)) ?_))
      refine Tr.perm (List.Perm.swap _ _ _) ?_
      refine Tr.drop ?_
      exact hh
def One.due (win : Int) (d : One) : Bool := decide (d.state = 2) && decide (0 ≤ d.wake) && decide (d.wake ≤ win)
def Tb.dueTo (t : Tb) (win : Int) : Nat → List Int
  | 0 => []
  | k + 1 => t.dueTo win k ++ if (t.at k).due win then [(k : Int)] else []
theorem due_ok (a : Nat) (t : Tb) (win : Int) (hn : t.d.length ≤ 1000000) : Trip Try.prog 38 [.pointer (some ⟨a, 0, none⟩), .int .i64 win].toArray [tabA a t] fun v l' => ∃ s : SV, v = s.v ∧ l' = [sl false s.v (t.dueTo win t.d.length), tabA a t] := by
  intro F K hK
  have hh := fun s : SV => hK _ _ ⟨s, rfl, rfl⟩
  clear hK
  refine Tr.enter (rs := [.tmp 4]) mixed fn38 rfl (by simp +arith [Try.ntmps38]) fun u => ?_
  simp only [cd38, Try.f38]
  (repeat (first
    | simp only [WKb, ↓reduceIte, Nat.reduceEqDiff, Nat.reduceAdd, Nat.reduceSub, pl38]
    | refine Tr.load1 (by (repeat (first | exact Cell.blk rfl | exact Cell.rob rfl | exact Cell.sl0 (by (repeat (first | exact Has.here | apply Has.next)); done) (by assumption) rfl | exact Cell.slj (by (repeat (first | exact Has.here | apply Has.next)); done) (by assumption) rfl | apply Cell.next))) ?_
    | refine Tr.loadN (by (repeat (first | exact CellsAt.blk0 rfl | exact CellsAt.blk rfl rfl | exact CellsAt.rob0 rfl | exact CellsAt.rob rfl rfl | exact CellsAt.sl0 (by (repeat (first | exact Has.here | apply Has.next)); done) (by assumption) rfl | exact CellsAt.slj (by (repeat (first | exact Has.here | apply Has.next)); done) (by assumption) rfl rfl | apply CellsAt.next))) ?_
    | refine Tr.box rfl fun _ => ?_
    | refine Tr.alloc rfl fun _ => ?_
    | refine Tr.build rfl ?_
    | refine Tr.drewK ?_
    | refine Tr.eqR rfl ?_
    | refine Tr.storeW rfl rfl rfl (by (repeat (first | exact Upd.here | apply Upd.next)); done) (by rfl) ?_
    | refine Tr.store rfl rfl rfl (by (repeat (first | exact Upd.here | apply Upd.next)); done) (by first | exact Nat.le_of_ble_eq_true rfl | (simp only [WKl, setL_length, En.len]; omega)) ?_
    | refine Tr.len (by (repeat (first | exact Has.here | apply Has.next)); done) ?_
    | refine Tr.cutTo (by (repeat (first | exact Has.here | apply Has.next)); done) (by rfl) (by omega) (by omega) fun _ => ?_
    | refine Tr.lookup (by (repeat (first | exact Has.here | apply Has.next)); done) ?_
    | refine Tr.mapUpdate (by (repeat (first | exact UpdA.here | apply UpdA.next)); done) ?_
    | refine Tr.lenMap (by (repeat (first | exact Has.here | apply Has.next)); done) ?_
    | refine Tr.makeMap fun _ => ?_
    | refine Tr.index (by (repeat (first | exact Has.here | apply Has.next)); done) (by rfl) (by omega) (by omega) ?_
    | refine Tr.condT (by first | rfl | (simp only [decide_eq_true_eq]; omega)) ?_
    | refine Tr.condF (by first | rfl | (simp only [decide_eq_false_iff_not]; omega)) ?_))
  refine Tr.call (len_ok a t) [0] rfl ?_
  rintro v l' ⟨rfl, rfl⟩
  (repeat (first
    | simp only [WKb, ↓reduceIte, Nat.reduceEqDiff, Nat.reduceAdd, Nat.reduceSub, pl38]
    | refine Tr.load1 (by (repeat (first | exact Cell.blk rfl | exact Cell.rob rfl | exact Cell.sl0 (by (repeat (first | exact Has.here | apply Has.next)); done) (by assumption) rfl | exact Cell.slj (by (repeat (first | exact Has.here | apply Has.next)); done) (by assumption) rfl | apply Cell.next))) ?_
    | refine Tr.loadN (by (repeat (first | exact CellsAt.blk0 rfl | exact CellsAt.blk rfl rfl | exact CellsAt.rob0 rfl | exact CellsAt.rob rfl rfl | exact CellsAt.sl0 (by (repeat (first | exact Has.here | apply Has.next)); done) (by assumption) rfl | exact CellsAt.slj (by (repeat (first | exact Has.here | apply Has.next)); done) (by assumption) rfl rfl | apply CellsAt.next))) ?_
    | refine Tr.box rfl fun _ => ?_
    | refine Tr.alloc rfl fun _ => ?_
    | refine Tr.build rfl ?_
    | refine Tr.drewK ?_
    | refine Tr.eqR rfl ?_
    | refine Tr.storeW rfl rfl rfl (by (repeat (first | exact Upd.here | apply Upd.next)); done) (by rfl) ?_
    | refine Tr.store rfl rfl rfl (by (repeat (first | exact Upd.here | apply Upd.next)); done) (by first | exact Nat.le_of_ble_eq_true rfl | (simp only [WKl, setL_length, En.len]; omega)) ?_
    | refine Tr.len (by (repeat (first | exact Has.here | apply Has.next)); done) ?_
    | refine Tr.cutTo (by (repeat (first | exact Has.here | apply Has.next)); done) (by rfl) (by omega) (by omega) fun _ => ?_
    | refine Tr.lookup (by (repeat (first | exact Has.here | apply Has.next)); done) ?_
    | refine Tr.mapUpdate (by (repeat (first | exact UpdA.here | apply UpdA.next)); done) ?_
    | refine Tr.lenMap (by (repeat (first | exact Has.here | apply Has.next)); done) ?_
    | refine Tr.makeMap fun _ => ?_
    | refine Tr.index (by (repeat (first | exact Has.here | apply Has.next)); done) (by rfl) (by omega) (by omega) ?_
    | refine Tr.condT (by first | rfl | (simp only [decide_eq_true_eq]; omega)) ?_
    | refine Tr.condF (by first | rfl | (simp only [decide_eq_false_iff_not]; omega)) ?_))
  refine Tr.nilSl (α := Int) ?_
  refine Tr.loop (α := Nat × SV) [5, 10] [0, 1, 9] (fun x => [x.2.v, .int .i64 x.1]) (fun x => [sl false x.2.v (t.dueTo win x.1), tabA a t]) (fun x => x.1 ≤ t.d.length ∧ (t.dueTo win x.1).length ≤ x.1) (fun x => t.d.length - x.1) (F := F) (0, ⟨none, 0, 0⟩) (by simp [Tb.dueTo]) rfl (fun w h => h) fun x u hx => ?_
  obtain ⟨k, s⟩ := x
  obtain ⟨hk, hl⟩ := hx
  simp only at hk hl ⊢
  by_cases hlt : k < t.d.length
  · simp only [List.nil_append, List.cons_append, tabA, Tr.ex_iff, Tr.sep_iff]
    refine Tr.front [1] ?_
    rw [show ∀ A B C, front [1] (A :: B :: C) = B :: A :: C from fun _ _ _ => rfl]
    rw [Tr.ex_iff]; intro m; rw [Tr.sep_iff]
    have hw : IntKind.i64.wrap ((k : Int) + 1) = ((k + 1 : Nat) : Int) := by rw [wrap_id (by omega) (by omega)]; rfl
    (repeat (first
    | simp only [WKb, ↓reduceIte, Nat.reduceEqDiff, Nat.reduceAdd, Nat.reduceSub, pl38, find_tab1, find_tab2]
    | refine Tr.load1 (by (repeat (first | exact Cell.blk rfl | exact Cell.rob rfl | exact Cell.sl0 (by (repeat (first | exact Has.here | apply Has.next)); done) (by assumption) rfl | exact Cell.slj (by (repeat (first | exact Has.here | apply Has.next)); done) (by assumption) rfl | apply Cell.next))) ?_
    | refine Tr.loadN (by (repeat (first | exact CellsAt.blk0 rfl | exact CellsAt.blk rfl rfl | exact CellsAt.rob0 rfl | exact CellsAt.rob rfl rfl | exact CellsAt.sl0 (by (repeat (first | exact Has.here | apply Has.next)); done) (by assumption) rfl | exact CellsAt.slj (by (repeat (first | exact Has.here | apply Has.next)); done) (by assumption) rfl rfl | apply CellsAt.next))) ?_
    | refine Tr.box rfl fun _ => ?_
    | refine Tr.alloc rfl fun _ => ?_
    | refine Tr.build rfl ?_
    | refine Tr.drewK ?_
    | refine Tr.eqR rfl ?_
    | refine Tr.storeW rfl rfl rfl (by (repeat (first | exact Upd.here | apply Upd.next)); done) (by rfl) ?_
    | refine Tr.store rfl rfl rfl (by (repeat (first | exact Upd.here | apply Upd.next)); done) (by first | exact Nat.le_of_ble_eq_true rfl | (simp only [WKl, setL_length, En.len]; omega)) ?_
    | refine Tr.len (by (repeat (first | exact Has.here | apply Has.next)); done) ?_
    | refine Tr.cutTo (by (repeat (first | exact Has.here | apply Has.next)); done) (by rfl) (by omega) (by omega) fun _ => ?_
    | refine Tr.lookup (by (repeat (first | exact Has.here | apply Has.next)); done) ?_
    | refine Tr.mapUpdate (by (repeat (first | exact UpdA.here | apply UpdA.next)); done) ?_
    | refine Tr.lenMap (by (repeat (first | exact Has.here | apply Has.next)); done) ?_
    | refine Tr.makeMap fun _ => ?_
    | refine Tr.index (by (repeat (first | exact Has.here | apply Has.next)); done) (by rfl) (by omega) (by omega) ?_
    | refine Tr.condT (by first | rfl | (simp only [decide_eq_true_eq]; omega)) ?_
    | refine Tr.condF (by first | rfl | (simp only [decide_eq_false_iff_not]; omega)) ?_))
    have fin : ∀ (s' : SV) (ds : List Int), ds = t.dueTo win (k + 1) → ∀ w, Sat w (blk a (.cells [Value.map (some m), Value.int IntKind.i64 t.turns].toArray 71 (0, 0)) :: mp m (kvF 0 t.d) :: sl false s'.v ds :: F) → Sat w ([sl false s'.v (t.dueTo win (k + 1)), tabA a t] ++ F) := by
      intro s' ds hds w hw
      subst hds
      refine Sat.perm (List.Perm.swap _ _ _) ?_
      simp only [tabA, Sat.ex_iff, Sat.sep_iff, List.nil_append]
      exact ⟨m, hw⟩
    have hskip : (t.at k).due win = false → t.dueTo win (k + 1) = t.dueTo win k := fun h => by simp [Tb.dueTo, h]
    have hlen : (t.dueTo win (k + 1)).length ≤ k + 1 := by
      simp only [Tb.dueTo, List.length_append]; split <;> simp <;> omega
    cases e1 : decide ((t.at k).state = 2)
    · have hs := hskip (by simp [One.due, e1])
      (repeat (first
    | simp only [WKb, ↓reduceIte, Nat.reduceEqDiff, Nat.reduceAdd, Nat.reduceSub, pl38, e1]
    | refine Tr.load1 (by (repeat (first | exact Cell.blk rfl | exact Cell.rob rfl | exact Cell.sl0 (by (repeat (first | exact Has.here | apply Has.next)); done) (by assumption) rfl | exact Cell.slj (by (repeat (first | exact Has.here | apply Has.next)); done) (by assumption) rfl | apply Cell.next))) ?_
    | refine Tr.loadN (by (repeat (first | exact CellsAt.blk0 rfl | exact CellsAt.blk rfl rfl | exact CellsAt.rob0 rfl | exact CellsAt.rob rfl rfl | exact CellsAt.sl0 (by (repeat (first | exact Has.here | apply Has.next)); done) (by assumption) rfl | exact CellsAt.slj (by (repeat (first | exact Has.here | apply Has.next)); done) (by assumption) rfl rfl | apply CellsAt.next))) ?_
    | refine Tr.box rfl fun _ => ?_
    | refine Tr.alloc rfl fun _ => ?_
    | refine Tr.build rfl ?_
    | refine Tr.drewK ?_
    | refine Tr.eqR rfl ?_
    | refine Tr.storeW rfl rfl rfl (by (repeat (first | exact Upd.here | apply Upd.next)); done) (by rfl) ?_
    | refine Tr.store rfl rfl rfl (by (repeat (first | exact Upd.here | apply Upd.next)); done) (by first | exact Nat.le_of_ble_eq_true rfl | (simp only [WKl, setL_length, En.len]; omega)) ?_
    | refine Tr.len (by (repeat (first | exact Has.here | apply Has.next)); done) ?_
    | refine Tr.cutTo (by (repeat (first | exact Has.here | apply Has.next)); done) (by rfl) (by omega) (by omega) fun _ => ?_
    | refine Tr.lookup (by (repeat (first | exact Has.here | apply Has.next)); done) ?_
    | refine Tr.mapUpdate (by (repeat (first | exact UpdA.here | apply UpdA.next)); done) ?_
    | refine Tr.lenMap (by (repeat (first | exact Has.here | apply Has.next)); done) ?_
    | refine Tr.makeMap fun _ => ?_
    | refine Tr.index (by (repeat (first | exact Has.here | apply Has.next)); done) (by rfl) (by omega) (by omega) ?_
    | refine Tr.condT (by first | rfl | (simp only [decide_eq_true_eq]; omega)) ?_
    | refine Tr.condF (by first | rfl | (simp only [decide_eq_false_iff_not]; omega)) ?_))
      refine Tr.drop ?_
      refine Tr.again (k + 1, s) (by simp only [WKb, ↓reduceIte, Nat.reduceEqDiff, Nat.reduceAdd, Nat.reduceSub]) (by simp only [WKb, ↓reduceIte, Nat.reduceEqDiff, Nat.reduceAdd, Nat.reduceSub, hw]) ⟨by simp; omega, hlen⟩ (by simp; omega) ?_
      exact Tr.sat_of fun w h => fin s _ hs.symm w h
    · cases e2 : decide (0 ≤ (t.at k).wake)
      · have hs := hskip (by simp [One.due, e1, e2])
        (repeat (first
    | simp only [WKb, ↓reduceIte, Nat.reduceEqDiff, Nat.reduceAdd, Nat.reduceSub, pl38, e1, e2]
    | refine Tr.load1 (by (repeat (first | exact Cell.blk rfl | exact Cell.rob rfl | exact Cell.sl0 (by (repeat (first | exact Has.here | apply Has.next)); done) (by assumption) rfl | exact Cell.slj (by (repeat (first | exact Has.here | apply Has.next)); done) (by assumption) rfl | apply Cell.next))) ?_
    | refine Tr.loadN (by (repeat (first | exact CellsAt.blk0 rfl | exact CellsAt.blk rfl rfl | exact CellsAt.rob0 rfl | exact CellsAt.rob rfl rfl | exact CellsAt.sl0 (by (repeat (first | exact Has.here | apply Has.next)); done) (by assumption) rfl | exact CellsAt.slj (by (repeat (first | exact Has.here | apply Has.next)); done) (by assumption) rfl rfl | apply CellsAt.next))) ?_
    | refine Tr.box rfl fun _ => ?_
    | refine Tr.alloc rfl fun _ => ?_
    | refine Tr.build rfl ?_
    | refine Tr.drewK ?_
    | refine Tr.eqR rfl ?_
    | refine Tr.storeW rfl rfl rfl (by (repeat (first | exact Upd.here | apply Upd.next)); done) (by rfl) ?_
    | refine Tr.store rfl rfl rfl (by (repeat (first | exact Upd.here | apply Upd.next)); done) (by first | exact Nat.le_of_ble_eq_true rfl | (simp only [WKl, setL_length, En.len]; omega)) ?_
    | refine Tr.len (by (repeat (first | exact Has.here | apply Has.next)); done) ?_
    | refine Tr.cutTo (by (repeat (first | exact Has.here | apply Has.next)); done) (by rfl) (by omega) (by omega) fun _ => ?_
    | refine Tr.lookup (by (repeat (first | exact Has.here | apply Has.next)); done) ?_
    | refine Tr.mapUpdate (by (repeat (first | exact UpdA.here | apply UpdA.next)); done) ?_
    | refine Tr.lenMap (by (repeat (first | exact Has.here | apply Has.next)); done) ?_
    | refine Tr.makeMap fun _ => ?_
    | refine Tr.index (by (repeat (first | exact Has.here | apply Has.next)); done) (by rfl) (by omega) (by omega) ?_
    | refine Tr.condT (by first | rfl | (simp only [decide_eq_true_eq]; omega)) ?_
    | refine Tr.condF (by first | rfl | (simp only [decide_eq_false_iff_not]; omega)) ?_))
        refine Tr.drop ?_
        refine Tr.again (k + 1, s) (by simp only [WKb, ↓reduceIte, Nat.reduceEqDiff, Nat.reduceAdd, Nat.reduceSub]) (by simp only [WKb, ↓reduceIte, Nat.reduceEqDiff, Nat.reduceAdd, Nat.reduceSub, hw]) ⟨by simp; omega, hlen⟩ (by simp; omega) ?_
        exact Tr.sat_of fun w h => fin s _ hs.symm w h
      · cases e3 : decide ((t.at k).wake ≤ win)
        · have hs := hskip (by simp [One.due, e1, e2, e3])
          (repeat (first
    | simp only [WKb, ↓reduceIte, Nat.reduceEqDiff, Nat.reduceAdd, Nat.reduceSub, pl38, e1, e2, e3]
    | refine Tr.load1 (by (repeat (first | exact Cell.blk rfl | exact Cell.rob rfl | exact Cell.sl0 (by (repeat (first | exact Has.here | apply Has.next)); done) (by assumption) rfl | exact Cell.slj (by (repeat (first | exact Has.here | apply Has.next)); done) (by assumption) rfl | apply Cell.next))) ?_
    | refine Tr.loadN (by (repeat (first | exact CellsAt.blk0 rfl | exact CellsAt.blk rfl rfl | exact CellsAt.rob0 rfl | exact CellsAt.rob rfl rfl | exact CellsAt.sl0 (by (repeat (first | exact Has.here | apply Has.next)); done) (by assumption) rfl | exact CellsAt.slj (by (repeat (first | exact Has.here | apply Has.next)); done) (by assumption) rfl rfl | apply CellsAt.next))) ?_
    | refine Tr.box rfl fun _ => ?_
    | refine Tr.alloc rfl fun _ => ?_
    | refine Tr.build rfl ?_
    | refine Tr.drewK ?_
    | refine Tr.eqR rfl ?_
    | refine Tr.storeW rfl rfl rfl (by (repeat (first | exact Upd.here | apply Upd.next)); done) (by rfl) ?_
    | refine Tr.store rfl rfl rfl (by (repeat (first | exact Upd.here | apply Upd.next)); done) (by first | exact Nat.le_of_ble_eq_true rfl | (simp only [WKl, setL_length, En.len]; omega)) ?_
    | refine Tr.len (by (repeat (first | exact Has.here | apply Has.next)); done) ?_
    | refine Tr.cutTo (by (repeat (first | exact Has.here | apply Has.next)); done) (by rfl) (by omega) (by omega) fun _ => ?_
    | refine Tr.lookup (by (repeat (first | exact Has.here | apply Has.next)); done) ?_
    | refine Tr.mapUpdate (by (repeat (first | exact UpdA.here | apply UpdA.next)); done) ?_
    | refine Tr.lenMap (by (repeat (first | exact Has.here | apply Has.next)); done) ?_
    | refine Tr.makeMap fun _ => ?_
    | refine Tr.index (by (repeat (first | exact Has.here | apply Has.next)); done) (by rfl) (by omega) (by omega) ?_
    | refine Tr.condT (by first | rfl | (simp only [decide_eq_true_eq]; omega)) ?_
    | refine Tr.condF (by first | rfl | (simp only [decide_eq_false_iff_not]; omega)) ?_))
          refine Tr.drop ?_
          refine Tr.again (k + 1, s) (by simp only [WKb, ↓reduceIte, Nat.reduceEqDiff, Nat.reduceAdd, Nat.reduceSub]) (by simp only [WKb, ↓reduceIte, Nat.reduceEqDiff, Nat.reduceAdd, Nat.reduceSub, hw]) ⟨by simp; omega, hlen⟩ (by simp; omega) ?_
          exact Tr.sat_of fun w h => fin s _ hs.symm w h
        · have hs : t.dueTo win (k + 1) = t.dueTo win k ++ [(k : Int)] := by simp [Tb.dueTo, One.due, e1, e2, e3]
          (repeat (first
    | simp only [WKb, ↓reduceIte, Nat.reduceEqDiff, Nat.reduceAdd, Nat.reduceSub, pl38, e1, e2, e3]
    | refine Tr.load1 (by (repeat (first | exact Cell.blk rfl | exact Cell.rob rfl | exact Cell.sl0 (by (repeat (first | exact Has.here | apply Has.next)); done) (by assumption) rfl | exact Cell.slj (by (repeat (first | exact Has.here | apply Has.next)); done) (by assumption) rfl | apply Cell.next))) ?_
    | refine Tr.loadN (by (repeat (first | exact CellsAt.blk0 rfl | exact CellsAt.blk rfl rfl | exact CellsAt.rob0 rfl | exact CellsAt.rob rfl rfl | exact CellsAt.sl0 (by (repeat (first | exact Has.here | apply Has.next)); done) (by assumption) rfl | exact CellsAt.slj (by (repeat (first | exact Has.here | apply Has.next)); done) (by assumption) rfl rfl | apply CellsAt.next))) ?_
    | refine Tr.box rfl fun _ => ?_
    | refine Tr.alloc rfl fun _ => ?_
    | refine Tr.build rfl ?_
    | refine Tr.drewK ?_
    | refine Tr.eqR rfl ?_
    | refine Tr.storeW rfl rfl rfl (by (repeat (first | exact Upd.here | apply Upd.next)); done) (by rfl) ?_
    | refine Tr.store rfl rfl rfl (by (repeat (first | exact Upd.here | apply Upd.next)); done) (by first | exact Nat.le_of_ble_eq_true rfl | (simp only [WKl, setL_length, En.len]; omega)) ?_
    | refine Tr.len (by (repeat (first | exact Has.here | apply Has.next)); done) ?_
    | refine Tr.cutTo (by (repeat (first | exact Has.here | apply Has.next)); done) (by rfl) (by omega) (by omega) fun _ => ?_
    | refine Tr.lookup (by (repeat (first | exact Has.here | apply Has.next)); done) ?_
    | refine Tr.mapUpdate (by (repeat (first | exact UpdA.here | apply UpdA.next)); done) ?_
    | refine Tr.lenMap (by (repeat (first | exact Has.here | apply Has.next)); done) ?_
    | refine Tr.makeMap fun _ => ?_
    | refine Tr.index (by (repeat (first | exact Has.here | apply Has.next)); done) (by rfl) (by omega) (by omega) ?_
    | refine Tr.condT (by first | rfl | (simp only [decide_eq_true_eq]; omega)) ?_
    | refine Tr.condF (by first | rfl | (simp only [decide_eq_false_iff_not]; omega)) ?_))
          refine Tr.buildSlice (α := Int) (xs := [(k : Int)]) (d := (0 : Int)) rfl rfl (by decide) rfl fun s2 => ?_
          (repeat (first
    | simp only [WKb, ↓reduceIte, Nat.reduceEqDiff, Nat.reduceAdd, Nat.reduceSub, pl38]
    | refine Tr.load1 (by (repeat (first | exact Cell.blk rfl | exact Cell.rob rfl | exact Cell.sl0 (by (repeat (first | exact Has.here | apply Has.next)); done) (by assumption) rfl | exact Cell.slj (by (repeat (first | exact Has.here | apply Has.next)); done) (by assumption) rfl | apply Cell.next))) ?_
    | refine Tr.loadN (by (repeat (first | exact CellsAt.blk0 rfl | exact CellsAt.blk rfl rfl | exact CellsAt.rob0 rfl | exact CellsAt.rob rfl rfl | exact CellsAt.sl0 (by (repeat (first | exact Has.here | apply Has.next)); done) (by assumption) rfl | exact CellsAt.slj (by (repeat (first | exact Has.here | apply Has.next)); done) (by assumption) rfl rfl | apply CellsAt.next))) ?_
    | refine Tr.box rfl fun _ => ?_
    | refine Tr.alloc rfl fun _ => ?_
    | refine Tr.build rfl ?_
    | refine Tr.drewK ?_
    | refine Tr.eqR rfl ?_
    | refine Tr.storeW rfl rfl rfl (by (repeat (first | exact Upd.here | apply Upd.next)); done) (by rfl) ?_
    | refine Tr.store rfl rfl rfl (by (repeat (first | exact Upd.here | apply Upd.next)); done) (by first | exact Nat.le_of_ble_eq_true rfl | (simp only [WKl, setL_length, En.len]; omega)) ?_
    | refine Tr.len (by (repeat (first | exact Has.here | apply Has.next)); done) ?_
    | refine Tr.cutTo (by (repeat (first | exact Has.here | apply Has.next)); done) (by rfl) (by omega) (by omega) fun _ => ?_
    | refine Tr.lookup (by (repeat (first | exact Has.here | apply Has.next)); done) ?_
    | refine Tr.mapUpdate (by (repeat (first | exact UpdA.here | apply UpdA.next)); done) ?_
    | refine Tr.lenMap (by (repeat (first | exact Has.here | apply Has.next)); done) ?_
    | refine Tr.makeMap fun _ => ?_
    | refine Tr.index (by (repeat (first | exact Has.here | apply Has.next)); done) (by rfl) (by omega) (by omega) ?_
    | refine Tr.condT (by first | rfl | (simp only [decide_eq_true_eq]; omega)) ?_
    | refine Tr.condF (by first | rfl | (simp only [decide_eq_false_iff_not]; omega)) ?_))
          refine Tr.append (α := Int) (xs := t.dueTo win k) (ys := [(k : Int)]) rfl (by (repeat (first | exact TakeA.here | apply TakeA.next)); done) (by (repeat (first | exact Has.here | apply Has.next)); done) (by decide) (by simp; omega) fun s3 => ?_
          (repeat (first
    | simp only [WKb, ↓reduceIte, Nat.reduceEqDiff, Nat.reduceAdd, Nat.reduceSub, pl38]
    | refine Tr.load1 (by (repeat (first | exact Cell.blk rfl | exact Cell.rob rfl | exact Cell.sl0 (by (repeat (first | exact Has.here | apply Has.next)); done) (by assumption) rfl | exact Cell.slj (by (repeat (first | exact Has.here | apply Has.next)); done) (by assumption) rfl | apply Cell.next))) ?_
    | refine Tr.loadN (by (repeat (first | exact CellsAt.blk0 rfl | exact CellsAt.blk rfl rfl | exact CellsAt.rob0 rfl | exact CellsAt.rob rfl rfl | exact CellsAt.sl0 (by (repeat (first | exact Has.here | apply Has.next)); done) (by assumption) rfl | exact CellsAt.slj (by (repeat (first | exact Has.here | apply Has.next)); done) (by assumption) rfl rfl | apply CellsAt.next))) ?_
    | refine Tr.box rfl fun _ => ?_
    | refine Tr.alloc rfl fun _ => ?_
    | refine Tr.build rfl ?_
    | refine Tr.drewK ?_
    | refine Tr.eqR rfl ?_
    | refine Tr.storeW rfl rfl rfl (by (repeat (first | exact Upd.here | apply Upd.next)); done) (by rfl) ?_
    | refine Tr.store rfl rfl rfl (by (repeat (first | exact Upd.here | apply Upd.next)); done) (by first | exact Nat.le_of_ble_eq_true rfl | (simp only [WKl, setL_length, En.len]; omega)) ?_
    | refine Tr.len (by (repeat (first | exact Has.here | apply Has.next)); done) ?_
    | refine Tr.cutTo (by (repeat (first | exact Has.here | apply Has.next)); done) (by rfl) (by omega) (by omega) fun _ => ?_
    | refine Tr.lookup (by (repeat (first | exact Has.here | apply Has.next)); done) ?_
    | refine Tr.mapUpdate (by (repeat (first | exact UpdA.here | apply UpdA.next)); done) ?_
    | refine Tr.lenMap (by (repeat (first | exact Has.here | apply Has.next)); done) ?_
    | refine Tr.makeMap fun _ => ?_
    | refine Tr.index (by (repeat (first | exact Has.here | apply Has.next)); done) (by rfl) (by omega) (by omega) ?_
    | refine Tr.condT (by first | rfl | (simp only [decide_eq_true_eq]; omega)) ?_
    | refine Tr.condF (by first | rfl | (simp only [decide_eq_false_iff_not]; omega)) ?_))
          refine Tr.again (k + 1, s3) (by simp only [WKb, ↓reduceIte, Nat.reduceEqDiff, Nat.reduceAdd, Nat.reduceSub]) (by simp only [WKb, ↓reduceIte, Nat.reduceEqDiff, Nat.reduceAdd, Nat.reduceSub, hw]) ⟨by simp; omega, hlen⟩ (by simp; omega) ?_
          exact Tr.sat_of fun w h => fin s3 _ hs.symm w ((Sat.tail (Sat.tail (h.perm (front_perm [1, 1] _)))).perm (front_perm [1, 1] _))
  · have : k = t.d.length := by omega
    subst this
    (repeat (first
    | simp only [WKb, ↓reduceIte, Nat.reduceEqDiff, Nat.reduceAdd, Nat.reduceSub, pl38]
    | refine Tr.load1 (by (repeat (first | exact Cell.blk rfl | exact Cell.rob rfl | exact Cell.sl0 (by (repeat (first | exact Has.here | apply Has.next)); done) (by assumption) rfl | exact Cell.slj (by (repeat (first | exact Has.here | apply Has.next)); done) (by assumption) rfl | apply Cell.next))) ?_
    | refine Tr.loadN (by (repeat (first | exact CellsAt.blk0 rfl | exact CellsAt.blk rfl rfl | exact CellsAt.rob0 rfl | exact CellsAt.rob rfl rfl | exact CellsAt.sl0 (by (repeat (first | exact Has.here | apply Has.next)); done) (by assumption) rfl | exact CellsAt.slj (by (repeat (first | exact Has.here | apply Has.next)); done) (by assumption) rfl rfl | apply CellsAt.next))) ?_
    | refine Tr.box rfl fun _ => ?_
    | refine Tr.alloc rfl fun _ => ?_
    | refine Tr.build rfl ?_
    | refine Tr.drewK ?_
    | refine Tr.eqR rfl ?_
    | refine Tr.storeW rfl rfl rfl (by (repeat (first | exact Upd.here | apply Upd.next)); done) (by rfl) ?_
    | refine Tr.store rfl rfl rfl (by (repeat (first | exact Upd.here | apply Upd.next)); done) (by first | exact Nat.le_of_ble_eq_true rfl | (simp only [WKl, setL_length, En.len]; omega)) ?_
    | refine Tr.len (by (repeat (first | exact Has.here | apply Has.next)); done) ?_
    | refine Tr.cutTo (by (repeat (first | exact Has.here | apply Has.next)); done) (by rfl) (by omega) (by omega) fun _ => ?_
    | refine Tr.lookup (by (repeat (first | exact Has.here | apply Has.next)); done) ?_
    | refine Tr.mapUpdate (by (repeat (first | exact UpdA.here | apply UpdA.next)); done) ?_
    | refine Tr.lenMap (by (repeat (first | exact Has.here | apply Has.next)); done) ?_
    | refine Tr.makeMap fun _ => ?_
    | refine Tr.index (by (repeat (first | exact Has.here | apply Has.next)); done) (by rfl) (by omega) (by omega) ?_
    | refine Tr.condT (by first | rfl | (simp only [decide_eq_true_eq]; omega)) ?_
    | refine Tr.condF (by first | rfl | (simp only [decide_eq_false_iff_not]; omega)) ?_))
    exact hh s
end Go.Proofs.Ytlmcoiloepoggaa
