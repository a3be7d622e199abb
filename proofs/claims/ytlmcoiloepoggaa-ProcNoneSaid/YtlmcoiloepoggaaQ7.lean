import Derived.Test.YtlmcoiloepoggaaQ6
namespace Go.Proofs.Ytlmcoiloepoggaa
open Go Go.Wk
set_option maxHeartbeats 800000
set_option maxRecDepth 10000
attribute [local irreducible] GenK EGenK EUnitK CallK FnK CallV GuardO GuardC CondW opX opK opKc chkR eqR seqK blkK endL WL WD W LoopW BinK Tr drewK resL PickK NotK NilK ExtrK getK Instr.storeAt Instr.loadAt Instr.fieldAt Instr.indexAt Instr.lookup Instr.mapUpdate Instr.box Instr.alloc Instr.build Instr.buildSlice Instr.makeSlice Instr.makeMap Instr.sliceAt Instr.field Instr.index Instr.makeInterface Instr.typeAssert Builtin.len_ Builtin.append_ Builtin.cap_ Builtin.min_ Builtin.max_ Builtin.copy_ Builtin.clear_ convert binOp mp blk rob sl sep ex fact old
structure PConf where
  prio : Int
  period : Int
  cost : Int
instance : En PConf := ⟨fun d => [.int .i64 d.prio, .int .i64 d.period, .int .i64 d.cost], 3, fun _ => rfl, fun _ => rfl, by decide⟩
def One.new (c : PConf) : One := { One.zero with cprio := c.prio, period := c.period, cost := c.cost, prio := c.prio }
def Tb.new (l : List PConf) : Tb := { d := (l.take 8).map One.new, turns := 0 }
theorem kvF_snoc (x : One) : ∀ (d : List One) (i : Nat), kvF i (d ++ [x]) = kvF i d ++ [(((i + d.length : Nat) : Int), x.v)]
  | [], i => by simp [kvF]
  | y :: d, i => by
    simp only [List.cons_append, kvF, kvF_snoc x d (i + 1), List.length_cons]
    rw [show i + 1 + d.length = i + (d.length + 1) by omega]
theorem upsert_new (x : One) (d : List One) (k : Nat) (h : d.length = k) : upsert (k : Int) x.v (kvF 0 d) = kvF 0 (d ++ [x]) := by
  rw [upsert_none, kvF_snoc, Nat.zero_add, h]
  rw [find_kvF, if_neg (by omega)]
theorem new_ok (s : SV) (l : List PConf) : Trip Try.prog 20 [s.v].toArray [sl true s.v l] fun v l' => ∃ a, v = .pointer (some ⟨a, 0, none⟩) ∧ l' = [tabA a (Tb.new l), sl true s.v l] := by
  intro F K hK
  have hh := fun a => hK _ _ ⟨a, rfl, rfl⟩
  clear hK
  simp only [List.cons_append, List.nil_append] at hh ⊢
  refine Tr.enter (rs := [.tmp 2]) mixed fn20 rfl (by simp +arith [Try.ntmps20]) fun u => ?_
  simp only [cd20, Try.f20]
  have hmin : (0 : Int) ≤ (if (8 : Int) < (l.length : Int) then 8 else (l.length : Int)) ∧ (if (8 : Int) < (l.length : Int) then 8 else (l.length : Int)) ≤ l.length ∧ (if (8 : Int) < (l.length : Int) then 8 else (l.length : Int)) ≤ 8 := by split <;> omega
  generalize hq : (if (8 : Int) < (l.length : Int) then 8 else (l.length : Int)) = q at hmin
  obtain ⟨hq0, hq1, hq2⟩ := hmin
  (repeat (first
    | simp only [WKb, ↓reduceIte, Nat.reduceEqDiff, Nat.reduceAdd, Nat.reduceSub, pl20, hq]
    | refine Tr.load1 (by (repeat (first | exact Cell.blk rfl | exact Cell.rob rfl | exact Cell.sl0 (by (repeat (first | exact Has.here | apply Has.next)); done) (by assumption) rfl | exact Cell.slj (by (repeat (first | exact Has.here | apply Has.next)); done) (by assumption) rfl | apply Cell.next))) ?_
    | refine Tr.loadN (by (repeat (first | exact CellsAt.blk0 rfl | exact CellsAt.blk rfl rfl | exact CellsAt.rob0 rfl | exact CellsAt.rob rfl rfl | exact CellsAt.sl0 (by (repeat (first | exact Has.here | apply Has.next)); done) (by assumption) rfl | exact CellsAt.slj (by (repeat (first | exact Has.here | apply Has.next)); done) (by assumption) rfl rfl | apply CellsAt.next))) ?_
    | refine Tr.box rfl fun _ => ?_
    | refine Tr.alloc rfl fun _ => ?_
    | refine Tr.build rfl ?_
    | refine Tr.drewK ?_
    | refine Tr.eqR rfl ?_
    | refine Tr.storeW rfl rfl rfl (by (repeat (first | exact Upd.here | apply Upd.next)); done) (by rfl) ?_
    | refine Tr.store rfl rfl rfl (by (repeat (first | exact Upd.here | apply Upd.next)); done) (by first | exact Nat.le_of_ble_eq_true rfl | (simp only [WKl, setL_length, En.len]; omega)) ?_
    | refine Tr.len (by (repeat (first | exact Has.here | apply Has.next)); done) ?_
    | refine Tr.cutTo (by (repeat (first | exact Has.here | apply Has.next)); done) (by rfl) (by omega) (by omega) fun _ => ?_
    | refine Tr.lookup (by (repeat (first | exact Has.here | apply Has.next)); done) ?_
    | refine Tr.mapUpdate (by (repeat (first | exact UpdA.here | apply UpdA.next)); done) ?_
    | refine Tr.lenMap (by (repeat (first | exact Has.here | apply Has.next)); done) ?_
    | refine Tr.makeMap fun _ => ?_
    | refine Tr.index (by (repeat (first | exact Has.here | apply Has.next)); done) (by rfl) (by omega) (by omega) ?_
    | refine Tr.condT (by first | rfl | (simp only [decide_eq_true_eq]; omega)) ?_
    | refine Tr.condF (by first | rfl | (simp only [decide_eq_false_iff_not]; omega)) ?_))
  rename_i m a s2
  have hlt : (l.take q.toNat).length = q.toNat := by rw [List.length_take]; omega
  generalize hls : l.take q.toNat = ls at *
  refine Tr.loop (α := Nat) [15] [3, 13, 14] (fun k => [.int .i64 k]) (fun k => [mp m (kvF 0 ((ls.take k).map One.new)), sl true s2.v ls, blk a (.cells [Value.map (some m), Value.int IntKind.i64 0].toArray 71 (0, 0))]) (fun k => k ≤ ls.length) (fun k => ls.length - k) (F := sl true s.v l :: F) 0 (by omega) rfl (fun w h => h.perm (front_perm [2, 0, 0] _)) fun k u hk => ?_
  by_cases hlt2 : k < ls.length
  · have hw : IntKind.i64.wrap ((k : Int) + 1) = ((k + 1 : Nat) : Int) := by rw [wrap_id (by omega) (by omega)]; rfl
    have hx : ls[(k : Int).toNat]? = some ls[k] := by simp [hlt2]
    simp only [List.cons_append, List.nil_append]
    (repeat (first
    | simp only [WKb, ↓reduceIte, Nat.reduceEqDiff, Nat.reduceAdd, Nat.reduceSub, pl20]
    | refine Tr.load1 (by (repeat (first | exact Cell.blk rfl | exact Cell.rob rfl | exact Cell.sl0 (by (repeat (first | exact Has.here | apply Has.next)); done) (by assumption) rfl | exact Cell.slj (by (repeat (first | exact Has.here | apply Has.next)); done) (by assumption) rfl | apply Cell.next))) ?_
    | refine Tr.loadN (by (repeat (first | exact CellsAt.blk0 rfl | exact CellsAt.blk rfl rfl | exact CellsAt.rob0 rfl | exact CellsAt.rob rfl rfl | exact CellsAt.sl0 (by (repeat (first | exact Has.here | apply Has.next)); done) (by assumption) rfl | exact CellsAt.slj (by (repeat (first | exact Has.here | apply Has.next)); done) (by assumption) rfl rfl | apply CellsAt.next))) ?_
    | refine Tr.box rfl fun _ => ?_
    | refine Tr.alloc rfl fun _ => ?_
    | refine Tr.build rfl ?_
    | refine Tr.drewK ?_
    | refine Tr.eqR rfl ?_
    | refine Tr.storeW rfl rfl rfl (by (repeat (first | exact Upd.here | apply Upd.next)); done) (by rfl) ?_
    | refine Tr.store rfl rfl rfl (by (repeat (first | exact Upd.here | apply Upd.next)); done) (by first | exact Nat.le_of_ble_eq_true rfl | (simp only [WKl, setL_length, En.len]; omega)) ?_
    | refine Tr.len (by (repeat (first | exact Has.here | apply Has.next)); done) ?_
    | refine Tr.cutTo (by (repeat (first | exact Has.here | apply Has.next)); done) (by rfl) (by omega) (by omega) fun _ => ?_
    | refine Tr.lookup (by (repeat (first | exact Has.here | apply Has.next)); done) ?_
    | refine Tr.mapUpdate (by (repeat (first | exact UpdA.here | apply UpdA.next)); done) ?_
    | refine Tr.lenMap (by (repeat (first | exact Has.here | apply Has.next)); done) ?_
    | refine Tr.makeMap fun _ => ?_
    | refine Tr.index (by (repeat (first | exact Has.here | apply Has.next)); done) (by rfl) (by omega) (by omega) ?_
    | refine Tr.condT (by first | rfl | (simp only [decide_eq_true_eq]; omega)) ?_
    | refine Tr.condF (by first | rfl | (simp only [decide_eq_false_iff_not]; omega)) ?_))
    have hup : upsert (k : Int) (One.new ls[k]).v (kvF 0 ((ls.take k).map One.new)) = kvF 0 ((ls.take (k + 1)).map One.new) := by
      rw [upsert_new _ _ k (by simp; omega), List.take_succ_eq_append_getElem hlt2, List.map_append]; rfl
    refine Tr.drop ?_
    refine Tr.again (k + 1) (by simp only [WKb, ↓reduceIte, Nat.reduceEqDiff, Nat.reduceAdd, Nat.reduceSub]) (by simp only [WKb, ↓reduceIte, Nat.reduceEqDiff, Nat.reduceAdd, Nat.reduceSub, hw]) (by omega) (by omega) (Tr.sat_of fun w h => ?_)
    simp only [List.cons_append, List.nil_append]
    rw [← hup]
    exact h
  · have : k = ls.length := by omega
    subst this
    (repeat (first
    | simp only [WKb, ↓reduceIte, Nat.reduceEqDiff, Nat.reduceAdd, Nat.reduceSub, pl20]
    | refine Tr.load1 (by (repeat (first | exact Cell.blk rfl | exact Cell.rob rfl | exact Cell.sl0 (by (repeat (first | exact Has.here | apply Has.next)); done) (by assumption) rfl | exact Cell.slj (by (repeat (first | exact Has.here | apply Has.next)); done) (by assumption) rfl | apply Cell.next))) ?_
    | refine Tr.loadN (by (repeat (first | exact CellsAt.blk0 rfl | exact CellsAt.blk rfl rfl | exact CellsAt.rob0 rfl | exact CellsAt.rob rfl rfl | exact CellsAt.sl0 (by (repeat (first | exact Has.here | apply Has.next)); done) (by assumption) rfl | exact CellsAt.slj (by (repeat (first | exact Has.here | apply Has.next)); done) (by assumption) rfl rfl | apply CellsAt.next))) ?_
    | refine Tr.box rfl fun _ => ?_
    | refine Tr.alloc rfl fun _ => ?_
    | refine Tr.build rfl ?_
    | refine Tr.drewK ?_
    | refine Tr.eqR rfl ?_
    | refine Tr.storeW rfl rfl rfl (by (repeat (first | exact Upd.here | apply Upd.next)); done) (by rfl) ?_
    | refine Tr.store rfl rfl rfl (by (repeat (first | exact Upd.here | apply Upd.next)); done) (by first | exact Nat.le_of_ble_eq_true rfl | (simp only [WKl, setL_length, En.len]; omega)) ?_
    | refine Tr.len (by (repeat (first | exact Has.here | apply Has.next)); done) ?_
    | refine Tr.cutTo (by (repeat (first | exact Has.here | apply Has.next)); done) (by rfl) (by omega) (by omega) fun _ => ?_
    | refine Tr.lookup (by (repeat (first | exact Has.here | apply Has.next)); done) ?_
    | refine Tr.mapUpdate (by (repeat (first | exact UpdA.here | apply UpdA.next)); done) ?_
    | refine Tr.lenMap (by (repeat (first | exact Has.here | apply Has.next)); done) ?_
    | refine Tr.makeMap fun _ => ?_
    | refine Tr.index (by (repeat (first | exact Has.here | apply Has.next)); done) (by rfl) (by omega) (by omega) ?_
    | refine Tr.condT (by first | rfl | (simp only [decide_eq_true_eq]; omega)) ?_
    | refine Tr.condF (by first | rfl | (simp only [decide_eq_false_iff_not]; omega)) ?_))
    have h8 : ls = l.take 8 := by
      rw [← hls]
      by_cases h : (8 : Int) < l.length
      · rw [if_pos h] at hq; subst hq; rfl
      · rw [if_neg h] at hq; subst hq
        rw [List.take_of_length_le (by simp), List.take_of_length_le (by omega)]
    rw [List.take_length, h8]
    refine Tr.front [1] (Tr.drop ?_)
    refine Tr.front [1] ?_
    exact tab_fold (t := Tb.new l) (hh a)
end Go.Proofs.Ytlmcoiloepoggaa
