import Derived.Test.YtlmcoiloepoggaaTab
import Derived.Test.YtlmcoiloepoggaaWkT
namespace Go.Proofs.Ytlmcoiloepoggaa
open Go Go.Wk
set_option maxHeartbeats 400000
attribute [local irreducible] GenK EGenK EUnitK CallK FnK CallV GuardO GuardC CondW opX opK opKc chkR eqR seqK blkK endL WL WD W LoopW BinK Tr drewK resL PickK NotK NilK ExtrK getK Instr.storeAt Instr.loadAt Instr.fieldAt Instr.indexAt Instr.lookup Instr.mapUpdate Instr.box Instr.alloc Instr.build Instr.buildSlice Instr.makeSlice Instr.makeMap Instr.sliceAt Instr.field Instr.index Instr.makeInterface Instr.typeAssert Builtin.len_ Builtin.append_ Builtin.cap_ Builtin.min_ Builtin.max_ Builtin.copy_ Builtin.clear_ convert binOp mp blk rob sl sep ex fact old
set_option maxRecDepth 10000
structure One where
  cprio : Int
  period : Int
  cost : Int
  call : Int
  what : Int
  wake : Int
  state : Int
  prio : Int
  turn : Int
  next : Int
  parked : Bool
def One.zero : One := ⟨0, 0, 0, 0, 0, 0, 0, 0, 0, 0, false⟩
instance : En One := ⟨fun d => [.int .i64 d.cprio, .int .i64 d.period, .int .i64 d.cost, .int .i64 d.call, .int .i64 d.what, .int .i64 d.wake, .int .i64 d.state, .int .i64 d.prio, .int .i64 d.turn, .int .i64 d.next, .bool d.parked], 11, fun _ => rfl, fun _ => rfl, by decide⟩
def One.ready (d : One) : Bool := decide (d.state = 1) && !d.parked
def One.v (d : One) : Value := .agg (En.enc d).toArray

structure Tb where
  d : List One
  turns : Int
def kvF (k : Nat) : List One → List (Int × Value)
  | [] => []
  | x :: r => ((k : Int), x.v) :: kvF (k + 1) r
def Tb.at (t : Tb) (k : Int) : One := if 0 ≤ k then t.d.getD k.toNat One.zero else One.zero
def Tb.has (t : Tb) (k : Int) : Bool := decide (0 ≤ k ∧ k < t.d.length)
def tabA (a : Nat) (t : Tb) : Asrt := ex fun m => sep (blk a (.cells [.map (some m), .int .i64 t.turns].toArray 71 (0, 0))) (mp m (kvF 0 t.d))
theorem find_kvF (k : Int) : ∀ (d : List One) (i : Nat), find k (kvF i d) = if (i : Int) ≤ k ∧ k < i + d.length then some (d.getD (k - i).toNat One.zero).v else none
  | [], i => by simp only [kvF, find, List.length_nil]; rw [if_neg (by omega)]
  | x :: d, i => by
    simp only [kvF, find, find_kvF k d (i + 1), List.length_cons]
    by_cases h : k = i
    · subst h; simp; omega
    · rw [if_neg h]
      by_cases h2 : (i : Int) ≤ k ∧ k < i + (d.length + 1)
      · rw [if_pos (by omega), if_pos (by push_cast; omega)]
        have : (k - i).toNat = (k - ((i : Nat) + 1 : Nat)).toNat + 1 := by omega
        rw [this, List.getD_cons_succ]
      · rw [if_neg (by omega), if_neg (by push_cast; omega)]
theorem find_tab (t : Tb) (k : Int) : (find k (kvF 0 t.d)).getD One.zero.v = (t.at k).v ∧ (find k (kvF 0 t.d)).isSome = t.has k := by
  rw [find_kvF]
  unfold Tb.at Tb.has
  by_cases h : 0 ≤ k ∧ k < t.d.length
  · rw [if_pos (by simpa using h), if_pos h.1]; simp [h]
  · rw [if_neg (by simpa using h)]
    constructor
    · by_cases h0 : 0 ≤ k
      · rw [if_pos h0]
        have : t.d.length ≤ k.toNat := by omega
        simp [List.getD_eq_getElem?_getD, List.getElem?_eq_none this]
      · rw [if_neg h0]; rfl
    · simp [h]


theorem find_tab1 (t : Tb) (k : Int) : (find k (kvF 0 t.d)).getD (.agg #[.int .i64 0, .int .i64 0, .int .i64 0, .int .i64 0, .int .i64 0, .int .i64 0, .int .i64 0, .int .i64 0, .int .i64 0, .int .i64 0, .bool false]) = (t.at k).v := (find_tab t k).1
theorem find_tab2 (t : Tb) (k : Int) : (find k (kvF 0 t.d)).isSome = t.has k := (find_tab t k).2
theorem kvF_length : ∀ (d : List One) (i : Nat), (kvF i d).length = d.length
  | [], _ => rfl
  | _ :: d, i => by simp [kvF, kvF_length d]
theorem ready_ok (d : One) : Trip Try.prog 82 [d.v].toArray [] fun v l' => v = .bool d.ready ∧ l' = [] := by
  intro F K hK
  refine Tr.enter (rs := [.tmp 2]) mixed fn82 rfl (by simp +arith [Try.ntmps82]) fun u => ?_
  simp only [cd82, Try.f82]
  (repeat (first
    | simp only [WKb, ↓reduceIte, Nat.reduceEqDiff, Nat.reduceAdd, Nat.reduceSub, pl82]
    | refine Tr.load1 (by (repeat (first | exact Cell.blk rfl | exact Cell.rob rfl | exact Cell.sl0 (by (repeat (first | exact Has.here | apply Has.next)); done) (by assumption) rfl | exact Cell.slj (by (repeat (first | exact Has.here | apply Has.next)); done) (by assumption) rfl | apply Cell.next))) ?_
    | refine Tr.loadN (by (repeat (first | exact CellsAt.blk0 rfl | exact CellsAt.blk rfl rfl | exact CellsAt.rob0 rfl | exact CellsAt.rob rfl rfl | exact CellsAt.sl0 (by (repeat (first | exact Has.here | apply Has.next)); done) (by assumption) rfl | exact CellsAt.slj (by (repeat (first | exact Has.here | apply Has.next)); done) (by assumption) rfl rfl | apply CellsAt.next))) ?_
    | refine Tr.box rfl fun _ => ?_
    | refine Tr.alloc rfl fun _ => ?_
    | refine Tr.build rfl ?_
    | refine Tr.drewK ?_
    | refine Tr.eqR rfl ?_
    | refine Tr.storeW rfl rfl rfl (by (repeat (first | exact Upd.here | apply Upd.next)); done) (by rfl) ?_
    | refine Tr.store rfl rfl rfl (by (repeat (first | exact Upd.here | apply Upd.next)); done) (by first | exact Nat.le_of_ble_eq_true rfl | (simp only [WKl, setL_length, En.len]; omega)) ?_
    | refine Tr.len (by (repeat (first | exact Has.here | apply Has.next)); done) ?_
    | refine Tr.cutTo (by (repeat (first | exact Has.here | apply Has.next)); done) (by rfl) (by omega) (by omega) fun _ => ?_
    | refine Tr.lookup (by (repeat (first | exact Has.here | apply Has.next)); done) ?_
    | refine Tr.mapUpdate (by (repeat (first | exact UpdA.here | apply UpdA.next)); done) ?_
    | refine Tr.lenMap (by (repeat (first | exact Has.here | apply Has.next)); done) ?_
    | refine Tr.makeMap fun _ => ?_
    | refine Tr.index (by (repeat (first | exact Has.here | apply Has.next)); done) (by rfl) (by omega) (by omega) ?_
    | refine Tr.condT (by first | rfl | (simp only [decide_eq_true_eq]; omega)) ?_
    | refine Tr.condF (by first | rfl | (simp only [decide_eq_false_iff_not]; omega)) ?_))
  refine Tr.guardT (fun hc => ?_) (fun hc => ?_)
  all_goals
    (repeat (first
    | simp only [WKb, ↓reduceIte, Nat.reduceEqDiff, Nat.reduceAdd, Nat.reduceSub, pl82, hc]
    | refine Tr.load1 (by (repeat (first | exact Cell.blk rfl | exact Cell.rob rfl | exact Cell.sl0 (by (repeat (first | exact Has.here | apply Has.next)); done) (by assumption) rfl | exact Cell.slj (by (repeat (first | exact Has.here | apply Has.next)); done) (by assumption) rfl | apply Cell.next))) ?_
    | refine Tr.loadN (by (repeat (first | exact CellsAt.blk0 rfl | exact CellsAt.blk rfl rfl | exact CellsAt.rob0 rfl | exact CellsAt.rob rfl rfl | exact CellsAt.sl0 (by (repeat (first | exact Has.here | apply Has.next)); done) (by assumption) rfl | exact CellsAt.slj (by (repeat (first | exact Has.here | apply Has.next)); done) (by assumption) rfl rfl | apply CellsAt.next))) ?_
    | refine Tr.box rfl fun _ => ?_
    | refine Tr.alloc rfl fun _ => ?_
    | refine Tr.build rfl ?_
    | refine Tr.drewK ?_
    | refine Tr.eqR rfl ?_
    | refine Tr.storeW rfl rfl rfl (by (repeat (first | exact Upd.here | apply Upd.next)); done) (by rfl) ?_
    | refine Tr.store rfl rfl rfl (by (repeat (first | exact Upd.here | apply Upd.next)); done) (by first | exact Nat.le_of_ble_eq_true rfl | (simp only [WKl, setL_length, En.len]; omega)) ?_
    | refine Tr.len (by (repeat (first | exact Has.here | apply Has.next)); done) ?_
    | refine Tr.cutTo (by (repeat (first | exact Has.here | apply Has.next)); done) (by rfl) (by omega) (by omega) fun _ => ?_
    | refine Tr.lookup (by (repeat (first | exact Has.here | apply Has.next)); done) ?_
    | refine Tr.mapUpdate (by (repeat (first | exact UpdA.here | apply UpdA.next)); done) ?_
    | refine Tr.lenMap (by (repeat (first | exact Has.here | apply Has.next)); done) ?_
    | refine Tr.makeMap fun _ => ?_
    | refine Tr.index (by (repeat (first | exact Has.here | apply Has.next)); done) (by rfl) (by omega) (by omega) ?_
    | refine Tr.condT (by first | rfl | (simp only [decide_eq_true_eq]; omega)) ?_
    | refine Tr.condF (by first | rfl | (simp only [decide_eq_false_iff_not]; omega)) ?_))
    refine Tr.drop (hK _ _ ⟨?_, rfl⟩)
    simp [One.ready, hc]
theorem len_nil : Trip Try.prog 23 [.pointer none].toArray [] fun v l' => v = .int .i64 0 ∧ l' = [] := by
  intro F K hK
  refine Tr.enter (rs := [.tmp 2]) mixed fn23 rfl (by simp +arith [Try.ntmps23]) fun u => ?_
  simp only [cd23, Try.f23]
  (repeat (first
    | simp only [WKb, ↓reduceIte, Nat.reduceEqDiff, Nat.reduceAdd, Nat.reduceSub, pl23]
    | refine Tr.load1 (by (repeat (first | exact Cell.blk rfl | exact Cell.rob rfl | exact Cell.sl0 (by (repeat (first | exact Has.here | apply Has.next)); done) (by assumption) rfl | exact Cell.slj (by (repeat (first | exact Has.here | apply Has.next)); done) (by assumption) rfl | apply Cell.next))) ?_
    | refine Tr.loadN (by (repeat (first | exact CellsAt.blk0 rfl | exact CellsAt.blk rfl rfl | exact CellsAt.rob0 rfl | exact CellsAt.rob rfl rfl | exact CellsAt.sl0 (by (repeat (first | exact Has.here | apply Has.next)); done) (by assumption) rfl | exact CellsAt.slj (by (repeat (first | exact Has.here | apply Has.next)); done) (by assumption) rfl rfl | apply CellsAt.next))) ?_
    | refine Tr.box rfl fun _ => ?_
    | refine Tr.alloc rfl fun _ => ?_
    | refine Tr.build rfl ?_
    | refine Tr.drewK ?_
    | refine Tr.eqR rfl ?_
    | refine Tr.storeW rfl rfl rfl (by (repeat (first | exact Upd.here | apply Upd.next)); done) (by rfl) ?_
    | refine Tr.store rfl rfl rfl (by (repeat (first | exact Upd.here | apply Upd.next)); done) (by first | exact Nat.le_of_ble_eq_true rfl | (simp only [WKl, setL_length, En.len]; omega)) ?_
    | refine Tr.len (by (repeat (first | exact Has.here | apply Has.next)); done) ?_
    | refine Tr.cutTo (by (repeat (first | exact Has.here | apply Has.next)); done) (by rfl) (by omega) (by omega) fun _ => ?_
    | refine Tr.lookup (by (repeat (first | exact Has.here | apply Has.next)); done) ?_
    | refine Tr.mapUpdate (by (repeat (first | exact UpdA.here | apply UpdA.next)); done) ?_
    | refine Tr.lenMap (by (repeat (first | exact Has.here | apply Has.next)); done) ?_
    | refine Tr.makeMap fun _ => ?_
    | refine Tr.index (by (repeat (first | exact Has.here | apply Has.next)); done) (by rfl) (by omega) (by omega) ?_
    | refine Tr.condT (by first | rfl | (simp only [decide_eq_true_eq]; omega)) ?_
    | refine Tr.condF (by first | rfl | (simp only [decide_eq_false_iff_not]; omega)) ?_))
  exact hK _ _ ⟨rfl, rfl⟩
theorem len_ok (a : Nat) (t : Tb) : Trip Try.prog 23 [.pointer (some ⟨a, 0, none⟩)].toArray [tabA a t] fun v l' => v = .int .i64 t.d.length ∧ l' = [tabA a t] := by
  intro F K hK
  have hh := hK _ _ ⟨rfl, rfl⟩
  simp only [List.cons_append, List.nil_append, tabA, Tr.ex_iff, Tr.sep_iff] at hh ⊢
  intro m
  refine Tr.enter (rs := [.tmp 2]) mixed fn23 rfl (by simp +arith [Try.ntmps23]) fun u => ?_
  simp only [cd23, Try.f23]
  (repeat (first
    | simp only [WKb, ↓reduceIte, Nat.reduceEqDiff, Nat.reduceAdd, Nat.reduceSub, pl23]
    | refine Tr.load1 (by (repeat (first | exact Cell.blk rfl | exact Cell.rob rfl | exact Cell.sl0 (by (repeat (first | exact Has.here | apply Has.next)); done) (by assumption) rfl | exact Cell.slj (by (repeat (first | exact Has.here | apply Has.next)); done) (by assumption) rfl | apply Cell.next))) ?_
    | refine Tr.loadN (by (repeat (first | exact CellsAt.blk0 rfl | exact CellsAt.blk rfl rfl | exact CellsAt.rob0 rfl | exact CellsAt.rob rfl rfl | exact CellsAt.sl0 (by (repeat (first | exact Has.here | apply Has.next)); done) (by assumption) rfl | exact CellsAt.slj (by (repeat (first | exact Has.here | apply Has.next)); done) (by assumption) rfl rfl | apply CellsAt.next))) ?_
    | refine Tr.box rfl fun _ => ?_
    | refine Tr.alloc rfl fun _ => ?_
    | refine Tr.build rfl ?_
    | refine Tr.drewK ?_
    | refine Tr.eqR rfl ?_
    | refine Tr.storeW rfl rfl rfl (by (repeat (first | exact Upd.here | apply Upd.next)); done) (by rfl) ?_
    | refine Tr.store rfl rfl rfl (by (repeat (first | exact Upd.here | apply Upd.next)); done) (by first | exact Nat.le_of_ble_eq_true rfl | (simp only [WKl, setL_length, En.len]; omega)) ?_
    | refine Tr.len (by (repeat (first | exact Has.here | apply Has.next)); done) ?_
    | refine Tr.cutTo (by (repeat (first | exact Has.here | apply Has.next)); done) (by rfl) (by omega) (by omega) fun _ => ?_
    | refine Tr.lookup (by (repeat (first | exact Has.here | apply Has.next)); done) ?_
    | refine Tr.mapUpdate (by (repeat (first | exact UpdA.here | apply UpdA.next)); done) ?_
    | refine Tr.lenMap (by (repeat (first | exact Has.here | apply Has.next)); done) ?_
    | refine Tr.makeMap fun _ => ?_
    | refine Tr.index (by (repeat (first | exact Has.here | apply Has.next)); done) (by rfl) (by omega) (by omega) ?_
    | refine Tr.condT (by first | rfl | (simp only [decide_eq_true_eq]; omega)) ?_
    | refine Tr.condF (by first | rfl | (simp only [decide_eq_false_iff_not]; omega)) ?_))
  rw [kvF_length]
  exact hh m
theorem find_nil (k : Int) : Trip Try.prog 79 [.pointer none, .int .i64 k].toArray [] fun v l' => v = .tuple #[One.zero.v, .bool false] ∧ l' = [] := by
  intro F K hK
  have hh := hK _ _ ⟨rfl, rfl⟩
  simp only [List.cons_append, List.nil_append] at hh ⊢
  refine Tr.enter (rs := [.cell 4 137, .tmp 5]) mixed fn79 rfl (by simp +arith [Try.ntmps79]) fun u => ?_
  simp only [cd79, Try.f79]
  (repeat (first
    | simp only [WKb, ↓reduceIte, Nat.reduceEqDiff, Nat.reduceAdd, Nat.reduceSub, pl79]
    | refine Tr.load1 (by (repeat (first | exact Cell.blk rfl | exact Cell.rob rfl | exact Cell.sl0 (by (repeat (first | exact Has.here | apply Has.next)); done) (by assumption) rfl | exact Cell.slj (by (repeat (first | exact Has.here | apply Has.next)); done) (by assumption) rfl | apply Cell.next))) ?_
    | refine Tr.loadN (by (repeat (first | exact CellsAt.blk0 rfl | exact CellsAt.blk rfl rfl | exact CellsAt.rob0 rfl | exact CellsAt.rob rfl rfl | exact CellsAt.sl0 (by (repeat (first | exact Has.here | apply Has.next)); done) (by assumption) rfl | exact CellsAt.slj (by (repeat (first | exact Has.here | apply Has.next)); done) (by assumption) rfl rfl | apply CellsAt.next))) ?_
    | refine Tr.box rfl fun _ => ?_
    | refine Tr.alloc rfl fun _ => ?_
    | refine Tr.build rfl ?_
    | refine Tr.drewK ?_
    | refine Tr.eqR rfl ?_
    | refine Tr.storeW rfl rfl rfl (by (repeat (first | exact Upd.here | apply Upd.next)); done) (by rfl) ?_
    | refine Tr.store rfl rfl rfl (by (repeat (first | exact Upd.here | apply Upd.next)); done) (by first | exact Nat.le_of_ble_eq_true rfl | (simp only [WKl, setL_length, En.len]; omega)) ?_
    | refine Tr.len (by (repeat (first | exact Has.here | apply Has.next)); done) ?_
    | refine Tr.cutTo (by (repeat (first | exact Has.here | apply Has.next)); done) (by rfl) (by omega) (by omega) fun _ => ?_
    | refine Tr.lookup (by (repeat (first | exact Has.here | apply Has.next)); done) ?_
    | refine Tr.mapUpdate (by (repeat (first | exact UpdA.here | apply UpdA.next)); done) ?_
    | refine Tr.lenMap (by (repeat (first | exact Has.here | apply Has.next)); done) ?_
    | refine Tr.makeMap fun _ => ?_
    | refine Tr.index (by (repeat (first | exact Has.here | apply Has.next)); done) (by rfl) (by omega) (by omega) ?_
    | refine Tr.condT (by first | rfl | (simp only [decide_eq_true_eq]; omega)) ?_
    | refine Tr.condF (by first | rfl | (simp only [decide_eq_false_iff_not]; omega)) ?_))
  repeat (first | exact hh | refine Tr.drop ?_)
theorem find_ok (a : Nat) (t : Tb) (k : Int) : Trip Try.prog 79 [.pointer (some ⟨a, 0, none⟩), .int .i64 k].toArray [tabA a t] fun v l' => v = .tuple #[(t.at k).v, .bool (t.has k)] ∧ l' = [tabA a t] := by
  intro F K hK
  have hh := hK _ _ ⟨rfl, rfl⟩
  simp only [List.cons_append, List.nil_append, tabA, Tr.ex_iff, Tr.sep_iff] at hh ⊢
  intro m
  refine Tr.enter (rs := [.cell 4 137, .tmp 5]) mixed fn79 rfl (by simp +arith [Try.ntmps79]) fun u => ?_
  simp only [cd79, Try.f79]
  (repeat (first
    | simp only [WKb, ↓reduceIte, Nat.reduceEqDiff, Nat.reduceAdd, Nat.reduceSub, pl79, find_tab1, find_tab2]
    | refine Tr.load1 (by (repeat (first | exact Cell.blk rfl | exact Cell.rob rfl | exact Cell.sl0 (by (repeat (first | exact Has.here | apply Has.next)); done) (by assumption) rfl | exact Cell.slj (by (repeat (first | exact Has.here | apply Has.next)); done) (by assumption) rfl | apply Cell.next))) ?_
    | refine Tr.loadN (by (repeat (first | exact CellsAt.blk0 rfl | exact CellsAt.blk rfl rfl | exact CellsAt.rob0 rfl | exact CellsAt.rob rfl rfl | exact CellsAt.sl0 (by (repeat (first | exact Has.here | apply Has.next)); done) (by assumption) rfl | exact CellsAt.slj (by (repeat (first | exact Has.here | apply Has.next)); done) (by assumption) rfl rfl | apply CellsAt.next))) ?_
    | refine Tr.box rfl fun _ => ?_
    | refine Tr.alloc rfl fun _ => ?_
    | refine Tr.build rfl ?_
    | refine Tr.drewK ?_
    | refine Tr.eqR rfl ?_
    | refine Tr.storeW rfl rfl rfl (by (repeat (first | exact Upd.here | apply Upd.next)); done) (by rfl) ?_
    | refine Tr.store rfl rfl rfl (by (repeat (first | exact Upd.here | apply Upd.next)); done) (by first | exact Nat.le_of_ble_eq_true rfl | (simp only [WKl, setL_length, En.len]; omega)) ?_
    | refine Tr.len (by (repeat (first | exact Has.here | apply Has.next)); done) ?_
    | refine Tr.cutTo (by (repeat (first | exact Has.here | apply Has.next)); done) (by rfl) (by omega) (by omega) fun _ => ?_
    | refine Tr.lookup (by (repeat (first | exact Has.here | apply Has.next)); done) ?_
    | refine Tr.mapUpdate (by (repeat (first | exact UpdA.here | apply UpdA.next)); done) ?_
    | refine Tr.lenMap (by (repeat (first | exact Has.here | apply Has.next)); done) ?_
    | refine Tr.makeMap fun _ => ?_
    | refine Tr.index (by (repeat (first | exact Has.here | apply Has.next)); done) (by rfl) (by omega) (by omega) ?_
    | refine Tr.condT (by first | rfl | (simp only [decide_eq_true_eq]; omega)) ?_
    | refine Tr.condF (by first | rfl | (simp only [decide_eq_false_iff_not]; omega)) ?_))
  repeat (first | exact hh m | refine Tr.drop ?_)
def Tb.putP (t : Tb) (p : One) (s : Int) : One :=
  let p := { p with state := s }
  let p := if s = 1 ∨ s = 2 then { p with turn := IntKind.i64.wrap (t.turns + 1) } else p
  if s = 2 then p else { p with call := 0, what := 0, wake := 0 }
def Tb.putT (t : Tb) (s : Int) : Int := if s = 1 ∨ s = 2 then IntKind.i64.wrap (t.turns + 1) else t.turns
def Tb.put (t : Tb) (k : Int) (p : One) (s : Int) : Tb := { d := t.d.set k.toNat (t.putP p s), turns := t.putT s }
theorem upsert_kvF (k : Int) (x : One) : ∀ (d : List One) (i : Nat), (i : Int) ≤ k → k < i + d.length → upsert k x.v (kvF i d) = kvF i (d.set (k - i).toNat x)
  | [], i, h1, h2 => by simp at h2; omega
  | y :: d, i, h1, h2 => by
    simp only [kvF, upsert]
    by_cases h : k = i
    · subst h; simp [kvF]
    · rw [if_neg h]
      have h3 : (k - (i : Int)).toNat = (k - ((i + 1 : Nat) : Int)).toNat + 1 := by omega
      rw [h3, List.set_cons_succ, kvF, upsert_kvF k x d (i + 1) (by omega) (by simp at h2; push_cast; omega)]
theorem put_d (t : Tb) (k : Int) (p : One) (s : Int) (h0 : 0 ≤ k) (h1 : k < t.d.length) : kvF 0 (t.put k p s).d = upsert k (t.putP p s).v (kvF 0 t.d) := by
  rw [upsert_kvF k _ t.d 0 (by simpa using h0) (by simpa using h1)]; simp [Tb.put]
theorem put_ok (a : Nat) (t : Tb) (k : Int) (p : One) (s : Int) (h0 : 0 ≤ k) (h1 : k < t.d.length) : Trip Try.prog 80 [.pointer (some ⟨a, 0, none⟩), .int .i64 k, p.v, .int .i64 s].toArray [tabA a t] fun v l' => v = .tuple #[] ∧ l' = [tabA a (t.put k p s)] := by
  intro F K hK
  have hh := hK _ _ ⟨rfl, rfl⟩
  simp only [List.cons_append, List.nil_append, tabA, Tr.ex_iff, Tr.sep_iff] at hh ⊢
  intro m
  have hm := hh m
  rw [put_d t k p s h0 h1] at hm
  clear hh hK
  refine Tr.enter (rs := []) mixed fn80 rfl (by simp +arith [Try.ntmps80]) fun u => ?_
  simp only [cd80, Try.f80]
  cases e1 : decide (s = 1) <;> cases e2 : decide (s = 2)
  · have f1 : ¬ s = 1 := by simpa using e1
    have f2 : ¬ s = 2 := by simpa using e2
    simp only [Tb.put, Tb.putP, Tb.putT, f1, f2, or_self, if_false] at hm
    (repeat (first
    | simp only [WKb, ↓reduceIte, Nat.reduceEqDiff, Nat.reduceAdd, Nat.reduceSub, pl80, e1, e2]
    | refine Tr.load1 (by (repeat (first | exact Cell.blk rfl | exact Cell.rob rfl | exact Cell.sl0 (by (repeat (first | exact Has.here | apply Has.next)); done) (by assumption) rfl | exact Cell.slj (by (repeat (first | exact Has.here | apply Has.next)); done) (by assumption) rfl | apply Cell.next))) ?_
    | refine Tr.loadN (by (repeat (first | exact CellsAt.blk0 rfl | exact CellsAt.blk rfl rfl | exact CellsAt.rob0 rfl | exact CellsAt.rob rfl rfl | exact CellsAt.sl0 (by (repeat (first | exact Has.here | apply Has.next)); done) (by assumption) rfl | exact CellsAt.slj (by (repeat (first | exact Has.here | apply Has.next)); done) (by assumption) rfl rfl | apply CellsAt.next))) ?_
    | refine Tr.box rfl fun _ => ?_
    | refine Tr.alloc rfl fun _ => ?_
    | refine Tr.build rfl ?_
    | refine Tr.drewK ?_
    | refine Tr.eqR rfl ?_
    | refine Tr.storeW rfl rfl rfl (by (repeat (first | exact Upd.here | apply Upd.next)); done) (by rfl) ?_
    | refine Tr.store rfl rfl rfl (by (repeat (first | exact Upd.here | apply Upd.next)); done) (by first | exact Nat.le_of_ble_eq_true rfl | (simp only [WKl, setL_length, En.len]; omega)) ?_
    | refine Tr.len (by (repeat (first | exact Has.here | apply Has.next)); done) ?_
    | refine Tr.cutTo (by (repeat (first | exact Has.here | apply Has.next)); done) (by rfl) (by omega) (by omega) fun _ => ?_
    | refine Tr.lookup (by (repeat (first | exact Has.here | apply Has.next)); done) ?_
    | refine Tr.mapUpdate (by (repeat (first | exact UpdA.here | apply UpdA.next)); done) ?_
    | refine Tr.lenMap (by (repeat (first | exact Has.here | apply Has.next)); done) ?_
    | refine Tr.makeMap fun _ => ?_
    | refine Tr.index (by (repeat (first | exact Has.here | apply Has.next)); done) (by rfl) (by omega) (by omega) ?_
    | refine Tr.condT (by first | rfl | (simp only [decide_eq_true_eq]; omega)) ?_
    | refine Tr.condF (by first | rfl | (simp only [decide_eq_false_iff_not]; omega)) ?_))
    repeat (first | exact hm | refine Tr.drop ?_)
  · have f1 : ¬ s = 1 := by simpa using e1
    have f2 : s = 2 := by simpa using e2
    simp only [Tb.put, Tb.putP, Tb.putT, f2, or_true, if_true] at hm
    (repeat (first
    | simp only [WKb, ↓reduceIte, Nat.reduceEqDiff, Nat.reduceAdd, Nat.reduceSub, pl80, e1, e2]
    | refine Tr.load1 (by (repeat (first | exact Cell.blk rfl | exact Cell.rob rfl | exact Cell.sl0 (by (repeat (first | exact Has.here | apply Has.next)); done) (by assumption) rfl | exact Cell.slj (by (repeat (first | exact Has.here | apply Has.next)); done) (by assumption) rfl | apply Cell.next))) ?_
    | refine Tr.loadN (by (repeat (first | exact CellsAt.blk0 rfl | exact CellsAt.blk rfl rfl | exact CellsAt.rob0 rfl | exact CellsAt.rob rfl rfl | exact CellsAt.sl0 (by (repeat (first | exact Has.here | apply Has.next)); done) (by assumption) rfl | exact CellsAt.slj (by (repeat (first | exact Has.here | apply Has.next)); done) (by assumption) rfl rfl | apply CellsAt.next))) ?_
    | refine Tr.box rfl fun _ => ?_
    | refine Tr.alloc rfl fun _ => ?_
    | refine Tr.build rfl ?_
    | refine Tr.drewK ?_
    | refine Tr.eqR rfl ?_
    | refine Tr.storeW rfl rfl rfl (by (repeat (first | exact Upd.here | apply Upd.next)); done) (by rfl) ?_
    | refine Tr.store rfl rfl rfl (by (repeat (first | exact Upd.here | apply Upd.next)); done) (by first | exact Nat.le_of_ble_eq_true rfl | (simp only [WKl, setL_length, En.len]; omega)) ?_
    | refine Tr.len (by (repeat (first | exact Has.here | apply Has.next)); done) ?_
    | refine Tr.cutTo (by (repeat (first | exact Has.here | apply Has.next)); done) (by rfl) (by omega) (by omega) fun _ => ?_
    | refine Tr.lookup (by (repeat (first | exact Has.here | apply Has.next)); done) ?_
    | refine Tr.mapUpdate (by (repeat (first | exact UpdA.here | apply UpdA.next)); done) ?_
    | refine Tr.lenMap (by (repeat (first | exact Has.here | apply Has.next)); done) ?_
    | refine Tr.makeMap fun _ => ?_
    | refine Tr.index (by (repeat (first | exact Has.here | apply Has.next)); done) (by rfl) (by omega) (by omega) ?_
    | refine Tr.condT (by first | rfl | (simp only [decide_eq_true_eq]; omega)) ?_
    | refine Tr.condF (by first | rfl | (simp only [decide_eq_false_iff_not]; omega)) ?_))
    subst f2
    repeat (first | exact hm | refine Tr.drop ?_)
  · have f1 : s = 1 := by simpa using e1
    have f2 : ¬ s = 2 := by simpa using e2
    simp only [Tb.put, Tb.putP, Tb.putT, f1, true_or, if_true, show ¬ ((1 : Int) = 2) by decide, if_false] at hm
    (repeat (first
    | simp only [WKb, ↓reduceIte, Nat.reduceEqDiff, Nat.reduceAdd, Nat.reduceSub, pl80, e1, e2]
    | refine Tr.load1 (by (repeat (first | exact Cell.blk rfl | exact Cell.rob rfl | exact Cell.sl0 (by (repeat (first | exact Has.here | apply Has.next)); done) (by assumption) rfl | exact Cell.slj (by (repeat (first | exact Has.here | apply Has.next)); done) (by assumption) rfl | apply Cell.next))) ?_
    | refine Tr.loadN (by (repeat (first | exact CellsAt.blk0 rfl | exact CellsAt.blk rfl rfl | exact CellsAt.rob0 rfl | exact CellsAt.rob rfl rfl | exact CellsAt.sl0 (by (repeat (first | exact Has.here | apply Has.next)); done) (by assumption) rfl | exact CellsAt.slj (by (repeat (first | exact Has.here | apply Has.next)); done) (by assumption) rfl rfl | apply CellsAt.next))) ?_
    | refine Tr.box rfl fun _ => ?_
    | refine Tr.alloc rfl fun _ => ?_
    | refine Tr.build rfl ?_
    | refine Tr.drewK ?_
    | refine Tr.eqR rfl ?_
    | refine Tr.storeW rfl rfl rfl (by (repeat (first | exact Upd.here | apply Upd.next)); done) (by rfl) ?_
    | refine Tr.store rfl rfl rfl (by (repeat (first | exact Upd.here | apply Upd.next)); done) (by first | exact Nat.le_of_ble_eq_true rfl | (simp only [WKl, setL_length, En.len]; omega)) ?_
    | refine Tr.len (by (repeat (first | exact Has.here | apply Has.next)); done) ?_
    | refine Tr.cutTo (by (repeat (first | exact Has.here | apply Has.next)); done) (by rfl) (by omega) (by omega) fun _ => ?_
    | refine Tr.lookup (by (repeat (first | exact Has.here | apply Has.next)); done) ?_
    | refine Tr.mapUpdate (by (repeat (first | exact UpdA.here | apply UpdA.next)); done) ?_
    | refine Tr.lenMap (by (repeat (first | exact Has.here | apply Has.next)); done) ?_
    | refine Tr.makeMap fun _ => ?_
    | refine Tr.index (by (repeat (first | exact Has.here | apply Has.next)); done) (by rfl) (by omega) (by omega) ?_
    | refine Tr.condT (by first | rfl | (simp only [decide_eq_true_eq]; omega)) ?_
    | refine Tr.condF (by first | rfl | (simp only [decide_eq_false_iff_not]; omega)) ?_))
    subst f1
    repeat (first | exact hm | refine Tr.drop ?_)
  · exfalso
    have f1 : s = 1 := by simpa using e1
    have f2 : s = 2 := by simpa using e2
    omega
end Go.Proofs.Ytlmcoiloepoggaa
