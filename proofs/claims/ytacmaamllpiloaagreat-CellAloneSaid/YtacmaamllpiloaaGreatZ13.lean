import Derived.Test.YtacmaamllpiloaaGreatTab
import Derived.Test.YtacmaamllpiloaaGreatZ06
namespace Go.Proofs.YtacmaamllpiloaaGreat
open Go Go.Wk
set_option maxHeartbeats 400000
attribute [local irreducible] BrK GenK EGenK EUnitK CallK FnK CallV GuardO GuardC CondW opX opK opKc chkR eqR seqK blkK endL WL WD W LoopW BinK Tr drewK resL PickK NotK NilK ExtrK getK Instr.storeAt Instr.loadAt Instr.fieldAt Instr.indexAt Instr.lookup Instr.mapUpdate Instr.box Instr.alloc Instr.build Instr.buildSlice Instr.makeSlice Instr.makeMap Instr.sliceAt Instr.field Instr.index Instr.makeInterface Instr.typeAssert Builtin.len_ Builtin.append_ Builtin.cap_ Builtin.min_ Builtin.max_ Builtin.copy_ Builtin.clear_ convert binOp mp blk rob sl sep ex fact old
set_option maxRecDepth 10000
structure One where
 cprio : Int
 period : Int
 cost : Int
 call : Int
 what : Int
 wake : Int
 state : Int
 prio : Int
 turn : Int
 next : Int
 parked : Bool
def One.zero : One := ⟨0, 0, 0, 0, 0, 0, 0, 0, 0, 0, false⟩
instance : En One := ⟨fun d => [.int .i64 d.cprio, .int .i64 d.period, .int .i64 d.cost, .int .i64 d.call, .int .i64 d.what, .int .i64 d.wake, .int .i64 d.state, .int .i64 d.prio, .int .i64 d.turn, .int .i64 d.next, .bool d.parked], 11, fun _ => rfl, fun _ => rfl, by decide⟩
def One.ready (d : One) : Bool := decide (d.state = 1) && !d.parked
def One.v (d : One) : Value := .agg (En.enc d).toArray
structure Tb where
 d : List One
 turns : Int
def kvF (k : Nat) : List One → List (Int × Value)
 | [] => []
 | x :: r => ((k : Int), x.v) :: kvF (k + 1) r
def Tb.at (t : Tb) (k : Int) : One := if 0 ≤ k then t.d.getD k.toNat One.zero else One.zero
def Tb.has (t : Tb) (k : Int) : Bool := decide (0 ≤ k ∧ k < t.d.length)
def tabA (a : Nat) (t : Tb) : Asrt := ex fun m => sep (blk a (.cells [.map (some m), .int .i64 t.turns].toArray 155 (0, 0))) (mp m (kvF 0 t.d))
theorem find_kvF (k : Int) : ∀ (d : List One) (i : Nat), find k (kvF i d) = if (i : Int) ≤ k ∧ k < i + d.length then some (d.getD (k - i).toNat One.zero).v else none
 | [], i => by simp only [kvF, find, List.length_nil]; rw [if_neg (by omega)]
 | x :: d, i => by
  simp only [kvF, find, find_kvF k d (i + 1), List.length_cons]
  by_cases h : k = i
  ·subst h; simp; omega
  ·rw [if_neg h]
   by_cases h2 : (i : Int) ≤ k ∧ k < i + (d.length + 1)
   ·rw [if_pos (by omega), if_pos (by push_cast; omega)]
    have : (k - i).toNat = (k - ((i : Nat) + 1 : Nat)).toNat + 1 := by omega
    rw [this, List.getD_cons_succ]
   ·rw [if_neg (by omega), if_neg (by push_cast; omega)]
theorem find_tab (t : Tb) (k : Int) : (find k (kvF 0 t.d)).getD One.zero.v = (t.at k).v ∧ (find k (kvF 0 t.d)).isSome = t.has k := by
 rw [find_kvF]
 unfold Tb.at Tb.has
 by_cases h : 0 ≤ k ∧ k < t.d.length
 ·rw [if_pos (by simpa using h), if_pos h.1]; simp [h]
 ·rw [if_neg (by simpa using h)]
  constructor
  ·by_cases h0 : 0 ≤ k
   ·rw [if_pos h0]
    have : t.d.length ≤ k.toNat := by omega
    simp [List.getD_eq_getElem?_getD, List.getElem?_eq_none this]
   ·rw [if_neg h0]; rfl
  ·simp [h]
theorem find_tab1 (t : Tb) (k : Int) : (find k (kvF 0 t.d)).getD (.agg #[.int .i64 0, .int .i64 0, .int .i64 0, .int .i64 0, .int .i64 0, .int .i64 0, .int .i64 0, .int .i64 0, .int .i64 0, .int .i64 0, .bool false]) = (t.at k).v := (find_tab t k).1
theorem find_tab2 (t : Tb) (k : Int) : (find k (kvF 0 t.d)).isSome = t.has k := (find_tab t k).2
theorem kvF_length : ∀ (d : List One) (i : Nat), (kvF i d).length = d.length
 | [], _ => rfl
 | _ :: d, i => by simp [kvF, kvF_length d]
theorem ready_ok (d : One) : Trip Tryz.prog 154 [d.v].toArray [] fun v l' => v = .bool d.ready ∧ l' = [] := by
 intro F K hK
 (refine Tr.enter (rs := [.tmp 2]) mixed fn154 rfl (by simp +arith [Tryz.ntmps154]) fun u => ?_; simp only [cd154, Tryz.f154])
 (repeat (first
  | simp only [WKb, ↓reduceIte, Nat.reduceEqDiff]
  | refine Tr.load1 (by (repeat (first | exact Cell.blk rfl | apply Cell.next))) ?_
  | refine Tr.box rfl fun _ => ?_
  | fail))
 refine Tr.guardT (fun hc => ?_) (fun hc => ?_)
 all_goals
  (repeat (first
  | simp only [WKb, ↓reduceIte, Nat.reduceEqDiff, hc]
  | refine Tr.load1 (by (repeat (first | exact Cell.blk rfl | apply Cell.next))) ?_
  | fail))
  refine Tr.drop (hK _ _ ⟨?_, rfl⟩)
  simp [One.ready, hc]
theorem len_ok (a : Nat) (t : Tb) : Trip Tryz.prog 56 [.pointer (some ⟨a, 0, none⟩)].toArray [tabA a t] fun v l' => v = .int .i64 t.d.length ∧ l' = [tabA a t] := by
 intro F K hK
 have hh := hK _ _ ⟨rfl, rfl⟩
 simp only [List.cons_append, List.nil_append, tabA, Tr.ex_iff, Tr.sep_iff] at hh ⊢
 intro m
 (refine Tr.enter (rs := [.tmp 2]) mixed fn56 rfl (by simp +arith [Tryz.ntmps56]) fun u => ?_; simp only [cd56, Tryz.f56])
 (repeat (first
  | simp only [WKb, ↓reduceIte, Nat.reduceEqDiff]
  | refine Tr.load1 (by (repeat (first | exact Cell.blk rfl | apply Cell.next))) ?_
  | refine Tr.lenMap (by (repeat (first | exact Has.here | apply Has.next)); done) ?_
  | fail))
 rw [kvF_length]
 exact hh m
theorem find_ok (a : Nat) (t : Tb) (k : Int) : Trip Tryz.prog 153 [.pointer (some ⟨a, 0, none⟩), .int .i64 k].toArray [tabA a t] fun v l' => v = .tuple #[(t.at k).v, .bool (t.has k)] ∧ l' = [tabA a t] := by
 intro F K hK
 have hh := hK _ _ ⟨rfl, rfl⟩
 simp only [List.cons_append, List.nil_append, tabA, Tr.ex_iff, Tr.sep_iff] at hh ⊢
 intro m
 (refine Tr.enter (rs := [.cell 4 152, .tmp 5]) mixed fn153 rfl (by simp +arith [Tryz.ntmps153]) fun u => ?_; simp only [cd153, Tryz.f153])
 (repeat (first
  | simp only [WKb, ↓reduceIte, Nat.reduceEqDiff, Nat.reduceAdd, find_tab1, find_tab2]
  | refine Tr.load1 (by (repeat (first | exact Cell.blk rfl | apply Cell.next))) ?_
  | refine Tr.loadN (by (repeat (first | exact CellsAt.blk0 rfl | apply CellsAt.next))) ?_
  | refine Tr.alloc rfl fun _ => ?_
  | refine Tr.storeW rfl rfl rfl (by (repeat (first | exact Upd.here | apply Upd.next)); done) (by rfl) ?_
  | refine Tr.lookup (by (repeat (first | exact Has.here | apply Has.next)); done) ?_
  | fail))
 repeat (first | exact hh m | refine Tr.drop ?_)
def Tb.putP (t : Tb) (p : One) (s : Int) : One :=
 let p := { p with state := s }
 let p := if s = 1 ∨ s = 2 then { p with turn := IntKind.i64.wrap (t.turns + 1) } else p
 if s = 2 then p else { p with call := 0, what := 0, wake := 0 }
def Tb.putT (t : Tb) (s : Int) : Int := if s = 1 ∨ s = 2 then IntKind.i64.wrap (t.turns + 1) else t.turns
def Tb.put (t : Tb) (k : Int) (p : One) (s : Int) : Tb := { d := t.d.set k.toNat (t.putP p s), turns := t.putT s }
theorem upsert_kvF (k : Int) (x : One) : ∀ (d : List One) (i : Nat), (i : Int) ≤ k → k < i + d.length → upsert k x.v (kvF i d) = kvF i (d.set (k - i).toNat x)
 | [], i, h1, h2 => by simp at h2; omega
 | y :: d, i, h1, h2 => by
  simp only [kvF, upsert]
  by_cases h : k = i
  ·subst h; simp [kvF]
  ·rw [if_neg h]
   have h3 : (k - (i : Int)).toNat = (k - ((i + 1 : Nat) : Int)).toNat + 1 := by omega
   rw [h3, List.set_cons_succ, kvF, upsert_kvF k x d (i + 1) (by omega) (by simp at h2; push_cast; omega)]
theorem put_d (t : Tb) (k : Int) (p : One) (s : Int) (h0 : 0 ≤ k) (h1 : k < t.d.length) : kvF 0 (t.put k p s).d = upsert k (t.putP p s).v (kvF 0 t.d) := by
 rw [upsert_kvF k _ t.d 0 (by simpa using h0) (by simpa using h1)]; simp [Tb.put]
theorem put_ok (a : Nat) (t : Tb) (k : Int) (p : One) (s : Int) (h0 : 0 ≤ k) (h1 : k < t.d.length) : Trip Tryz.prog 142 [.pointer (some ⟨a, 0, none⟩), .int .i64 k, p.v, .int .i64 s].toArray [tabA a t] fun v l' => v = .tuple #[] ∧ l' = [tabA a (t.put k p s)] := by
 intro F K hK
 have hh := hK _ _ ⟨rfl, rfl⟩
 simp only [List.cons_append, List.nil_append, tabA, Tr.ex_iff, Tr.sep_iff] at hh ⊢
 intro m
 have hm := hh m
 rw [put_d t k p s h0 h1] at hm
 clear hh hK
 (refine Tr.enter (rs := []) mixed fn142 rfl (by simp +arith [Tryz.ntmps142]) fun u => ?_; simp only [cd142, Tryz.f142])
 cases e1 : decide (s = 1) <;> cases e2 : decide (s = 2)
 ·have f1 : ¬ s = 1 := by simpa using e1
  have f2 : ¬ s = 2 := by simpa using e2
  simp only [Tb.put, Tb.putP, Tb.putT, f1, f2, or_self, if_false] at hm
  (repeat (first
  | simp only [WKb, ↓reduceIte, Nat.reduceEqDiff, Nat.reduceAdd, pl142, e1, e2]
  | refine Tr.load1 (by (repeat (first | exact Cell.blk rfl | apply Cell.next))) ?_
  | refine Tr.loadN (by (repeat (first | exact CellsAt.blk0 rfl | apply CellsAt.next))) ?_
  | refine Tr.box rfl fun _ => ?_
  | refine Tr.build rfl ?_
  | refine Tr.drewK ?_
  | refine Tr.store rfl rfl rfl (by (repeat (first | exact Upd.here | apply Upd.next)); done) (by first | exact Nat.le_of_ble_eq_true rfl | fail) ?_
  | refine Tr.mapUpdate (by (repeat (first | exact UpdA.here | apply UpdA.next)); done) ?_
  | fail))
  repeat (first | exact hm | refine Tr.drop ?_)
 ·have f1 : ¬ s = 1 := by simpa using e1
  have f2 : s = 2 := by simpa using e2
  simp only [Tb.put, Tb.putP, Tb.putT, f2, or_true, if_true] at hm
  (repeat (first
  | simp only [WKb, ↓reduceIte, Nat.reduceEqDiff, Nat.reduceAdd, pl142, e1, e2]
  | refine Tr.load1 (by (repeat (first | exact Cell.blk rfl | apply Cell.next))) ?_
  | refine Tr.loadN (by (repeat (first | exact CellsAt.blk0 rfl | apply CellsAt.next))) ?_
  | refine Tr.box rfl fun _ => ?_
  | refine Tr.drewK ?_
  | refine Tr.store rfl rfl rfl (by (repeat (first | exact Upd.here | apply Upd.next)); done) (by first | exact Nat.le_of_ble_eq_true rfl | fail) ?_
  | refine Tr.mapUpdate (by (repeat (first | exact UpdA.here | apply UpdA.next)); done) ?_
  | fail))
  subst f2
  repeat (first | exact hm | refine Tr.drop ?_)
 ·have f1 : s = 1 := by simpa using e1
  have f2 : ¬ s = 2 := by simpa using e2
  simp only [Tb.put, Tb.putP, Tb.putT, f1, true_or, if_true, show ¬ ((1 : Int) = 2) by decide, if_false] at hm
  (repeat (first
  | simp only [WKb, ↓reduceIte, Nat.reduceEqDiff, Nat.reduceAdd, pl142, e1, e2]
  | refine Tr.load1 (by (repeat (first | exact Cell.blk rfl | apply Cell.next))) ?_
  | refine Tr.loadN (by (repeat (first | exact CellsAt.blk0 rfl | apply CellsAt.next))) ?_
  | refine Tr.box rfl fun _ => ?_
  | refine Tr.build rfl ?_
  | refine Tr.drewK ?_
  | refine Tr.store rfl rfl rfl (by (repeat (first | exact Upd.here | apply Upd.next)); done) (by first | exact Nat.le_of_ble_eq_true rfl | fail) ?_
  | refine Tr.mapUpdate (by (repeat (first | exact UpdA.here | apply UpdA.next)); done) ?_
  | fail))
  subst f1
  repeat (first | exact hm | refine Tr.drop ?_)
 ·exfalso
  have f1 : s = 1 := by simpa using e1
  have f2 : s = 2 := by simpa using e2
  omega
end Go.Proofs.YtacmaamllpiloaaGreat
namespace Go.Proofs.YtacmaamllpiloaaGreat
open Go Go.Wk
set_option maxHeartbeats 400000
attribute [local irreducible] BrK GenK EGenK EUnitK CallK FnK CallV GuardO GuardC CondW opX opK opKc chkR eqR seqK blkK endL WL WD W LoopW BinK Tr drewK resL PickK NotK NilK ExtrK getK Instr.storeAt Instr.loadAt Instr.fieldAt Instr.indexAt Instr.lookup Instr.mapUpdate Instr.box Instr.alloc Instr.build Instr.buildSlice Instr.makeSlice Instr.makeMap Instr.sliceAt Instr.field Instr.index Instr.makeInterface Instr.typeAssert Builtin.len_ Builtin.append_ Builtin.cap_ Builtin.min_ Builtin.max_ Builtin.copy_ Builtin.clear_ convert binOp mp blk rob sl sep ex fact old
set_option maxRecDepth 10000
def One.ahead (p q : One) : Bool := if p.prio = q.prio then decide (p.turn < q.turn) else decide (q.prio < p.prio)
theorem ahead_ok (p q : One) : Trip Tryz.prog 226 [p.v, q.v].toArray [] fun v l' => v = .bool (p.ahead q) ∧ l' = [] := by
 intro F K hK
 have hh := hK _ _ ⟨rfl, rfl⟩
 simp only [List.nil_append] at hh ⊢
 clear hK
 (refine Tr.enter (rs := [.tmp 4]) mixed fn226 rfl (by simp +arith [Tryz.ntmps226]) fun u => ?_; simp only [cd226, Tryz.f226])
 cases e1 : decide (p.prio = q.prio)
 ·have f1 : ¬ p.prio = q.prio := by simpa using e1
  simp only [One.ahead, if_neg f1] at hh
  (repeat (first
  | simp only [WKb, ↓reduceIte, Nat.reduceEqDiff, Nat.reduceAdd, e1]
  | refine Tr.load1 (by (repeat (first | exact Cell.blk rfl | apply Cell.next))) ?_
  | refine Tr.box rfl fun _ => ?_
  | fail))
  repeat (first | exact hh | refine Tr.drop ?_)
 ·have f1 : p.prio = q.prio := by simpa using e1
  simp only [One.ahead, if_pos f1] at hh
  (repeat (first
  | simp only [WKb, ↓reduceIte, Nat.reduceEqDiff, Nat.reduceAdd, e1]
  | refine Tr.load1 (by (repeat (first | exact Cell.blk rfl | apply Cell.next))) ?_
  | refine Tr.box rfl fun _ => ?_
  | fail))
  repeat (first | exact hh | refine Tr.drop ?_)
def Tb.bestTo (t : Tb) (q : One → Bool) : Nat → Int
 | 0 => -1
 | k + 1 => if q (t.at k) && (decide (t.bestTo q k < 0) || (t.at k).ahead (t.at (t.bestTo q k))) then k else t.bestTo q k
def Tb.best (t : Tb) (q : One → Bool) : Int := t.bestTo q t.d.length
theorem bestTo_ge (t : Tb) (q : One → Bool) : ∀ k, -1 ≤ t.bestTo q k ∧ t.bestTo q k < k
 | 0 => by simp [Tb.bestTo]
 | k + 1 => by
  have := bestTo_ge t q k
  unfold Tb.bestTo
  split <;> omega
theorem wrap_id {x : Int} (h0 : -9223372036854775808 ≤ x) (h1 : x ≤ 9223372036854775807) : IntKind.i64.wrap x = x := by
 apply Go.IntWalk.i64_in <;> omega
theorem best_ok (a : Nat) (t : Tb) (f : Nat) [IsFn Tryz.prog f] (cap : List Value) (C : List Asrt) (q : One → Bool) (hn : t.d.length ≤ 1000000)
  (hq : ∀ d : One, Trip Tryz.prog f (d.v :: cap).toArray C fun v l' => v = .bool (q d) ∧ l' = C) :
  Trip Tryz.prog 147 [.pointer (some ⟨a, 0, none⟩), .func (.func f) #[] cap.toArray].toArray (tabA a t :: C) fun v l' => v = .int .i64 (t.best q) ∧ l' = tabA a t :: C := by
 intro F K hK
 have hh := hK _ _ ⟨rfl, rfl⟩
 clear hK
 (refine Tr.enter (rs := [.tmp 4]) mixed fn147 rfl (by simp +arith [Tryz.ntmps147]) fun u => ?_; simp only [cd147, Tryz.f147])
 (repeat (first
  | simp only [WKb, ↓reduceIte, Nat.reduceEqDiff, Nat.reduceAdd]
  | fail))
 refine Tr.call (len_ok a t) [0] rfl ?_
 rintro v l' ⟨rfl, rfl⟩
 (repeat (first
  | simp only [WKb]
  | fail))
 refine Tr.loop (α := Nat) [5, 10] [0, 1, 6, 9] (fun k => [.int .i64 (t.bestTo q k), .int .i64 k]) (fun _ => []) (fun k => k ≤ t.d.length) (fun k => t.d.length - k) 0 (by omega) rfl (fun w h => h) fun k u hk => ?_
 have hb := bestTo_ge t q k
 by_cases hlt : k < t.d.length
 ·simp only [List.nil_append, tabA, Tr.ex_iff, Tr.sep_iff]
  intro m
  (repeat (first
  | simp only [WKb, ↓reduceIte, Nat.reduceEqDiff, pl147, find_tab1]
  | refine Tr.load1 (by (repeat (first | exact Cell.blk rfl | apply Cell.next))) ?_
  | refine Tr.drewK ?_
  | refine Tr.lookup (by (repeat (first | exact Has.here | apply Has.next)); done) ?_
  | refine Tr.condT (by first | rfl | (simp only [decide_eq_true_eq]; omega)) ?_
  | fail))
  refine Tr.mid (l1 := [_, _]) ?_
  refine hq _ _ _ ?_
  rintro v l' ⟨rfl, hl⟩
  rw [hl]; clear hl
  refine Tr.back ?_
  simp only [List.nil_append, List.cons_append]
  have hw : IntKind.i64.wrap ((k : Int) + 1) = ((k + 1 : Nat) : Int) := by rw [wrap_id (by omega) (by omega)]; rfl
  cases e1 : q (t.at k)
  ·have hs : t.bestTo q (k + 1) = t.bestTo q k := by simp [Tb.bestTo, e1]
   (repeat (first
  | simp only [WKb, ↓reduceIte, Nat.reduceEqDiff]
  | fail))
   refine Tr.again (k + 1) (by simp only [WKb, ↓reduceIte, Nat.reduceEqDiff]) (by simp only [WKb, ↓reduceIte, Nat.reduceEqDiff, hw, hs]) (by omega) (by omega) ?_
   exact Tr.sat_of fun w hw => by
    simp only [List.nil_append, Sat.ex_iff, Sat.sep_iff]
    exact ⟨m, hw⟩
  ·cases e2 : decide (t.bestTo q k < 0)
   ·(repeat (first
  | simp only [WKb, ↓reduceIte, Nat.reduceEqDiff, e2, find_tab1]
  | refine Tr.load1 (by (repeat (first | exact Cell.blk rfl | apply Cell.next))) ?_
  | refine Tr.lookup (by (repeat (first | exact Has.here | apply Has.next)); done) ?_
  | fail))
    refine Tr.call (ahead_ok _ _) [] rfl ?_
    rintro v l' ⟨rfl, rfl⟩
    cases e3 : (t.at k).ahead (t.at (t.bestTo q k))
    ·have hs : t.bestTo q (k + 1) = t.bestTo q k := by simp [Tb.bestTo, e1, e2, e3]
     (repeat (first
  | simp only [WKb, ↓reduceIte, Nat.reduceEqDiff]
  | fail))
     refine Tr.again (k + 1) (by simp only [WKb, ↓reduceIte, Nat.reduceEqDiff]) (by simp only [WKb, ↓reduceIte, Nat.reduceEqDiff, hw, hs]) (by omega) (by omega) ?_
     exact Tr.sat_of fun w hw => by
      simp only [List.nil_append, Sat.ex_iff, Sat.sep_iff]
      exact ⟨m, hw⟩
    ·have hs : t.bestTo q (k + 1) = k := by simp [Tb.bestTo, e1, e2, e3]
     (repeat (first
  | simp only [WKb, ↓reduceIte, Nat.reduceEqDiff]
  | fail))
     refine Tr.again (k + 1) (by simp only [WKb, ↓reduceIte, Nat.reduceEqDiff]) (by simp only [WKb, ↓reduceIte, Nat.reduceEqDiff, hw, hs]) (by omega) (by omega) ?_
     exact Tr.sat_of fun w hw => by
      simp only [List.nil_append, Sat.ex_iff, Sat.sep_iff]
      exact ⟨m, hw⟩
   ·have hs : t.bestTo q (k + 1) = k := by simp [Tb.bestTo, e1, e2]
    (repeat (first
  | simp only [WKb, ↓reduceIte, Nat.reduceEqDiff, e2]
  | fail))
    refine Tr.again (k + 1) (by simp only [WKb, ↓reduceIte, Nat.reduceEqDiff]) (by simp only [WKb, ↓reduceIte, Nat.reduceEqDiff, hw, hs]) (by omega) (by omega) ?_
    exact Tr.sat_of fun w hw => by
     simp only [List.nil_append, Sat.ex_iff, Sat.sep_iff]
     exact ⟨m, hw⟩
 ·have : k = t.d.length := by omega
  subst this
  (repeat (first
  | simp only [WKb, ↓reduceIte, Nat.reduceEqDiff]
  | refine Tr.condF (by first | rfl | (simp only [decide_eq_false_iff_not]; omega)) ?_))
  exact hh
end Go.Proofs.YtacmaamllpiloaaGreat
namespace Go.Proofs.YtacmaamllpiloaaGreat
open Go Go.Wk
set_option maxHeartbeats 400000
attribute [local irreducible] BrK GenK EGenK EUnitK CallK FnK CallV GuardO GuardC CondW opX opK opKc chkR eqR seqK blkK endL WL WD W LoopW BinK Tr drewK resL PickK NotK NilK ExtrK getK Instr.storeAt Instr.loadAt Instr.fieldAt Instr.indexAt Instr.lookup Instr.mapUpdate Instr.box Instr.alloc Instr.build Instr.buildSlice Instr.makeSlice Instr.makeMap Instr.sliceAt Instr.field Instr.index Instr.makeInterface Instr.typeAssert Builtin.len_ Builtin.append_ Builtin.cap_ Builtin.min_ Builtin.max_ Builtin.copy_ Builtin.clear_ convert binOp mp blk rob sl sep ex fact old
set_option maxRecDepth 10000
theorem pick_ok (a : Nat) (t : Tb) (hn : t.d.length ≤ 1000000) : Trip Tryz.prog 99 [.pointer (some ⟨a, 0, none⟩)].toArray [tabA a t] fun v l' => v = .int .i64 (t.best One.ready) ∧ l' = [tabA a t] := by
 intro F K hK
 have hh := hK _ _ ⟨rfl, rfl⟩
 clear hK
 (refine Tr.enter (rs := [.tmp 2]) mixed fn99 rfl (by simp +arith [Tryz.ntmps99]) fun u => ?_; simp only [cd99, Tryz.f99])
 (repeat (first
  | simp only [WKb, ↓reduceIte, Nat.reduceEqDiff]
  | fail))
 refine Tr.call (best_ok a t 154 [] [] One.ready hn (fun d => ready_ok d)) [0] rfl ?_
 rintro v l' ⟨rfl, rfl⟩
 (repeat (first
  | simp only [WKb, ↓reduceIte]
  | fail))
 exact hh
def One.waits (call what : Int) (d : One) : Bool := decide (d.state = 2) && decide (d.call = call) && decide (d.what = what)
theorem first1_ok (b1 b2 : Nat) (call what : Int) (d : One) : Trip Tryz.prog 148 (d.v :: [.pointer (some ⟨b1, 0, none⟩), .pointer (some ⟨b2, 0, none⟩)]).toArray
  [blk b2 (.cells [.int .i64 what].toArray 3 (0, 0)), blk b1 (.cells [.int .i64 call].toArray 3 (0, 0))] fun v l' => v = .bool (d.waits call what) ∧ l' = [blk b2 (.cells [.int .i64 what].toArray 3 (0, 0)), blk b1 (.cells [.int .i64 call].toArray 3 (0, 0))] := by
 intro F K hK
 have hh := hK _ _ ⟨rfl, rfl⟩
 simp only [List.cons_append, List.nil_append] at hh ⊢
 clear hK
 (refine Tr.enter (rs := [.tmp 4]) mixed fn148 rfl (by simp +arith [Tryz.ntmps148]) fun u => ?_; simp only [cd148, Tryz.f148])
 cases e1 : decide (d.state = 2)
 ·simp only [One.waits, e1, Bool.false_and] at hh
  (repeat (first
  | simp only [WKb, ↓reduceIte, Nat.reduceEqDiff, Nat.reduceAdd, e1]
  | refine Tr.load1 (by (repeat (first | exact Cell.blk rfl | apply Cell.next))) ?_
  | refine Tr.box rfl fun _ => ?_
  | fail))
  repeat (first | exact hh | refine Tr.drop ?_)
 ·cases e2 : decide (d.call = call)
  ·simp only [One.waits, e1, e2, Bool.true_and, Bool.false_and] at hh
   (repeat (first
  | simp only [WKb, ↓reduceIte, Nat.reduceEqDiff, Nat.reduceAdd, e1, e2]
  | refine Tr.load1 (by (repeat (first | exact Cell.blk rfl | apply Cell.next))) ?_
  | refine Tr.box rfl fun _ => ?_
  | fail))
   repeat (first | exact hh | refine Tr.drop ?_)
  ·simp only [One.waits, e1, e2, Bool.true_and] at hh
   (repeat (first
  | simp only [WKb, ↓reduceIte, Nat.reduceEqDiff, Nat.reduceAdd, e1, e2]
  | refine Tr.load1 (by (repeat (first | exact Cell.blk rfl | apply Cell.next))) ?_
  | refine Tr.box rfl fun _ => ?_
  | fail))
   repeat (first | exact hh | refine Tr.drop ?_)
theorem first_ok (a : Nat) (t : Tb) (call what : Int) (hn : t.d.length ≤ 1000000) : Trip Tryz.prog 92 [.pointer (some ⟨a, 0, none⟩), .int .i64 call, .int .i64 what].toArray [tabA a t] fun v l' => v = .int .i64 (t.best (One.waits call what)) ∧ l' = [tabA a t] := by
 intro F K hK
 have hh := hK _ _ ⟨rfl, rfl⟩
 simp only [List.cons_append, List.nil_append] at hh ⊢
 clear hK
 (refine Tr.enter (rs := [.tmp 6]) mixed fn92 rfl (by simp +arith [Tryz.ntmps92]) fun u => ?_; simp only [cd92, Tryz.f92])
 (repeat (first
  | simp only [WKb, ↓reduceIte, Nat.reduceEqDiff, Nat.reduceAdd]
  | refine Tr.box rfl fun _ => ?_
  | fail))
 rename_i b1 b2
 refine Tr.call (best_ok a t 148 [.pointer (some ⟨b1, 0, none⟩), .pointer (some ⟨b2, 0, none⟩)] _ (One.waits call what) hn (fun d => first1_ok b1 b2 call what d)) [2, 0, 0] rfl ?_
 rintro v l' ⟨rfl, rfl⟩
 (repeat (first
  | simp only [WKb, ↓reduceIte]
  | fail))
 refine Tr.front [0] ?_
 refine Tr.perm (List.Perm.swap _ _ _) ?_
 refine Tr.drop ?_
 refine Tr.perm (List.Perm.swap _ _ _) ?_
 exact hh.drop
theorem state_ok (a : Nat) (t : Tb) (k : Int) : Trip Tryz.prog 160 [.pointer (some ⟨a, 0, none⟩), .int .i64 k].toArray [tabA a t] fun v l' => v = .int .i64 (t.at k).state ∧ l' = [tabA a t] := by
 intro F K hK
 have hh := hK _ _ ⟨rfl, rfl⟩
 clear hK
 (refine Tr.enter (rs := [.tmp 4]) mixed fn160 rfl (by simp +arith [Tryz.ntmps160]) fun u => ?_; simp only [cd160, Tryz.f160])
 (repeat (first
  | simp only [WKb, ↓reduceIte, Nat.reduceEqDiff, Nat.reduceAdd]
  | fail))
 refine Tr.call (find_ok a t k) [0] rfl ?_
 rintro v l' ⟨rfl, rfl⟩
 (repeat (first
  | simp only [WKb, ↓reduceIte, Nat.reduceEqDiff]
  | refine Tr.load1 (by (repeat (first | exact Cell.blk rfl | apply Cell.next))) ?_
  | refine Tr.alloc rfl fun _ => ?_
  | refine Tr.storeW rfl rfl rfl (by (repeat (first | exact Upd.here | apply Upd.next)); done) (by rfl) ?_
  | fail))
 repeat (first | exact hh | refine Tr.drop ?_)
def Tb.park (t : Tb) (k : Int) : Tb := if t.has k then { t with d := t.d.set k.toNat { t.at k with parked := true } } else t
theorem park_ok (a : Nat) (t : Tb) (k : Int) : Trip Tryz.prog 118 [.pointer (some ⟨a, 0, none⟩), .int .i64 k].toArray [tabA a t] fun v l' => v = .bool (t.has k) ∧ l' = [tabA a (t.park k)] := by
 intro F K hK
 have hh := hK _ _ ⟨rfl, rfl⟩
 clear hK
 (refine Tr.enter (rs := [.tmp 4]) mixed fn118 rfl (by simp +arith [Tryz.ntmps118]) fun u => ?_; simp only [cd118, Tryz.f118])
 (repeat (first
  | simp only [WKb, ↓reduceIte, Nat.reduceEqDiff, Nat.reduceAdd]
  | fail))
 refine Tr.call (find_ok a t k) [0] rfl ?_
 rintro v l' ⟨rfl, rfl⟩
 cases e : t.has k
 ·simp only [Tb.park, e, Bool.false_eq_true, if_false] at hh
  (repeat (first
  | simp only [WKb, ↓reduceIte, Nat.reduceEqDiff]
  | refine Tr.alloc rfl fun _ => ?_
  | refine Tr.storeW rfl rfl rfl (by (repeat (first | exact Upd.here | apply Upd.next)); done) (by rfl) ?_
  | fail))
  repeat (first | exact hh | refine Tr.drop ?_)
 ·have h01 : 0 ≤ k ∧ k < t.d.length := by simpa [Tb.has] using e
  simp only [Tb.park, e, if_true, tabA, List.cons_append, List.nil_append, Tr.ex_iff, Tr.sep_iff] at hh ⊢
  intro m
  have hm := hh m
  rw [show kvF 0 (t.d.set k.toNat { t.at k with parked := true }) = upsert k ({ t.at k with parked := true } : One).v (kvF 0 t.d) by rw [upsert_kvF k _ t.d 0 (by simpa using h01.1) (by simpa using h01.2)]; simp] at hm
  (repeat (first
  | simp only [WKb, ↓reduceIte, Nat.reduceEqDiff, Nat.reduceAdd, pl118]
  | refine Tr.load1 (by (repeat (first | exact Cell.blk rfl | apply Cell.next))) ?_
  | refine Tr.loadN (by (repeat (first | exact CellsAt.blk0 rfl | apply CellsAt.next))) ?_
  | refine Tr.alloc rfl fun _ => ?_
  | refine Tr.drewK ?_
  | refine Tr.storeW rfl rfl rfl (by (repeat (first | exact Upd.here | apply Upd.next)); done) (by rfl) ?_
  | refine Tr.store rfl rfl rfl (by (repeat (first | exact Upd.here | apply Upd.next)); done) (by first | exact Nat.le_of_ble_eq_true rfl | fail) ?_
  | refine Tr.mapUpdate (by (repeat (first | exact UpdA.here | apply UpdA.next)); done) ?_
  | fail))
  repeat (first | exact hm | refine Tr.drop ?_)
end Go.Proofs.YtacmaamllpiloaaGreat
