import Derived.Test.YtacmaamllpiloaaGreatZ13
import Derived.Test.YtacmaamllpiloaaGreatZ03
namespace Go.Proofs.YtacmaamllpiloaaGreat
open Go Go.Wk
set_option maxHeartbeats 400000
attribute [local irreducible] BrK GenK EGenK EUnitK CallK FnK CallV GuardO GuardC CondW opX opK opKc chkR eqR seqK blkK endL WL WD W LoopW BinK Tr drewK resL PickK NotK NilK ExtrK getK Instr.storeAt Instr.loadAt Instr.fieldAt Instr.indexAt Instr.lookup Instr.mapUpdate Instr.box Instr.alloc Instr.build Instr.buildSlice Instr.makeSlice Instr.makeMap Instr.sliceAt Instr.field Instr.index Instr.makeInterface Instr.typeAssert Builtin.len_ Builtin.append_ Builtin.cap_ Builtin.min_ Builtin.max_ Builtin.copy_ Builtin.clear_ convert binOp mp blk rob sl sep ex fact old
set_option maxRecDepth 10000
theorem has_spec {t : Tb} {k : Int} (h : t.has k = true) : 0 ≤ k ∧ k < t.d.length := by simpa [Tb.has] using h
theorem waits_ok (a : Nat) (t : Tb) (k : Int) : Trip Tryz.prog 98 [.pointer (some ⟨a, 0, none⟩), .int .i64 k].toArray [tabA a t] fun v l' => v = .tuple #[.int .i64 (t.at k).call, .int .i64 (t.at k).what, .int .i64 (t.at k).wake] ∧ l' = [tabA a t] := by
 intro F K hK
 have hh := hK _ _ ⟨rfl, rfl⟩
 clear hK
 (refine Tr.enter (rs := [.tmp 4, .tmp 5, .tmp 6]) mixed fn98 rfl (by simp +arith [Tryz.ntmps98]) fun u => ?_; simp only [cd98, Tryz.f98])
 (repeat (first
  | simp only [WKb, ↓reduceIte, Nat.reduceEqDiff, Nat.reduceAdd]
  | fail))
 refine Tr.call (find_ok a t k) [0] rfl ?_
 rintro v l' ⟨rfl, rfl⟩
 (repeat (first
  | simp only [WKb, ↓reduceIte, Nat.reduceEqDiff, Nat.reduceAdd, pl98]
  | refine Tr.load1 (by (repeat (first | exact Cell.blk rfl | apply Cell.next))) ?_
  | refine Tr.alloc rfl fun _ => ?_
  | refine Tr.drewK ?_
  | refine Tr.storeW rfl rfl rfl (by (repeat (first | exact Upd.here | apply Upd.next)); done) (by rfl) ?_
  | fail))
 repeat (first | exact hh | refine Tr.drop ?_)
def Tb.setB (t : Tb) (k s : Int) : Bool := t.has k && (decide (0 ≤ s) && (decide (s < 5) && !decide (s = 2)))
def Tb.set (t : Tb) (k s : Int) : Tb := if t.setB k s then t.put k (t.at k) s else t
theorem set_ok (a : Nat) (t : Tb) (k s : Int) : Trip Tryz.prog 150 [.pointer (some ⟨a, 0, none⟩), .int .i64 k, .int .i64 s].toArray [tabA a t] fun v l' => v = .bool (t.setB k s) ∧ l' = [tabA a (t.set k s)] := by
 intro F K hK
 have hh := hK _ _ ⟨rfl, rfl⟩
 clear hK
 (refine Tr.enter (rs := [.tmp 6]) mixed fn150 rfl (by simp +arith [Tryz.ntmps150]) fun u => ?_; simp only [cd150, Tryz.f150])
 (repeat (first
  | simp only [WKb, ↓reduceIte, Nat.reduceEqDiff, Nat.reduceAdd]
  | fail))
 refine Tr.call (find_ok a t k) [0] rfl ?_
 rintro v l' ⟨rfl, rfl⟩
 unfold Tb.set at hh
 cases e : t.has k
 ·simp only [Tb.setB, e, Bool.false_and, Bool.false_eq_true, if_false] at hh
  (repeat (first
  | simp only [WKb, ↓reduceIte, Nat.reduceEqDiff]
  | refine Tr.alloc rfl fun _ => ?_
  | refine Tr.storeW rfl rfl rfl (by (repeat (first | exact Upd.here | apply Upd.next)); done) (by rfl) ?_
  | fail))
  repeat (first | exact hh | refine Tr.drop ?_)
 ·cases e1 : decide (s < 0)
  ·have f1 : decide (0 ≤ s) = true := by simp at e1 ⊢; omega
   cases e2 : decide (5 ≤ s)
   ·have f2 : decide (s < 5) = true := by simp at e2 ⊢; omega
    cases e3 : decide (s = 2)
    ·have f3 : ¬ s = 2 := by simpa using e3
     simp only [Tb.setB, e, f1, f2, e3, Bool.true_and, Bool.not_false, if_true] at hh
     (repeat (first
  | simp only [WKb, ↓reduceIte, Nat.reduceEqDiff, e1, e2, e3]
  | refine Tr.loadN (by (repeat (first | exact CellsAt.blk0 rfl | apply CellsAt.next))) ?_
  | refine Tr.alloc rfl fun _ => ?_
  | refine Tr.storeW rfl rfl rfl (by (repeat (first | exact Upd.here | apply Upd.next)); done) (by rfl) ?_
  | fail))
     refine Tr.call (put_ok a t k (t.at k) s (has_spec e).1 (has_spec e).2) [1] rfl ?_
     rintro v l' ⟨rfl, rfl⟩
     (repeat (first
  | simp only [WKb, ↓reduceIte]
  | fail))
     refine Tr.perm (List.Perm.swap _ _ _) ?_
     refine Tr.drop ?_
     exact hh
    ·simp only [Tb.setB, e, f1, f2, e3, Bool.true_and, Bool.not_true, Bool.false_eq_true, if_false] at hh
     (repeat (first
  | simp only [WKb, ↓reduceIte, Nat.reduceEqDiff, e1, e2, e3]
  | refine Tr.alloc rfl fun _ => ?_
  | refine Tr.storeW rfl rfl rfl (by (repeat (first | exact Upd.here | apply Upd.next)); done) (by rfl) ?_
  | fail))
     repeat (first | exact hh | refine Tr.drop ?_)
   ·have f2 : decide (s < 5) = false := by simp at e2 ⊢; omega
    simp only [Tb.setB, e, f1, f2, Bool.true_and, Bool.false_and, Bool.false_eq_true, if_false] at hh
    (repeat (first
  | simp only [WKb, ↓reduceIte, Nat.reduceEqDiff, e1, e2]
  | refine Tr.alloc rfl fun _ => ?_
  | refine Tr.storeW rfl rfl rfl (by (repeat (first | exact Upd.here | apply Upd.next)); done) (by rfl) ?_
  | fail))
    repeat (first | exact hh | refine Tr.drop ?_)
  ·have f1 : decide (0 ≤ s) = false := by simp at e1 ⊢; omega
   simp only [Tb.setB, e, f1, Bool.true_and, Bool.false_and, Bool.false_eq_true, if_false] at hh
   (repeat (first
  | simp only [WKb, ↓reduceIte, Nat.reduceEqDiff, e1]
  | refine Tr.alloc rfl fun _ => ?_
  | refine Tr.storeW rfl rfl rfl (by (repeat (first | exact Upd.here | apply Upd.next)); done) (by rfl) ?_
  | fail))
   repeat (first | exact hh | refine Tr.drop ?_)
def Tb.wait (t : Tb) (k c wh wk : Int) : Tb := if t.has k then t.put k { t.at k with call := c, what := wh, wake := wk } 2 else t
theorem wait_ok (a : Nat) (t : Tb) (k c wh wk : Int) : Trip Tryz.prog 229 [.pointer (some ⟨a, 0, none⟩), .int .i64 k, .int .i64 c, .int .i64 wh, .int .i64 wk].toArray [tabA a t] fun v l' => v = .bool (t.has k) ∧ l' = [tabA a (t.wait k c wh wk)] := by
 intro F K hK
 have hh := hK _ _ ⟨rfl, rfl⟩
 clear hK
 (refine Tr.enter (rs := [.tmp 10]) mixed fn229 rfl (by simp +arith [Tryz.ntmps229]) fun u => ?_; simp only [cd229, Tryz.f229])
 (repeat (first
  | simp only [WKb, ↓reduceIte, Nat.reduceEqDiff, Nat.reduceAdd]
  | fail))
 refine Tr.call (find_ok a t k) [0] rfl ?_
 rintro v l' ⟨rfl, rfl⟩
 unfold Tb.wait at hh
 cases e : t.has k
 ·simp only [e, Bool.false_eq_true, if_false] at hh
  (repeat (first
  | simp only [WKb, ↓reduceIte, Nat.reduceEqDiff]
  | refine Tr.alloc rfl fun _ => ?_
  | refine Tr.storeW rfl rfl rfl (by (repeat (first | exact Upd.here | apply Upd.next)); done) (by rfl) ?_
  | fail))
  repeat (first | exact hh | refine Tr.drop ?_)
 ·simp only [e, if_true] at hh
  (repeat (first
  | simp only [WKb, ↓reduceIte, Nat.reduceEqDiff]
  | refine Tr.loadN (by (repeat (first | exact CellsAt.blk0 rfl | apply CellsAt.next))) ?_
  | refine Tr.alloc rfl fun _ => ?_
  | refine Tr.build rfl ?_
  | refine Tr.storeW rfl rfl rfl (by (repeat (first | exact Upd.here | apply Upd.next)); done) (by rfl) ?_
  | refine Tr.store rfl rfl rfl (by (repeat (first | exact Upd.here | apply Upd.next)); done) (by first | exact Nat.le_of_ble_eq_true rfl | fail) ?_
  | fail))
  refine Tr.call (put_ok a t k { t.at k with call := c, what := wh, wake := wk } 2 (has_spec e).1 (has_spec e).2) [1] rfl ?_
  rintro v l' ⟨rfl, rfl⟩
  (repeat (first
  | simp only [WKb, ↓reduceIte]
  | fail))
  refine Tr.perm (List.Perm.swap _ _ _) ?_
  refine Tr.drop ?_
  exact hh
end Go.Proofs.YtacmaamllpiloaaGreat
namespace Go.Proofs.YtacmaamllpiloaaGreat
open Go Go.Wk
set_option maxHeartbeats 400000
attribute [local irreducible] BrK GenK EGenK EUnitK CallK FnK CallV GuardO GuardC CondW opX opK opKc chkR eqR seqK blkK endL WL WD W LoopW BinK Tr drewK resL PickK NotK NilK ExtrK getK Instr.storeAt Instr.loadAt Instr.fieldAt Instr.indexAt Instr.lookup Instr.mapUpdate Instr.box Instr.alloc Instr.build Instr.buildSlice Instr.makeSlice Instr.makeMap Instr.sliceAt Instr.field Instr.index Instr.makeInterface Instr.typeAssert Builtin.len_ Builtin.append_ Builtin.cap_ Builtin.min_ Builtin.max_ Builtin.copy_ Builtin.clear_ convert binOp mp blk rob sl sep ex fact old
set_option maxRecDepth 10000
def Tb.rankB (t : Tb) (k p : Int) : Bool := t.has k && (decide (0 ≤ p) && decide (p ≤ 63))
def Tb.rank (t : Tb) (k p : Int) : Tb := if t.rankB k p then { t with d := t.d.set k.toNat { t.at k with prio := p } } else t
theorem set_kv (t : Tb) (k : Int) (x : One) (h : t.has k = true) : kvF 0 (t.d.set k.toNat x) = upsert k x.v (kvF 0 t.d) := by
 have h01 := has_spec h
 rw [upsert_kvF k _ t.d 0 (by simpa using h01.1) (by simpa using h01.2)]; simp
theorem rank_ok (a : Nat) (t : Tb) (k p : Int) : Trip Tryz.prog 161 [.pointer (some ⟨a, 0, none⟩), .int .i64 k, .int .i64 p].toArray [tabA a t] fun v l' => v = .bool (t.rankB k p) ∧ l' = [tabA a (t.rank k p)] := by
 intro F K hK
 have hh := hK _ _ ⟨rfl, rfl⟩
 clear hK
 (refine Tr.enter (rs := [.tmp 6]) mixed fn161 rfl (by simp +arith [Tryz.ntmps161]) fun u => ?_; simp only [cd161, Tryz.f161])
 (repeat (first
  | simp only [WKb, ↓reduceIte, Nat.reduceEqDiff, Nat.reduceAdd]
  | fail))
 refine Tr.call (find_ok a t k) [0] rfl ?_
 rintro v l' ⟨rfl, rfl⟩
 unfold Tb.rank at hh
 cases e : t.has k
 ·simp only [Tb.rankB, e, Bool.false_and, Bool.false_eq_true, if_false] at hh
  (repeat (first
  | simp only [WKb, ↓reduceIte, Nat.reduceEqDiff]
  | refine Tr.alloc rfl fun _ => ?_
  | refine Tr.storeW rfl rfl rfl (by (repeat (first | exact Upd.here | apply Upd.next)); done) (by rfl) ?_
  | fail))
  repeat (first | exact hh | refine Tr.drop ?_)
 ·cases e1 : decide (p < 0)
  ·have f1 : decide (0 ≤ p) = true := by simp at e1 ⊢; omega
   cases e2 : decide (63 < p)
   ·have f2 : decide (p ≤ 63) = true := by simp at e2 ⊢; omega
    simp only [Tb.rankB, e, f1, f2, Bool.true_and, if_true, tabA, List.cons_append, List.nil_append, Tr.ex_iff, Tr.sep_iff] at hh ⊢
    intro m
    have hm := hh m
    rw [set_kv t k _ e] at hm
    (repeat (first
  | simp only [WKb, ↓reduceIte, Nat.reduceEqDiff, Nat.reduceAdd, pl161, e1, e2]
  | refine Tr.load1 (by (repeat (first | exact Cell.blk rfl | apply Cell.next))) ?_
  | refine Tr.loadN (by (repeat (first | exact CellsAt.blk0 rfl | apply CellsAt.next))) ?_
  | refine Tr.alloc rfl fun _ => ?_
  | refine Tr.drewK ?_
  | refine Tr.storeW rfl rfl rfl (by (repeat (first | exact Upd.here | apply Upd.next)); done) (by rfl) ?_
  | refine Tr.store rfl rfl rfl (by (repeat (first | exact Upd.here | apply Upd.next)); done) (by first | exact Nat.le_of_ble_eq_true rfl | fail) ?_
  | refine Tr.mapUpdate (by (repeat (first | exact UpdA.here | apply UpdA.next)); done) ?_
  | fail))
    repeat (first | exact hm | refine Tr.drop ?_)
   ·have f2 : decide (p ≤ 63) = false := by simp at e2 ⊢; omega
    simp only [Tb.rankB, e, f1, f2, Bool.true_and, Bool.false_eq_true, if_false] at hh
    (repeat (first
  | simp only [WKb, ↓reduceIte, Nat.reduceEqDiff, e1, e2]
  | refine Tr.alloc rfl fun _ => ?_
  | refine Tr.storeW rfl rfl rfl (by (repeat (first | exact Upd.here | apply Upd.next)); done) (by rfl) ?_
  | fail))
    repeat (first | exact hh | refine Tr.drop ?_)
  ·have f1 : decide (0 ≤ p) = false := by simp at e1 ⊢; omega
   simp only [Tb.rankB, e, f1, Bool.true_and, Bool.false_and, Bool.false_eq_true, if_false] at hh
   (repeat (first
  | simp only [WKb, ↓reduceIte, Nat.reduceEqDiff, e1]
  | refine Tr.alloc rfl fun _ => ?_
  | refine Tr.storeW rfl rfl rfl (by (repeat (first | exact Upd.here | apply Upd.next)); done) (by rfl) ?_
  | fail))
   repeat (first | exact hh | refine Tr.drop ?_)
def Tb.freeTo (t : Tb) : Nat → Tb
 | 0 => t
 | k + 1 => { t.freeTo k with d := (t.freeTo k).d.set k { (t.freeTo k).at k with parked := false } }
def Tb.free (t : Tb) : Tb := t.freeTo t.d.length
theorem freeTo_len (t : Tb) : ∀ k, (t.freeTo k).d.length = t.d.length
 | 0 => rfl
 | k + 1 => by simp [Tb.freeTo, freeTo_len t k]
theorem free_ok (a : Nat) (t : Tb) (hn : t.d.length ≤ 1000000) : Trip Tryz.prog 33 [.pointer (some ⟨a, 0, none⟩)].toArray [tabA a t] fun v l' => v = .tuple #[] ∧ l' = [tabA a t.free] := by
 intro F K hK
 have hh := hK _ _ ⟨rfl, rfl⟩
 clear hK
 (refine Tr.enter (rs := []) mixed fn33 rfl (by simp +arith [Tryz.ntmps33]) fun u => ?_; simp only [cd33, Tryz.f33])
 (repeat (first
  | simp only [WKb, ↓reduceIte]
  | fail))
 refine Tr.call (len_ok a t) [0] rfl ?_
 rintro v l' ⟨rfl, rfl⟩
 (repeat (first
  | simp only [WKb]
  | fail))
 refine Tr.loop (α := Nat) [6] [0, 5] (fun k => [.int .i64 k]) (fun k => [tabA a (t.freeTo k)]) (fun k => k ≤ t.d.length) (fun k => t.d.length - k) (F := F) 0 (by omega) rfl (fun w h => h) fun k u hk => ?_
 by_cases hlt : k < t.d.length
 ·simp only [List.nil_append, List.cons_append, tabA, Tr.ex_iff, Tr.sep_iff]
  intro m
  have hw : IntKind.i64.wrap ((k : Int) + 1) = ((k + 1 : Nat) : Int) := by rw [wrap_id (by omega) (by omega)]; rfl
  have hhas : (t.freeTo k).has k = true := by simp [Tb.has, freeTo_len]; omega
  (repeat (first
  | simp only [WKb, ↓reduceIte, Nat.reduceEqDiff, Nat.reduceAdd, pl33, find_tab1]
  | refine Tr.load1 (by (repeat (first | exact Cell.blk rfl | apply Cell.next))) ?_
  | refine Tr.loadN (by (repeat (first | exact CellsAt.blk0 rfl | apply CellsAt.next))) ?_
  | refine Tr.alloc rfl fun _ => ?_
  | refine Tr.drewK ?_
  | refine Tr.storeW rfl rfl rfl (by (repeat (first | exact Upd.here | apply Upd.next)); done) (by rfl) ?_
  | refine Tr.store rfl rfl rfl (by (repeat (first | exact Upd.here | apply Upd.next)); done) (by first | exact Nat.le_of_ble_eq_true rfl | fail) ?_
  | refine Tr.lookup (by (repeat (first | exact Has.here | apply Has.next)); done) ?_
  | refine Tr.mapUpdate (by (repeat (first | exact UpdA.here | apply UpdA.next)); done) ?_
  | refine Tr.condT (by first | rfl | (simp only [decide_eq_true_eq]; omega)) ?_
  | fail))
  refine Tr.again (k + 1) (by simp only [WKb, ↓reduceIte, Nat.reduceEqDiff]) (by simp only [WKb, ↓reduceIte, hw]) (by omega) (by omega) ?_
  refine Tr.drop (Tr.sat_of fun w hw => ?_)
  simp only [List.nil_append, List.cons_append, Sat.ex_iff, Sat.sep_iff]
  refine ⟨m, ?_⟩
  rw [show kvF 0 (t.freeTo (k + 1)).d = upsert k ({ (t.freeTo k).at k with parked := false } : One).v (kvF 0 (t.freeTo k).d) from set_kv (t.freeTo k) k _ hhas]
  exact hw
 ·have : k = t.d.length := by omega
  subst this
  (repeat (first
  | simp only [WKb, ↓reduceIte, Nat.reduceEqDiff]
  | refine Tr.condF (by first | rfl | (simp only [decide_eq_false_iff_not]; omega)) ?_))
  exact hh
end Go.Proofs.YtacmaamllpiloaaGreat
namespace Go.Proofs.YtacmaamllpiloaaGreat
open Go Go.Wk
set_option maxHeartbeats 400000
attribute [local irreducible] BrK GenK EGenK EUnitK CallK FnK CallV GuardO GuardC CondW opX opK opKc chkR eqR seqK blkK endL WL WD W LoopW BinK Tr drewK resL PickK NotK NilK ExtrK getK Instr.storeAt Instr.loadAt Instr.fieldAt Instr.indexAt Instr.lookup Instr.mapUpdate Instr.box Instr.alloc Instr.build Instr.buildSlice Instr.makeSlice Instr.makeMap Instr.sliceAt Instr.field Instr.index Instr.makeInterface Instr.typeAssert Builtin.len_ Builtin.append_ Builtin.cap_ Builtin.min_ Builtin.max_ Builtin.copy_ Builtin.clear_ convert binOp mp blk rob sl sep ex fact old
set_option maxRecDepth 10000
def Tb.startB (t : Tb) (k : Int) : Bool := t.has k && decide ((t.at k).state = 0)
def Tb.start (t : Tb) (k win : Int) : Tb := if t.startB k then t.put k { t.at k with prio := (t.at k).cprio, next := IntKind.i64.wrap (win + (t.at k).period) } 1 else t
theorem start_ok (a : Nat) (t : Tb) (k win : Int) : Trip Tryz.prog 117 [.pointer (some ⟨a, 0, none⟩), .int .i64 k, .int .i64 win].toArray [tabA a t] fun v l' => v = .bool (t.startB k) ∧ l' = [tabA a (t.start k win)] := by
 intro F K hK
 have hh := hK _ _ ⟨rfl, rfl⟩
 clear hK
 (refine Tr.enter (rs := [.tmp 6]) mixed fn117 rfl (by simp +arith [Tryz.ntmps117]) fun u => ?_; simp only [cd117, Tryz.f117])
 (repeat (first
  | simp only [WKb, ↓reduceIte, Nat.reduceEqDiff, Nat.reduceAdd]
  | fail))
 refine Tr.call (find_ok a t k) [0] rfl ?_
 rintro v l' ⟨rfl, rfl⟩
 unfold Tb.start at hh
 cases e : t.has k
 ·simp only [Tb.startB, e, Bool.false_and, Bool.false_eq_true, if_false] at hh
  (repeat (first
  | simp only [WKb, ↓reduceIte, Nat.reduceEqDiff]
  | refine Tr.alloc rfl fun _ => ?_
  | refine Tr.storeW rfl rfl rfl (by (repeat (first | exact Upd.here | apply Upd.next)); done) (by rfl) ?_
  | fail))
  repeat (first | exact hh | refine Tr.drop ?_)
 ·cases e1 : decide ((t.at k).state = 0)
  ·simp only [Tb.startB, e, e1, Bool.true_and, Bool.false_eq_true, if_false] at hh
   (repeat (first
  | simp only [WKb, ↓reduceIte, Nat.reduceEqDiff, e1]
  | refine Tr.load1 (by (repeat (first | exact Cell.blk rfl | apply Cell.next))) ?_
  | refine Tr.alloc rfl fun _ => ?_
  | refine Tr.storeW rfl rfl rfl (by (repeat (first | exact Upd.here | apply Upd.next)); done) (by rfl) ?_
  | fail))
   repeat (first | exact hh | refine Tr.drop ?_)
  ·simp only [Tb.startB, e, e1, Bool.true_and, if_true] at hh
   (repeat (first
  | simp only [WKb, ↓reduceIte, Nat.reduceEqDiff, Nat.reduceAdd, e1]
  | refine Tr.load1 (by (repeat (first | exact Cell.blk rfl | apply Cell.next))) ?_
  | refine Tr.loadN (by (repeat (first | exact CellsAt.blk0 rfl | apply CellsAt.next))) ?_
  | refine Tr.alloc rfl fun _ => ?_
  | refine Tr.storeW rfl rfl rfl (by (repeat (first | exact Upd.here | apply Upd.next)); done) (by rfl) ?_
  | refine Tr.store rfl rfl rfl (by (repeat (first | exact Upd.here | apply Upd.next)); done) (by first | exact Nat.le_of_ble_eq_true rfl | fail) ?_
  | fail))
   refine Tr.call (put_ok a t k { t.at k with prio := (t.at k).cprio, next := IntKind.i64.wrap (win + (t.at k).period) } 1 (has_spec e).1 (has_spec e).2) [1] rfl ?_
   rintro v l' ⟨rfl, rfl⟩
   (repeat (first
  | simp only [WKb, ↓reduceIte]
  | fail))
   refine Tr.perm (List.Perm.swap _ _ _) ?_
   refine Tr.drop ?_
   exact hh
def One.due (win : Int) (d : One) : Bool := decide (d.state = 2) && decide (0 ≤ d.wake) && decide (d.wake ≤ win)
def Tb.dueTo (t : Tb) (win : Int) : Nat → List Int
 | 0 => []
 | k + 1 => t.dueTo win k ++ if (t.at k).due win then [(k : Int)] else []
theorem due_ok (a : Nat) (t : Tb) (win : Int) (hn : t.d.length ≤ 1000000) : Trip Tryz.prog 97 [.pointer (some ⟨a, 0, none⟩), .int .i64 win].toArray [tabA a t] fun v l' => ∃ s : SV, v = s.v ∧ l' = [sl false s.v (t.dueTo win t.d.length), tabA a t] := by
 intro F K hK
 have hh := fun s : SV => hK _ _ ⟨s, rfl, rfl⟩
 clear hK
 (refine Tr.enter (rs := [.tmp 4]) mixed fn97 rfl (by simp +arith [Tryz.ntmps97]) fun u => ?_; simp only [cd97, Tryz.f97])
 (repeat (first
  | simp only [WKb, ↓reduceIte, Nat.reduceEqDiff, Nat.reduceAdd]
  | fail))
 refine Tr.call (len_ok a t) [0] rfl ?_
 rintro v l' ⟨rfl, rfl⟩
 (repeat (first
  | simp only [WKb]
  | fail))
 refine Tr.nilSl (α := Int) ?_
 refine Tr.loop (α := Nat × SV) [5, 10] [0, 1, 9] (fun x => [x.2.v, .int .i64 x.1]) (fun x => [sl false x.2.v (t.dueTo win x.1), tabA a t]) (fun x => x.1 ≤ t.d.length ∧ (t.dueTo win x.1).length ≤ x.1) (fun x => t.d.length - x.1) (F := F) (0, ⟨none, 0, 0⟩) (by simp [Tb.dueTo]) rfl (fun w h => h) fun x u hx => ?_
 obtain ⟨k, s⟩ := x
 obtain ⟨hk, hl⟩ := hx
 simp only at hk hl ⊢
 by_cases hlt : k < t.d.length
 ·simp only [List.nil_append, List.cons_append, tabA]
  refine Tr.front [1] ?_
  rw [show ∀ A B C, front [1] (A :: B :: C) = B :: A :: C from fun _ _ _ => rfl]
  rw [Tr.ex_iff]; intro m; rw [Tr.sep_iff]
  have hw : IntKind.i64.wrap ((k : Int) + 1) = ((k + 1 : Nat) : Int) := by rw [wrap_id (by omega) (by omega)]; rfl
  (repeat (first
  | simp only [WKb, ↓reduceIte, Nat.reduceEqDiff, find_tab1]
  | refine Tr.load1 (by (repeat (first | exact Cell.blk rfl | apply Cell.next))) ?_
  | refine Tr.alloc rfl fun _ => ?_
  | refine Tr.storeW rfl rfl rfl (by (repeat (first | exact Upd.here | apply Upd.next)); done) (by rfl) ?_
  | refine Tr.lookup (by (repeat (first | exact Has.here | apply Has.next)); done) ?_
  | refine Tr.condT (by first | rfl | (simp only [decide_eq_true_eq]; omega)) ?_
  | fail))
  have fin : ∀ (s' : SV) (ds : List Int), ds = t.dueTo win (k + 1) → ∀ w, Sat w (blk a (.cells [Value.map (some m), Value.int IntKind.i64 t.turns].toArray 155 (0, 0)) :: mp m (kvF 0 t.d) :: sl false s'.v ds :: F) → Sat w ([sl false s'.v (t.dueTo win (k + 1)), tabA a t] ++ F) := by
   intro s' ds hds w hw
   subst hds
   refine Sat.perm (List.Perm.swap _ _ _) ?_
   simp only [tabA, Sat.ex_iff, Sat.sep_iff]
   exact ⟨m, hw⟩
  have hskip : (t.at k).due win = false → t.dueTo win (k + 1) = t.dueTo win k := fun h => by simp [Tb.dueTo, h]
  have hlen : (t.dueTo win (k + 1)).length ≤ k + 1 := by
   simp only [Tb.dueTo, List.length_append]; split <;> simp <;> omega
  cases e1 : decide ((t.at k).state = 2)
  ·have hs := hskip (by simp [One.due, e1])
   (repeat (first
  | simp only [WKb, ↓reduceIte, Nat.reduceEqDiff]
  | fail))
   refine Tr.drop ?_
   refine Tr.again (k + 1, s) (by simp only [WKb, ↓reduceIte, Nat.reduceEqDiff]) (by simp only [WKb, ↓reduceIte, Nat.reduceEqDiff, hw]) ⟨by simp; omega, hlen⟩ (by simp; omega) ?_
   exact Tr.sat_of fun w h => fin s _ hs.symm w h
  ·cases e2 : decide (0 ≤ (t.at k).wake)
   ·have hs := hskip (by simp [One.due, e1, e2])
    (repeat (first
  | simp only [WKb, ↓reduceIte, Nat.reduceEqDiff, Nat.reduceAdd, e2]
  | refine Tr.load1 (by (repeat (first | exact Cell.blk rfl | apply Cell.next))) ?_
  | fail))
    refine Tr.drop ?_
    refine Tr.again (k + 1, s) (by simp only [WKb, ↓reduceIte, Nat.reduceEqDiff]) (by simp only [WKb, ↓reduceIte, Nat.reduceEqDiff, hw]) ⟨by simp; omega, hlen⟩ (by simp; omega) ?_
    exact Tr.sat_of fun w h => fin s _ hs.symm w h
   ·cases e3 : decide ((t.at k).wake ≤ win)
    ·have hs := hskip (by simp [One.due, e1, e2, e3])
     (repeat (first
  | simp only [WKb, ↓reduceIte, Nat.reduceEqDiff, Nat.reduceAdd, e2, e3]
  | refine Tr.load1 (by (repeat (first | exact Cell.blk rfl | apply Cell.next))) ?_
  | fail))
     refine Tr.drop ?_
     refine Tr.again (k + 1, s) (by simp only [WKb, ↓reduceIte, Nat.reduceEqDiff]) (by simp only [WKb, ↓reduceIte, Nat.reduceEqDiff, hw]) ⟨by simp; omega, hlen⟩ (by simp; omega) ?_
     exact Tr.sat_of fun w h => fin s _ hs.symm w h
    ·have hs : t.dueTo win (k + 1) = t.dueTo win k ++ [(k : Int)] := by simp [Tb.dueTo, One.due, e1, e2, e3]
     (repeat (first
  | simp only [WKb, ↓reduceIte, Nat.reduceEqDiff, Nat.reduceAdd, e2, e3]
  | refine Tr.load1 (by (repeat (first | exact Cell.blk rfl | apply Cell.next))) ?_
  | fail))
     refine Tr.buildSlice (α := Int) (xs := [(k : Int)]) (d := (0 : Int)) rfl rfl (by decide) rfl fun s2 => ?_
     (repeat (first
  | simp only [WKb, ↓reduceIte, Nat.reduceEqDiff]
  | fail))
     refine Tr.append (α := Int) (xs := t.dueTo win k) (ys := [(k : Int)]) rfl (by (repeat (first | exact TakeA.here | apply TakeA.next)); done) (by (repeat (first | exact Has.here | fail)); done) (by decide) (by simp; omega) fun s3 => ?_
     (repeat (first
  | simp only [WKb, ↓reduceIte, Nat.reduceEqDiff]
  | fail))
     refine Tr.again (k + 1, s3) (by simp only [WKb, ↓reduceIte, Nat.reduceEqDiff]) (by simp only [WKb, ↓reduceIte, Nat.reduceEqDiff, hw]) ⟨by simp; omega, hlen⟩ (by simp; omega) ?_
     exact Tr.sat_of fun w h => fin s3 _ hs.symm w ((Sat.tail (Sat.tail (h.perm (front_perm [1, 1] _)))).perm (front_perm [1, 1] _))
 ·have : k = t.d.length := by omega
  subst this
  (repeat (first
  | simp only [WKb, ↓reduceIte, Nat.reduceEqDiff]
  | refine Tr.condF (by first | rfl | (simp only [decide_eq_false_iff_not]; omega)) ?_))
  exact hh s
end Go.Proofs.YtacmaamllpiloaaGreat
