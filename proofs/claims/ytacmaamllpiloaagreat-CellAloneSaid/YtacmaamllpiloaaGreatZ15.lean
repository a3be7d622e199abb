import Derived.Test.YtacmaamllpiloaaGreatZ14
import Derived.Test.YtacmaamllpiloaaGreatZ08
import Derived.Test.YtacmaamllpiloaaGreatZ03
import Derived.Test.YtacmaamllpiloaaGreatZ06
namespace Go.Proofs.YtacmaamllpiloaaGreat
open Go Go.Wk
set_option maxHeartbeats 800000
set_option maxRecDepth 10000
theorem tab_upd {a m : Nat} {t : Tb} {k : Int} {x : One} {F : List Asrt} {X : WP} (h : t.has k = true) (hx : Tr (tabA a { t with d := t.d.set k.toNat x } :: F) X) :
  Tr (blk a (.cells [.map (some m), .int .i64 t.turns].toArray 155 (0, 0)) :: mp m (upsert k x.v (kvF 0 t.d)) :: F) X := by
 rw [← set_kv t k x h]
 exact Tr.sep_iff.1 ((Tr.ex_iff.1 hx) m)
theorem tab_fold {a m : Nat} {t : Tb} {F : List Asrt} {X : WP} (hx : Tr (tabA a t :: F) X) :
  Tr (blk a (.cells [.map (some m), .int .i64 t.turns].toArray 155 (0, 0)) :: mp m (kvF 0 t.d) :: F) X := Tr.sep_iff.1 ((Tr.ex_iff.1 hx) m)
attribute [local irreducible] BrK GenK EGenK EUnitK CallK FnK CallV GuardO GuardC CondW opX opK opKc chkR eqR seqK blkK endL WL WD W LoopW BinK Tr drewK resL PickK NotK NilK ExtrK getK Instr.storeAt Instr.loadAt Instr.fieldAt Instr.indexAt Instr.lookup Instr.mapUpdate Instr.box Instr.alloc Instr.build Instr.buildSlice Instr.makeSlice Instr.makeMap Instr.sliceAt Instr.field Instr.index Instr.makeInterface Instr.typeAssert Builtin.len_ Builtin.append_ Builtin.cap_ Builtin.min_ Builtin.max_ Builtin.copy_ Builtin.clear_ convert binOp mp blk rob sl sep ex fact old
def One.skips (win : Int) (d : One) : Bool := decide (d.period ≤ 0) || decide (d.state = 0) || decide (d.state = 3) || decide (win < d.next)
structure Rl where
 t : Tb
 rel : List Int
 mis : List Int
def Rl.step (win : Int) (k : Nat) (r : Rl) : Rl :=
 let p := r.t.at k
 if p.skips win then r else
 let p' := { p with next := IntKind.i64.wrap (win + p.period) }
 let t' := { r.t with d := r.t.d.set k p' }
 if p.state = 4 then { t := t'.put k p' 1, rel := r.rel ++ [(k : Int)], mis := r.mis } else { t := t', rel := r.rel, mis := r.mis ++ [(k : Int)] }
def Tb.relTo (t : Tb) (win : Int) : Nat → Rl
 | 0 => ⟨t, [], []⟩
 | k + 1 => (t.relTo win k).step win k
theorem relTo_len (t : Tb) (win : Int) : ∀ k, (t.relTo win k).t.d.length = t.d.length ∧ (t.relTo win k).rel.length ≤ k ∧ (t.relTo win k).mis.length ≤ k
 | 0 => by simp [Tb.relTo]
 | k + 1 => by
  have ih := relTo_len t win k
  simp only [Tb.relTo, Rl.step]
  split
  ·omega
  ·split <;> simp [Tb.put] <;> omega
theorem release_ok (a : Nat) (t : Tb) (win : Int) (hn : t.d.length ≤ 1000000) : Trip Tryz.prog 89 [.pointer (some ⟨a, 0, none⟩), .int .i64 win].toArray [tabA a t]
  fun v l' => ∃ s1 s2 : SV, v = .tuple #[s1.v, s2.v] ∧ l' = [sl false s1.v (t.relTo win t.d.length).rel, sl false s2.v (t.relTo win t.d.length).mis, tabA a (t.relTo win t.d.length).t] := by
 intro F K hK
 have hh := fun s1 s2 : SV => hK _ _ ⟨s1, s2, rfl, rfl⟩
 clear hK
 (refine Tr.enter (rs := [.tmp 4, .tmp 5]) mixed fn89 rfl (by simp +arith [Tryz.ntmps89]) fun u => ?_; simp only [cd89, Tryz.f89])
 (repeat (first
  | simp only [WKb, ↓reduceIte, Nat.reduceEqDiff, Nat.reduceAdd]
  | fail))
 refine Tr.call (len_ok a t) [0] rfl ?_
 rintro v l' ⟨rfl, rfl⟩
 (repeat (first
  | simp only [WKb]
  | fail))
 refine Tr.nilSl (α := Int) (Tr.nilSl (α := Int) ?_)
 refine Tr.loop (α := Nat × SV × SV) [6, 7, 12] [0, 1, 11] (fun x => [x.2.1.v, x.2.2.v, .int .i64 x.1]) (fun x => [sl false x.2.1.v (t.relTo win x.1).rel, sl false x.2.2.v (t.relTo win x.1).mis, tabA a (t.relTo win x.1).t]) (fun x => x.1 ≤ t.d.length) (fun x => t.d.length - x.1) (F := F) (0, ⟨none, 0, 0⟩, ⟨none, 0, 0⟩) (by simp) rfl (fun w h => h) fun x u hx => ?_
 obtain ⟨k, s1, s2⟩ := x
 simp only at hx ⊢
 obtain ⟨hl1, hl2, hl3⟩ := relTo_len t win k
 by_cases hlt : k < t.d.length
 ·have hw : IntKind.i64.wrap ((k : Int) + 1) = ((k + 1 : Nat) : Int) := by rw [wrap_id (by omega) (by omega)]; rfl
  have hst : t.relTo win (k + 1) = (t.relTo win k).step win k := rfl
  generalize t.relTo win k = r at *
  generalize hr' : t.relTo win (k + 1) = r' at *
  have hhas : r.t.has k = true := by simp [Tb.has]; omega
  simp only [List.nil_append, List.cons_append, tabA]
  refine Tr.front [2] ?_
  rw [show ∀ A B C D, front [2] (A :: B :: C :: D) = C :: A :: B :: D from fun _ _ _ _ => rfl]
  rw [Tr.ex_iff]; intro m; rw [Tr.sep_iff]
  (repeat (first
  | simp only [WKb, ↓reduceIte, Nat.reduceEqDiff, find_tab1]
  | refine Tr.load1 (by (repeat (first | exact Cell.blk rfl | apply Cell.next))) ?_
  | refine Tr.alloc rfl fun _ => ?_
  | refine Tr.storeW rfl rfl rfl (by (repeat (first | exact Upd.here | apply Upd.next)); done) (by rfl) ?_
  | refine Tr.lookup (by (repeat (first | exact Has.here | apply Has.next)); done) ?_
  | refine Tr.condT (by first | rfl | (simp only [decide_eq_true_eq]; omega)) ?_
  | fail))
  have skip : (r.t.at k).skips win = true → r' = r := fun h => by rw [hst]; simp [Rl.step, h]
  have fin : r' = r → ∀ w, Sat w (blk a (.cells [Value.map (some m), Value.int IntKind.i64 r.t.turns].toArray 155 (0, 0)) :: mp m (kvF 0 r.t.d) :: sl false s1.v r.rel :: sl false s2.v r.mis :: F) →
    Sat w ([sl false s1.v r'.rel, sl false s2.v r'.mis, tabA a r'.t] ++ F) := by
   intro h w hw
   subst h
   have h2 : Sat w (tabA a r'.t :: sl false s1.v r'.rel :: sl false s2.v r'.mis :: F) := by
    simp only [tabA, Sat.ex_iff, Sat.sep_iff]; exact ⟨m, hw⟩
   exact h2.perm (front_perm [1, 1] _)
  cases e1 : decide ((r.t.at k).period ≤ 0)
  rotate_left
  ·have hs := skip (by simp [One.skips, e1])
   (repeat (first
  | simp only [WKb, ↓reduceIte, Nat.reduceEqDiff]
  | fail))
   refine Tr.drop ?_
   refine Tr.again (k + 1, s1, s2) (by simp only [WKb, ↓reduceIte, Nat.reduceEqDiff]) (by simp only [WKb, ↓reduceIte, Nat.reduceEqDiff, hw]) (by simp; omega) (by simp; omega) ?_
   simp only [hr']
   exact Tr.sat_of fun w h => fin hs w h
  cases e2 : decide ((r.t.at k).state = 0)
  rotate_left
  ·have hs := skip (by simp [One.skips, e1, e2])
   (repeat (first
  | simp only [WKb, ↓reduceIte, Nat.reduceEqDiff, e2]
  | refine Tr.load1 (by (repeat (first | exact Cell.blk rfl | apply Cell.next))) ?_
  | fail))
   refine Tr.drop ?_
   refine Tr.again (k + 1, s1, s2) (by simp only [WKb, ↓reduceIte, Nat.reduceEqDiff]) (by simp only [WKb, ↓reduceIte, Nat.reduceEqDiff, hw]) (by simp; omega) (by simp; omega) ?_
   simp only [hr']
   exact Tr.sat_of fun w h => fin hs w h
  cases e3 : decide ((r.t.at k).state = 3)
  rotate_left
  ·have hs := skip (by simp [One.skips, e1, e2, e3])
   (repeat (first
  | simp only [WKb, ↓reduceIte, Nat.reduceEqDiff, e2, e3]
  | refine Tr.load1 (by (repeat (first | exact Cell.blk rfl | apply Cell.next))) ?_
  | fail))
   refine Tr.drop ?_
   refine Tr.again (k + 1, s1, s2) (by simp only [WKb, ↓reduceIte, Nat.reduceEqDiff]) (by simp only [WKb, ↓reduceIte, Nat.reduceEqDiff, hw]) (by simp; omega) (by simp; omega) ?_
   simp only [hr']
   exact Tr.sat_of fun w h => fin hs w h
  cases e4 : decide (win < (r.t.at k).next)
  rotate_left
  ·have hs := skip (by simp [One.skips, e1, e2, e3, e4])
   (repeat (first
  | simp only [WKb, ↓reduceIte, Nat.reduceEqDiff, e2, e3, e4]
  | refine Tr.load1 (by (repeat (first | exact Cell.blk rfl | apply Cell.next))) ?_
  | fail))
   refine Tr.drop ?_
   refine Tr.again (k + 1, s1, s2) (by simp only [WKb, ↓reduceIte, Nat.reduceEqDiff]) (by simp only [WKb, ↓reduceIte, Nat.reduceEqDiff, hw]) (by simp; omega) (by simp; omega) ?_
   simp only [hr']
   exact Tr.sat_of fun w h => fin hs w h
  have hns : (r.t.at k).skips win = false := by simp [One.skips, e1, e2, e3, e4]
  (repeat (first
  | simp only [WKb, ↓reduceIte, Nat.reduceEqDiff, Nat.reduceAdd, pl89, e2, e3, e4]
  | refine Tr.load1 (by (repeat (first | exact Cell.blk rfl | apply Cell.next))) ?_
  | refine Tr.loadN (by (repeat (first | exact CellsAt.blk0 rfl | apply CellsAt.next))) ?_
  | refine Tr.drewK ?_
  | refine Tr.store rfl rfl rfl (by (repeat (first | exact Upd.here | apply Upd.next)); done) (by first | exact Nat.le_of_ble_eq_true rfl | fail) ?_
  | refine Tr.mapUpdate (by (repeat (first | exact UpdA.here | apply UpdA.next)); done) ?_
  | fail))
  refine Tr.front [1, 1] ?_
  rw [show ∀ A B C D, front [1, 1] (A :: B :: C :: D) = B :: C :: A :: D from fun _ _ _ _ => rfl]
  refine tab_upd (x := { r.t.at k with next := IntKind.i64.wrap (win + (r.t.at k).period) }) hhas ?_
  have hlen8 : ∀ n, n ≤ k → (2 * (n + 1) + 1000) * 8 ≤ 2 ^ 48 := fun n h => by omega
  cases e5 : decide ((r.t.at k).state = 4)
  ·have f5 : ¬ (r.t.at k).state = 4 := by simpa using e5
   have hs : r' = { t := { r.t with d := r.t.d.set k { r.t.at k with next := IntKind.i64.wrap (win + (r.t.at k).period) } }, rel := r.rel, mis := r.mis ++ [(k : Int)] } := by
    rw [hst]; simp only [Rl.step, hns, Bool.false_eq_true, if_false, f5]
   (repeat (first
  | simp only [WKb, ↓reduceIte, Nat.reduceEqDiff]
  | fail))
   refine Tr.buildSlice (α := Int) (xs := [(k : Int)]) (d := (0 : Int)) rfl rfl (by decide) rfl fun s0 => ?_
   (repeat (first
  | simp only [WKb, ↓reduceIte, Nat.reduceEqDiff]
  | fail))
   refine Tr.append (α := Int) (xs := r.mis) (ys := [(k : Int)]) rfl (by (repeat (first | exact TakeA.here | apply TakeA.next)); done) (by (repeat (first | exact Has.here | fail)); done) (by decide) (hlen8 _ hl3) fun s3 => ?_
   (repeat (first
  | simp only [WKb, ↓reduceIte, Nat.reduceEqDiff]
  | fail))
   refine Tr.again (k + 1, s1, s3) (by simp only [WKb, ↓reduceIte, Nat.reduceEqDiff]) (by simp only [WKb, ↓reduceIte, Nat.reduceEqDiff, hw]) (by simp; omega) (by simp; omega) ?_
   simp only [hr', hs]
   exact Tr.sat_of fun w h => (Sat.tail ((Sat.tail (h.perm (front_perm [1] _))).perm (front_perm [2] _))).perm (front_perm [2, 0] _)
  ·have f5 : (r.t.at k).state = 4 := by simpa using e5
   have hs : r' = { t := Tb.put { r.t with d := r.t.d.set k { r.t.at k with next := IntKind.i64.wrap (win + (r.t.at k).period) } } k { r.t.at k with next := IntKind.i64.wrap (win + (r.t.at k).period) } 1, rel := r.rel ++ [(k : Int)], mis := r.mis } := by
    rw [hst]; simp only [Rl.step, hns, Bool.false_eq_true, if_false, f5, if_true]
   (repeat (first
  | simp only [WKb, ↓reduceIte, Nat.reduceEqDiff]
  | refine Tr.loadN (by (repeat (first | exact CellsAt.blk0 rfl | apply CellsAt.next))) ?_
  | fail))
   refine Tr.call (put_ok a { r.t with d := r.t.d.set k { r.t.at k with next := IntKind.i64.wrap (win + (r.t.at k).period) } } k { r.t.at k with next := IntKind.i64.wrap (win + (r.t.at k).period) } 1 (by omega) (by simp; omega)) [0] rfl ?_
   rintro v l' ⟨rfl, rfl⟩
   (repeat (first
  | simp only [WKb, ↓reduceIte, Nat.reduceEqDiff]
  | fail))
   refine Tr.buildSlice (α := Int) (xs := [(k : Int)]) (d := (0 : Int)) rfl rfl (by decide) rfl fun s0 => ?_
   (repeat (first
  | simp only [WKb, ↓reduceIte, Nat.reduceEqDiff]
  | fail))
   refine Tr.append (α := Int) (xs := r.rel) (ys := [(k : Int)]) rfl (by (repeat (first | exact TakeA.here | apply TakeA.next)); done) (by (repeat (first | exact Has.here | fail)); done) (by decide) (hlen8 _ hl2) fun s3 => ?_
   (repeat (first
  | simp only [WKb, ↓reduceIte, Nat.reduceEqDiff]
  | fail))
   refine Tr.again (k + 1, s3, s2) (by simp only [WKb, ↓reduceIte, Nat.reduceEqDiff]) (by simp only [WKb, ↓reduceIte, Nat.reduceEqDiff, hw]) (by simp; omega) (by simp; omega) ?_
   simp only [hr', hs]
   exact Tr.sat_of fun w h => (Sat.tail ((Sat.tail (h.perm (front_perm [1] _))).perm (front_perm [2] _))).perm (front_perm [0, 1] _)
 ·have : k = t.d.length := by omega
  subst this
  (repeat (first
  | simp only [WKb, ↓reduceIte, Nat.reduceEqDiff]
  | refine Tr.condF (by first | rfl | (simp only [decide_eq_false_iff_not]; omega)) ?_))
  exact hh s1 s2
end Go.Proofs.YtacmaamllpiloaaGreat
namespace Go.Proofs.YtacmaamllpiloaaGreat
open Go Go.Wk
set_option maxHeartbeats 800000
set_option maxRecDepth 10000
attribute [local irreducible] BrK GenK EGenK EUnitK CallK FnK CallV GuardO GuardC CondW opX opK opKc chkR eqR seqK blkK endL WL WD W LoopW BinK Tr drewK resL PickK NotK NilK ExtrK getK Instr.storeAt Instr.loadAt Instr.fieldAt Instr.indexAt Instr.lookup Instr.mapUpdate Instr.box Instr.alloc Instr.build Instr.buildSlice Instr.makeSlice Instr.makeMap Instr.sliceAt Instr.field Instr.index Instr.makeInterface Instr.typeAssert Builtin.len_ Builtin.append_ Builtin.cap_ Builtin.min_ Builtin.max_ Builtin.copy_ Builtin.clear_ convert binOp mp blk rob sl sep ex fact old
abbrev PConf := ProcC
def One.new (c : PConf) : One := { One.zero with cprio := c.prio, period := c.period, cost := c.cost, prio := c.prio }
def Tb.new (l : List PConf) : Tb := { d := (l.take 8).map One.new, turns := 0 }
theorem kvF_snoc (x : One) : ∀ (d : List One) (i : Nat), kvF i (d ++ [x]) = kvF i d ++ [(((i + d.length : Nat) : Int), x.v)]
 | [], i => by simp [kvF]
 | y :: d, i => by
  simp only [List.cons_append, kvF, kvF_snoc x d (i + 1), List.length_cons]
  rw [show i + 1 + d.length = i + (d.length + 1) by omega]
theorem upsert_new (x : One) (d : List One) (k : Nat) (h : d.length = k) : upsert (k : Int) x.v (kvF 0 d) = kvF 0 (d ++ [x]) := by
 rw [upsert_none, kvF_snoc, Nat.zero_add, h]
 rw [find_kvF, if_neg (by omega)]
theorem new_ok (s : SV) (l : List PConf) : Trip Tryz.prog 51 [s.v].toArray [sl true s.v l] fun v l' => ∃ a, v = .pointer (some ⟨a, 0, none⟩) ∧ l' = [tabA a (Tb.new l), sl true s.v l] := by
 intro F K hK
 have hh := fun a => hK _ _ ⟨a, rfl, rfl⟩
 clear hK
 simp only [List.cons_append, List.nil_append] at hh ⊢
 (refine Tr.enter (rs := [.tmp 2]) mixed fn51 rfl (by simp +arith [Tryz.ntmps51]) fun u => ?_; simp only [cd51, Tryz.f51])
 have hmin : (0 : Int) ≤ (if (8 : Int) < (l.length : Int) then 8 else (l.length : Int)) ∧ (if (8 : Int) < (l.length : Int) then 8 else (l.length : Int)) ≤ l.length ∧ (if (8 : Int) < (l.length : Int) then 8 else (l.length : Int)) ≤ 8 := by split <;> omega
 generalize hq : (if (8 : Int) < (l.length : Int) then 8 else (l.length : Int)) = q at hmin
 obtain ⟨hq0, hq1, hq2⟩ := hmin
 (repeat (first
  | simp only [WKb, ↓reduceIte, Nat.reduceEqDiff, hq]
  | refine Tr.box rfl fun _ => ?_
  | refine Tr.build rfl ?_
  | refine Tr.len (by (repeat (first | exact Has.here | apply Has.next)); done) ?_
  | refine Tr.cutTo (by (repeat (first | exact Has.here | apply Has.next)); done) (by rfl) (by omega) (by omega) fun _ => ?_
  | refine Tr.makeMap fun _ => ?_
  | fail))
 rename_i m a s2
 have hlt : (l.take q.toNat).length = q.toNat := by rw [List.length_take]; omega
 generalize hls : l.take q.toNat = ls at *
 refine Tr.loop (α := Nat) [15] [3, 13, 14] (fun k => [.int .i64 k]) (fun k => [mp m (kvF 0 ((ls.take k).map One.new)), sl true s2.v ls, blk a (.cells [Value.map (some m), Value.int IntKind.i64 0].toArray 155 (0, 0))]) (fun k => k ≤ ls.length) (fun k => ls.length - k) (F := sl true s.v l :: F) 0 (by omega) rfl (fun w h => h.perm (front_perm [2, 0, 0] _)) fun k u hk => ?_
 by_cases hlt2 : k < ls.length
 ·have hw : IntKind.i64.wrap ((k : Int) + 1) = ((k + 1 : Nat) : Int) := by rw [wrap_id (by omega) (by omega)]; rfl
  have hx : ls[(k : Int).toNat]? = some ls[k] := by simp [hlt2]
  simp only [List.cons_append, List.nil_append]
  (repeat (first
  | simp only [WKb, ↓reduceIte, Nat.reduceEqDiff, pl51]
  | refine Tr.load1 (by (repeat (first | exact Cell.blk rfl | apply Cell.next))) ?_
  | refine Tr.loadN (by (repeat (first | exact CellsAt.blk0 rfl | exact CellsAt.sl0 (by (repeat (first | exact Has.here | apply Has.next)); done) (by assumption) rfl | apply CellsAt.next))) ?_
  | refine Tr.alloc rfl fun _ => ?_
  | refine Tr.build rfl ?_
  | refine Tr.drewK ?_
  | refine Tr.storeW rfl rfl rfl (by (repeat (first | exact Upd.here | apply Upd.next)); done) (by rfl) ?_
  | refine Tr.mapUpdate (by (repeat (first | exact UpdA.here | apply UpdA.next)); done) ?_
  | refine Tr.index (by (repeat (first | exact Has.here | apply Has.next)); done) (by rfl) (by omega) (by omega) ?_
  | refine Tr.condT (by first | rfl | (simp only [decide_eq_true_eq]; omega)) ?_
  | fail))
  have hup : upsert (k : Int) (One.new ls[k]).v (kvF 0 ((ls.take k).map One.new)) = kvF 0 ((ls.take (k + 1)).map One.new) := by
   rw [upsert_new _ _ k (by simp; omega), List.take_succ_eq_append_getElem hlt2, List.map_append]; rfl
  refine Tr.drop ?_
  refine Tr.again (k + 1) (by simp only [WKb, ↓reduceIte, Nat.reduceEqDiff]) (by simp only [WKb, ↓reduceIte, hw]) (by omega) (by omega) (Tr.sat_of fun w h => ?_)
  simp only [List.cons_append, List.nil_append]
  rw [← hup]
  exact h
 ·have : k = ls.length := by omega
  subst this
  (repeat (first
  | simp only [WKb, ↓reduceIte, Nat.reduceEqDiff]
  | refine Tr.condF (by first | rfl | (simp only [decide_eq_false_iff_not]; omega)) ?_))
  have h8 : ls = l.take 8 := by
   rw [← hls]
   by_cases h : (8 : Int) < l.length
   ·rw [if_pos h] at hq; subst hq; rfl
   ·rw [if_neg h] at hq; subst hq
    rw [List.take_of_length_le (by simp), List.take_of_length_le (by omega)]
  rw [List.take_length, h8]
  refine Tr.front [1] (Tr.drop ?_)
  refine Tr.front [1] ?_
  exact tab_fold (t := Tb.new l) (hh a)
end Go.Proofs.YtacmaamllpiloaaGreat
namespace Go.Proofs.YtacmaamllpiloaaGreat
open Go Go.Wk
set_option maxHeartbeats 800000
set_option maxRecDepth 10000
structure ROne where
 o : One
instance : Inhabited ROne := ⟨⟨One.zero⟩⟩
instance : En ROne := ⟨fun r => [.int .i64 r.o.cprio, .int .i64 r.o.period, .int .i64 r.o.cost, .int .i64 r.o.state, .int .i64 r.o.prio, .int .i64 r.o.turn, .int .i64 r.o.next, .int .i64 r.o.call, .int .i64 r.o.what, .int .i64 r.o.wake, .bool r.o.parked], 11, fun _ => rfl, fun _ => rfl, by decide⟩
theorem rone_st : (∀ (p : One) (x : Int), (En.enc (ROne.mk p)).set 0 (.int .i64 x) = En.enc (ROne.mk { p with cprio := x })) ∧
  (∀ (p : One) (x : Int), (En.enc (ROne.mk p)).set 1 (.int .i64 x) = En.enc (ROne.mk { p with period := x })) ∧
  (∀ (p : One) (x : Int), (En.enc (ROne.mk p)).set 2 (.int .i64 x) = En.enc (ROne.mk { p with cost := x })) ∧
  (∀ (p : One) (x : Int), (En.enc (ROne.mk p)).set 3 (.int .i64 x) = En.enc (ROne.mk { p with state := x })) ∧
  (∀ (p : One) (x : Int), (En.enc (ROne.mk p)).set 4 (.int .i64 x) = En.enc (ROne.mk { p with prio := x })) ∧
  (∀ (p : One) (x : Int), (En.enc (ROne.mk p)).set 5 (.int .i64 x) = En.enc (ROne.mk { p with turn := x })) ∧
  (∀ (p : One) (x : Int), (En.enc (ROne.mk p)).set 6 (.int .i64 x) = En.enc (ROne.mk { p with next := x })) ∧
  (∀ (p : One) (x : Int), (En.enc (ROne.mk p)).set 7 (.int .i64 x) = En.enc (ROne.mk { p with call := x })) ∧
  (∀ (p : One) (x : Int), (En.enc (ROne.mk p)).set 8 (.int .i64 x) = En.enc (ROne.mk { p with what := x })) ∧
  (∀ (p : One) (x : Int), (En.enc (ROne.mk p)).set 9 (.int .i64 x) = En.enc (ROne.mk { p with wake := x })) ∧
  (∀ (p : One) (x : Bool), (En.enc (ROne.mk p)).set 10 (.bool x) = En.enc (ROne.mk { p with parked := x })) := ⟨fun _ _ => rfl, fun _ _ => rfl, fun _ _ => rfl, fun _ _ => rfl, fun _ _ => rfl, fun _ _ => rfl, fun _ _ => rfl, fun _ _ => rfl, fun _ _ => rfl, fun _ _ => rfl, fun _ _ => rfl⟩
def One.r (d : One) : Value := .agg (En.enc (ROne.mk d)).toArray
abbrev refB (a : Nat) (s : SV) (n : Int) : Asrt := blk a (.cells [s.v, .int .i64 n].toArray 107 (0, 0))
abbrev refS (s : SV) (d : List One) : Asrt := sl false s.v (d.map ROne.mk)
def refA (a : Nat) (t : Tb) : Asrt := ex fun s : SV => sep (refB a s t.turns) (refS s t.d)
instance : ElT 105 ROne := ⟨⟩
attribute [local irreducible] BrK GenK EGenK EUnitK CallK FnK CallV GuardO GuardC CondW opX opK opKc chkR eqR seqK blkK endL WL WD W LoopW BinK Tr drewK resL PickK NotK NilK ExtrK getK Instr.storeAt Instr.loadAt Instr.fieldAt Instr.indexAt Instr.lookup Instr.mapUpdate Instr.box Instr.alloc Instr.build Instr.buildSlice Instr.makeSlice Instr.makeMap Instr.sliceAt Instr.field Instr.index Instr.makeInterface Instr.typeAssert Builtin.len_ Builtin.append_ Builtin.cap_ Builtin.min_ Builtin.max_ Builtin.copy_ Builtin.clear_ convert binOp mp blk rob sl sep ex fact old
theorem ris_ok {a : Nat} {s : SV} {n : Int} {d : List One} {k : Int} : Trip Tryz.prog 194 [.pointer (some ⟨a, 0, none⟩), .int .i64 k].toArray [refB a s n, refS s d]
  fun v l' => v = .bool (decide (0 ≤ k ∧ k < d.length)) ∧ l' = [refB a s n, refS s d] := by
 intro F K hK
 simp only [List.cons_append, List.nil_append]
 (refine Tr.enter (rs := [.tmp 4]) mixed fn194 rfl (by simp +arith [Tryz.ntmps194]) fun u => ?_; simp only [cd194, Tryz.f194])
 ((try simp only [WKb, ↓reduceIte, Nat.reduceEqDiff, Nat.reduceAdd]) <;> (repeat' ((first
  | (refine G.tr ?_; first | refine S.a ?_ | (refine S.s (fun hb => ?_) (fun hb => ?_) <;> ((try simp only [hb]) <;> (try (have hp := hb; simp only [WKs] at hp; (try have hq := Int.not_le.2 hp); (try have hq := Int.not_lt.2 hp))))))
  | fail) <;> (try simp only [WKb, ↓reduceIte, Nat.reduceEqDiff]))))
 all_goals
  refine Tr.fin hK ⟨?_, rfl⟩ ?_
  ·clear hK; simp; omega
  ·((try clear hK) <;> (try simp only [WKe, *]) <;> repeat (first | with_reducible exact EntR.done | fail))
theorem rset_ok {a : Nat} {s : SV} {n : Int} {d : List One} {k : Int} {p : One} (hn : d.length ≤ 1000000) (h0 : 0 ≤ k) (h1 : k < d.length) : Trip Tryz.prog 122 [.pointer (some ⟨a, 0, none⟩), .int .i64 k, p.r].toArray [refB a s n, refS s d]
  fun v l' => ∃ s', v = .tuple #[] ∧ l' = [refB a s' n, refS s' (d.set k.toNat p)] := by
 intro F K hK
 simp only [List.cons_append, List.nil_append]
 (refine Tr.enter (rs := []) mixed fn122 rfl (by simp +arith [Tryz.ntmps122]) fun u => ?_; simp only [cd122, Tryz.f122])
 ((try simp only [WKb, ↓reduceIte, Nat.reduceAdd]) <;> (repeat' ((first
  | (refine G.tr ?_; first | refine S.a ?_ | refine S.n fun _ => ?_ | refine S.i fun hix => ?_ | fail)
  | fail) <;> (try simp only [WKb, ↓reduceIte, Nat.reduceEqDiff]))))
 all_goals
  apply Tr.fin hK ⟨_, rfl, rfl⟩
  ((try clear hK) <;> (try simp only [WKe, refS, refB, List.map_set, *]) <;> repeat (first | with_reducible exact EntR.done | refine S.e ?_ | refine EntR.drop (F := F) ?_ | fail))
theorem rput_ok {a : Nat} {s : SV} {n : Int} {d : List One} {k : Int} {p : One} {st : Int} (hn : d.length ≤ 1000000) (h0 : 0 ≤ k) (h1 : k < d.length) : Trip Tryz.prog 123 [.pointer (some ⟨a, 0, none⟩), .int .i64 k, p.r, .int .i64 st].toArray [refB a s n, refS s d]
  fun v l' => ∃ s', v = .tuple #[] ∧ l' = [refB a s' (Tb.putT ⟨d, n⟩ st), refS s' (d.set k.toNat (Tb.putP ⟨d, n⟩ p st))] := by
 intro F K hK
 simp only [List.cons_append, List.nil_append]
 (refine Tr.enter (rs := []) mixed fn123 rfl (by simp +arith [Tryz.ntmps123]) fun u => ?_; simp only [cd123, Tryz.f123])
 ((try simp only [WKb, ↓reduceIte, Nat.reduceEqDiff, Nat.reduceAdd]) <;> (repeat' ((first
  | (refine G.tr ?_; first | refine S.a ?_ | (refine G.call 122 ?_; refine S.c ?_ (h := rset_ok ?_ ?_ ?_)) | refine S.n fun _ => ?_ | (refine S.s (fun hb => ?_) (fun hb => ?_) <;> ((try simp only [hb]) <;> (try (have hp := hb; simp only [WKs] at hp; (try have hq := Int.not_le.2 hp); (try have hq := Int.not_lt.2 hp))))))
  | rintro _ _ ⟨_, rfl, rfl⟩
  | ((fail_if_success refine G.tr ?_); exact G.prop S.p)
  | fail) <;> (try simp only [WKb, ↓reduceIte, Nat.reduceEqDiff, Nat.reduceAdd, rone_st]))))
 all_goals
  apply Tr.fin hK ⟨_, rfl, rfl⟩
  ((try clear hK) <;> (try simp only [WKe, refS, refB, Tb.putP, Tb.putT, List.map_set, ↓reduceIte, Int.reduceEq, *]) <;> repeat (first | with_reducible exact EntR.done | refine S.e ?_ | refine EntR.drop (F := F) ?_ | fail))
end Go.Proofs.YtacmaamllpiloaaGreat
namespace Go.Proofs.YtacmaamllpiloaaGreat
open Go Go.Wk
set_option maxHeartbeats 800000
set_option maxRecDepth 10000
instance : Inhabited One := ⟨One.zero⟩
theorem ix_mk {d : List One} {k : Int} : ix (d.map ROne.mk) k = ROne.mk (ix d k) := by
 unfold ix
 simp only [List.getD_eq_getElem?_getD, List.getElem?_map]
 cases d[k.toNat]? <;> rfl
theorem at_ix {t : Tb} {k : Int} (h : 0 ≤ k) : t.at k = ix t.d k := by unfold Tb.at ix; rw [if_pos h]; rfl
attribute [local irreducible] BrK GenK EGenK EUnitK CallK FnK CallV GuardO GuardC CondW opX opK opKc chkR eqR seqK blkK endL WL WD W LoopW BinK Tr drewK resL PickK NotK NilK ExtrK getK Instr.storeAt Instr.loadAt Instr.fieldAt Instr.indexAt Instr.lookup Instr.mapUpdate Instr.box Instr.alloc Instr.build Instr.buildSlice Instr.makeSlice Instr.makeMap Instr.sliceAt Instr.field Instr.index Instr.makeInterface Instr.typeAssert Builtin.len_ Builtin.append_ Builtin.cap_ Builtin.min_ Builtin.max_ Builtin.copy_ Builtin.clear_ convert binOp mp blk rob sl sep ex fact old
theorem rstart_ok {a : Nat} {t : Tb} {k win : Int} (hn : t.d.length ≤ 1000000) : Trip Tryz.prog 120 [.pointer (some ⟨a, 0, none⟩), .int .i64 k, .int .i64 win].toArray [refA a t]
  fun v l' => v = .bool (t.startB k) ∧ l' = [refA a (t.start k win)] := by
 intro F K hK
 simp only [List.cons_append, List.nil_append, refA, Tr.ex_iff, Tr.sep_iff]
 intro s
 (refine Tr.enter (rs := [.tmp 6]) mixed fn120 rfl (by simp +arith [Tryz.ntmps120]) fun u => ?_; simp only [cd120, Tryz.f120])
 have hX := And.intro @rone_st (And.intro @ix_mk @pl120.eq_def); repeat' (first | refine S.x ?_ | refine S.y ?_ ?_ | (refine G.call 194 ?_; refine S.c ?_ (h := ris_ok)) | (refine G.call 123 ?_; refine S.c ?_ (h := rput_ok ?_ ?_ ?_)) | rintro _ _ ⟨rfl, rfl⟩ | rintro _ _ ⟨_, rfl, rfl⟩ | (refine G.prop ?_; assumption) | intro hb | ((fail_if_success refine G.tr ?_); exact G.prop S.p) | fail)
 all_goals
  refine Tr.fin hK ⟨?_, rfl⟩ ?_
  ·((try clear hK) <;> first | (simp [*, Tb.startB, Tb.has, at_ix]; done) | fail)
  ·(have hX := And.intro @refA.eq_def (And.intro @refS.eq_def (And.intro @refB.eq_def (And.intro @Tb.start.eq_def (And.intro @Tb.startB.eq_def (And.intro @Tb.has.eq_def (And.intro @at_ix @Tb.put.eq_def)))))); exact S.E)
theorem rpark_ok {a : Nat} {t : Tb} {k : Int} (hn : t.d.length ≤ 1000000) : Trip Tryz.prog 121 [.pointer (some ⟨a, 0, none⟩), .int .i64 k].toArray [refA a t]
  fun v l' => v = .bool (t.has k) ∧ l' = [refA a (t.park k)] := by
 intro F K hK
 simp only [List.cons_append, List.nil_append, refA, Tr.ex_iff, Tr.sep_iff]
 intro s
 (refine Tr.enter (rs := [.tmp 4]) mixed fn121 rfl (by simp +arith [Tryz.ntmps121]) fun u => ?_; simp only [cd121, Tryz.f121])
 have hX := And.intro @rone_st (And.intro @ix_mk @pl121.eq_def); repeat' (first | refine S.x ?_ | refine S.y ?_ ?_ | (refine G.call 194 ?_; refine S.c ?_ (h := ris_ok)) | (refine G.call 122 ?_; refine S.c ?_ (h := rset_ok ?_ ?_ ?_)) | rintro _ _ ⟨rfl, rfl⟩ | rintro _ _ ⟨_, rfl, rfl⟩ | (refine G.prop ?_; assumption) | intro hb | ((fail_if_success refine G.tr ?_); exact G.prop S.p) | fail)
 all_goals
  refine Tr.fin hK ⟨?_, rfl⟩ ?_
  ·((try clear hK) <;> first | (simp [*, Tb.has]; done) | fail)
  ·(have hX := And.intro @refA.eq_def (And.intro @refS.eq_def (And.intro @refB.eq_def (And.intro @Tb.park.eq_def (And.intro @Tb.has.eq_def @at_ix)))); exact S.E)
end Go.Proofs.YtacmaamllpiloaaGreat
namespace Go.Proofs.YtacmaamllpiloaaGreat
open Go Go.Wk
set_option maxHeartbeats 800000
set_option maxRecDepth 10000
theorem wrap_succ {k : Nat} (h : k < 1000000000000) : IntKind.i64.wrap ((k : Int) + 1) = ((k + 1 : Nat) : Int) := by rw [wrap_id (by omega) (by omega)]; rfl
attribute [local irreducible] BrK GenK EGenK EUnitK CallK FnK CallV GuardO GuardC CondW opX opK opKc chkR eqR seqK blkK endL WL WD W LoopW BinK Tr drewK resL PickK NotK NilK ExtrK getK Instr.storeAt Instr.loadAt Instr.fieldAt Instr.indexAt Instr.lookup Instr.mapUpdate Instr.box Instr.alloc Instr.build Instr.buildSlice Instr.makeSlice Instr.makeMap Instr.sliceAt Instr.field Instr.index Instr.makeInterface Instr.typeAssert Builtin.len_ Builtin.append_ Builtin.cap_ Builtin.min_ Builtin.max_ Builtin.copy_ Builtin.clear_ convert binOp mp blk rob sl sep ex fact old
end Go.Proofs.YtacmaamllpiloaaGreat
namespace Go.Proofs.YtacmaamllpiloaaGreat
open Go Go.Wk
set_option maxHeartbeats 800000
set_option maxRecDepth 10000
theorem dueTo_len (t : Tb) (win : Int) : ∀ k, (t.dueTo win k).length ≤ k
 | 0 => by simp [Tb.dueTo]
 | k + 1 => by
  have ih := dueTo_len t win k
  simp only [Tb.dueTo, List.length_append]
  split <;> simp <;> omega
attribute [local irreducible] BrK GenK EGenK EUnitK CallK FnK CallV GuardO GuardC CondW opX opK opKc chkR eqR seqK blkK endL WL WD W LoopW BinK Tr drewK resL PickK NotK NilK ExtrK getK Instr.storeAt Instr.loadAt Instr.fieldAt Instr.indexAt Instr.lookup Instr.mapUpdate Instr.box Instr.alloc Instr.build Instr.buildSlice Instr.makeSlice Instr.makeMap Instr.sliceAt Instr.field Instr.index Instr.makeInterface Instr.typeAssert Builtin.len_ Builtin.append_ Builtin.cap_ Builtin.min_ Builtin.max_ Builtin.copy_ Builtin.clear_ convert binOp mp blk rob sl sep ex fact old
end Go.Proofs.YtacmaamllpiloaaGreat
