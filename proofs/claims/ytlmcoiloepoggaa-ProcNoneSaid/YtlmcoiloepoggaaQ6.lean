import Derived.Test.YtlmcoiloepoggaaQ5
namespace Go.Proofs.Ytlmcoiloepoggaa
open Go Go.Wk
set_option maxHeartbeats 800000
set_option maxRecDepth 10000
theorem tab_upd {a m : Nat} {t : Tb} {k : Int} {x : One} {F : List Asrt} {X : WP} (h : t.has k = true) (hx : Tr (tabA a { t with d := t.d.set k.toNat x } :: F) X) :
    Tr (blk a (.cells [.map (some m), .int .i64 t.turns].toArray 71 (0, 0)) :: mp m (upsert k x.v (kvF 0 t.d)) :: F) X := by
  rw [← set_kv t k x h]
  exact Tr.sep_iff.1 ((Tr.ex_iff.1 hx) m)
theorem tab_fold {a m : Nat} {t : Tb} {F : List Asrt} {X : WP} (hx : Tr (tabA a t :: F) X) :
    Tr (blk a (.cells [.map (some m), .int .i64 t.turns].toArray 71 (0, 0)) :: mp m (kvF 0 t.d) :: F) X := Tr.sep_iff.1 ((Tr.ex_iff.1 hx) m)
attribute [local irreducible] GenK EGenK EUnitK CallK FnK CallV GuardO GuardC CondW opX opK opKc chkR eqR seqK blkK endL WL WD W LoopW BinK Tr drewK resL PickK NotK NilK ExtrK getK Instr.storeAt Instr.loadAt Instr.fieldAt Instr.indexAt Instr.lookup Instr.mapUpdate Instr.box Instr.alloc Instr.build Instr.buildSlice Instr.makeSlice Instr.makeMap Instr.sliceAt Instr.field Instr.index Instr.makeInterface Instr.typeAssert Builtin.len_ Builtin.append_ Builtin.cap_ Builtin.min_ Builtin.max_ Builtin.copy_ Builtin.clear_ convert binOp mp blk rob sl sep ex fact old
def One.skips (win : Int) (d : One) : Bool := decide (d.period ≤ 0) || decide (d.state = 0) || decide (d.state = 3) || decide (win < d.next)
structure Rl where
  t : Tb
  rel : List Int
  mis : List Int
def Rl.step (win : Int) (k : Nat) (r : Rl) : Rl :=
  let p := r.t.at k
  if p.skips win then r else
  let p' := { p with next := IntKind.i64.wrap (win + p.period) }
  let t' := { r.t with d := r.t.d.set k p' }
  if p.state = 4 then { t := t'.put k p' 1, rel := r.rel ++ [(k : Int)], mis := r.mis } else { t := t', rel := r.rel, mis := r.mis ++ [(k : Int)] }
def Tb.relTo (t : Tb) (win : Int) : Nat → Rl
  | 0 => ⟨t, [], []⟩
  | k + 1 => (t.relTo win k).step win k
theorem relTo_len (t : Tb) (win : Int) : ∀ k, (t.relTo win k).t.d.length = t.d.length ∧ (t.relTo win k).rel.length ≤ k ∧ (t.relTo win k).mis.length ≤ k
  | 0 => by simp [Tb.relTo]
  | k + 1 => by
    have ih := relTo_len t win k
    simp only [Tb.relTo, Rl.step]
    split
    · omega
    · split <;> simp [Tb.put] <;> omega
theorem release_ok (a : Nat) (t : Tb) (win : Int) (hn : t.d.length ≤ 1000000) : Trip Try.prog 37 [.pointer (some ⟨a, 0, none⟩), .int .i64 win].toArray [tabA a t]
    fun v l' => ∃ s1 s2 : SV, v = .tuple #[s1.v, s2.v] ∧ l' = [sl false s1.v (t.relTo win t.d.length).rel, sl false s2.v (t.relTo win t.d.length).mis, tabA a (t.relTo win t.d.length).t] := by
  intro F K hK
  have hh := fun s1 s2 : SV => hK _ _ ⟨s1, s2, rfl, rfl⟩
  clear hK
  refine Tr.enter (rs := [.tmp 4, .tmp 5]) mixed fn37 rfl (by simp +arith [Try.ntmps37]) fun u => ?_
  simp only [cd37, Try.f37]
  (repeat (first
    | simp only [WKb, ↓reduceIte, Nat.reduceEqDiff, Nat.reduceAdd, Nat.reduceSub, pl37]
    | refine Tr.load1 (by (repeat (first | exact Cell.blk rfl | exact Cell.rob rfl | exact Cell.sl0 (by (repeat (first | exact Has.here | apply Has.next)); done) (by assumption) rfl | exact Cell.slj (by (repeat (first | exact Has.here | apply Has.next)); done) (by assumption) rfl | apply Cell.next))) ?_
    | refine Tr.loadN (by (repeat (first | exact CellsAt.blk0 rfl | exact CellsAt.blk rfl rfl | exact CellsAt.rob0 rfl | exact CellsAt.rob rfl rfl | exact CellsAt.sl0 (by (repeat (first | exact Has.here | apply Has.next)); done) (by assumption) rfl | exact CellsAt.slj (by (repeat (first | exact Has.here | apply Has.next)); done) (by assumption) rfl rfl | apply CellsAt.next))) ?_
    | refine Tr.box rfl fun _ => ?_
    | refine Tr.alloc rfl fun _ => ?_
    | refine Tr.build rfl ?_
    | refine Tr.drewK ?_
    | refine Tr.eqR rfl ?_
    | refine Tr.storeW rfl rfl rfl (by (repeat (first | exact Upd.here | apply Upd.next)); done) (by rfl) ?_
    | refine Tr.store rfl rfl rfl (by (repeat (first | exact Upd.here | apply Upd.next)); done) (by first | exact Nat.le_of_ble_eq_true rfl | (simp only [WKl, setL_length, En.len]; omega)) ?_
    | refine Tr.len (by (repeat (first | exact Has.here | apply Has.next)); done) ?_
    | refine Tr.cutTo (by (repeat (first | exact Has.here | apply Has.next)); done) (by rfl) (by omega) (by omega) fun _ => ?_
    | refine Tr.lookup (by (repeat (first | exact Has.here | apply Has.next)); done) ?_
    | refine Tr.mapUpdate (by (repeat (first | exact UpdA.here | apply UpdA.next)); done) ?_
    | refine Tr.lenMap (by (repeat (first | exact Has.here | apply Has.next)); done) ?_
    | refine Tr.makeMap fun _ => ?_
    | refine Tr.index (by (repeat (first | exact Has.here | apply Has.next)); done) (by rfl) (by omega) (by omega) ?_
    | refine Tr.condT (by first | rfl | (simp only [decide_eq_true_eq]; omega)) ?_
    | refine Tr.condF (by first | rfl | (simp only [decide_eq_false_iff_not]; omega)) ?_))
  refine Tr.call (len_ok a t) [0] rfl ?_
  rintro v l' ⟨rfl, rfl⟩
  (repeat (first
    | simp only [WKb, ↓reduceIte, Nat.reduceEqDiff, Nat.reduceAdd, Nat.reduceSub, pl37]
    | refine Tr.load1 (by (repeat (first | exact Cell.blk rfl | exact Cell.rob rfl | exact Cell.sl0 (by (repeat (first | exact Has.here | apply Has.next)); done) (by assumption) rfl | exact Cell.slj (by (repeat (first | exact Has.here | apply Has.next)); done) (by assumption) rfl | apply Cell.next))) ?_
    | refine Tr.loadN (by (repeat (first | exact CellsAt.blk0 rfl | exact CellsAt.blk rfl rfl | exact CellsAt.rob0 rfl | exact CellsAt.rob rfl rfl | exact CellsAt.sl0 (by (repeat (first | exact Has.here | apply Has.next)); done) (by assumption) rfl | exact CellsAt.slj (by (repeat (first | exact Has.here | apply Has.next)); done) (by assumption) rfl rfl | apply CellsAt.next))) ?_
    | refine Tr.box rfl fun _ => ?_
    | refine Tr.alloc rfl fun _ => ?_
    | refine Tr.build rfl ?_
    | refine Tr.drewK ?_
    | refine Tr.eqR rfl ?_
    | refine Tr.storeW rfl rfl rfl (by (repeat (first | exact Upd.here | apply Upd.next)); done) (by rfl) ?_
    | refine Tr.store rfl rfl rfl (by (repeat (first | exact Upd.here | apply Upd.next)); done) (by first | exact Nat.le_of_ble_eq_true rfl | (simp only [WKl, setL_length, En.len]; omega)) ?_
    | refine Tr.len (by (repeat (first | exact Has.here | apply Has.next)); done) ?_
    | refine Tr.cutTo (by (repeat (first | exact Has.here | apply Has.next)); done) (by rfl) (by omega) (by omega) fun _ => ?_
    | refine Tr.lookup (by (repeat (first | exact Has.here | apply Has.next)); done) ?_
    | refine Tr.mapUpdate (by (repeat (first | exact UpdA.here | apply UpdA.next)); done) ?_
    | refine Tr.lenMap (by (repeat (first | exact Has.here | apply Has.next)); done) ?_
    | refine Tr.makeMap fun _ => ?_
    | refine Tr.index (by (repeat (first | exact Has.here | apply Has.next)); done) (by rfl) (by omega) (by omega) ?_
    | refine Tr.condT (by first | rfl | (simp only [decide_eq_true_eq]; omega)) ?_
    | refine Tr.condF (by first | rfl | (simp only [decide_eq_false_iff_not]; omega)) ?_))
  refine Tr.nilSl (α := Int) (Tr.nilSl (α := Int) ?_)
  refine Tr.loop (α := Nat × SV × SV) [6, 7, 12] [0, 1, 11] (fun x => [x.2.1.v, x.2.2.v, .int .i64 x.1]) (fun x => [sl false x.2.1.v (t.relTo win x.1).rel, sl false x.2.2.v (t.relTo win x.1).mis, tabA a (t.relTo win x.1).t]) (fun x => x.1 ≤ t.d.length) (fun x => t.d.length - x.1) (F := F) (0, ⟨none, 0, 0⟩, ⟨none, 0, 0⟩) (by simp) rfl (fun w h => h) fun x u hx => ?_
  obtain ⟨k, s1, s2⟩ := x
  simp only at hx ⊢
  obtain ⟨hl1, hl2, hl3⟩ := relTo_len t win k
  by_cases hlt : k < t.d.length
  · have hw : IntKind.i64.wrap ((k : Int) + 1) = ((k + 1 : Nat) : Int) := by rw [wrap_id (by omega) (by omega)]; rfl
    have hst : t.relTo win (k + 1) = (t.relTo win k).step win k := rfl
    generalize t.relTo win k = r at *
    generalize hr' : t.relTo win (k + 1) = r' at *
    have hhas : r.t.has k = true := by simp [Tb.has]; omega
    simp only [List.nil_append, List.cons_append, tabA]
    refine Tr.front [2] ?_
    rw [show ∀ A B C D, front [2] (A :: B :: C :: D) = C :: A :: B :: D from fun _ _ _ _ => rfl]
    rw [Tr.ex_iff]; intro m; rw [Tr.sep_iff]
    (repeat (first
    | simp only [WKb, ↓reduceIte, Nat.reduceEqDiff, Nat.reduceAdd, Nat.reduceSub, pl37, find_tab1, find_tab2]
    | refine Tr.load1 (by (repeat (first | exact Cell.blk rfl | exact Cell.rob rfl | exact Cell.sl0 (by (repeat (first | exact Has.here | apply Has.next)); done) (by assumption) rfl | exact Cell.slj (by (repeat (first | exact Has.here | apply Has.next)); done) (by assumption) rfl | apply Cell.next))) ?_
    | refine Tr.loadN (by (repeat (first | exact CellsAt.blk0 rfl | exact CellsAt.blk rfl rfl | exact CellsAt.rob0 rfl | exact CellsAt.rob rfl rfl | exact CellsAt.sl0 (by (repeat (first | exact Has.here | apply Has.next)); done) (by assumption) rfl | exact CellsAt.slj (by (repeat (first | exact Has.here | apply Has.next)); done) (by assumption) rfl rfl | apply CellsAt.next))) ?_
    | refine Tr.box rfl fun _ => ?_
    | refine Tr.alloc rfl fun _ => ?_
    | refine Tr.build rfl ?_
    | refine Tr.drewK ?_
    | refine Tr.eqR rfl ?_
    | refine Tr.storeW rfl rfl rfl (by (repeat (first | exact Upd.here | apply Upd.next)); done) (by rfl) ?_
    | refine Tr.store rfl rfl rfl (by (repeat (first | exact Upd.here | apply Upd.next)); done) (by first | exact Nat.le_of_ble_eq_true rfl | (simp only [WKl, setL_length, En.len]; omega)) ?_
    | refine Tr.len (by (repeat (first | exact Has.here | apply Has.next)); done) ?_
    | refine Tr.cutTo (by (repeat (first | exact Has.here | apply Has.next)); done) (by rfl) (by omega) (by omega) fun _ => ?_
    | refine Tr.lookup (by (repeat (first | exact Has.here | apply Has.next)); done) ?_
    | refine Tr.mapUpdate (by (repeat (first | exact UpdA.here | apply UpdA.next)); done) ?_
    | refine Tr.lenMap (by (repeat (first | exact Has.here | apply Has.next)); done) ?_
    | refine Tr.makeMap fun _ => ?_
    | refine Tr.index (by (repeat (first | exact Has.here | apply Has.next)); done) (by rfl) (by omega) (by omega) ?_
    | refine Tr.condT (by first | rfl | (simp only [decide_eq_true_eq]; omega)) ?_
    | refine Tr.condF (by first | rfl | (simp only [decide_eq_false_iff_not]; omega)) ?_))
    have skip : (r.t.at k).skips win = true → r' = r := fun h => by rw [hst]; simp [Rl.step, h]
    have fin : r' = r → ∀ w, Sat w (blk a (.cells [Value.map (some m), Value.int IntKind.i64 r.t.turns].toArray 71 (0, 0)) :: mp m (kvF 0 r.t.d) :: sl false s1.v r.rel :: sl false s2.v r.mis :: F) →
        Sat w ([sl false s1.v r'.rel, sl false s2.v r'.mis, tabA a r'.t] ++ F) := by
      intro h w hw
      subst h
      have h2 : Sat w (tabA a r'.t :: sl false s1.v r'.rel :: sl false s2.v r'.mis :: F) := by
        simp only [tabA, Sat.ex_iff, Sat.sep_iff]; exact ⟨m, hw⟩
      exact h2.perm (front_perm [1, 1] _)
    cases e1 : decide ((r.t.at k).period ≤ 0)
    rotate_left
    · have hs := skip (by simp [One.skips, e1])
      (repeat (first
    | simp only [WKb, ↓reduceIte, Nat.reduceEqDiff, Nat.reduceAdd, Nat.reduceSub, pl37, e1]
    | refine Tr.load1 (by (repeat (first | exact Cell.blk rfl | exact Cell.rob rfl | exact Cell.sl0 (by (repeat (first | exact Has.here | apply Has.next)); done) (by assumption) rfl | exact Cell.slj (by (repeat (first | exact Has.here | apply Has.next)); done) (by assumption) rfl | apply Cell.next))) ?_
    | refine Tr.loadN (by (repeat (first | exact CellsAt.blk0 rfl | exact CellsAt.blk rfl rfl | exact CellsAt.rob0 rfl | exact CellsAt.rob rfl rfl | exact CellsAt.sl0 (by (repeat (first | exact Has.here | apply Has.next)); done) (by assumption) rfl | exact CellsAt.slj (by (repeat (first | exact Has.here | apply Has.next)); done) (by assumption) rfl rfl | apply CellsAt.next))) ?_
    | refine Tr.box rfl fun _ => ?_
    | refine Tr.alloc rfl fun _ => ?_
    | refine Tr.build rfl ?_
    | refine Tr.drewK ?_
    | refine Tr.eqR rfl ?_
    | refine Tr.storeW rfl rfl rfl (by (repeat (first | exact Upd.here | apply Upd.next)); done) (by rfl) ?_
    | refine Tr.store rfl rfl rfl (by (repeat (first | exact Upd.here | apply Upd.next)); done) (by first | exact Nat.le_of_ble_eq_true rfl | (simp only [WKl, setL_length, En.len]; omega)) ?_
    | refine Tr.len (by (repeat (first | exact Has.here | apply Has.next)); done) ?_
    | refine Tr.cutTo (by (repeat (first | exact Has.here | apply Has.next)); done) (by rfl) (by omega) (by omega) fun _ => ?_
    | refine Tr.lookup (by (repeat (first | exact Has.here | apply Has.next)); done) ?_
    | refine Tr.mapUpdate (by (repeat (first | exact UpdA.here | apply UpdA.next)); done) ?_
    | refine Tr.lenMap (by (repeat (first | exact Has.here | apply Has.next)); done) ?_
    | refine Tr.makeMap fun _ => ?_
    | refine Tr.index (by (repeat (first | exact Has.here | apply Has.next)); done) (by rfl) (by omega) (by omega) ?_
    | refine Tr.condT (by first | rfl | (simp only [decide_eq_true_eq]; omega)) ?_
    | refine Tr.condF (by first | rfl | (simp only [decide_eq_false_iff_not]; omega)) ?_))
      refine Tr.drop ?_
      refine Tr.again (k + 1, s1, s2) (by simp only [WKb, ↓reduceIte, Nat.reduceEqDiff, Nat.reduceAdd, Nat.reduceSub]) (by simp only [WKb, ↓reduceIte, Nat.reduceEqDiff, Nat.reduceAdd, Nat.reduceSub, hw]) (by simp; omega) (by simp; omega) ?_
      simp only [hr']
      exact Tr.sat_of fun w h => fin hs w h
    cases e2 : decide ((r.t.at k).state = 0)
    rotate_left
    · have hs := skip (by simp [One.skips, e1, e2])
      (repeat (first
    | simp only [WKb, ↓reduceIte, Nat.reduceEqDiff, Nat.reduceAdd, Nat.reduceSub, pl37, e1, e2]
    | refine Tr.load1 (by (repeat (first | exact Cell.blk rfl | exact Cell.rob rfl | exact Cell.sl0 (by (repeat (first | exact Has.here | apply Has.next)); done) (by assumption) rfl | exact Cell.slj (by (repeat (first | exact Has.here | apply Has.next)); done) (by assumption) rfl | apply Cell.next))) ?_
    | refine Tr.loadN (by (repeat (first | exact CellsAt.blk0 rfl | exact CellsAt.blk rfl rfl | exact CellsAt.rob0 rfl | exact CellsAt.rob rfl rfl | exact CellsAt.sl0 (by (repeat (first | exact Has.here | apply Has.next)); done) (by assumption) rfl | exact CellsAt.slj (by (repeat (first | exact Has.here | apply Has.next)); done) (by assumption) rfl rfl | apply CellsAt.next))) ?_
    | refine Tr.box rfl fun _ => ?_
    | refine Tr.alloc rfl fun _ => ?_
    | refine Tr.build rfl ?_
    | refine Tr.drewK ?_
    | refine Tr.eqR rfl ?_
    | refine Tr.storeW rfl rfl rfl (by (repeat (first | exact Upd.here | apply Upd.next)); done) (by rfl) ?_
    | refine Tr.store rfl rfl rfl (by (repeat (first | exact Upd.here | apply Upd.next)); done) (by first | exact Nat.le_of_ble_eq_true rfl | (simp only [WKl, setL_length, En.len]; omega)) ?_
    | refine Tr.len (by (repeat (first | exact Has.here | apply Has.next)); done) ?_
    | refine Tr.cutTo (by (repeat (first | exact Has.here | apply Has.next)); done) (by rfl) (by omega) (by omega) fun _ => ?_
    | refine Tr.lookup (by (repeat (first | exact Has.here | apply Has.next)); done) ?_
    | refine Tr.mapUpdate (by (repeat (first | exact UpdA.here | apply UpdA.next)); done) ?_
    | refine Tr.lenMap (by (repeat (first | exact Has.here | apply Has.next)); done) ?_
    | refine Tr.makeMap fun _ => ?_
    | refine Tr.index (by (repeat (first | exact Has.here | apply Has.next)); done) (by rfl) (by omega) (by omega) ?_
    | refine Tr.condT (by first | rfl | (simp only [decide_eq_true_eq]; omega)) ?_
    | refine Tr.condF (by first | rfl | (simp only [decide_eq_false_iff_not]; omega)) ?_))
      refine Tr.drop ?_
      refine Tr.again (k + 1, s1, s2) (by simp only [WKb, ↓reduceIte, Nat.reduceEqDiff, Nat.reduceAdd, Nat.reduceSub]) (by simp only [WKb, ↓reduceIte, Nat.reduceEqDiff, Nat.reduceAdd, Nat.reduceSub, hw]) (by simp; omega) (by simp; omega) ?_
      simp only [hr']
      exact Tr.sat_of fun w h => fin hs w h
    cases e3 : decide ((r.t.at k).state = 3)
    rotate_left
    · have hs := skip (by simp [One.skips, e1, e2, e3])
      (repeat (first
    | simp only [WKb, ↓reduceIte, Nat.reduceEqDiff, Nat.reduceAdd, Nat.reduceSub, pl37, e1, e2, e3]
    | refine Tr.load1 (by (repeat (first | exact Cell.blk rfl | exact Cell.rob rfl | exact Cell.sl0 (by (repeat (first | exact Has.here | apply Has.next)); done) (by assumption) rfl | exact Cell.slj (by (repeat (first | exact Has.here | apply Has.next)); done) (by assumption) rfl | apply Cell.next))) ?_
    | refine Tr.loadN (by (repeat (first | exact CellsAt.blk0 rfl | exact CellsAt.blk rfl rfl | exact CellsAt.rob0 rfl | exact CellsAt.rob rfl rfl | exact CellsAt.sl0 (by (repeat (first | exact Has.here | apply Has.next)); done) (by assumption) rfl | exact CellsAt.slj (by (repeat (first | exact Has.here | apply Has.next)); done) (by assumption) rfl rfl | apply CellsAt.next))) ?_
    | refine Tr.box rfl fun _ => ?_
    | refine Tr.alloc rfl fun _ => ?_
    | refine Tr.build rfl ?_
    | refine Tr.drewK ?_
    | refine Tr.eqR rfl ?_
    | refine Tr.storeW rfl rfl rfl (by (repeat (first | exact Upd.here | apply Upd.next)); done) (by rfl) ?_
    | refine Tr.store rfl rfl rfl (by (repeat (first | exact Upd.here | apply Upd.next)); done) (by first | exact Nat.le_of_ble_eq_true rfl | (simp only [WKl, setL_length, En.len]; omega)) ?_
    | refine Tr.len (by (repeat (first | exact Has.here | apply Has.next)); done) ?_
    | refine Tr.cutTo (by (repeat (first | exact Has.here | apply Has.next)); done) (by rfl) (by omega) (by omega) fun _ => ?_
    | refine Tr.lookup (by (repeat (first | exact Has.here | apply Has.next)); done) ?_
    | refine Tr.mapUpdate (by (repeat (first | exact UpdA.here | apply UpdA.next)); done) ?_
    | refine Tr.lenMap (by (repeat (first | exact Has.here | apply Has.next)); done) ?_
    | refine Tr.makeMap fun _ => ?_
    | refine Tr.index (by (repeat (first | exact Has.here | apply Has.next)); done) (by rfl) (by omega) (by omega) ?_
    | refine Tr.condT (by first | rfl | (simp only [decide_eq_true_eq]; omega)) ?_
    | refine Tr.condF (by first | rfl | (simp only [decide_eq_false_iff_not]; omega)) ?_))
      refine Tr.drop ?_
      refine Tr.again (k + 1, s1, s2) (by simp only [WKb, ↓reduceIte, Nat.reduceEqDiff, Nat.reduceAdd, Nat.reduceSub]) (by simp only [WKb, ↓reduceIte, Nat.reduceEqDiff, Nat.reduceAdd, Nat.reduceSub, hw]) (by simp; omega) (by simp; omega) ?_
      simp only [hr']
      exact Tr.sat_of fun w h => fin hs w h
    cases e4 : decide (win < (r.t.at k).next)
    rotate_left
    · have hs := skip (by simp [One.skips, e1, e2, e3, e4])
      (repeat (first
    | simp only [WKb, ↓reduceIte, Nat.reduceEqDiff, Nat.reduceAdd, Nat.reduceSub, pl37, e1, e2, e3, e4]
    | refine Tr.load1 (by (repeat (first | exact Cell.blk rfl | exact Cell.rob rfl | exact Cell.sl0 (by (repeat (first | exact Has.here | apply Has.next)); done) (by assumption) rfl | exact Cell.slj (by (repeat (first | exact Has.here | apply Has.next)); done) (by assumption) rfl | apply Cell.next))) ?_
    | refine Tr.loadN (by (repeat (first | exact CellsAt.blk0 rfl | exact CellsAt.blk rfl rfl | exact CellsAt.rob0 rfl | exact CellsAt.rob rfl rfl | exact CellsAt.sl0 (by (repeat (first | exact Has.here | apply Has.next)); done) (by assumption) rfl | exact CellsAt.slj (by (repeat (first | exact Has.here | apply Has.next)); done) (by assumption) rfl rfl | apply CellsAt.next))) ?_
    | refine Tr.box rfl fun _ => ?_
    | refine Tr.alloc rfl fun _ => ?_
    | refine Tr.build rfl ?_
    | refine Tr.drewK ?_
    | refine Tr.eqR rfl ?_
    | refine Tr.storeW rfl rfl rfl (by (repeat (first | exact Upd.here | apply Upd.next)); done) (by rfl) ?_
    | refine Tr.store rfl rfl rfl (by (repeat (first | exact Upd.here | apply Upd.next)); done) (by first | exact Nat.le_of_ble_eq_true rfl | (simp only [WKl, setL_length, En.len]; omega)) ?_
    | refine Tr.len (by (repeat (first | exact Has.here | apply Has.next)); done) ?_
    | refine Tr.cutTo (by (repeat (first | exact Has.here | apply Has.next)); done) (by rfl) (by omega) (by omega) fun _ => ?_
    | refine Tr.lookup (by (repeat (first | exact Has.here | apply Has.next)); done) ?_
    | refine Tr.mapUpdate (by (repeat (first | exact UpdA.here | apply UpdA.next)); done) ?_
    | refine Tr.lenMap (by (repeat (first | exact Has.here | apply Has.next)); done) ?_
    | refine Tr.makeMap fun _ => ?_
    | refine Tr.index (by (repeat (first | exact Has.here | apply Has.next)); done) (by rfl) (by omega) (by omega) ?_
    | refine Tr.condT (by first | rfl | (simp only [decide_eq_true_eq]; omega)) ?_
    | refine Tr.condF (by first | rfl | (simp only [decide_eq_false_iff_not]; omega)) ?_))
      refine Tr.drop ?_
      refine Tr.again (k + 1, s1, s2) (by simp only [WKb, ↓reduceIte, Nat.reduceEqDiff, Nat.reduceAdd, Nat.reduceSub]) (by simp only [WKb, ↓reduceIte, Nat.reduceEqDiff, Nat.reduceAdd, Nat.reduceSub, hw]) (by simp; omega) (by simp; omega) ?_
      simp only [hr']
      exact Tr.sat_of fun w h => fin hs w h
    have hns : (r.t.at k).skips win = false := by simp [One.skips, e1, e2, e3, e4]
    (repeat (first
    | simp only [WKb, ↓reduceIte, Nat.reduceEqDiff, Nat.reduceAdd, Nat.reduceSub, pl37, e1, e2, e3, e4]
    | refine Tr.load1 (by (repeat (first | exact Cell.blk rfl | exact Cell.rob rfl | exact Cell.sl0 (by (repeat (first | exact Has.here | apply Has.next)); done) (by assumption) rfl | exact Cell.slj (by (repeat (first | exact Has.here | apply Has.next)); done) (by assumption) rfl | apply Cell.next))) ?_
    | refine Tr.loadN (by (repeat (first | exact CellsAt.blk0 rfl | exact CellsAt.blk rfl rfl | exact CellsAt.rob0 rfl | exact CellsAt.rob rfl rfl | exact CellsAt.sl0 (by (repeat (first | exact Has.here | apply Has.next)); done) (by assumption) rfl | exact CellsAt.slj (by (repeat (first | exact Has.here | apply Has.next)); done) (by assumption) rfl rfl | apply CellsAt.next))) ?_
    | refine Tr.box rfl fun _ => ?_
    | refine Tr.alloc rfl fun _ => ?_
    | refine Tr.build rfl ?_
    | refine Tr.drewK ?_
    | refine Tr.eqR rfl ?_
    | refine Tr.storeW rfl rfl rfl (by (repeat (first | exact Upd.here | apply Upd.next)); done) (by rfl) ?_
    | refine Tr.store rfl rfl rfl (by (repeat (first | exact Upd.here | apply Upd.next)); done) (by first | exact Nat.le_of_ble_eq_true rfl | (simp only [WKl, setL_length, En.len]; omega)) ?_
    | refine Tr.len (by (repeat (first | exact Has.here | apply Has.next)); done) ?_
    | refine Tr.cutTo (by (repeat (first | exact Has.here | apply Has.next)); done) (by rfl) (by omega) (by omega) fun _ => ?_
    | refine Tr.lookup (by (repeat (first | exact Has.here | apply Has.next)); done) ?_
    | refine Tr.mapUpdate (by (repeat (first | exact UpdA.here | apply UpdA.next)); done) ?_
    | refine Tr.lenMap (by (repeat (first | exact Has.here | apply Has.next)); done) ?_
    | refine Tr.makeMap fun _ => ?_
    | refine Tr.index (by (repeat (first | exact Has.here | apply Has.next)); done) (by rfl) (by omega) (by omega) ?_
    | refine Tr.condT (by first | rfl | (simp only [decide_eq_true_eq]; omega)) ?_
    | refine Tr.condF (by first | rfl | (simp only [decide_eq_false_iff_not]; omega)) ?_))
    refine Tr.front [1, 1] ?_
    rw [show ∀ A B C D, front [1, 1] (A :: B :: C :: D) = B :: C :: A :: D from fun _ _ _ _ => rfl]
    refine tab_upd (x := { r.t.at k with next := IntKind.i64.wrap (win + (r.t.at k).period) }) hhas ?_
    have hlen8 : ∀ n, n ≤ k → (2 * (n + 1) + 1000) * 8 ≤ 2 ^ 48 := fun n h => by omega
    cases e5 : decide ((r.t.at k).state = 4)
    · have f5 : ¬ (r.t.at k).state = 4 := by simpa using e5
      have hs : r' = { t := { r.t with d := r.t.d.set k { r.t.at k with next := IntKind.i64.wrap (win + (r.t.at k).period) } }, rel := r.rel, mis := r.mis ++ [(k : Int)] } := by
        rw [hst]; simp only [Rl.step, hns, Bool.false_eq_true, if_false, f5]
      (repeat (first
    | simp only [WKb, ↓reduceIte, Nat.reduceEqDiff, Nat.reduceAdd, Nat.reduceSub, pl37, e5]
    | refine Tr.load1 (by (repeat (first | exact Cell.blk rfl | exact Cell.rob rfl | exact Cell.sl0 (by (repeat (first | exact Has.here | apply Has.next)); done) (by assumption) rfl | exact Cell.slj (by (repeat (first | exact Has.here | apply Has.next)); done) (by assumption) rfl | apply Cell.next))) ?_
    | refine Tr.loadN (by (repeat (first | exact CellsAt.blk0 rfl | exact CellsAt.blk rfl rfl | exact CellsAt.rob0 rfl | exact CellsAt.rob rfl rfl | exact CellsAt.sl0 (by (repeat (first | exact Has.here | apply Has.next)); done) (by assumption) rfl | exact CellsAt.slj (by (repeat (first | exact Has.here | apply Has.next)); done) (by assumption) rfl rfl | apply CellsAt.next))) ?_
    | refine Tr.box rfl fun _ => ?_
    | refine Tr.alloc rfl fun _ => ?_
    | refine Tr.build rfl ?_
    | refine Tr.drewK ?_
    | refine Tr.eqR rfl ?_
    | refine Tr.storeW rfl rfl rfl (by (repeat (first | exact Upd.here | apply Upd.next)); done) (by rfl) ?_
    | refine Tr.store rfl rfl rfl (by (repeat (first | exact Upd.here | apply Upd.next)); done) (by first | exact Nat.le_of_ble_eq_true rfl | (simp only [WKl, setL_length, En.len]; omega)) ?_
    | refine Tr.len (by (repeat (first | exact Has.here | apply Has.next)); done) ?_
    | refine Tr.cutTo (by (repeat (first | exact Has.here | apply Has.next)); done) (by rfl) (by omega) (by omega) fun _ => ?_
    | refine Tr.lookup (by (repeat (first | exact Has.here | apply Has.next)); done) ?_
    | refine Tr.mapUpdate (by (repeat (first | exact UpdA.here | apply UpdA.next)); done) ?_
    | refine Tr.lenMap (by (repeat (first | exact Has.here | apply Has.next)); done) ?_
    | refine Tr.makeMap fun _ => ?_
    | refine Tr.index (by (repeat (first | exact Has.here | apply Has.next)); done) (by rfl) (by omega) (by omega) ?_
    | refine Tr.condT (by first | rfl | (simp only [decide_eq_true_eq]; omega)) ?_
    | refine Tr.condF (by first | rfl | (simp only [decide_eq_false_iff_not]; omega)) ?_))
      refine Tr.buildSlice (α := Int) (xs := [(k : Int)]) (d := (0 : Int)) rfl rfl (by decide) rfl fun s0 => ?_
      (repeat (first
    | simp only [WKb, ↓reduceIte, Nat.reduceEqDiff, Nat.reduceAdd, Nat.reduceSub, pl37]
    | refine Tr.load1 (by (repeat (first | exact Cell.blk rfl | exact Cell.rob rfl | exact Cell.sl0 (by (repeat (first | exact Has.here | apply Has.next)); done) (by assumption) rfl | exact Cell.slj (by (repeat (first | exact Has.here | apply Has.next)); done) (by assumption) rfl | apply Cell.next))) ?_
    | refine Tr.loadN (by (repeat (first | exact CellsAt.blk0 rfl | exact CellsAt.blk rfl rfl | exact CellsAt.rob0 rfl | exact CellsAt.rob rfl rfl | exact CellsAt.sl0 (by (repeat (first | exact Has.here | apply Has.next)); done) (by assumption) rfl | exact CellsAt.slj (by (repeat (first | exact Has.here | apply Has.next)); done) (by assumption) rfl rfl | apply CellsAt.next))) ?_
    | refine Tr.box rfl fun _ => ?_
    | refine Tr.alloc rfl fun _ => ?_
    | refine Tr.build rfl ?_
    | refine Tr.drewK ?_
    | refine Tr.eqR rfl ?_
    | refine Tr.storeW rfl rfl rfl (by (repeat (first | exact Upd.here | apply Upd.next)); done) (by rfl) ?_
    | refine Tr.store rfl rfl rfl (by (repeat (first | exact Upd.here | apply Upd.next)); done) (by first | exact Nat.le_of_ble_eq_true rfl | (simp only [WKl, setL_length, En.len]; omega)) ?_
    | refine Tr.len (by (repeat (first | exact Has.here | apply Has.next)); done) ?_
    | refine Tr.cutTo (by (repeat (first | exact Has.here | apply Has.next)); done) (by rfl) (by omega) (by omega) fun _ => ?_
    | refine Tr.lookup (by (repeat (first | exact Has.here | apply Has.next)); done) ?_
    | refine Tr.mapUpdate (by (repeat (first | exact UpdA.here | apply UpdA.next)); done) ?_
    | refine Tr.lenMap (by (repeat (first | exact Has.here | apply Has.next)); done) ?_
    | refine Tr.makeMap fun _ => ?_
    | refine Tr.index (by (repeat (first | exact Has.here | apply Has.next)); done) (by rfl) (by omega) (by omega) ?_
    | refine Tr.condT (by first | rfl | (simp only [decide_eq_true_eq]; omega)) ?_
    | refine Tr.condF (by first | rfl | (simp only [decide_eq_false_iff_not]; omega)) ?_))
      refine Tr.append (α := Int) (xs := r.mis) (ys := [(k : Int)]) rfl (by (repeat (first | exact TakeA.here | apply TakeA.next)); done) (by (repeat (first | exact Has.here | apply Has.next)); done) (by decide) (hlen8 _ hl3) fun s3 => ?_
      (repeat (first
    | simp only [WKb, ↓reduceIte, Nat.reduceEqDiff, Nat.reduceAdd, Nat.reduceSub, pl37]
    | refine Tr.load1 (by (repeat (first | exact Cell.blk rfl | exact Cell.rob rfl | exact Cell.sl0 (by (repeat (first | exact Has.here | apply Has.next)); done) (by assumption) rfl | exact Cell.slj (by (repeat (first | exact Has.here | apply Has.next)); done) (by assumption) rfl | apply Cell.next))) ?_
    | refine Tr.loadN (by (repeat (first | exact CellsAt.blk0 rfl | exact CellsAt.blk rfl rfl | exact CellsAt.rob0 rfl | exact CellsAt.rob rfl rfl | exact CellsAt.sl0 (by (repeat (first | exact Has.here | apply Has.next)); done) (by assumption) rfl | exact CellsAt.slj (by (repeat (first | exact Has.here | apply Has.next)); done) (by assumption) rfl rfl | apply CellsAt.next))) ?_
    | refine Tr.box rfl fun _ => ?_
    | refine Tr.alloc rfl fun _ => ?_
    | refine Tr.build rfl ?_
    | refine Tr.drewK ?_
    | refine Tr.eqR rfl ?_
    | refine Tr.storeW rfl rfl rfl (by (repeat (first | exact Upd.here | apply Upd.next)); done) (by rfl) ?_
    | refine Tr.store rfl rfl rfl (by (repeat (first | exact Upd.here | apply Upd.next)); done) (by first | exact Nat.le_of_ble_eq_true rfl | (simp only [WKl, setL_length, En.len]; omega)) ?_
    | refine Tr.len (by (repeat (first | exact Has.here | apply Has.next)); done) ?_
    | refine Tr.cutTo (by (repeat (first | exact Has.here | apply Has.next)); done) (by rfl) (by omega) (by omega) fun _ => ?_
    | refine Tr.lookup (by (repeat (first | exact Has.here | apply Has.next)); done) ?_
    | refine Tr.mapUpdate (by (repeat (first | exact UpdA.here | apply UpdA.next)); done) ?_
    | refine Tr.lenMap (by (repeat (first | exact Has.here | apply Has.next)); done) ?_
    | refine Tr.makeMap fun _ => ?_
    | refine Tr.index (by (repeat (first | exact Has.here | apply Has.next)); done) (by rfl) (by omega) (by omega) ?_
    | refine Tr.condT (by first | rfl | (simp only [decide_eq_true_eq]; omega)) ?_
    | refine Tr.condF (by first | rfl | (simp only [decide_eq_false_iff_not]; omega)) ?_))
      refine Tr.again (k + 1, s1, s3) (by simp only [WKb, ↓reduceIte, Nat.reduceEqDiff, Nat.reduceAdd, Nat.reduceSub]) (by simp only [WKb, ↓reduceIte, Nat.reduceEqDiff, Nat.reduceAdd, Nat.reduceSub, hw]) (by simp; omega) (by simp; omega) ?_
      simp only [hr', hs]
      exact Tr.sat_of fun w h => (Sat.tail ((Sat.tail (h.perm (front_perm [1] _))).perm (front_perm [2] _))).perm (front_perm [2, 0] _)
    · have f5 : (r.t.at k).state = 4 := by simpa using e5
      have hs : r' = { t := Tb.put { r.t with d := r.t.d.set k { r.t.at k with next := IntKind.i64.wrap (win + (r.t.at k).period) } } k { r.t.at k with next := IntKind.i64.wrap (win + (r.t.at k).period) } 1, rel := r.rel ++ [(k : Int)], mis := r.mis } := by
        rw [hst]; simp only [Rl.step, hns, Bool.false_eq_true, if_false, f5, if_true]
      (repeat (first
    | simp only [WKb, ↓reduceIte, Nat.reduceEqDiff, Nat.reduceAdd, Nat.reduceSub, pl37, e5]
    | refine Tr.load1 (by (repeat (first | exact Cell.blk rfl | exact Cell.rob rfl | exact Cell.sl0 (by (repeat (first | exact Has.here | apply Has.next)); done) (by assumption) rfl | exact Cell.slj (by (repeat (first | exact Has.here | apply Has.next)); done) (by assumption) rfl | apply Cell.next))) ?_
    | refine Tr.loadN (by (repeat (first | exact CellsAt.blk0 rfl | exact CellsAt.blk rfl rfl | exact CellsAt.rob0 rfl | exact CellsAt.rob rfl rfl | exact CellsAt.sl0 (by (repeat (first | exact Has.here | apply Has.next)); done) (by assumption) rfl | exact CellsAt.slj (by (repeat (first | exact Has.here | apply Has.next)); done) (by assumption) rfl rfl | apply CellsAt.next))) ?_
    | refine Tr.box rfl fun _ => ?_
    | refine Tr.alloc rfl fun _ => ?_
    | refine Tr.build rfl ?_
    | refine Tr.drewK ?_
    | refine Tr.eqR rfl ?_
    | refine Tr.storeW rfl rfl rfl (by (repeat (first | exact Upd.here | apply Upd.next)); done) (by rfl) ?_
    | refine Tr.store rfl rfl rfl (by (repeat (first | exact Upd.here | apply Upd.next)); done) (by first | exact Nat.le_of_ble_eq_true rfl | (simp only [WKl, setL_length, En.len]; omega)) ?_
    | refine Tr.len (by (repeat (first | exact Has.here | apply Has.next)); done) ?_
    | refine Tr.cutTo (by (repeat (first | exact Has.here | apply Has.next)); done) (by rfl) (by omega) (by omega) fun _ => ?_
    | refine Tr.lookup (by (repeat (first | exact Has.here | apply Has.next)); done) ?_
    | refine Tr.mapUpdate (by (repeat (first | exact UpdA.here | apply UpdA.next)); done) ?_
    | refine Tr.lenMap (by (repeat (first | exact Has.here | apply Has.next)); done) ?_
    | refine Tr.makeMap fun _ => ?_
    | refine Tr.index (by (repeat (first | exact Has.here | apply Has.next)); done) (by rfl) (by omega) (by omega) ?_
    | refine Tr.condT (by first | rfl | (simp only [decide_eq_true_eq]; omega)) ?_
    | refine Tr.condF (by first | rfl | (simp only [decide_eq_false_iff_not]; omega)) ?_))
      refine Tr.call (put_ok a { r.t with d := r.t.d.set k { r.t.at k with next := IntKind.i64.wrap (win + (r.t.at k).period) } } k { r.t.at k with next := IntKind.i64.wrap (win + (r.t.at k).period) } 1 (by omega) (by simp; omega)) [0] rfl ?_
      rintro v l' ⟨rfl, rfl⟩
      (repeat (first
    | simp only [WKb, ↓reduceIte, Nat.reduceEqDiff, Nat.reduceAdd, Nat.reduceSub, pl37]
    | refine Tr.load1 (by (repeat (first | exact Cell.blk rfl | exact Cell.rob rfl | exact Cell.sl0 (by (repeat (first | exact Has.here | apply Has.next)); done) (by assumption) rfl | exact Cell.slj (by (repeat (first | exact Has.here | apply Has.next)); done) (by assumption) rfl | apply Cell.next))) ?_
    | refine Tr.loadN (by (repeat (first | exact CellsAt.blk0 rfl | exact CellsAt.blk rfl rfl | exact CellsAt.rob0 rfl | exact CellsAt.rob rfl rfl | exact CellsAt.sl0 (by (repeat (first | exact Has.here | apply Has.next)); done) (by assumption) rfl | exact CellsAt.slj (by (repeat (first | exact Has.here | apply Has.next)); done) (by assumption) rfl rfl | apply CellsAt.next))) ?_
    | refine Tr.box rfl fun _ => ?_
    | refine Tr.alloc rfl fun _ => ?_
    | refine Tr.build rfl ?_
    | refine Tr.drewK ?_
    | refine Tr.eqR rfl ?_
    | refine Tr.storeW rfl rfl rfl (by (repeat (first | exact Upd.here | apply Upd.next)); done) (by rfl) ?_
    | refine Tr.store rfl rfl rfl (by (repeat (first | exact Upd.here | apply Upd.next)); done) (by first | exact Nat.le_of_ble_eq_true rfl | (simp only [WKl, setL_length, En.len]; omega)) ?_
    | refine Tr.len (by (repeat (first | exact Has.here | apply Has.next)); done) ?_
    | refine Tr.cutTo (by (repeat (first | exact Has.here | apply Has.next)); done) (by rfl) (by omega) (by omega) fun _ => ?_
    | refine Tr.lookup (by (repeat (first | exact Has.here | apply Has.next)); done) ?_
    | refine Tr.mapUpdate (by (repeat (first | exact UpdA.here | apply UpdA.next)); done) ?_
    | refine Tr.lenMap (by (repeat (first | exact Has.here | apply Has.next)); done) ?_
    | refine Tr.makeMap fun _ => ?_
    | refine Tr.index (by (repeat (first | exact Has.here | apply Has.next)); done) (by rfl) (by omega) (by omega) ?_
    | refine Tr.condT (by first | rfl | (simp only [decide_eq_true_eq]; omega)) ?_
    | refine Tr.condF (by first | rfl | (simp only [decide_eq_false_iff_not]; omega)) ?_))
      refine Tr.buildSlice (α := Int) (xs := [(k : Int)]) (d := (0 : Int)) rfl rfl (by decide) rfl fun s0 => ?_
      (repeat (first
    | simp only [WKb, ↓reduceIte, Nat.reduceEqDiff, Nat.reduceAdd, Nat.reduceSub, pl37]
    | refine Tr.load1 (by (repeat (first | exact Cell.blk rfl | exact Cell.rob rfl | exact Cell.sl0 (by (repeat (first | exact Has.here | apply Has.next)); done) (by assumption) rfl | exact Cell.slj (by (repeat (first | exact Has.here | apply Has.next)); done) (by assumption) rfl | apply Cell.next))) ?_
    | refine Tr.loadN (by (repeat (first | exact CellsAt.blk0 rfl | exact CellsAt.blk rfl rfl | exact CellsAt.rob0 rfl | exact CellsAt.rob rfl rfl | exact CellsAt.sl0 (by (repeat (first | exact Has.here | apply Has.next)); done) (by assumption) rfl | exact CellsAt.slj (by (repeat (first | exact Has.here | apply Has.next)); done) (by assumption) rfl rfl | apply CellsAt.next))) ?_
    | refine Tr.box rfl fun _ => ?_
    | refine Tr.alloc rfl fun _ => ?_
    | refine Tr.build rfl ?_
    | refine Tr.drewK ?_
    | refine Tr.eqR rfl ?_
    | refine Tr.storeW rfl rfl rfl (by (repeat (first | exact Upd.here | apply Upd.next)); done) (by rfl) ?_
    | refine Tr.store rfl rfl rfl (by (repeat (first | exact Upd.here | apply Upd.next)); done) (by first | exact Nat.le_of_ble_eq_true rfl | (simp only [WKl, setL_length, En.len]; omega)) ?_
    | refine Tr.len (by (repeat (first | exact Has.here | apply Has.next)); done) ?_
    | refine Tr.cutTo (by (repeat (first | exact Has.here | apply Has.next)); done) (by rfl) (by omega) (by omega) fun _ => ?_
    | refine Tr.lookup (by (repeat (first | exact Has.here | apply Has.next)); done) ?_
    | refine Tr.mapUpdate (by (repeat (first | exact UpdA.here | apply UpdA.next)); done) ?_
    | refine Tr.lenMap (by (repeat (first | exact Has.here | apply Has.next)); done) ?_
    | refine Tr.makeMap fun _ => ?_
    | refine Tr.index (by (repeat (first | exact Has.here | apply Has.next)); done) (by rfl) (by omega) (by omega) ?_
    | refine Tr.condT (by first | rfl | (simp only [decide_eq_true_eq]; omega)) ?_
    | refine Tr.condF (by first | rfl | (simp only [decide_eq_false_iff_not]; omega)) ?_))
      refine Tr.append (α := Int) (xs := r.rel) (ys := [(k : Int)]) rfl (by (repeat (first | exact TakeA.here | apply TakeA.next)); done) (by (repeat (first | exact Has.here | apply Has.next)); done) (by decide) (hlen8 _ hl2) fun s3 => ?_
      (repeat (first
    | simp only [WKb, ↓reduceIte, Nat.reduceEqDiff, Nat.reduceAdd, Nat.reduceSub, pl37]
    | refine Tr.load1 (by (repeat (first | exact Cell.blk rfl | exact Cell.rob rfl | exact Cell.sl0 (by (repeat (first | exact Has.here | apply Has.next)); done) (by assumption) rfl | exact Cell.slj (by (repeat (first | exact Has.here | apply Has.next)); done) (by assumption) rfl | apply Cell.next))) ?_
    | refine Tr.loadN (by (repeat (first | exact CellsAt.blk0 rfl | exact CellsAt.blk rfl rfl | exact CellsAt.rob0 rfl | exact CellsAt.rob rfl rfl | exact CellsAt.sl0 (by (repeat (first | exact Has.here | apply Has.next)); done) (by assumption) rfl | exact CellsAt.slj (by (repeat (first | exact Has.here | apply Has.next)); done) (by assumption) rfl rfl | apply CellsAt.next))) ?_
    | refine Tr.box rfl fun _ => ?_
    | refine Tr.alloc rfl fun _ => ?_
    | refine Tr.build rfl ?_
    | refine Tr.drewK ?_
    | refine Tr.eqR rfl ?_
    | refine Tr.storeW rfl rfl rfl (by (repeat (first | exact Upd.here | apply Upd.next)); done) (by rfl) ?_
    | refine Tr.store rfl rfl rfl (by (repeat (first | exact Upd.here | apply Upd.next)); done) (by first | exact Nat.le_of_ble_eq_true rfl | (simp only [WKl, setL_length, En.len]; omega)) ?_
    | refine Tr.len (by (repeat (first | exact Has.here | apply Has.next)); done) ?_
    | refine Tr.cutTo (by (repeat (first | exact Has.here | apply Has.next)); done) (by rfl) (by omega) (by omega) fun _ => ?_
    | refine Tr.lookup (by (repeat (first | exact Has.here | apply Has.next)); done) ?_
    | refine Tr.mapUpdate (by (repeat (first | exact UpdA.here | apply UpdA.next)); done) ?_
    | refine Tr.lenMap (by (repeat (first | exact Has.here | apply Has.next)); done) ?_
    | refine Tr.makeMap fun _ => ?_
    | refine Tr.index (by (repeat (first | exact Has.here | apply Has.next)); done) (by rfl) (by omega) (by omega) ?_
    | refine Tr.condT (by first | rfl | (simp only [decide_eq_true_eq]; omega)) ?_
    | refine Tr.condF (by first | rfl | (simp only [decide_eq_false_iff_not]; omega)) ?_))
      refine Tr.again (k + 1, s3, s2) (by simp only [WKb, ↓reduceIte, Nat.reduceEqDiff, Nat.reduceAdd, Nat.reduceSub]) (by simp only [WKb, ↓reduceIte, Nat.reduceEqDiff, Nat.reduceAdd, Nat.reduceSub, hw]) (by simp; omega) (by simp; omega) ?_
      simp only [hr', hs]
      exact Tr.sat_of fun w h => (Sat.tail ((Sat.tail (h.perm (front_perm [1] _))).perm (front_perm [2] _))).perm (front_perm [0, 1] _)
  · have : k = t.d.length := by omega
    subst this
    (repeat (first
    | simp only [WKb, ↓reduceIte, Nat.reduceEqDiff, Nat.reduceAdd, Nat.reduceSub, pl37]
    | refine Tr.load1 (by (repeat (first | exact Cell.blk rfl | exact Cell.rob rfl | exact Cell.sl0 (by (repeat (first | exact Has.here | apply Has.next)); done) (by assumption) rfl | exact Cell.slj (by (repeat (first | exact Has.here | apply Has.next)); done) (by assumption) rfl | apply Cell.next))) ?_
    | refine Tr.loadN (by (repeat (first | exact CellsAt.blk0 rfl | exact CellsAt.blk rfl rfl | exact CellsAt.rob0 rfl | exact CellsAt.rob rfl rfl | exact CellsAt.sl0 (by (repeat (first | exact Has.here | apply Has.next)); done) (by assumption) rfl | exact CellsAt.slj (by (repeat (first | exact Has.here | apply Has.next)); done) (by assumption) rfl rfl | apply CellsAt.next))) ?_
    | refine Tr.box rfl fun _ => ?_
    | refine Tr.alloc rfl fun _ => ?_
    | refine Tr.build rfl ?_
    | refine Tr.drewK ?_
    | refine Tr.eqR rfl ?_
    | refine Tr.storeW rfl rfl rfl (by (repeat (first | exact Upd.here | apply Upd.next)); done) (by rfl) ?_
    | refine Tr.store rfl rfl rfl (by (repeat (first | exact Upd.here | apply Upd.next)); done) (by first | exact Nat.le_of_ble_eq_true rfl | (simp only [WKl, setL_length, En.len]; omega)) ?_
    | refine Tr.len (by (repeat (first | exact Has.here | apply Has.next)); done) ?_
    | refine Tr.cutTo (by (repeat (first | exact Has.here | apply Has.next)); done) (by rfl) (by omega) (by omega) fun _ => ?_
    | refine Tr.lookup (by (repeat (first | exact Has.here | apply Has.next)); done) ?_
    | refine Tr.mapUpdate (by (repeat (first | exact UpdA.here | apply UpdA.next)); done) ?_
    | refine Tr.lenMap (by (repeat (first | exact Has.here | apply Has.next)); done) ?_
    | refine Tr.makeMap fun _ => ?_
    | refine Tr.index (by (repeat (first | exact Has.here | apply Has.next)); done) (by rfl) (by omega) (by omega) ?_
    | refine Tr.condT (by first | rfl | (simp only [decide_eq_true_eq]; omega)) ?_
    | refine Tr.condF (by first | rfl | (simp only [decide_eq_false_iff_not]; omega)) ?_))
    exact hh s1 s2
end Go.Proofs.Ytlmcoiloepoggaa
