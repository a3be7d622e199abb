import Derived.Test.YtacmaamllpiloaaGreatZ24
namespace Go.Proofs.YtacmaamllpiloaaGreat
open Go Go.Wk
set_option maxHeartbeats 1600000
set_option maxRecDepth 10000
instance : ElT 177 Pt := ⟨⟩
structure OneG where
  b : Nat
  q : Bool
  i : Bool
  size : Int
  depth : Int
  lost : Int
  c : Nat
  s : SV
  ms : List Msg
  m : Msg
  there : Bool
  fresh : Bool
instance : Inhabited OneG := ⟨⟨0, false, false, 0, 0, 0, 0, ⟨none, 0, 0⟩, [], default, false, false⟩⟩
def OneG.pt (g : OneG) : Pt := ⟨some g.b⟩
abbrev quB (c : Nat) (s : SV) (d : Int) : Asrt := blk c (.cells [s.v, .int .i64 d].toArray 123 (0, 0))
abbrev saB (c : Nat) (m : Msg) (t f : Bool) : Asrt := blk c (.cells [m.s.v, .bool t, .bool f].toArray 126 (0, 0))
abbrev onB (b : Nat) (q i : Bool) (sz d : Int) (v : Value) (lost : Int) : Asrt := blk b (.cells [.bool q, .bool i, .int .i64 sz, .int .i64 d, v, .int .i64 lost].toArray 120 (0, 0))
def oneA (g : OneG) : Asrt := if g.q = true then sep (onB g.b true g.i g.size g.depth (.iface 121 (.pointer (some ⟨g.c, 0, none⟩))) g.lost) (sep (quB g.c g.s g.depth) (sep (sl false g.s.v g.ms) (fzl g.ms)))
  else sep (onB g.b false g.i g.size g.depth (.iface 124 (.pointer (some ⟨g.c, 0, none⟩))) g.lost) (sep (saB g.c g.m g.there g.fresh) (Fz.fz g.m))
theorem oneA_q {g : OneG} (h : g.q = true) : oneA g = sep (onB g.b true g.i g.size g.depth (.iface 121 (.pointer (some ⟨g.c, 0, none⟩))) g.lost) (sep (quB g.c g.s g.depth) (sep (sl false g.s.v g.ms) (fzl g.ms))) := if_pos h
theorem oneA_s {g : OneG} (h : g.q = false) : oneA g = sep (onB g.b false g.i g.size g.depth (.iface 124 (.pointer (some ⟨g.c, 0, none⟩))) g.lost) (sep (saB g.c g.m g.there g.fresh) (Fz.fz g.m)) := if_neg (by rw [h]; simp)
theorem oneQ_open {g : OneG} {l : List Asrt} {X : WP} (h : g.q = true) (hx : Tr (onB g.b true g.i g.size g.depth (.iface 121 (.pointer (some ⟨g.c, 0, none⟩))) g.lost :: quB g.c g.s g.depth :: sl false g.s.v g.ms :: fzl g.ms :: l) X) : Tr (oneA g :: l) X := by
  rw [oneA_q h]; exact hx.imp (Imp.trans Imp.sep (Imp.cons (Imp.trans Imp.sep (Imp.cons Imp.sep))))
theorem oneS_open {g : OneG} {l : List Asrt} {X : WP} (h : g.q = false) (hx : Tr (onB g.b false g.i g.size g.depth (.iface 124 (.pointer (some ⟨g.c, 0, none⟩))) g.lost :: saB g.c g.m g.there g.fresh :: Fz.fz g.m :: l) X) : Tr (oneA g :: l) X := by
  rw [oneA_s h]; exact hx.imp (Imp.trans Imp.sep (Imp.cons Imp.sep))
def qput (ms : List Msg) (d : Int) (m : Msg) : List Msg := if d ≤ ms.length then ms else ms ++ [m]
attribute [local irreducible] BrK GenK EGenK EUnitK CallK FnK CallV GuardO GuardC CondW opX opK opKc chkR eqR seqK blkK endL WL WD W LoopW BinK Tr drewK resL PickK NotK NilK ExtrK getK Instr.storeAt Instr.loadAt Instr.fieldAt Instr.indexAt Instr.lookup Instr.mapUpdate Instr.box Instr.alloc Instr.build Instr.buildSlice Instr.makeSlice Instr.makeMap Instr.sliceAt Instr.field Instr.index Instr.makeInterface Instr.typeAssert Builtin.len_ Builtin.append_ Builtin.cap_ Builtin.min_ Builtin.max_ Builtin.copy_ Builtin.clear_ convert binOp mp blk rob sl sep ex fact old
theorem qput_ok {c : Nat} {s s2 : SV} {d : Int} {ms : List Msg} {xs : List UInt8} (hn : xs.length ≤ 1000000) (hm : ms.length ≤ 1000000) : Trip Tryz.prog 269 [.pointer (some ⟨c, 0, none⟩), s2.v].toArray [quB c s d, sl false s.v ms, fzl ms, sl true s2.v xs]
    fun v l' => ∃ s3 s4, v = .bool (!decide (d ≤ ms.length)) ∧ l' = [quB c s3 d, sl false s3.v (qput ms d ⟨s4, xs⟩), fzl (qput ms d ⟨s4, xs⟩)] := by
  intro F K hK
  simp only [List.cons_append, List.nil_append]
  (refine Tr.enter (rs := [.tmp 4]) mixed fn269 rfl (by simp +arith [Tryz.ntmps269]) fun u => ?_; simp only [cd269, Tryz.f269])
  ((try simp only [WKb, ↓reduceIte, Nat.reduceEqDiff, Nat.reduceAdd, pl269]) <;> (repeat' ((first
    | (refine G.tr ?_; first | refine S.a ?_ | (refine G.call 68 ?_; refine S.c ?_ (h := clone_ok (by omega))) | refine S.n fun _ => ?_ | (refine S.s (fun hb => ?_) (fun hb => ?_) <;> ((try simp only [hb]) <;> (try (have hp := hb; simp only [WKs] at hp; (try have hq := Int.not_le.2 hp); (try have hq := Int.not_lt.2 hp))))))
    | rintro _ _ ⟨_, rfl, rfl⟩
    | fail) <;> (try simp only [WKb, ↓reduceIte, Nat.reduceEqDiff, pl269]))))
  all_goals
    apply Tr.fin hK ⟨_, _, (by first | (simp [*]; done) | fail), rfl⟩
    ((try clear hK) <;> (try simp only [WKe, qput, ↓reduceIte, *]) <;> repeat (first | with_reducible exact EntR.done | refine S.e ?_ | refine EntR.drop (F := F) ?_ | fail))
    all_goals exact SV.mk none 0 0
theorem qtake_ok {c : Nat} {s : SV} {d : Int} {ms : List Msg} : Trip Tryz.prog 242 [.pointer (some ⟨c, 0, none⟩)].toArray [quB c s d, sl false s.v ms, fzl ms]
    fun v l' => ∃ s3, v = .tuple #[(ix ms 0).s.v, .bool (!decide ((ms.length : Int) = 0))] ∧ l' = [quB c s3 d, sl false s3.v (ms.drop 1), fzl (ms.drop 1), Fz.fz (ix ms 0)] := by
  intro F K hK
  simp only [List.cons_append, List.nil_append]
  (refine Tr.enter (rs := [.tmp 2, .tmp 3]) mixed fn242 rfl (by simp +arith [Tryz.ntmps242]) fun u => ?_; simp only [cd242, Tryz.f242])
  by_cases h : ms = []
  · subst h
    ((try simp only [WKb, ↓reduceIte, Nat.reduceEqDiff]) <;> (repeat' ((first
    | (refine G.tr ?_; first | refine S.a ?_ | fail)
    | fail) <;> (try simp only [WKb, ↓reduceIte, Nat.reduceEqDiff]))))
    all_goals
      apply Tr.fin hK ⟨_, rfl, rfl⟩
      ((try clear hK) <;> (try simp only [WKe, *]) <;> repeat (first | with_reducible exact EntR.done | refine S.e ?_ | fail))
  · have hl : 0 < ms.length := List.length_pos_iff.2 h
    have hd : decide ((ms.length : Int) = 0) = false := by simp; omega
    ((try simp only [WKb, ↓reduceIte, Nat.reduceEqDiff]) <;> (repeat' ((first
    | (refine G.tr ?_; first | refine S.a ?_ | (refine G.call 236 ?_; refine S.c ?_ (h := delete_ok (by omega) (by omega) (by omega))) | refine S.i fun hix => ?_ | fail)
    | rintro _ _ ⟨_, rfl, rfl⟩
    | fail) <;> (try simp only [WKb, ↓reduceIte, Nat.reduceEqDiff, hd]))))
    all_goals
      apply Tr.fin hK ⟨_, by rw [hd]; rfl, rfl⟩
      ((try clear hK) <;> (try simp only [WKe, *]) <;> repeat (first | with_reducible exact EntR.done | refine S.e ?_ | refine EntR.drop (F := F) ?_ | fail))
theorem sput_ok {c : Nat} {m : Msg} {t f : Bool} {s2 : SV} {xs : List UInt8} (hn : xs.length ≤ 1000000) : Trip Tryz.prog 271 [.pointer (some ⟨c, 0, none⟩), s2.v].toArray [saB c m t f, sl true s2.v xs]
    fun v l' => ∃ s3, v = .bool true ∧ l' = [saB c ⟨s3, xs⟩ true true, Fz.fz (⟨s3, xs⟩ : Msg)] := by
  intro F K hK
  simp only [List.cons_append, List.nil_append]
  (refine Tr.enter (rs := [.tmp 4]) mixed fn271 rfl (by simp +arith [Tryz.ntmps271]) fun u => ?_; simp only [cd271, Tryz.f271])
  ((try simp only [WKb, ↓reduceIte, Nat.reduceEqDiff, Nat.reduceAdd]) <;> (repeat' ((first
    | (refine G.tr ?_; first | refine S.a ?_ | (refine G.call 68 ?_; refine S.c ?_ (h := clone_ok (by omega))) | fail)
    | rintro _ _ ⟨_, rfl, rfl⟩
    | fail) <;> (try simp only [WKb, ↓reduceIte, Nat.reduceEqDiff, Nat.reduceAdd]))))
  all_goals
    apply Tr.fin hK ⟨_, rfl, rfl⟩
    ((try clear hK) <;> (try simp only [WKe, *]) <;> repeat (first | with_reducible exact EntR.done | refine S.e ?_ | refine EntR.drop (F := F) ?_ | fail))
end Go.Proofs.YtacmaamllpiloaaGreat
