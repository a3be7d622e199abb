import Derived.Test.YtacmaamllpiloaaGreatZ22
namespace Go.Proofs.YtacmaamllpiloaaGreat
open Go Go.Wk
set_option maxHeartbeats 1600000
set_option maxRecDepth 10000
instance : ElT 25 PortC := ⟨⟩
instance : ElT 177 Pt := ⟨⟩
structure OneG where
 b : Nat
 q : Bool
 i : Bool
 size : Int
 depth : Int
 lost : Int
 c : Nat
 s : SV
 ms : List Msg
 m : Msg
 there : Bool
 fresh : Bool
instance : Inhabited OneG := ⟨⟨0, false, false, 0, 0, 0, 0, ⟨none, 0, 0⟩, [], default, false, false⟩⟩
def OneG.pt (g : OneG) : Pt := ⟨some g.b⟩
abbrev quB (c : Nat) (s : SV) (d : Int) : Asrt := blk c (.cells [s.v, .int .i64 d].toArray 123 (0, 0))
abbrev saB (c : Nat) (m : Msg) (t f : Bool) : Asrt := blk c (.cells [m.s.v, .bool t, .bool f].toArray 126 (0, 0))
abbrev onB (b : Nat) (q i : Bool) (sz d : Int) (v : Value) (lost : Int) : Asrt := blk b (.cells [.bool q, .bool i, .int .i64 sz, .int .i64 d, v, .int .i64 lost].toArray 120 (0, 0))
def oneA (g : OneG) : Asrt := if g.q = true then sep (onB g.b true g.i g.size g.depth (.iface 121 (.pointer (some ⟨g.c, 0, none⟩))) g.lost) (sep (quB g.c g.s g.depth) (sep (sl false g.s.v g.ms) (fzl g.ms)))
 else sep (onB g.b false g.i g.size g.depth (.iface 124 (.pointer (some ⟨g.c, 0, none⟩))) g.lost) (sep (saB g.c g.m g.there g.fresh) (Fz.fz g.m))
theorem oneA_q {g : OneG} (h : g.q = true) : oneA g = sep (onB g.b true g.i g.size g.depth (.iface 121 (.pointer (some ⟨g.c, 0, none⟩))) g.lost) (sep (quB g.c g.s g.depth) (sep (sl false g.s.v g.ms) (fzl g.ms))) := if_pos h
theorem oneA_s {g : OneG} (h : g.q = false) : oneA g = sep (onB g.b false g.i g.size g.depth (.iface 124 (.pointer (some ⟨g.c, 0, none⟩))) g.lost) (sep (saB g.c g.m g.there g.fresh) (Fz.fz g.m)) := if_neg (by rw [h]; simp)
theorem oneQ_open {g : OneG} {l : List Asrt} {X : WP} (h : g.q = true) (hx : Tr (onB g.b true g.i g.size g.depth (.iface 121 (.pointer (some ⟨g.c, 0, none⟩))) g.lost :: quB g.c g.s g.depth :: sl false g.s.v g.ms :: fzl g.ms :: l) X) : Tr (oneA g :: l) X := by
 rw [oneA_q h]; exact hx.imp (Imp.trans Imp.sep (Imp.cons (Imp.trans Imp.sep (Imp.cons Imp.sep))))
theorem oneS_open {g : OneG} {l : List Asrt} {X : WP} (h : g.q = false) (hx : Tr (onB g.b false g.i g.size g.depth (.iface 124 (.pointer (some ⟨g.c, 0, none⟩))) g.lost :: saB g.c g.m g.there g.fresh :: Fz.fz g.m :: l) X) : Tr (oneA g :: l) X := by
 rw [oneA_s h]; exact hx.imp (Imp.trans Imp.sep (Imp.cons Imp.sep))
def qput (ms : List Msg) (d : Int) (m : Msg) : List Msg := if d ≤ ms.length then ms else ms ++ [m]
attribute [local irreducible] BrK GenK EGenK EUnitK CallK FnK CallV GuardO GuardC CondW opX opK opKc chkR eqR seqK blkK endL WL WD W LoopW BinK Tr drewK resL PickK NotK NilK ExtrK getK Instr.storeAt Instr.loadAt Instr.fieldAt Instr.indexAt Instr.lookup Instr.mapUpdate Instr.box Instr.alloc Instr.build Instr.buildSlice Instr.makeSlice Instr.makeMap Instr.sliceAt Instr.field Instr.index Instr.makeInterface Instr.typeAssert Builtin.len_ Builtin.append_ Builtin.cap_ Builtin.min_ Builtin.max_ Builtin.copy_ Builtin.clear_ convert binOp mp blk rob sl sep ex fact old
theorem qput_ok {c : Nat} {s s2 : SV} {d : Int} {ms : List Msg} {xs : List UInt8} (hn : xs.length ≤ 1000000) (hm : ms.length ≤ 1000000) : Trip Tryz.prog 269 [.pointer (some ⟨c, 0, none⟩), s2.v].toArray [quB c s d, sl false s.v ms, fzl ms, sl true s2.v xs]
  fun v l' => ∃ s3 s4, v = .bool (!decide (d ≤ ms.length)) ∧ l' = [quB c s3 d, sl false s3.v (qput ms d ⟨s4, xs⟩), fzl (qput ms d ⟨s4, xs⟩)] := by
 intro F K hK
 simp only [List.cons_append, List.nil_append]
 (refine Tr.enter (rs := [.tmp 4]) mixed fn269 rfl (by simp +arith [Tryz.ntmps269]) fun u => ?_; simp only [cd269, Tryz.f269])
 ((try simp only [WKb, ↓reduceIte, Nat.reduceEqDiff, Nat.reduceAdd, pl269]) <;> (repeat' ((first
  | (refine G.tr ?_; first | refine S.a ?_ | (refine G.call 68 ?_; refine S.c ?_ (h := clone_ok (by omega))) | refine S.n fun _ => ?_ | (refine S.s (fun hb => ?_) (fun hb => ?_) <;> ((try simp only [hb]) <;> (try (have hp := hb; simp only [WKs] at hp; (try have hq := Int.not_le.2 hp); (try have hq := Int.not_lt.2 hp))))))
  | rintro _ _ ⟨_, rfl, rfl⟩
  | fail) <;> (try simp only [WKb, ↓reduceIte, Nat.reduceEqDiff, pl269]))))
 all_goals
  apply Tr.fin hK ⟨_, _, (by first | (simp [*]; done) | fail), rfl⟩
  ((try clear hK) <;> (try simp only [WKe, qput, ↓reduceIte, *]) <;> repeat (first | with_reducible exact EntR.done | refine S.e ?_ | refine EntR.drop (F := F) ?_ | fail))
  all_goals exact SV.mk none 0 0
theorem qtake_ok {c : Nat} {s : SV} {d : Int} {ms : List Msg} : Trip Tryz.prog 242 [.pointer (some ⟨c, 0, none⟩)].toArray [quB c s d, sl false s.v ms, fzl ms]
  fun v l' => ∃ s3, v = .tuple #[(ix ms 0).s.v, .bool (!decide ((ms.length : Int) = 0))] ∧ l' = [quB c s3 d, sl false s3.v (ms.drop 1), fzl (ms.drop 1), Fz.fz (ix ms 0)] := by
 intro F K hK
 simp only [List.cons_append, List.nil_append]
 (refine Tr.enter (rs := [.tmp 2, .tmp 3]) mixed fn242 rfl (by simp +arith [Tryz.ntmps242]) fun u => ?_; simp only [cd242, Tryz.f242])
 by_cases h : ms = []
 ·subst h
  ((try simp only [WKb, ↓reduceIte, Nat.reduceEqDiff]) <;> (repeat' ((first
  | (refine G.tr ?_; first | refine S.a ?_ | fail)
  | fail) <;> (try simp only [WKb, ↓reduceIte, Nat.reduceEqDiff]))))
  all_goals
   apply Tr.fin hK ⟨_, rfl, rfl⟩
   ((try clear hK) <;> (try simp only [WKe, *]) <;> repeat (first | with_reducible exact EntR.done | refine S.e ?_ | fail))
 ·have hl : 0 < ms.length := List.length_pos_iff.2 h
  have hd : decide ((ms.length : Int) = 0) = false := by simp; omega
  ((try simp only [WKb, ↓reduceIte, Nat.reduceEqDiff]) <;> (repeat' ((first
  | (refine G.tr ?_; first | refine S.a ?_ | (refine G.call 236 ?_; refine S.c ?_ (h := delete_ok (by omega) (by omega) (by omega))) | refine S.i fun hix => ?_ | fail)
  | rintro _ _ ⟨_, rfl, rfl⟩
  | fail) <;> (try simp only [WKb, ↓reduceIte, Nat.reduceEqDiff, hd]))))
  all_goals
   apply Tr.fin hK ⟨_, by rw [hd]; rfl, rfl⟩
   ((try clear hK) <;> (try simp only [WKe, *]) <;> repeat (first | with_reducible exact EntR.done | refine S.e ?_ | refine EntR.drop (F := F) ?_ | fail))
theorem sput_ok {c : Nat} {m : Msg} {t f : Bool} {s2 : SV} {xs : List UInt8} (hn : xs.length ≤ 1000000) : Trip Tryz.prog 271 [.pointer (some ⟨c, 0, none⟩), s2.v].toArray [saB c m t f, sl true s2.v xs]
  fun v l' => ∃ s3, v = .bool true ∧ l' = [saB c ⟨s3, xs⟩ true true, Fz.fz (⟨s3, xs⟩ : Msg)] := by
 intro F K hK
 simp only [List.cons_append, List.nil_append]
 (refine Tr.enter (rs := [.tmp 4]) mixed fn271 rfl (by simp +arith [Tryz.ntmps271]) fun u => ?_; simp only [cd271, Tryz.f271])
 ((try simp only [WKb, ↓reduceIte, Nat.reduceEqDiff, Nat.reduceAdd]) <;> (repeat' ((first
  | (refine G.tr ?_; first | refine S.a ?_ | (refine G.call 68 ?_; refine S.c ?_ (h := clone_ok (by omega))) | fail)
  | rintro _ _ ⟨_, rfl, rfl⟩
  | fail) <;> (try simp only [WKb, ↓reduceIte, Nat.reduceEqDiff, Nat.reduceAdd]))))
 all_goals
  apply Tr.fin hK ⟨_, rfl, rfl⟩
  ((try clear hK) <;> (try simp only [WKe, *]) <;> repeat (first | with_reducible exact EntR.done | refine S.e ?_ | refine EntR.drop (F := F) ?_ | fail))
end Go.Proofs.YtacmaamllpiloaaGreat
namespace Go.Proofs.YtacmaamllpiloaaGreat
open Go Go.Wk
set_option maxHeartbeats 3200000
set_option maxRecDepth 10000
abbrev poB (p : Nat) (s : SV) : Asrt := blk p (.cells [s.v].toArray 179 (0, 0))
def canB (gs : List OneG) (k : Int) (q i : Bool) : Bool := if inR gs k then (((ix gs k).q == q) && ((ix gs k).i == i)) else false
def sizeP (gs : List OneG) (k : Int) : Int := if inR gs k then (ix gs k).size else 0
def lenOK (n : Nat) (size : Int) : Bool := !decide ((n : Int) < 1) && !decide (size < (n : Int))
def intoC (gs : List OneG) (k : Int) (q : Bool) (n : Nat) : Int := if canB gs k q false = true then (if lenOK n (ix gs k).size = true then (if q = true then (if (ix gs k).depth ≤ (ix gs k).ms.length then 1 else 0) else 0) else 2) else 3
def putP (g : OneG) (s : SV) (m : Msg) : OneG := if g.q = true then { g with s := s, ms := qput g.ms g.depth m } else { g with m := m, there := true, fresh := true }
def intoG (gs : List OneG) (k : Int) (q : Bool) (s : SV) (m : Msg) : List OneG := if canB gs k q false = true then (if lenOK m.d.length (ix gs k).size = true then gs.set k.toNat (putP (ix gs k) s m) else gs) else gs
def outC (gs : List OneG) (k : Int) (q : Bool) : Int := if canB gs k q true = true then (if q = true then (if ((ix gs k).ms.length : Int) = 0 then 1 else 0) else (if (ix gs k).there = true then 0 else 1)) else 3
def outD (gs : List OneG) (k : Int) (q : Bool) : List UInt8 := if outC gs k q = 0 then (if q = true then (ix (ix gs k).ms 0).d else (ix gs k).m.d) else []
def outG (gs : List OneG) (k : Int) (q : Bool) (s : SV) : List OneG := if canB gs k q true = true then (if q = true then gs.set k.toNat { ix gs k with s := s, ms := (ix gs k).ms.drop 1 } else gs) else gs
def drainD (gs : List OneG) (k : Int) : List (List UInt8) := if inR gs k then (if (ix gs k).i = true then [] else if (ix gs k).q = true then (ix gs k).ms.map SL.d else if (ix gs k).fresh = true then [(ix gs k).m.d] else []) else []
def drainG (gs : List OneG) (k : Int) : List OneG := if inR gs k then (if (ix gs k).i = true then gs else if (ix gs k).q = true then gs.set k.toNat { ix gs k with s := ⟨none, 0, 0⟩, ms := [] } else gs.set k.toNat { ix gs k with fresh := false }) else gs
def delB (gs : List OneG) (k : Int) : Bool := if inR gs k then (if (ix gs k).i = true then (if (ix gs k).q = true then !decide ((ix gs k).depth ≤ (ix gs k).ms.length) else true) else false) else false
def delP (g : OneG) (s : SV) (m : Msg) : OneG := if g.q = true then (if g.depth ≤ g.ms.length then { g with s := s, lost := IntKind.i64.wrap (g.lost + 1) } else { g with s := s, ms := g.ms ++ [m] }) else { g with m := m, there := true, fresh := true }
def delG (gs : List OneG) (k : Int) (s : SV) (m : Msg) : List OneG := if inR gs k then (if (ix gs k).i = true then gs.set k.toNat (delP (ix gs k) s m) else gs) else gs
attribute [local irreducible] BrK GenK EGenK EUnitK CallK FnK CallV GuardO GuardC CondW opX opK opKc chkR eqR seqK blkK endL WL WD W LoopW BinK Tr drewK resL PickK NotK NilK ExtrK getK Instr.storeAt Instr.loadAt Instr.fieldAt Instr.indexAt Instr.lookup Instr.mapUpdate Instr.box Instr.alloc Instr.build Instr.buildSlice Instr.makeSlice Instr.makeMap Instr.sliceAt Instr.field Instr.index Instr.makeInterface Instr.typeAssert Builtin.len_ Builtin.append_ Builtin.cap_ Builtin.min_ Builtin.max_ Builtin.copy_ Builtin.clear_ convert binOp mp blk rob sl sep ex fact old
theorem find_in {p : Nat} {s : SV} {gs : List OneG} {k : Int} (h0 : 0 ≤ k) (h1 : k < gs.length) : Trip Tryz.prog 67 [.pointer (some ⟨p, 0, none⟩), .int .i64 k].toArray [poB p s, sl false s.v (gs.map OneG.pt)]
  fun v l' => v = .pointer (some ⟨(ix gs k).b, 0, none⟩) ∧ l' = [poB p s, sl false s.v (gs.map OneG.pt)] := by
 intro F K hK
 simp only [List.cons_append, List.nil_append]
 have hm := ix_map (f := OneG.pt) h0 h1
 have hl : (gs.map OneG.pt).length = gs.length := List.length_map _
 (refine Tr.enter (rs := [.tmp 4]) mixed fn67 rfl (by simp +arith [Tryz.ntmps67]) fun u => ?_; simp only [cd67, Tryz.f67])
 ((try simp only [WKb, ↓reduceIte, Nat.reduceEqDiff, Nat.reduceAdd]) <;> (repeat' ((first
  | (refine G.tr ?_; first | refine S.a ?_ | refine S.i fun hix => ?_ | (refine S.g fun hb => ?_; (try simp only [hb])) | fail)
  | fail) <;> (try simp only [WKb, ↓reduceIte, Nat.reduceEqDiff, hm]))))
 all_goals
  refine Tr.fin hK ⟨rfl, rfl⟩ ?_
  ((try clear hK) <;> (try simp only [WKe, *]) <;> repeat (first | with_reducible exact EntR.done | fail))
theorem find_out {p : Nat} {s : SV} {gs : List OneG} {k : Int} (h : ¬ (0 ≤ k ∧ k < gs.length)) : Trip Tryz.prog 67 [.pointer (some ⟨p, 0, none⟩), .int .i64 k].toArray [poB p s, sl false s.v (gs.map OneG.pt)]
  fun v l' => v = .pointer none ∧ l' = [poB p s, sl false s.v (gs.map OneG.pt)] := by
 intro F K hK
 simp only [List.cons_append, List.nil_append]
 have hl : (gs.map OneG.pt).length = gs.length := List.length_map _
 (refine Tr.enter (rs := [.tmp 4]) mixed fn67 rfl (by simp +arith [Tryz.ntmps67]) fun u => ?_; simp only [cd67, Tryz.f67])
 ((try simp only [WKb, ↓reduceIte, Nat.reduceEqDiff, Nat.reduceAdd]) <;> (repeat' ((first
  | (refine G.tr ?_; first | refine S.a ?_ | (refine S.s (fun hb => ?_) (fun hb => ?_) <;> ((try simp only [hb]) <;> (try (have hp := hb; simp only [WKs] at hp; (try have hq := Int.not_le.2 hp); (try have hq := Int.not_lt.2 hp))))))
  | fail) <;> (try simp only [WKb, ↓reduceIte, Nat.reduceEqDiff]))))
 all_goals
  refine Tr.fin hK ⟨rfl, rfl⟩ ?_
  ((try clear hK) <;> (try simp only [WKe, *]) <;> repeat (first | with_reducible exact EntR.done | fail))
theorem can_ok {p : Nat} {s : SV} {gs : List OneG} {k : Int} {q i : Bool} : Trip Tryz.prog 163 [.pointer (some ⟨p, 0, none⟩), .int .i64 k, .bool q, .bool i].toArray [poB p s, fam oneA gs, sl false s.v (gs.map OneG.pt)]
  fun v l' => v = .bool (canB gs k q i) ∧ l' = [poB p s, fam oneA (gs), sl false s.v ((gs).map OneG.pt)] := by
 intro F K hK
 simp only [List.cons_append, List.nil_append]
 by_cases h : inR gs k
 ·have ⟨h0, h1⟩ := h
  have hm := ix_map (f := OneG.pt) h0 h1
  have hl : (gs.map OneG.pt).length = gs.length := List.length_map _
  refine Tr.famAt (A := oneA) k (by (repeat (first | exact TakeA.here | apply TakeA.next)); done) h0 h1 ?_
  cases hq : (ix gs k).q
  ·refine oneS_open hq ?_
   (refine Tr.enter (rs := [.tmp 8]) mixed fn163 rfl (by simp +arith [Tryz.ntmps163]) fun u => ?_; simp only [cd163, Tryz.f163])
   ((try simp only [WKb, ↓reduceIte, Nat.reduceEqDiff, Nat.reduceAdd]) <;> (repeat' ((first
  | (refine G.tr ?_; first | refine S.a ?_ | (refine G.call 67 ?_; first | refine S.c ?_ (h := find_in (by omega) (by omega)) | fail) | (refine S.s (fun hb => ?_) (fun hb => ?_) <;> ((try simp only [hb]) <;> (try (have hp := hb; simp only [WKs] at hp; (try have hq := Int.not_le.2 hp); (try have hq := Int.not_lt.2 hp))))))
  | rintro _ _ ⟨rfl, rfl⟩
  | fail) <;> (try simp only [WKb, ↓reduceIte, Nat.reduceEqDiff]))))
   all_goals
    refine Tr.fin hK ⟨(by first | (simp [*, canB]; done) | fail), rfl⟩ ?_
    ((try clear hK) <;> (try simp only [WKe, *]) <;> repeat (first | with_reducible exact EntR.done | refine S.e ?_ | (refine S.f ?_ <;> (try simp only [WKe, oneA, ↓reduceIte, *])) | fail))
    all_goals first | exact SV.mk none 0 0 | exact SL.mk ⟨none, 0, 0⟩ []
  ·refine oneQ_open hq ?_
   (refine Tr.enter (rs := [.tmp 8]) mixed fn163 rfl (by simp +arith [Tryz.ntmps163]) fun u => ?_; simp only [cd163, Tryz.f163])
   ((try simp only [WKb, ↓reduceIte, Nat.reduceEqDiff, Nat.reduceAdd]) <;> (repeat' ((first
  | (refine G.tr ?_; first | refine S.a ?_ | (refine G.call 67 ?_; first | refine S.c ?_ (h := find_in (by omega) (by omega)) | fail) | (refine S.s (fun hb => ?_) (fun hb => ?_) <;> ((try simp only [hb]) <;> (try (have hp := hb; simp only [WKs] at hp; (try have hq := Int.not_le.2 hp); (try have hq := Int.not_lt.2 hp))))))
  | rintro _ _ ⟨rfl, rfl⟩
  | fail) <;> (try simp only [WKb, ↓reduceIte, Nat.reduceEqDiff]))))
   all_goals
    refine Tr.fin hK ⟨(by first | (simp [*, canB]; done) | fail), rfl⟩ ?_
    ((try clear hK) <;> (try simp only [WKe, *]) <;> repeat (first | with_reducible exact EntR.done | refine S.e ?_ | (refine S.f ?_ <;> (try simp only [oneA, ↓reduceIte, *])) | fail))
    all_goals first | exact SV.mk none 0 0 | exact SL.mk ⟨none, 0, 0⟩ []
 ·have h' := h
  unfold inR at h'
  (refine Tr.enter (rs := [.tmp 8]) mixed fn163 rfl (by simp +arith [Tryz.ntmps163]) fun u => ?_; simp only [cd163, Tryz.f163])
  ((try simp only [WKb, ↓reduceIte, Nat.reduceEqDiff, Nat.reduceAdd]) <;> (repeat' ((first
  | (refine G.tr ?_; first | (refine G.call 67 ?_; first | refine S.c ?_ (h := find_out (by omega))) | fail)
  | rintro _ _ ⟨rfl, rfl⟩
  | fail) <;> (try simp only [WKb, ↓reduceIte, Nat.reduceEqDiff]))))
  all_goals
   refine Tr.fin hK ⟨(by first | (simp [*, canB]; done) | fail), rfl⟩ ?_
   ((try clear hK) <;> (try simp only [WKe, *]) <;> repeat (first | with_reducible exact EntR.done | refine S.e ?_ | fail))
   all_goals first | exact SV.mk none 0 0 | exact SL.mk ⟨none, 0, 0⟩ []
theorem psize_ok {p : Nat} {s : SV} {gs : List OneG} {k : Int} : Trip Tryz.prog 162 [.pointer (some ⟨p, 0, none⟩), .int .i64 k].toArray [poB p s, fam oneA gs, sl false s.v (gs.map OneG.pt)]
  fun v l' => v = .int .i64 (sizeP gs k) ∧ l' = [poB p s, fam oneA (gs), sl false s.v ((gs).map OneG.pt)] := by
 intro F K hK
 simp only [List.cons_append, List.nil_append]
 by_cases h : inR gs k
 ·have ⟨h0, h1⟩ := h
  have hm := ix_map (f := OneG.pt) h0 h1
  have hl : (gs.map OneG.pt).length = gs.length := List.length_map _
  refine Tr.famAt (A := oneA) k (by (repeat (first | exact TakeA.here | apply TakeA.next)); done) h0 h1 ?_
  cases hq : (ix gs k).q
  ·refine oneS_open hq ?_
   (refine Tr.enter (rs := [.tmp 4]) mixed fn162 rfl (by simp +arith [Tryz.ntmps162]) fun u => ?_; simp only [cd162, Tryz.f162])
   ((try simp only [WKb, ↓reduceIte, Nat.reduceEqDiff, Nat.reduceAdd]) <;> (repeat' ((first
  | (refine G.tr ?_; first | refine S.a ?_ | (refine G.call 67 ?_; first | refine S.c ?_ (h := find_in (by omega) (by omega)) | fail) | fail)
  | rintro _ _ ⟨rfl, rfl⟩
  | fail) <;> (try simp only [WKb, ↓reduceIte, Nat.reduceEqDiff]))))
   all_goals
    refine Tr.fin hK ⟨(by first | (simp [*, sizeP]; done) | fail), rfl⟩ ?_
    ((try clear hK) <;> (try simp only [WKe, *]) <;> repeat (first | with_reducible exact EntR.done | refine S.e ?_ | (refine S.f ?_ <;> (try simp only [WKe, oneA, ↓reduceIte, *])) | fail))
    all_goals first | exact SV.mk none 0 0 | exact SL.mk ⟨none, 0, 0⟩ []
  ·refine oneQ_open hq ?_
   (refine Tr.enter (rs := [.tmp 4]) mixed fn162 rfl (by simp +arith [Tryz.ntmps162]) fun u => ?_; simp only [cd162, Tryz.f162])
   ((try simp only [WKb, ↓reduceIte, Nat.reduceEqDiff, Nat.reduceAdd]) <;> (repeat' ((first
  | (refine G.tr ?_; first | refine S.a ?_ | (refine G.call 67 ?_; first | refine S.c ?_ (h := find_in (by omega) (by omega)) | fail) | fail)
  | rintro _ _ ⟨rfl, rfl⟩
  | fail) <;> (try simp only [WKb, ↓reduceIte, Nat.reduceEqDiff]))))
   all_goals
    refine Tr.fin hK ⟨(by first | (simp [*, sizeP]; done) | fail), rfl⟩ ?_
    ((try clear hK) <;> (try simp only [WKe, *]) <;> repeat (first | with_reducible exact EntR.done | refine S.e ?_ | (refine S.f ?_ <;> (try simp only [oneA, ↓reduceIte, *])) | fail))
    all_goals first | exact SV.mk none 0 0 | exact SL.mk ⟨none, 0, 0⟩ []
 ·have h' := h
  unfold inR at h'
  (refine Tr.enter (rs := [.tmp 4]) mixed fn162 rfl (by simp +arith [Tryz.ntmps162]) fun u => ?_; simp only [cd162, Tryz.f162])
  ((try simp only [WKb, ↓reduceIte, Nat.reduceEqDiff, Nat.reduceAdd]) <;> (repeat' ((first
  | (refine G.tr ?_; first | (refine G.call 67 ?_; first | refine S.c ?_ (h := find_out (by omega))) | fail)
  | rintro _ _ ⟨rfl, rfl⟩
  | fail) <;> (try simp only [WKb, ↓reduceIte]))))
  all_goals
   refine Tr.fin hK ⟨(by first | (simp [*, sizeP]; done) | fail), rfl⟩ ?_
   ((try clear hK) <;> (try simp only [WKe, *]) <;> repeat (first | with_reducible exact EntR.done | refine S.e ?_ | fail))
   all_goals first | exact SV.mk none 0 0 | exact SL.mk ⟨none, 0, 0⟩ []
theorem deliver_ok {p : Nat} {s : SV} {gs : List OneG} {k : Int} {s2 : SV} {xs : List UInt8} (hn : xs.length ≤ 1000000) (hl0 : (ix gs k).ms.length ≤ 1000000) : Trip Tryz.prog 65 [.pointer (some ⟨p, 0, none⟩), .int .i64 k, s2.v].toArray [poB p s, fam oneA gs, sl false s.v (gs.map OneG.pt), sl true s2.v xs]
  fun v l' => ∃ s3 s4, v = .bool (delB gs k) ∧ l' = [poB p s, fam oneA (delG gs k s3 ⟨s4, xs⟩), sl false s.v ((delG gs k s3 ⟨s4, xs⟩).map OneG.pt)] := by
 intro F K hK
 simp only [List.cons_append, List.nil_append]
 by_cases h : inR gs k
 ·have ⟨h0, h1⟩ := h
  have hm := ix_map (f := OneG.pt) h0 h1
  have hl : (gs.map OneG.pt).length = gs.length := List.length_map _
  have hs := fun q i sz d lo c s ms m t f => map_same (f := OneG.pt) h0 h1 ⟨(ix gs k).b, q, i, sz, d, lo, c, s, ms, m, t, f⟩ rfl
  refine Tr.famAt (A := oneA) k (by (repeat (first | exact TakeA.here | apply TakeA.next)); done) h0 h1 ?_
  cases hq : (ix gs k).q
  ·refine oneS_open hq ?_
   (refine Tr.enter (rs := [.tmp 6]) mixed fn65 rfl (by simp +arith [Tryz.ntmps65]) fun u => ?_; simp only [cd65, Tryz.f65])
   ((try simp only [WKb, ↓reduceIte, Nat.reduceEqDiff, Nat.reduceAdd]) <;> (repeat' ((first
  | (refine G.tr ?_; first | refine S.a ?_ | (refine G.call 67 ?_; first | refine S.c ?_ (h := find_in (by omega) (by omega)) | fail) | (refine G.call 271 ?_; refine S.c ?_ (h := sput_ok ?_)) | (refine S.s (fun hb => ?_) (fun hb => ?_) <;> ((try simp only [hb]) <;> (try (have hp := hb; simp only [WKs] at hp; (try have hq := Int.not_le.2 hp); (try have hq := Int.not_lt.2 hp))))))
  | rintro _ _ ⟨rfl, rfl⟩
  | rintro _ _ ⟨_, rfl, rfl⟩
  | ((fail_if_success refine G.tr ?_); exact G.prop S.p)
  | fail) <;> (try simp only [WKb, WKh, ↓reduceIte, Nat.reduceEqDiff]))))
   all_goals
    apply Tr.fin hK ⟨_, _, (by first | (simp [*, delB]; done) | fail), rfl⟩
    ((try clear hK) <;> (try simp only [WKe, delG, delP, ↓reduceIte, *]) <;> repeat (first | with_reducible exact EntR.done | refine S.e ?_ | (refine S.f ?_ <;> (try simp only [WKe, oneA, ↓reduceIte, *])) | refine EntR.drop (F := F) ?_ | fail))
    all_goals first | exact SV.mk none 0 0 | exact SL.mk ⟨none, 0, 0⟩ []
  ·refine oneQ_open hq ?_
   (refine Tr.enter (rs := [.tmp 6]) mixed fn65 rfl (by simp +arith [Tryz.ntmps65]) fun u => ?_; simp only [cd65, Tryz.f65])
   ((try simp only [WKb, ↓reduceIte, Nat.reduceEqDiff, Nat.reduceAdd]) <;> (repeat' ((first
  | (refine G.tr ?_; first | refine S.a ?_ | (refine G.call 67 ?_; first | refine S.c ?_ (h := find_in (by omega) (by omega)) | fail) | (refine G.call 269 ?_; refine S.c ?_ (h := qput_ok ?_ ?_)) | (refine S.s (fun hb => ?_) (fun hb => ?_) <;> ((try simp only [hb]) <;> (try (have hp := hb; simp only [WKs] at hp; (try have hq := Int.not_le.2 hp); (try have hq := Int.not_lt.2 hp))))))
  | rintro _ _ ⟨rfl, rfl⟩
  | rintro _ _ ⟨_, _, rfl, rfl⟩
  | ((fail_if_success refine G.tr ?_); exact G.prop S.p)
  | fail) <;> (try simp only [WKb, WKh, ↓reduceIte, Nat.reduceEqDiff, Nat.reduceAdd]))))
   all_goals
    apply Tr.fin hK ⟨_, _, (by first | (simp [*, delB]; done) | fail), rfl⟩
    ((try clear hK) <;> (try simp only [WKe, delG, delP, qput, ↓reduceIte, *]) <;> repeat (first | with_reducible exact EntR.done | refine S.e ?_ | (refine S.f ?_ <;> (try simp only [oneA, ↓reduceIte, *])) | refine EntR.drop (F := F) ?_ | fail))
    all_goals first | exact SV.mk none 0 0 | exact SL.mk ⟨none, 0, 0⟩ []
 ·have h' := h
  unfold inR at h'
  (refine Tr.enter (rs := [.tmp 6]) mixed fn65 rfl (by simp +arith [Tryz.ntmps65]) fun u => ?_; simp only [cd65, Tryz.f65])
  ((try simp only [WKb, ↓reduceIte, Nat.reduceEqDiff, Nat.reduceAdd]) <;> (repeat' ((first
  | (refine G.tr ?_; first | (refine G.call 67 ?_; first | refine S.c ?_ (h := find_out (by omega))) | fail)
  | rintro _ _ ⟨rfl, rfl⟩
  | fail) <;> (try simp only [WKb, ↓reduceIte, Nat.reduceEqDiff]))))
  all_goals
   apply Tr.fin hK ⟨_, _, (by first | (simp [*, delB]; done) | fail), rfl⟩
   ((try clear hK) <;> (try simp only [WKe, delG, ↓reduceIte, *]) <;> repeat (first | with_reducible exact EntR.done | refine S.e ?_ | refine EntR.drop (F := F) ?_ | fail))
   all_goals first | exact SV.mk none 0 0 | exact SL.mk ⟨none, 0, 0⟩ []
theorem into_ok {p : Nat} {s : SV} {gs : List OneG} {k : Int} {q : Bool} {s2 : SV} {xs : List UInt8} (hn : xs.length ≤ 1000000) (hl0 : (ix gs k).ms.length ≤ 1000000) : Trip Tryz.prog 149 [.pointer (some ⟨p, 0, none⟩), .int .i64 k, .bool q, s2.v].toArray [poB p s, fam oneA gs, sl false s.v (gs.map OneG.pt), sl true s2.v xs]
  fun v l' => ∃ s3 s4, v = .int .i64 (intoC gs k q xs.length) ∧ l' = [poB p s, fam oneA (intoG gs k q s3 ⟨s4, xs⟩), sl false s.v ((intoG gs k q s3 ⟨s4, xs⟩).map OneG.pt)] := by
 intro F K hK
 simp only [List.cons_append, List.nil_append]
 by_cases h : inR gs k
 ·have ⟨h0, h1⟩ := h
  have hm := ix_map (f := OneG.pt) h0 h1
  have hl : (gs.map OneG.pt).length = gs.length := List.length_map _
  have hs := fun q i sz d lo c s ms m t f => map_same (f := OneG.pt) h0 h1 ⟨(ix gs k).b, q, i, sz, d, lo, c, s, ms, m, t, f⟩ rfl
  cases hc : canB gs k q false
  ·(refine Tr.enter (rs := [.tmp 8]) mixed fn149 rfl (by simp +arith [Tryz.ntmps149]) fun u => ?_; simp only [cd149, Tryz.f149])
   ((try simp only [WKb, ↓reduceIte, Nat.reduceEqDiff, Nat.reduceAdd]) <;> (repeat' ((first
  | (refine G.tr ?_; first | (refine G.call 163 ?_; refine S.c ?_ (h := can_ok)) | fail)
  | rintro _ _ ⟨rfl, rfl⟩
  | fail) <;> (try simp only [WKb, ↓reduceIte, hc]))))
   all_goals
    (apply Tr.fin hK ⟨⟨none, 0, 0⟩, ⟨none, 0, 0⟩, (by first | (simp [*, intoC]; done) | fail), rfl⟩; ((try clear hK) <;> (try simp only [WKe, intoG, ↓reduceIte, *]) <;> repeat (first | with_reducible exact EntR.done | refine S.e ?_ | refine EntR.drop (F := F) ?_ | fail)))
  ·have hqi : (ix gs k).q = q := by
    simp [canB, h] at hc
    exact hc.1
   (refine Tr.enter (rs := [.tmp 8]) mixed fn149 rfl (by simp +arith [Tryz.ntmps149]) fun u => ?_; simp only [cd149, Tryz.f149])
   ((try simp only [WKb, ↓reduceIte, Nat.reduceEqDiff, Nat.reduceAdd]) <;> (repeat' ((first
  | (refine G.tr ?_; first | refine S.a ?_ | (refine G.call 163 ?_; refine S.c ?_ (h := can_ok)) | refine S.i fun hix => ?_ | (refine S.s (fun hb => ?_) (fun hb => ?_) <;> ((try simp only [hb]) <;> (try (have hp := hb; simp only [WKs] at hp; (try have hq := Int.not_le.2 hp); (try have hq := Int.not_lt.2 hp))))))
  | rintro _ _ ⟨rfl, rfl⟩
  | fail) <;> (try simp only [WKb, WKh, ↓reduceIte, Nat.reduceEqDiff, hc, hm, OneG.pt]))))
   all_goals
    refine Tr.famAt (A := oneA) k (by (repeat (first | exact TakeA.here | apply TakeA.next)); done) h0 h1 ?_
    cases hq : (ix gs k).q
    ·obtain rfl : q = false := hqi.symm.trans hq
     refine oneS_open hq ?_
     ((try simp only [WKb, WKh, ↓reduceIte, Nat.reduceEqDiff, Nat.reduceAdd, Nat.reduceSub, Int.reduceEq, Int.reduceLT, Int.reduceLE, pl149, hm, OneG.pt]) <;> (repeat' ((first
  | (refine G.tr ?_; first | refine S.a ?_ | (refine G.call 271 ?_; refine S.c ?_ (h := sput_ok ?_)) | refine S.i fun hix => ?_ | (refine S.s (fun hb => ?_) (fun hb => ?_) <;> ((try simp only [hb]) <;> (try (have hp := hb; simp only [WKs] at hp; (try have hq := Int.not_le.2 hp); (try have hq := Int.not_lt.2 hp))))))
  | rintro _ _ ⟨_, rfl, rfl⟩
  | ((fail_if_success refine G.tr ?_); exact G.prop S.p)
  | fail) <;> (try simp only [WKb, WKh, ↓reduceIte, Nat.reduceEqDiff, hm, OneG.pt]))))
     all_goals
      apply Tr.fin hK ⟨_, _, (by first | (simp [*, intoC, lenOK]; done) | fail), rfl⟩
      ((try clear hK) <;> (try simp only [WKe, intoG, lenOK, putP, ↓reduceIte, *]) <;> repeat (first | with_reducible exact EntR.done | refine S.e ?_ | (refine S.f ?_ <;> (try simp only [WKe, oneA, ↓reduceIte, *])) | refine EntR.drop (F := F) ?_ | fail))
      all_goals first | exact SV.mk none 0 0 | exact SL.mk ⟨none, 0, 0⟩ []
    ·obtain rfl : q = true := hqi.symm.trans hq
     refine oneQ_open hq ?_
     ((try simp only [WKb, WKh, ↓reduceIte, Nat.reduceEqDiff, Nat.reduceAdd, Nat.reduceSub, Int.reduceEq, Int.reduceLT, Int.reduceLE, pl149, hm, OneG.pt]) <;> (repeat' ((first
  | (refine G.tr ?_; first | refine S.a ?_ | (refine G.call 269 ?_; refine S.c ?_ (h := qput_ok ?_ ?_)) | refine S.i fun hix => ?_ | (refine S.s (fun hb => ?_) (fun hb => ?_) <;> ((try simp only [hb]) <;> (try (have hp := hb; simp only [WKs] at hp; (try have hq := Int.not_le.2 hp); (try have hq := Int.not_lt.2 hp))))))
  | rintro _ _ ⟨_, _, rfl, rfl⟩
  | ((fail_if_success refine G.tr ?_); exact G.prop S.p)
  | fail) <;> (try simp only [WKb, WKh, ↓reduceIte, Nat.reduceEqDiff, hm, OneG.pt]))))
     all_goals
      apply Tr.fin hK ⟨_, _, (by first | (simp [*, intoC, lenOK]; done) | fail), rfl⟩
      ((try clear hK) <;> (try simp only [WKe, intoG, lenOK, putP, qput, ↓reduceIte, *]) <;> repeat (first | with_reducible exact EntR.done | refine S.e ?_ | (refine S.f ?_ <;> (try simp only [oneA, ↓reduceIte, *])) | refine EntR.drop (F := F) ?_ | fail))
      all_goals first | exact SV.mk none 0 0 | exact SL.mk ⟨none, 0, 0⟩ []
 ·have h' := h
  unfold inR at h'
  have hc : canB gs k q false = false := by simp [canB, h]
  (refine Tr.enter (rs := [.tmp 8]) mixed fn149 rfl (by simp +arith [Tryz.ntmps149]) fun u => ?_; simp only [cd149, Tryz.f149])
  ((try simp only [WKb, ↓reduceIte, Nat.reduceEqDiff, Nat.reduceAdd]) <;> (repeat' ((first
  | (refine G.tr ?_; first | (refine G.call 163 ?_; refine S.c ?_ (h := can_ok)) | fail)
  | rintro _ _ ⟨rfl, rfl⟩
  | fail) <;> (try simp only [WKb, ↓reduceIte, hc]))))
  all_goals
   (apply Tr.fin hK ⟨⟨none, 0, 0⟩, ⟨none, 0, 0⟩, (by first | (simp [*, intoC]; done) | fail), rfl⟩; ((try clear hK) <;> (try simp only [WKe, intoG, ↓reduceIte, *]) <;> repeat (first | with_reducible exact EntR.done | refine S.e ?_ | refine EntR.drop (F := F) ?_ | fail)))
end Go.Proofs.YtacmaamllpiloaaGreat
