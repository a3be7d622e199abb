import Derived.Test.YtlhmbcmkpafjoaaOgx
namespace Go.Proofs.Ytlhmbcmkpafjoaa
open Go Go.Wk
set_option maxHeartbeats 1600000
set_option maxRecDepth 10000
instance : ElT 85 PortC := ⟨⟩
instance : ElT 127 Pt := ⟨⟩
/-- A port: its block, its box's block; a queue's messages; a sample. -/
structure OneG where
  b : Nat
  q : Bool
  i : Bool
  size : Int
  depth : Int
  lost : Int
  c : Nat
  s : SV
  ms : List Msg
  m : Msg
  there : Bool
  fresh : Bool
instance : Inhabited OneG := ⟨⟨0, false, false, 0, 0, 0, 0, ⟨none, 0, 0⟩, [], default, false, false⟩⟩
def OneG.pt (g : OneG) : Pt := ⟨some g.b⟩
abbrev quB (c : Nat) (s : SV) (d : Int) : Asrt := blk c (.cells [s.v, .int .i64 d].toArray 153 (0, 0))
abbrev saB (c : Nat) (m : Msg) (t f : Bool) : Asrt := blk c (.cells [m.s.v, .bool t, .bool f].toArray 156 (0, 0))
abbrev onB (b : Nat) (q i : Bool) (sz d : Int) (v : Value) (lost : Int) : Asrt := blk b (.cells [.bool q, .bool i, .int .i64 sz, .int .i64 d, v, .int .i64 lost].toArray 134 (0, 0))
def oneA (g : OneG) : Asrt := if g.q = true then sep (onB g.b true g.i g.size g.depth (.iface 151 (.pointer (some ⟨g.c, 0, none⟩))) g.lost) (sep (quB g.c g.s g.depth) (sep (sl false g.s.v g.ms) (fzl g.ms)))
  else sep (onB g.b false g.i g.size g.depth (.iface 154 (.pointer (some ⟨g.c, 0, none⟩))) g.lost) (sep (saB g.c g.m g.there g.fresh) (Fz.fz g.m))
theorem oneA_q {g : OneG} (h : g.q = true) : oneA g = sep (onB g.b true g.i g.size g.depth (.iface 151 (.pointer (some ⟨g.c, 0, none⟩))) g.lost) (sep (quB g.c g.s g.depth) (sep (sl false g.s.v g.ms) (fzl g.ms))) := if_pos h
theorem oneA_s {g : OneG} (h : g.q = false) : oneA g = sep (onB g.b false g.i g.size g.depth (.iface 154 (.pointer (some ⟨g.c, 0, none⟩))) g.lost) (sep (saB g.c g.m g.there g.fresh) (Fz.fz g.m)) := if_neg (by rw [h]; simp)
theorem oneQ_open {g : OneG} {l : List Asrt} {X : WP} (h : g.q = true) (hx : Tr (onB g.b true g.i g.size g.depth (.iface 151 (.pointer (some ⟨g.c, 0, none⟩))) g.lost :: quB g.c g.s g.depth :: sl false g.s.v g.ms :: fzl g.ms :: l) X) : Tr (oneA g :: l) X := by
  rw [oneA_q h]; exact hx.imp (Imp.trans Imp.sep (Imp.cons (Imp.trans Imp.sep (Imp.cons Imp.sep))))
theorem oneS_open {g : OneG} {l : List Asrt} {X : WP} (h : g.q = false) (hx : Tr (onB g.b false g.i g.size g.depth (.iface 154 (.pointer (some ⟨g.c, 0, none⟩))) g.lost :: saB g.c g.m g.there g.fresh :: Fz.fz g.m :: l) X) : Tr (oneA g :: l) X := by
  rw [oneA_s h]; exact hx.imp (Imp.trans Imp.sep (Imp.cons Imp.sep))
def qput (ms : List Msg) (d : Int) (m : Msg) : List Msg := if d ≤ ms.length then ms else ms ++ [m]


attribute [local irreducible] BrK GenK EGenK EUnitK CallK FnK CallV GuardO GuardC CondW opX opK opKc chkR eqR seqK blkK endL WL WD W LoopW BinK Tr drewK resL PickK NotK NilK ExtrK getK Instr.storeAt Instr.loadAt Instr.fieldAt Instr.indexAt Instr.lookup Instr.mapUpdate Instr.box Instr.alloc Instr.build Instr.buildSlice Instr.makeSlice Instr.makeMap Instr.sliceAt Instr.field Instr.index Instr.makeInterface Instr.typeAssert Builtin.len_ Builtin.append_ Builtin.cap_ Builtin.min_ Builtin.max_ Builtin.copy_ Builtin.clear_ convert binOp mp blk rob sl sep ex fact old
theorem qput_ok {c : Nat} {s s2 : SV} {d : Int} {ms : List Msg} {xs : List UInt8} (hn : xs.length ≤ 1000000) (hm : ms.length ≤ 1000000) : Trip Try.prog 102 [.pointer (some ⟨c, 0, none⟩), s2.v].toArray [quB c s d, sl false s.v ms, fzl ms, sl true s2.v xs]
    fun v l' => ∃ s3 s4, v = .bool (!decide (d ≤ ms.length)) ∧ l' = [quB c s3 d, sl false s3.v (qput ms d ⟨s4, xs⟩), fzl (qput ms d ⟨s4, xs⟩)] := by
  intro F K hK
  simp only [List.cons_append, List.nil_append]
  (refine Tr.enter (rs := [.tmp 4]) mixed fn102 rfl (by simp +arith [Try.ntmps102]) fun u => ?_; simp only [cd102, Try.f102])
  ((try simp only [WKb, ↓reduceIte, Nat.reduceEqDiff, Nat.reduceAdd, pl102]) <;> (repeat' ((first
    | (refine G.tr ?_; first | refine S.a ?_ | refine Tr.brK ?_ ?_ | (refine G.call 57 ?_; refine S.c ?_ (h := clone_ok (by omega))) | refine S.n fun _ => ?_ | refine S.i fun hix => ?_ | (refine S.g fun hb => ?_; (try simp only [hb])) | (refine S.s (fun hb => ?_) (fun hb => ?_) <;> ((try simp only [hb]) <;> (try (have hp := hb; simp only [WKs] at hp; (try have hq := Int.not_le.2 hp); (try have hq := Int.not_lt.2 hp))))))
    | rintro _ _ ⟨_, rfl, rfl⟩
    | ((fail_if_success refine G.tr ?_); exact G.prop S.p)
    | fail) <;> (try simp only [WKb, ↓reduceIte, Nat.reduceEqDiff, pl102]))))
  all_goals
    apply Tr.fin hK ⟨_, _, (by first | (simp [*]; done) | (simp only [WKe, ↓reduceIte, reduceCtorEq, Int.reduceEq, eq_self, *]; done) | (simp only [WKe, ↓reduceIte, reduceCtorEq, Int.reduceEq, *]; rfl)), rfl⟩
    ((try clear hK) <;> (try simp only [WKe, qput, ↓reduceIte, *]) <;> repeat (first | with_reducible exact EntR.done | refine S.e ?_ | (refine S.f ?_ <;> (try simp only [WKe, qput, ↓reduceIte, reduceCtorEq, Int.reduceEq, *])) | with_reducible apply EntR.ex | refine EntR.drop (F := F) ?_ | refine EntR.drop ?_))
    all_goals exact SV.mk none 0 0
theorem qlen_ok {c : Nat} {s : SV} {d : Int} {ms : List Msg} : Trip Try.prog 101 [.pointer (some ⟨c, 0, none⟩)].toArray [quB c s d, sl false s.v ms] fun v l' => v = .int .i64 ms.length ∧ l' = [quB c s d, sl false s.v ms] := by
  intro F K hK
  simp only [List.cons_append, List.nil_append]
  (refine Tr.enter (rs := [.tmp 2]) mixed fn101 rfl (by simp +arith [Try.ntmps101]) fun u => ?_; simp only [cd101, Try.f101])
  ((try simp only [WKb, ↓reduceIte, Nat.reduceEqDiff]) <;> (repeat' ((first
    | (refine G.tr ?_; first | refine S.a ?_ | refine Tr.brK ?_ ?_ | refine S.n fun _ => ?_ | refine S.i fun hix => ?_ | (refine S.g fun hb => ?_; (try simp only [hb])) | (refine S.s (fun hb => ?_) (fun hb => ?_) <;> ((try simp only [hb]) <;> (try (have hp := hb; simp only [WKs] at hp; (try have hq := Int.not_le.2 hp); (try have hq := Int.not_lt.2 hp))))))
    | ((fail_if_success refine G.tr ?_); exact G.prop S.p)
    | fail) <;> (try simp only [WKb, ↓reduceIte]))))
  all_goals
    refine Tr.fin hK ⟨rfl, rfl⟩ ?_
    ((try clear hK) <;> (try simp only [WKe, *]) <;> repeat (first | with_reducible exact EntR.done | refine S.e ?_ | (refine S.f ?_ <;> (try simp only [WKe, ↓reduceIte, reduceCtorEq, Int.reduceEq, *])) | with_reducible apply EntR.ex | refine EntR.drop (F := F) ?_ | refine EntR.drop ?_))
theorem qtake_ok {c : Nat} {s : SV} {d : Int} {ms : List Msg} : Trip Try.prog 78 [.pointer (some ⟨c, 0, none⟩)].toArray [quB c s d, sl false s.v ms, fzl ms]
    fun v l' => ∃ s3, v = .tuple #[(ix ms 0).s.v, .bool (!decide ((ms.length : Int) = 0))] ∧ l' = [quB c s3 d, sl false s3.v (ms.drop 1), fzl (ms.drop 1), Fz.fz (ix ms 0)] := by
  intro F K hK
  simp only [List.cons_append, List.nil_append]
  (refine Tr.enter (rs := [.tmp 2, .tmp 3]) mixed fn78 rfl (by simp +arith [Try.ntmps78]) fun u => ?_; simp only [cd78, Try.f78])
  by_cases h : ms = []
  · subst h
    ((try simp only [WKb, ↓reduceIte, Nat.reduceEqDiff]) <;> (repeat' ((first
    | (refine G.tr ?_; first | refine S.a ?_ | refine Tr.brK ?_ ?_ | (refine G.call 79 ?_; refine S.c ?_ (h := delete_ok (by omega) (by omega) (by omega))) | refine S.n fun _ => ?_ | refine S.i fun hix => ?_ | (refine S.g fun hb => ?_; (try simp only [hb])) | (refine S.s (fun hb => ?_) (fun hb => ?_) <;> ((try simp only [hb]) <;> (try (have hp := hb; simp only [WKs] at hp; (try have hq := Int.not_le.2 hp); (try have hq := Int.not_lt.2 hp))))))
    | rintro _ _ ⟨_, rfl, rfl⟩
    | ((fail_if_success refine G.tr ?_); exact G.prop S.p)
    | fail) <;> (try simp only [WKb, ↓reduceIte, Nat.reduceEqDiff]))))
    all_goals
      apply Tr.fin hK ⟨_, rfl, rfl⟩
      ((try clear hK) <;> (try simp only [WKe, *]) <;> repeat (first | with_reducible exact EntR.done | refine S.e ?_ | (refine S.f ?_ <;> (try simp only [WKe, ↓reduceIte, reduceCtorEq, Int.reduceEq, *])) | with_reducible apply EntR.ex | refine EntR.drop (F := F) ?_ | refine EntR.drop ?_))
  · have hl : 0 < ms.length := List.length_pos_iff.2 h
    have hd : decide ((ms.length : Int) = 0) = false := by simp; omega
    ((try simp only [WKb, ↓reduceIte, Nat.reduceEqDiff]) <;> (repeat' ((first
    | (refine G.tr ?_; first | refine S.a ?_ | refine Tr.brK ?_ ?_ | (refine G.call 79 ?_; refine S.c ?_ (h := delete_ok (by omega) (by omega) (by omega))) | refine S.n fun _ => ?_ | refine S.i fun hix => ?_ | (refine S.g fun hb => ?_; (try simp only [hb])) | (refine S.s (fun hb => ?_) (fun hb => ?_) <;> ((try simp only [hb]) <;> (try (have hp := hb; simp only [WKs] at hp; (try have hq := Int.not_le.2 hp); (try have hq := Int.not_lt.2 hp))))))
    | rintro _ _ ⟨_, rfl, rfl⟩
    | ((fail_if_success refine G.tr ?_); exact G.prop S.p)
    | fail) <;> (try simp only [WKb, ↓reduceIte, Nat.reduceEqDiff, hd]))))
    all_goals
      apply Tr.fin hK ⟨_, by rw [hd]; rfl, rfl⟩
      ((try clear hK) <;> (try simp only [WKe, *]) <;> repeat (first | with_reducible exact EntR.done | refine S.e ?_ | (refine S.f ?_ <;> (try simp only [WKe, ↓reduceIte, reduceCtorEq, Int.reduceEq, *])) | with_reducible apply EntR.ex | refine EntR.drop (F := F) ?_ | refine EntR.drop ?_))
theorem sput_ok {c : Nat} {m : Msg} {t f : Bool} {s2 : SV} {xs : List UInt8} (hn : xs.length ≤ 1000000) : Trip Try.prog 104 [.pointer (some ⟨c, 0, none⟩), s2.v].toArray [saB c m t f, sl true s2.v xs]
    fun v l' => ∃ s3, v = .bool true ∧ l' = [saB c ⟨s3, xs⟩ true true, Fz.fz (⟨s3, xs⟩ : Msg)] := by
  intro F K hK
  simp only [List.cons_append, List.nil_append]
  (refine Tr.enter (rs := [.tmp 4]) mixed fn104 rfl (by simp +arith [Try.ntmps104]) fun u => ?_; simp only [cd104, Try.f104])
  ((try simp only [WKb, ↓reduceIte, Nat.reduceEqDiff, Nat.reduceAdd]) <;> (repeat' ((first
    | (refine G.tr ?_; first | refine S.a ?_ | refine Tr.brK ?_ ?_ | (refine G.call 57 ?_; refine S.c ?_ (h := clone_ok (by omega))) | refine S.n fun _ => ?_ | refine S.i fun hix => ?_ | (refine S.g fun hb => ?_; (try simp only [hb])) | (refine S.s (fun hb => ?_) (fun hb => ?_) <;> ((try simp only [hb]) <;> (try (have hp := hb; simp only [WKs] at hp; (try have hq := Int.not_le.2 hp); (try have hq := Int.not_lt.2 hp))))))
    | rintro _ _ ⟨_, rfl, rfl⟩
    | ((fail_if_success refine G.tr ?_); exact G.prop S.p)
    | fail) <;> (try simp only [WKb, ↓reduceIte, Nat.reduceEqDiff, Nat.reduceAdd]))))
  all_goals
    apply Tr.fin hK ⟨_, rfl, rfl⟩
    ((try clear hK) <;> (try simp only [WKe, *]) <;> repeat (first | with_reducible exact EntR.done | refine S.e ?_ | (refine S.f ?_ <;> (try simp only [WKe, ↓reduceIte, reduceCtorEq, Int.reduceEq, *])) | with_reducible apply EntR.ex | refine EntR.drop (F := F) ?_ | refine EntR.drop ?_))
theorem slen_ok {c : Nat} {m : Msg} {t f : Bool} : Trip Try.prog 103 [.pointer (some ⟨c, 0, none⟩)].toArray [saB c m t f] fun v l' => v = .int .i64 (if t = true then 1 else 0) ∧ l' = [saB c m t f] := by
  intro F K hK
  simp only [List.cons_append, List.nil_append]
  (refine Tr.enter (rs := [.tmp 2]) mixed fn103 rfl (by simp +arith [Try.ntmps103]) fun u => ?_; simp only [cd103, Try.f103])
  ((try simp only [WKb, ↓reduceIte, Nat.reduceEqDiff]) <;> (repeat' ((first
    | (refine G.tr ?_; first | refine S.a ?_ | refine Tr.brK ?_ ?_ | refine S.n fun _ => ?_ | refine S.i fun hix => ?_ | (refine S.g fun hb => ?_; (try simp only [hb])) | (refine S.s (fun hb => ?_) (fun hb => ?_) <;> ((try simp only [hb]) <;> (try (have hp := hb; simp only [WKs] at hp; (try have hq := Int.not_le.2 hp); (try have hq := Int.not_lt.2 hp))))))
    | ((fail_if_success refine G.tr ?_); exact G.prop S.p)
    | fail) <;> (try simp only [WKb, ↓reduceIte]))))
  all_goals
    refine Tr.fin hK ⟨by simp [*], rfl⟩ ?_
    ((try clear hK) <;> (try simp only [WKe, *]) <;> repeat (first | with_reducible exact EntR.done | refine S.e ?_ | (refine S.f ?_ <;> (try simp only [WKe, ↓reduceIte, reduceCtorEq, Int.reduceEq, *])) | with_reducible apply EntR.ex | refine EntR.drop (F := F) ?_ | refine EntR.drop ?_))





end Go.Proofs.Ytlhmbcmkpafjoaa

namespace Go.Proofs.Ytlhmbcmkpafjoaa
open Go Go.Wk
set_option maxHeartbeats 3200000
set_option maxRecDepth 10000
abbrev poB (p : Nat) (s : SV) : Asrt := blk p (.cells [s.v].toArray 129 (0, 0))
def canB (gs : List OneG) (k : Int) (q i : Bool) : Bool := if inR gs k then (((ix gs k).q == q) && ((ix gs k).i == i)) else false
def sizeP (gs : List OneG) (k : Int) : Int := if inR gs k then (ix gs k).size else 0
def lenP (gs : List OneG) (k : Int) : Int := if inR gs k then (if (ix gs k).q = true then ((ix gs k).ms.length : Int) else if (ix gs k).there = true then 1 else 0) else 0
def lostP (gs : List OneG) (k : Int) : Int := if inR gs k then (ix gs k).lost else 0
def lenOK (n : Nat) (size : Int) : Bool := !decide ((n : Int) < 1) && !decide (size < (n : Int))
def intoC (gs : List OneG) (k : Int) (q : Bool) (n : Nat) : Int := if canB gs k q false = true then (if lenOK n (ix gs k).size = true then (if q = true then (if (ix gs k).depth ≤ (ix gs k).ms.length then 1 else 0) else 0) else 2) else 3
def putP (g : OneG) (s : SV) (m : Msg) : OneG := if g.q = true then { g with s := s, ms := qput g.ms g.depth m } else { g with m := m, there := true, fresh := true }
def intoG (gs : List OneG) (k : Int) (q : Bool) (s : SV) (m : Msg) : List OneG := if canB gs k q false = true then (if lenOK m.d.length (ix gs k).size = true then gs.set k.toNat (putP (ix gs k) s m) else gs) else gs
def outC (gs : List OneG) (k : Int) (q : Bool) : Int := if canB gs k q true = true then (if q = true then (if ((ix gs k).ms.length : Int) = 0 then 1 else 0) else (if (ix gs k).there = true then 0 else 1)) else 3
def outD (gs : List OneG) (k : Int) (q : Bool) : List UInt8 := if outC gs k q = 0 then (if q = true then (ix (ix gs k).ms 0).d else (ix gs k).m.d) else []
def outG (gs : List OneG) (k : Int) (q : Bool) (s : SV) : List OneG := if canB gs k q true = true then (if q = true then gs.set k.toNat { ix gs k with s := s, ms := (ix gs k).ms.drop 1 } else gs) else gs
def drainD (gs : List OneG) (k : Int) : List (List UInt8) := if inR gs k then (if (ix gs k).i = true then [] else if (ix gs k).q = true then (ix gs k).ms.map SL.d else if (ix gs k).fresh = true then [(ix gs k).m.d] else []) else []
def drainG (gs : List OneG) (k : Int) : List OneG := if inR gs k then (if (ix gs k).i = true then gs else if (ix gs k).q = true then gs.set k.toNat { ix gs k with s := ⟨none, 0, 0⟩, ms := [] } else gs.set k.toNat { ix gs k with fresh := false }) else gs
def delB (gs : List OneG) (k : Int) : Bool := if inR gs k then (if (ix gs k).i = true then (if (ix gs k).q = true then !decide ((ix gs k).depth ≤ (ix gs k).ms.length) else true) else false) else false
def delP (g : OneG) (s : SV) (m : Msg) : OneG := if g.q = true then (if g.depth ≤ g.ms.length then { g with s := s, lost := IntKind.i64.wrap (g.lost + 1) } else { g with s := s, ms := g.ms ++ [m] }) else { g with m := m, there := true, fresh := true }
def delG (gs : List OneG) (k : Int) (s : SV) (m : Msg) : List OneG := if inR gs k then (if (ix gs k).i = true then gs.set k.toNat (delP (ix gs k) s m) else gs) else gs
attribute [local irreducible] BrK GenK EGenK EUnitK CallK FnK CallV GuardO GuardC CondW opX opK opKc chkR eqR seqK blkK endL WL WD W LoopW BinK Tr drewK resL PickK NotK NilK ExtrK getK Instr.storeAt Instr.loadAt Instr.fieldAt Instr.indexAt Instr.lookup Instr.mapUpdate Instr.box Instr.alloc Instr.build Instr.buildSlice Instr.makeSlice Instr.makeMap Instr.sliceAt Instr.field Instr.index Instr.makeInterface Instr.typeAssert Builtin.len_ Builtin.append_ Builtin.cap_ Builtin.min_ Builtin.max_ Builtin.copy_ Builtin.clear_ convert binOp mp blk rob sl sep ex fact old
theorem find_in {p : Nat} {s : SV} {gs : List OneG} {k : Int} (h0 : 0 ≤ k) (h1 : k < gs.length) : Trip Try.prog 75 [.pointer (some ⟨p, 0, none⟩), .int .i64 k].toArray [poB p s, sl false s.v (gs.map OneG.pt)]
    fun v l' => v = .pointer (some ⟨(ix gs k).b, 0, none⟩) ∧ l' = [poB p s, sl false s.v (gs.map OneG.pt)] := by
  intro F K hK
  simp only [List.cons_append, List.nil_append]
  have hm := ix_map (f := OneG.pt) h0 h1
  have hl : (gs.map OneG.pt).length = gs.length := List.length_map _
  (refine Tr.enter (rs := [.tmp 4]) mixed fn75 rfl (by simp +arith [Try.ntmps75]) fun u => ?_; simp only [cd75, Try.f75])
  ((try simp only [WKb, ↓reduceIte, Nat.reduceEqDiff, Nat.reduceAdd]) <;> (repeat' ((first
    | (refine G.tr ?_; first | refine S.a ?_ | refine Tr.brK ?_ ?_ | refine S.n fun _ => ?_ | refine S.i fun hix => ?_ | (refine S.g fun hb => ?_; (try simp only [hb])) | (refine S.s (fun hb => ?_) (fun hb => ?_) <;> ((try simp only [hb]) <;> (try (have hp := hb; simp only [WKs] at hp; (try have hq := Int.not_le.2 hp); (try have hq := Int.not_lt.2 hp))))))
    | ((fail_if_success refine G.tr ?_); exact G.prop S.p)
    | fail) <;> (try simp only [WKb, ↓reduceIte, Nat.reduceEqDiff, hm]))))
  all_goals
    refine Tr.fin hK ⟨rfl, rfl⟩ ?_
    ((try clear hK) <;> (try simp only [WKe, *]) <;> repeat (first | with_reducible exact EntR.done | refine S.e ?_ | (refine S.f ?_ <;> (try simp only [WKe, ↓reduceIte, reduceCtorEq, Int.reduceEq, *])) | with_reducible apply EntR.ex | refine EntR.drop (F := F) ?_ | refine EntR.drop ?_))
theorem find_out {p : Nat} {s : SV} {gs : List OneG} {k : Int} (h : ¬ (0 ≤ k ∧ k < gs.length)) : Trip Try.prog 75 [.pointer (some ⟨p, 0, none⟩), .int .i64 k].toArray [poB p s, sl false s.v (gs.map OneG.pt)]
    fun v l' => v = .pointer none ∧ l' = [poB p s, sl false s.v (gs.map OneG.pt)] := by
  intro F K hK
  simp only [List.cons_append, List.nil_append]
  have hl : (gs.map OneG.pt).length = gs.length := List.length_map _
  (refine Tr.enter (rs := [.tmp 4]) mixed fn75 rfl (by simp +arith [Try.ntmps75]) fun u => ?_; simp only [cd75, Try.f75])
  ((try simp only [WKb, ↓reduceIte, Nat.reduceEqDiff, Nat.reduceAdd]) <;> (repeat' ((first
    | (refine G.tr ?_; first | refine S.a ?_ | refine Tr.brK ?_ ?_ | refine S.n fun _ => ?_ | refine S.i fun hix => ?_ | (refine S.g fun hb => ?_; (try simp only [hb])) | (refine S.s (fun hb => ?_) (fun hb => ?_) <;> ((try simp only [hb]) <;> (try (have hp := hb; simp only [WKs] at hp; (try have hq := Int.not_le.2 hp); (try have hq := Int.not_lt.2 hp))))))
    | ((fail_if_success refine G.tr ?_); exact G.prop S.p)
    | fail) <;> (try simp only [WKb, ↓reduceIte, Nat.reduceEqDiff]))))
  all_goals
    refine Tr.fin hK ⟨rfl, rfl⟩ ?_
    ((try clear hK) <;> (try simp only [WKe, *]) <;> repeat (first | with_reducible exact EntR.done | refine S.e ?_ | (refine S.f ?_ <;> (try simp only [WKe, ↓reduceIte, reduceCtorEq, Int.reduceEq, *])) | with_reducible apply EntR.ex | refine EntR.drop (F := F) ?_ | refine EntR.drop ?_))
theorem find_none {k : Int} : Trip Try.prog 75 [.pointer none, .int .i64 k].toArray [] fun v l' => v = .pointer none ∧ l' = [] := by
  intro F K hK
  simp only [List.nil_append]
  (refine Tr.enter (rs := [.tmp 4]) mixed fn75 rfl (by simp +arith [Try.ntmps75]) fun u => ?_; simp only [cd75, Try.f75])
  ((try simp only [WKb, ↓reduceIte, Nat.reduceEqDiff, Nat.reduceAdd]) <;> (repeat' ((first
    | (refine G.tr ?_; first | refine S.a ?_ | refine Tr.brK ?_ ?_ | refine S.n fun _ => ?_ | refine S.i fun hix => ?_ | (refine S.g fun hb => ?_; (try simp only [hb])) | (refine S.s (fun hb => ?_) (fun hb => ?_) <;> ((try simp only [hb]) <;> (try (have hp := hb; simp only [WKs] at hp; (try have hq := Int.not_le.2 hp); (try have hq := Int.not_lt.2 hp))))))
    | ((fail_if_success refine G.tr ?_); exact G.prop S.p)
    | fail) <;> (try simp only [WKb, WKh, ↓reduceIte, Nat.reduceEqDiff, Nat.reduceAdd, Nat.reduceSub, Int.reduceEq, Int.reduceLT, Int.reduceLE, pl75]))))
  all_goals
    refine Tr.fin hK ⟨rfl, rfl⟩ ?_
    ((try clear hK) <;> (try simp only [WKe, *]) <;> repeat (first | with_reducible exact EntR.done | refine S.e ?_ | (refine S.f ?_ <;> (try simp only [WKe, ↓reduceIte, reduceCtorEq, Int.reduceEq, *])) | with_reducible apply EntR.ex | refine EntR.drop (F := F) ?_ | refine EntR.drop ?_))



theorem can_ok {p : Nat} {s : SV} {gs : List OneG} {k : Int} {q i : Bool} : Trip Try.prog 76 [.pointer (some ⟨p, 0, none⟩), .int .i64 k, .bool q, .bool i].toArray [poB p s, fam oneA gs, sl false s.v (gs.map OneG.pt)]
    fun v l' => v = .bool (canB gs k q i) ∧ l' = [poB p s, fam oneA (gs), sl false s.v ((gs).map OneG.pt)] := by
  intro F K hK
  simp only [List.cons_append, List.nil_append]
  by_cases h : inR gs k
  · have ⟨h0, h1⟩ := h
    have hm := ix_map (f := OneG.pt) h0 h1
    have hl : (gs.map OneG.pt).length = gs.length := List.length_map _
    refine Tr.famAt (A := oneA) k (by (repeat (first | exact TakeA.here | apply TakeA.next)); done) h0 h1 ?_
    cases hq : (ix gs k).q
    · refine oneS_open hq ?_
      (refine Tr.enter (rs := [.tmp 8]) mixed fn76 rfl (by simp +arith [Try.ntmps76]) fun u => ?_; simp only [cd76, Try.f76])
      ((try simp only [WKb, ↓reduceIte, Nat.reduceEqDiff, Nat.reduceAdd]) <;> (repeat' ((first
    | (refine G.tr ?_; first | refine S.a ?_ | refine Tr.brK ?_ ?_ | (refine G.call 75 ?_; first | refine S.c ?_ (h := find_none) | refine S.c ?_ (h := find_in (by omega) (by omega)) | refine S.c ?_ (h := find_out (by omega))) | refine S.n fun _ => ?_ | refine S.i fun hix => ?_ | (refine S.g fun hb => ?_; (try simp only [hb])) | (refine S.s (fun hb => ?_) (fun hb => ?_) <;> ((try simp only [hb]) <;> (try (have hp := hb; simp only [WKs] at hp; (try have hq := Int.not_le.2 hp); (try have hq := Int.not_lt.2 hp))))))
    | rintro _ _ ⟨rfl, rfl⟩
    | ((fail_if_success refine G.tr ?_); exact G.prop S.p)
    | fail) <;> (try simp only [WKb, ↓reduceIte, Nat.reduceEqDiff]))))
      all_goals
        refine Tr.fin hK ⟨(by first | (simp [*, canB]; done) | (simp only [WKe, ↓reduceIte, reduceCtorEq, Int.reduceEq, eq_self, *, canB]; done) | (simp only [WKe, ↓reduceIte, reduceCtorEq, Int.reduceEq, *, canB]; rfl)), rfl⟩ ?_
        ((try clear hK) <;> (try simp only [WKe, *]) <;> repeat (first | with_reducible exact EntR.done | refine S.e ?_ | (refine S.f ?_ <;> (try simp only [WKe, oneA, ↓reduceIte, *])) | with_reducible apply EntR.ex | refine EntR.drop (F := F) ?_ | refine EntR.drop ?_))
        all_goals first | exact SV.mk none 0 0 | exact SL.mk ⟨none, 0, 0⟩ []
    · refine oneQ_open hq ?_
      (refine Tr.enter (rs := [.tmp 8]) mixed fn76 rfl (by simp +arith [Try.ntmps76]) fun u => ?_; simp only [cd76, Try.f76])
      ((try simp only [WKb, ↓reduceIte, Nat.reduceEqDiff, Nat.reduceAdd]) <;> (repeat' ((first
    | (refine G.tr ?_; first | refine S.a ?_ | refine Tr.brK ?_ ?_ | (refine G.call 75 ?_; first | refine S.c ?_ (h := find_none) | refine S.c ?_ (h := find_in (by omega) (by omega)) | refine S.c ?_ (h := find_out (by omega))) | refine S.n fun _ => ?_ | refine S.i fun hix => ?_ | (refine S.g fun hb => ?_; (try simp only [hb])) | (refine S.s (fun hb => ?_) (fun hb => ?_) <;> ((try simp only [hb]) <;> (try (have hp := hb; simp only [WKs] at hp; (try have hq := Int.not_le.2 hp); (try have hq := Int.not_lt.2 hp))))))
    | rintro _ _ ⟨rfl, rfl⟩
    | ((fail_if_success refine G.tr ?_); exact G.prop S.p)
    | fail) <;> (try simp only [WKb, ↓reduceIte, Nat.reduceEqDiff]))))
      all_goals
        refine Tr.fin hK ⟨(by first | (simp [*, canB]; done) | (simp only [WKe, ↓reduceIte, reduceCtorEq, Int.reduceEq, eq_self, *, canB]; done) | (simp only [WKe, ↓reduceIte, reduceCtorEq, Int.reduceEq, *, canB]; rfl)), rfl⟩ ?_
        ((try clear hK) <;> (try simp only [WKe, *]) <;> repeat (first | with_reducible exact EntR.done | refine S.e ?_ | (refine S.f ?_ <;> (try simp only [oneA, ↓reduceIte, *])) | with_reducible apply EntR.ex | refine EntR.drop (F := F) ?_ | refine EntR.drop ?_))
        all_goals first | exact SV.mk none 0 0 | exact SL.mk ⟨none, 0, 0⟩ []
  · have h' := h
    unfold inR at h'
    (refine Tr.enter (rs := [.tmp 8]) mixed fn76 rfl (by simp +arith [Try.ntmps76]) fun u => ?_; simp only [cd76, Try.f76])
    ((try simp only [WKb, ↓reduceIte, Nat.reduceEqDiff, Nat.reduceAdd]) <;> (repeat' ((first
    | (refine G.tr ?_; first | refine S.a ?_ | refine Tr.brK ?_ ?_ | (refine G.call 75 ?_; first | refine S.c ?_ (h := find_none) | refine S.c ?_ (h := find_in (by omega) (by omega)) | refine S.c ?_ (h := find_out (by omega))) | refine S.n fun _ => ?_ | refine S.i fun hix => ?_ | (refine S.g fun hb => ?_; (try simp only [hb])) | (refine S.s (fun hb => ?_) (fun hb => ?_) <;> ((try simp only [hb]) <;> (try (have hp := hb; simp only [WKs] at hp; (try have hq := Int.not_le.2 hp); (try have hq := Int.not_lt.2 hp))))))
    | rintro _ _ ⟨rfl, rfl⟩
    | ((fail_if_success refine G.tr ?_); exact G.prop S.p)
    | fail) <;> (try simp only [WKb, ↓reduceIte, Nat.reduceEqDiff]))))
    all_goals
      refine Tr.fin hK ⟨(by first | (simp [*, canB]; done) | (simp only [WKe, ↓reduceIte, reduceCtorEq, Int.reduceEq, eq_self, *, canB]; done) | (simp only [WKe, ↓reduceIte, reduceCtorEq, Int.reduceEq, *, canB]; rfl)), rfl⟩ ?_
      ((try clear hK) <;> (try simp only [WKe, *]) <;> repeat (first | with_reducible exact EntR.done | refine S.e ?_ | (refine S.f ?_ <;> (try simp only [WKe, canB, ↓reduceIte, reduceCtorEq, Int.reduceEq, *])) | with_reducible apply EntR.ex | refine EntR.drop (F := F) ?_ | refine EntR.drop ?_))
      all_goals first | exact SV.mk none 0 0 | exact SL.mk ⟨none, 0, 0⟩ []

theorem plen_ok {p : Nat} {s : SV} {gs : List OneG} {k : Int} : Trip Try.prog 63 [.pointer (some ⟨p, 0, none⟩), .int .i64 k].toArray [poB p s, fam oneA gs, sl false s.v (gs.map OneG.pt)]
    fun v l' => v = .int .i64 (lenP gs k) ∧ l' = [poB p s, fam oneA (gs), sl false s.v ((gs).map OneG.pt)] := by
  intro F K hK
  simp only [List.cons_append, List.nil_append]
  by_cases h : inR gs k
  · have ⟨h0, h1⟩ := h
    have hm := ix_map (f := OneG.pt) h0 h1
    have hl : (gs.map OneG.pt).length = gs.length := List.length_map _
    refine Tr.famAt (A := oneA) k (by (repeat (first | exact TakeA.here | apply TakeA.next)); done) h0 h1 ?_
    cases hq : (ix gs k).q
    · refine oneS_open hq ?_
      (refine Tr.enter (rs := [.tmp 4]) mixed fn63 rfl (by simp +arith [Try.ntmps63]) fun u => ?_; simp only [cd63, Try.f63])
      ((try simp only [WKb, ↓reduceIte, Nat.reduceEqDiff, Nat.reduceAdd]) <;> (repeat' ((first
    | (refine G.tr ?_; first | refine S.a ?_ | refine Tr.brK ?_ ?_ | (refine G.call 75 ?_; first | refine S.c ?_ (h := find_none) | refine S.c ?_ (h := find_in (by omega) (by omega)) | refine S.c ?_ (h := find_out (by omega))) | (refine G.call 101 ?_; refine S.c ?_ (h := qlen_ok)) | (refine G.call 103 ?_; refine S.c ?_ (h := slen_ok)) | refine S.n fun _ => ?_ | refine S.i fun hix => ?_ | (refine S.g fun hb => ?_; (try simp only [hb])) | (refine S.s (fun hb => ?_) (fun hb => ?_) <;> ((try simp only [hb]) <;> (try (have hp := hb; simp only [WKs] at hp; (try have hq := Int.not_le.2 hp); (try have hq := Int.not_lt.2 hp))))))
    | rintro _ _ ⟨rfl, rfl⟩
    | ((fail_if_success refine G.tr ?_); exact G.prop S.p)
    | fail) <;> (try simp only [WKb, WKh, ↓reduceIte, Nat.reduceEqDiff]))))
      all_goals
        refine Tr.fin hK ⟨(by first | (simp [*, lenP]; done) | (simp only [WKe, ↓reduceIte, reduceCtorEq, Int.reduceEq, eq_self, *, lenP]; done) | (simp only [WKe, ↓reduceIte, reduceCtorEq, Int.reduceEq, *, lenP]; rfl)), rfl⟩ ?_
        ((try clear hK) <;> (try simp only [WKe, *]) <;> repeat (first | with_reducible exact EntR.done | refine S.e ?_ | (refine S.f ?_ <;> (try simp only [WKe, oneA, ↓reduceIte, *])) | with_reducible apply EntR.ex | refine EntR.drop (F := F) ?_ | refine EntR.drop ?_))
        all_goals first | exact SV.mk none 0 0 | exact SL.mk ⟨none, 0, 0⟩ []
    · refine oneQ_open hq ?_
      (refine Tr.enter (rs := [.tmp 4]) mixed fn63 rfl (by simp +arith [Try.ntmps63]) fun u => ?_; simp only [cd63, Try.f63])
      ((try simp only [WKb, ↓reduceIte, Nat.reduceEqDiff, Nat.reduceAdd]) <;> (repeat' ((first
    | (refine G.tr ?_; first | refine S.a ?_ | refine Tr.brK ?_ ?_ | (refine G.call 75 ?_; first | refine S.c ?_ (h := find_none) | refine S.c ?_ (h := find_in (by omega) (by omega)) | refine S.c ?_ (h := find_out (by omega))) | (refine G.call 101 ?_; refine S.c ?_ (h := qlen_ok)) | (refine G.call 103 ?_; refine S.c ?_ (h := slen_ok)) | refine S.n fun _ => ?_ | refine S.i fun hix => ?_ | (refine S.g fun hb => ?_; (try simp only [hb])) | (refine S.s (fun hb => ?_) (fun hb => ?_) <;> ((try simp only [hb]) <;> (try (have hp := hb; simp only [WKs] at hp; (try have hq := Int.not_le.2 hp); (try have hq := Int.not_lt.2 hp))))))
    | rintro _ _ ⟨rfl, rfl⟩
    | ((fail_if_success refine G.tr ?_); exact G.prop S.p)
    | fail) <;> (try simp only [WKb, WKh, ↓reduceIte, Nat.reduceEqDiff]))))
      all_goals
        refine Tr.fin hK ⟨(by first | (simp [*, lenP]; done) | (simp only [WKe, ↓reduceIte, reduceCtorEq, Int.reduceEq, eq_self, *, lenP]; done) | (simp only [WKe, ↓reduceIte, reduceCtorEq, Int.reduceEq, *, lenP]; rfl)), rfl⟩ ?_
        ((try clear hK) <;> (try simp only [WKe, *]) <;> repeat (first | with_reducible exact EntR.done | refine S.e ?_ | (refine S.f ?_ <;> (try simp only [oneA, ↓reduceIte, *])) | with_reducible apply EntR.ex | refine EntR.drop (F := F) ?_ | refine EntR.drop ?_))
        all_goals first | exact SV.mk none 0 0 | exact SL.mk ⟨none, 0, 0⟩ []
  · have h' := h
    unfold inR at h'
    (refine Tr.enter (rs := [.tmp 4]) mixed fn63 rfl (by simp +arith [Try.ntmps63]) fun u => ?_; simp only [cd63, Try.f63])
    ((try simp only [WKb, ↓reduceIte, Nat.reduceEqDiff, Nat.reduceAdd]) <;> (repeat' ((first
    | (refine G.tr ?_; first | refine S.a ?_ | refine Tr.brK ?_ ?_ | (refine G.call 75 ?_; first | refine S.c ?_ (h := find_none) | refine S.c ?_ (h := find_in (by omega) (by omega)) | refine S.c ?_ (h := find_out (by omega))) | (refine G.call 101 ?_; refine S.c ?_ (h := qlen_ok)) | (refine G.call 103 ?_; refine S.c ?_ (h := slen_ok)) | refine S.n fun _ => ?_ | refine S.i fun hix => ?_ | (refine S.g fun hb => ?_; (try simp only [hb])) | (refine S.s (fun hb => ?_) (fun hb => ?_) <;> ((try simp only [hb]) <;> (try (have hp := hb; simp only [WKs] at hp; (try have hq := Int.not_le.2 hp); (try have hq := Int.not_lt.2 hp))))))
    | rintro _ _ ⟨rfl, rfl⟩
    | ((fail_if_success refine G.tr ?_); exact G.prop S.p)
    | fail) <;> (try simp only [WKb, ↓reduceIte]))))
    all_goals
      refine Tr.fin hK ⟨(by first | (simp [*, lenP]; done) | (simp only [WKe, ↓reduceIte, reduceCtorEq, Int.reduceEq, eq_self, *, lenP]; done) | (simp only [WKe, ↓reduceIte, reduceCtorEq, Int.reduceEq, *, lenP]; rfl)), rfl⟩ ?_
      ((try clear hK) <;> (try simp only [WKe, *]) <;> repeat (first | with_reducible exact EntR.done | refine S.e ?_ | (refine S.f ?_ <;> (try simp only [WKe, lenP, ↓reduceIte, reduceCtorEq, Int.reduceEq, *])) | with_reducible apply EntR.ex | refine EntR.drop (F := F) ?_ | refine EntR.drop ?_))
      all_goals first | exact SV.mk none 0 0 | exact SL.mk ⟨none, 0, 0⟩ []

theorem plost_ok {p : Nat} {s : SV} {gs : List OneG} {k : Int} : Trip Try.prog 64 [.pointer (some ⟨p, 0, none⟩), .int .i64 k].toArray [poB p s, fam oneA gs, sl false s.v (gs.map OneG.pt)]
    fun v l' => v = .int .i64 (lostP gs k) ∧ l' = [poB p s, fam oneA (gs), sl false s.v ((gs).map OneG.pt)] := by
  intro F K hK
  simp only [List.cons_append, List.nil_append]
  by_cases h : inR gs k
  · have ⟨h0, h1⟩ := h
    have hm := ix_map (f := OneG.pt) h0 h1
    have hl : (gs.map OneG.pt).length = gs.length := List.length_map _
    refine Tr.famAt (A := oneA) k (by (repeat (first | exact TakeA.here | apply TakeA.next)); done) h0 h1 ?_
    cases hq : (ix gs k).q
    · refine oneS_open hq ?_
      (refine Tr.enter (rs := [.tmp 4]) mixed fn64 rfl (by simp +arith [Try.ntmps64]) fun u => ?_; simp only [cd64, Try.f64])
      ((try simp only [WKb, ↓reduceIte, Nat.reduceEqDiff, Nat.reduceAdd]) <;> (repeat' ((first
    | (refine G.tr ?_; first | refine S.a ?_ | refine Tr.brK ?_ ?_ | (refine G.call 75 ?_; first | refine S.c ?_ (h := find_none) | refine S.c ?_ (h := find_in (by omega) (by omega)) | refine S.c ?_ (h := find_out (by omega))) | refine S.n fun _ => ?_ | refine S.i fun hix => ?_ | (refine S.g fun hb => ?_; (try simp only [hb])) | (refine S.s (fun hb => ?_) (fun hb => ?_) <;> ((try simp only [hb]) <;> (try (have hp := hb; simp only [WKs] at hp; (try have hq := Int.not_le.2 hp); (try have hq := Int.not_lt.2 hp))))))
    | rintro _ _ ⟨rfl, rfl⟩
    | ((fail_if_success refine G.tr ?_); exact G.prop S.p)
    | fail) <;> (try simp only [WKb, ↓reduceIte, Nat.reduceEqDiff]))))
      all_goals
        refine Tr.fin hK ⟨(by first | (simp [*, lostP]; done) | (simp only [WKe, ↓reduceIte, reduceCtorEq, Int.reduceEq, eq_self, *, lostP]; done) | (simp only [WKe, ↓reduceIte, reduceCtorEq, Int.reduceEq, *, lostP]; rfl)), rfl⟩ ?_
        ((try clear hK) <;> (try simp only [WKe, *]) <;> repeat (first | with_reducible exact EntR.done | refine S.e ?_ | (refine S.f ?_ <;> (try simp only [WKe, oneA, ↓reduceIte, *])) | with_reducible apply EntR.ex | refine EntR.drop (F := F) ?_ | refine EntR.drop ?_))
        all_goals first | exact SV.mk none 0 0 | exact SL.mk ⟨none, 0, 0⟩ []
    · refine oneQ_open hq ?_
      (refine Tr.enter (rs := [.tmp 4]) mixed fn64 rfl (by simp +arith [Try.ntmps64]) fun u => ?_; simp only [cd64, Try.f64])
      ((try simp only [WKb, ↓reduceIte, Nat.reduceEqDiff, Nat.reduceAdd]) <;> (repeat' ((first
    | (refine G.tr ?_; first | refine S.a ?_ | refine Tr.brK ?_ ?_ | (refine G.call 75 ?_; first | refine S.c ?_ (h := find_none) | refine S.c ?_ (h := find_in (by omega) (by omega)) | refine S.c ?_ (h := find_out (by omega))) | refine S.n fun _ => ?_ | refine S.i fun hix => ?_ | (refine S.g fun hb => ?_; (try simp only [hb])) | (refine S.s (fun hb => ?_) (fun hb => ?_) <;> ((try simp only [hb]) <;> (try (have hp := hb; simp only [WKs] at hp; (try have hq := Int.not_le.2 hp); (try have hq := Int.not_lt.2 hp))))))
    | rintro _ _ ⟨rfl, rfl⟩
    | ((fail_if_success refine G.tr ?_); exact G.prop S.p)
    | fail) <;> (try simp only [WKb, ↓reduceIte, Nat.reduceEqDiff]))))
      all_goals
        refine Tr.fin hK ⟨(by first | (simp [*, lostP]; done) | (simp only [WKe, ↓reduceIte, reduceCtorEq, Int.reduceEq, eq_self, *, lostP]; done) | (simp only [WKe, ↓reduceIte, reduceCtorEq, Int.reduceEq, *, lostP]; rfl)), rfl⟩ ?_
        ((try clear hK) <;> (try simp only [WKe, *]) <;> repeat (first | with_reducible exact EntR.done | refine S.e ?_ | (refine S.f ?_ <;> (try simp only [oneA, ↓reduceIte, *])) | with_reducible apply EntR.ex | refine EntR.drop (F := F) ?_ | refine EntR.drop ?_))
        all_goals first | exact SV.mk none 0 0 | exact SL.mk ⟨none, 0, 0⟩ []
  · have h' := h
    unfold inR at h'
    (refine Tr.enter (rs := [.tmp 4]) mixed fn64 rfl (by simp +arith [Try.ntmps64]) fun u => ?_; simp only [cd64, Try.f64])
    ((try simp only [WKb, ↓reduceIte, Nat.reduceEqDiff, Nat.reduceAdd]) <;> (repeat' ((first
    | (refine G.tr ?_; first | refine S.a ?_ | refine Tr.brK ?_ ?_ | (refine G.call 75 ?_; first | refine S.c ?_ (h := find_none) | refine S.c ?_ (h := find_in (by omega) (by omega)) | refine S.c ?_ (h := find_out (by omega))) | refine S.n fun _ => ?_ | refine S.i fun hix => ?_ | (refine S.g fun hb => ?_; (try simp only [hb])) | (refine S.s (fun hb => ?_) (fun hb => ?_) <;> ((try simp only [hb]) <;> (try (have hp := hb; simp only [WKs] at hp; (try have hq := Int.not_le.2 hp); (try have hq := Int.not_lt.2 hp))))))
    | rintro _ _ ⟨rfl, rfl⟩
    | ((fail_if_success refine G.tr ?_); exact G.prop S.p)
    | fail) <;> (try simp only [WKb, ↓reduceIte]))))
    all_goals
      refine Tr.fin hK ⟨(by first | (simp [*, lostP]; done) | (simp only [WKe, ↓reduceIte, reduceCtorEq, Int.reduceEq, eq_self, *, lostP]; done) | (simp only [WKe, ↓reduceIte, reduceCtorEq, Int.reduceEq, *, lostP]; rfl)), rfl⟩ ?_
      ((try clear hK) <;> (try simp only [WKe, *]) <;> repeat (first | with_reducible exact EntR.done | refine S.e ?_ | (refine S.f ?_ <;> (try simp only [WKe, lostP, ↓reduceIte, reduceCtorEq, Int.reduceEq, *])) | with_reducible apply EntR.ex | refine EntR.drop (F := F) ?_ | refine EntR.drop ?_))
      all_goals first | exact SV.mk none 0 0 | exact SL.mk ⟨none, 0, 0⟩ []

theorem deliver_ok {p : Nat} {s : SV} {gs : List OneG} {k : Int} {s2 : SV} {xs : List UInt8} (hn : xs.length ≤ 1000000) (hl0 : (ix gs k).ms.length ≤ 1000000) : Trip Try.prog 68 [.pointer (some ⟨p, 0, none⟩), .int .i64 k, s2.v].toArray [poB p s, fam oneA gs, sl false s.v (gs.map OneG.pt), sl true s2.v xs]
    fun v l' => ∃ s3 s4, v = .bool (delB gs k) ∧ l' = [poB p s, fam oneA (delG gs k s3 ⟨s4, xs⟩), sl false s.v ((delG gs k s3 ⟨s4, xs⟩).map OneG.pt)] := by
  intro F K hK
  simp only [List.cons_append, List.nil_append]
  by_cases h : inR gs k
  · have ⟨h0, h1⟩ := h
    have hm := ix_map (f := OneG.pt) h0 h1
    have hl : (gs.map OneG.pt).length = gs.length := List.length_map _
    have hs := fun q i sz d lo c s ms m t f => map_same (f := OneG.pt) h0 h1 ⟨(ix gs k).b, q, i, sz, d, lo, c, s, ms, m, t, f⟩ rfl
    refine Tr.famAt (A := oneA) k (by (repeat (first | exact TakeA.here | apply TakeA.next)); done) h0 h1 ?_
    cases hq : (ix gs k).q
    · refine oneS_open hq ?_
      (refine Tr.enter (rs := [.tmp 6]) mixed fn68 rfl (by simp +arith [Try.ntmps68]) fun u => ?_; simp only [cd68, Try.f68])
      ((try simp only [WKb, ↓reduceIte, Nat.reduceEqDiff, Nat.reduceAdd]) <;> (repeat' ((first
    | (refine G.tr ?_; first | refine S.a ?_ | refine Tr.brK ?_ ?_ | (refine G.call 75 ?_; first | refine S.c ?_ (h := find_none) | refine S.c ?_ (h := find_in (by omega) (by omega)) | refine S.c ?_ (h := find_out (by omega))) | (refine G.call 102 ?_; refine S.c ?_ (h := qput_ok ?_ ?_)) | (refine G.call 104 ?_; refine S.c ?_ (h := sput_ok ?_)) | refine S.n fun _ => ?_ | refine S.i fun hix => ?_ | (refine S.g fun hb => ?_; (try simp only [hb])) | (refine S.s (fun hb => ?_) (fun hb => ?_) <;> ((try simp only [hb]) <;> (try (have hp := hb; simp only [WKs] at hp; (try have hq := Int.not_le.2 hp); (try have hq := Int.not_lt.2 hp))))))
    | rintro _ _ ⟨rfl, rfl⟩
    | rintro _ _ ⟨_, rfl, rfl⟩
    | rintro _ _ ⟨_, _, rfl, rfl⟩
    | ((fail_if_success refine G.tr ?_); exact G.prop S.p)
    | fail) <;> (try simp only [WKb, WKh, ↓reduceIte, Nat.reduceEqDiff]))))
      all_goals
        apply Tr.fin hK ⟨_, _, (by first | (simp [*, delB]; done) | (simp only [WKe, ↓reduceIte, reduceCtorEq, Int.reduceEq, eq_self, *, delB]; done) | (simp only [WKe, ↓reduceIte, reduceCtorEq, Int.reduceEq, *, delB]; rfl)), rfl⟩
        ((try clear hK) <;> (try simp only [WKe, delG, delP, ↓reduceIte, *]) <;> repeat (first | with_reducible exact EntR.done | refine S.e ?_ | (refine S.f ?_ <;> (try simp only [WKe, oneA, ↓reduceIte, *])) | with_reducible apply EntR.ex | refine EntR.drop (F := F) ?_ | refine EntR.drop ?_))
        all_goals first | exact SV.mk none 0 0 | exact SL.mk ⟨none, 0, 0⟩ []
    · refine oneQ_open hq ?_
      (refine Tr.enter (rs := [.tmp 6]) mixed fn68 rfl (by simp +arith [Try.ntmps68]) fun u => ?_; simp only [cd68, Try.f68])
      ((try simp only [WKb, ↓reduceIte, Nat.reduceEqDiff, Nat.reduceAdd]) <;> (repeat' ((first
    | (refine G.tr ?_; first | refine S.a ?_ | refine Tr.brK ?_ ?_ | (refine G.call 75 ?_; first | refine S.c ?_ (h := find_none) | refine S.c ?_ (h := find_in (by omega) (by omega)) | refine S.c ?_ (h := find_out (by omega))) | (refine G.call 102 ?_; refine S.c ?_ (h := qput_ok ?_ ?_)) | (refine G.call 104 ?_; refine S.c ?_ (h := sput_ok ?_)) | refine S.n fun _ => ?_ | refine S.i fun hix => ?_ | (refine S.g fun hb => ?_; (try simp only [hb])) | (refine S.s (fun hb => ?_) (fun hb => ?_) <;> ((try simp only [hb]) <;> (try (have hp := hb; simp only [WKs] at hp; (try have hq := Int.not_le.2 hp); (try have hq := Int.not_lt.2 hp))))))
    | rintro _ _ ⟨rfl, rfl⟩
    | rintro _ _ ⟨_, rfl, rfl⟩
    | rintro _ _ ⟨_, _, rfl, rfl⟩
    | ((fail_if_success refine G.tr ?_); exact G.prop S.p)
    | fail) <;> (try simp only [WKb, WKh, ↓reduceIte, Nat.reduceEqDiff, Nat.reduceAdd]))))
      all_goals
        apply Tr.fin hK ⟨_, _, (by first | (simp [*, delB]; done) | (simp only [WKe, ↓reduceIte, reduceCtorEq, Int.reduceEq, eq_self, *, delB]; done) | (simp only [WKe, ↓reduceIte, reduceCtorEq, Int.reduceEq, *, delB]; rfl)), rfl⟩
        ((try clear hK) <;> (try simp only [WKe, delG, delP, qput, ↓reduceIte, *]) <;> repeat (first | with_reducible exact EntR.done | refine S.e ?_ | (refine S.f ?_ <;> (try simp only [oneA, ↓reduceIte, *])) | with_reducible apply EntR.ex | refine EntR.drop (F := F) ?_ | refine EntR.drop ?_))
        all_goals first | exact SV.mk none 0 0 | exact SL.mk ⟨none, 0, 0⟩ []
  · have h' := h
    unfold inR at h'
    (refine Tr.enter (rs := [.tmp 6]) mixed fn68 rfl (by simp +arith [Try.ntmps68]) fun u => ?_; simp only [cd68, Try.f68])
    ((try simp only [WKb, ↓reduceIte, Nat.reduceEqDiff, Nat.reduceAdd]) <;> (repeat' ((first
    | (refine G.tr ?_; first | refine S.a ?_ | refine Tr.brK ?_ ?_ | (refine G.call 75 ?_; first | refine S.c ?_ (h := find_none) | refine S.c ?_ (h := find_in (by omega) (by omega)) | refine S.c ?_ (h := find_out (by omega))) | (refine G.call 102 ?_; refine S.c ?_ (h := qput_ok ?_ ?_)) | (refine G.call 104 ?_; refine S.c ?_ (h := sput_ok ?_)) | refine S.n fun _ => ?_ | refine S.i fun hix => ?_ | (refine S.g fun hb => ?_; (try simp only [hb])) | (refine S.s (fun hb => ?_) (fun hb => ?_) <;> ((try simp only [hb]) <;> (try (have hp := hb; simp only [WKs] at hp; (try have hq := Int.not_le.2 hp); (try have hq := Int.not_lt.2 hp))))))
    | rintro _ _ ⟨rfl, rfl⟩
    | rintro _ _ ⟨_, rfl, rfl⟩
    | rintro _ _ ⟨_, _, rfl, rfl⟩
    | ((fail_if_success refine G.tr ?_); exact G.prop S.p)
    | fail) <;> (try simp only [WKb, ↓reduceIte, Nat.reduceEqDiff]))))
    all_goals
      apply Tr.fin hK ⟨_, _, (by first | (simp [*, delB]; done) | (simp only [WKe, ↓reduceIte, reduceCtorEq, Int.reduceEq, eq_self, *, delB]; done) | (simp only [WKe, ↓reduceIte, reduceCtorEq, Int.reduceEq, *, delB]; rfl)), rfl⟩
      ((try clear hK) <;> (try simp only [WKe, delG, ↓reduceIte, *]) <;> repeat (first | with_reducible exact EntR.done | refine S.e ?_ | (refine S.f ?_ <;> (try simp only [WKe, delG, delP, qput, ↓reduceIte, reduceCtorEq, Int.reduceEq, *])) | with_reducible apply EntR.ex | refine EntR.drop (F := F) ?_ | refine EntR.drop ?_))
      all_goals first | exact SV.mk none 0 0 | exact SL.mk ⟨none, 0, 0⟩ []

theorem into_ok {p : Nat} {s : SV} {gs : List OneG} {k : Int} {q : Bool} {s2 : SV} {xs : List UInt8} (hn : xs.length ≤ 1000000) (hl0 : (ix gs k).ms.length ≤ 1000000) : Trip Try.prog 65 [.pointer (some ⟨p, 0, none⟩), .int .i64 k, .bool q, s2.v].toArray [poB p s, fam oneA gs, sl false s.v (gs.map OneG.pt), sl true s2.v xs]
    fun v l' => ∃ s3 s4, v = .int .i64 (intoC gs k q xs.length) ∧ l' = [poB p s, fam oneA (intoG gs k q s3 ⟨s4, xs⟩), sl false s.v ((intoG gs k q s3 ⟨s4, xs⟩).map OneG.pt)] := by
  intro F K hK
  simp only [List.cons_append, List.nil_append]
  by_cases h : inR gs k
  · have ⟨h0, h1⟩ := h
    have hm := ix_map (f := OneG.pt) h0 h1
    have hl : (gs.map OneG.pt).length = gs.length := List.length_map _
    have hs := fun q i sz d lo c s ms m t f => map_same (f := OneG.pt) h0 h1 ⟨(ix gs k).b, q, i, sz, d, lo, c, s, ms, m, t, f⟩ rfl
    cases hc : canB gs k q false
    · (refine Tr.enter (rs := [.tmp 8]) mixed fn65 rfl (by simp +arith [Try.ntmps65]) fun u => ?_; simp only [cd65, Try.f65])
      ((try simp only [WKb, ↓reduceIte, Nat.reduceEqDiff, Nat.reduceAdd]) <;> (repeat' ((first
    | (refine G.tr ?_; first | refine S.a ?_ | refine Tr.brK ?_ ?_ | (refine G.call 76 ?_; refine S.c ?_ (h := can_ok)) | (refine G.call 102 ?_; refine S.c ?_ (h := qput_ok ?_ ?_)) | (refine G.call 104 ?_; refine S.c ?_ (h := sput_ok ?_)) | refine S.n fun _ => ?_ | refine S.i fun hix => ?_ | (refine S.g fun hb => ?_; (try simp only [hb])) | (refine S.s (fun hb => ?_) (fun hb => ?_) <;> ((try simp only [hb]) <;> (try (have hp := hb; simp only [WKs] at hp; (try have hq := Int.not_le.2 hp); (try have hq := Int.not_lt.2 hp))))))
    | rintro _ _ ⟨rfl, rfl⟩
    | rintro _ _ ⟨_, rfl, rfl⟩
    | rintro _ _ ⟨_, _, rfl, rfl⟩
    | ((fail_if_success refine G.tr ?_); exact G.prop S.p)
    | fail) <;> (try simp only [WKb, ↓reduceIte, hc]))))
      all_goals
        (apply Tr.fin hK ⟨⟨none, 0, 0⟩, ⟨none, 0, 0⟩, (by first | (simp [*, intoC]; done) | (simp only [WKe, ↓reduceIte, reduceCtorEq, Int.reduceEq, eq_self, *, intoC, hc]; done) | (simp only [WKe, ↓reduceIte, reduceCtorEq, Int.reduceEq, *, intoC, hc]; rfl)), rfl⟩; ((try clear hK) <;> (try simp only [WKe, intoG, ↓reduceIte, *]) <;> repeat (first | with_reducible exact EntR.done | refine S.e ?_ | (refine S.f ?_ <;> (try simp only [WKe, intoG, hc, ↓reduceIte, reduceCtorEq, Int.reduceEq, *])) | with_reducible apply EntR.ex | refine EntR.drop (F := F) ?_ | refine EntR.drop ?_)))
    · have hqi : (ix gs k).q = q := by
        simp [canB, h] at hc
        exact hc.1
      (refine Tr.enter (rs := [.tmp 8]) mixed fn65 rfl (by simp +arith [Try.ntmps65]) fun u => ?_; simp only [cd65, Try.f65])
      ((try simp only [WKb, ↓reduceIte, Nat.reduceEqDiff, Nat.reduceAdd]) <;> (repeat' ((first
    | (refine G.tr ?_; first | refine S.a ?_ | refine Tr.brK ?_ ?_ | (refine G.call 76 ?_; refine S.c ?_ (h := can_ok)) | (refine G.call 102 ?_; refine S.c ?_ (h := qput_ok ?_ ?_)) | (refine G.call 104 ?_; refine S.c ?_ (h := sput_ok ?_)) | refine S.n fun _ => ?_ | refine S.i fun hix => ?_ | (refine S.g fun hb => ?_; (try simp only [hb])) | (refine S.s (fun hb => ?_) (fun hb => ?_) <;> ((try simp only [hb]) <;> (try (have hp := hb; simp only [WKs] at hp; (try have hq := Int.not_le.2 hp); (try have hq := Int.not_lt.2 hp))))))
    | rintro _ _ ⟨rfl, rfl⟩
    | rintro _ _ ⟨_, rfl, rfl⟩
    | rintro _ _ ⟨_, _, rfl, rfl⟩
    | ((fail_if_success refine G.tr ?_); exact G.prop S.p)
    | fail) <;> (try simp only [WKb, WKh, ↓reduceIte, Nat.reduceEqDiff, hc, hm, OneG.pt]))))
      all_goals
        refine Tr.famAt (A := oneA) k (by (repeat (first | exact TakeA.here | apply TakeA.next)); done) h0 h1 ?_
        cases hq : (ix gs k).q
        · obtain rfl : q = false := hqi.symm.trans hq
          refine oneS_open hq ?_
          ((try simp only [WKb, WKh, ↓reduceIte, Nat.reduceEqDiff, Nat.reduceAdd, Nat.reduceSub, Int.reduceEq, Int.reduceLT, Int.reduceLE, pl65, hm, OneG.pt]) <;> (repeat' ((first
    | (refine G.tr ?_; first | refine S.a ?_ | refine Tr.brK ?_ ?_ | (refine G.call 76 ?_; refine S.c ?_ (h := can_ok)) | (refine G.call 102 ?_; refine S.c ?_ (h := qput_ok ?_ ?_)) | (refine G.call 104 ?_; refine S.c ?_ (h := sput_ok ?_)) | refine S.n fun _ => ?_ | refine S.i fun hix => ?_ | (refine S.g fun hb => ?_; (try simp only [hb])) | (refine S.s (fun hb => ?_) (fun hb => ?_) <;> ((try simp only [hb]) <;> (try (have hp := hb; simp only [WKs] at hp; (try have hq := Int.not_le.2 hp); (try have hq := Int.not_lt.2 hp))))))
    | rintro _ _ ⟨rfl, rfl⟩
    | rintro _ _ ⟨_, rfl, rfl⟩
    | rintro _ _ ⟨_, _, rfl, rfl⟩
    | ((fail_if_success refine G.tr ?_); exact G.prop S.p)
    | fail) <;> (try simp only [WKb, WKh, ↓reduceIte, Nat.reduceEqDiff, hm, OneG.pt]))))
          all_goals
            apply Tr.fin hK ⟨_, _, (by first | (simp [*, intoC, lenOK]; done) | (simp only [WKe, ↓reduceIte, reduceCtorEq, Int.reduceEq, eq_self, *, intoC, lenOK, hc]; done) | (simp only [WKe, ↓reduceIte, reduceCtorEq, Int.reduceEq, *, intoC, lenOK, hc]; rfl)), rfl⟩
            ((try clear hK) <;> (try simp only [WKe, intoG, lenOK, putP, ↓reduceIte, *]) <;> repeat (first | with_reducible exact EntR.done | refine S.e ?_ | (refine S.f ?_ <;> (try simp only [WKe, oneA, ↓reduceIte, *])) | with_reducible apply EntR.ex | refine EntR.drop (F := F) ?_ | refine EntR.drop ?_))
            all_goals first | exact SV.mk none 0 0 | exact SL.mk ⟨none, 0, 0⟩ []
        · obtain rfl : q = true := hqi.symm.trans hq
          refine oneQ_open hq ?_
          ((try simp only [WKb, WKh, ↓reduceIte, Nat.reduceEqDiff, Nat.reduceAdd, Nat.reduceSub, Int.reduceEq, Int.reduceLT, Int.reduceLE, pl65, hm, OneG.pt]) <;> (repeat' ((first
    | (refine G.tr ?_; first | refine S.a ?_ | refine Tr.brK ?_ ?_ | (refine G.call 76 ?_; refine S.c ?_ (h := can_ok)) | (refine G.call 102 ?_; refine S.c ?_ (h := qput_ok ?_ ?_)) | (refine G.call 104 ?_; refine S.c ?_ (h := sput_ok ?_)) | refine S.n fun _ => ?_ | refine S.i fun hix => ?_ | (refine S.g fun hb => ?_; (try simp only [hb])) | (refine S.s (fun hb => ?_) (fun hb => ?_) <;> ((try simp only [hb]) <;> (try (have hp := hb; simp only [WKs] at hp; (try have hq := Int.not_le.2 hp); (try have hq := Int.not_lt.2 hp))))))
    | rintro _ _ ⟨rfl, rfl⟩
    | rintro _ _ ⟨_, rfl, rfl⟩
    | rintro _ _ ⟨_, _, rfl, rfl⟩
    | ((fail_if_success refine G.tr ?_); exact G.prop S.p)
    | fail) <;> (try simp only [WKb, WKh, ↓reduceIte, Nat.reduceEqDiff, hm, OneG.pt]))))
          all_goals
            apply Tr.fin hK ⟨_, _, (by first | (simp [*, intoC, lenOK]; done) | (simp only [WKe, ↓reduceIte, reduceCtorEq, Int.reduceEq, eq_self, *, intoC, lenOK, hc]; done) | (simp only [WKe, ↓reduceIte, reduceCtorEq, Int.reduceEq, *, intoC, lenOK, hc]; rfl)), rfl⟩
            ((try clear hK) <;> (try simp only [WKe, intoG, lenOK, putP, qput, ↓reduceIte, *]) <;> repeat (first | with_reducible exact EntR.done | refine S.e ?_ | (refine S.f ?_ <;> (try simp only [oneA, ↓reduceIte, *])) | with_reducible apply EntR.ex | refine EntR.drop (F := F) ?_ | refine EntR.drop ?_))
            all_goals first | exact SV.mk none 0 0 | exact SL.mk ⟨none, 0, 0⟩ []
  · have h' := h
    unfold inR at h'
    have hc : canB gs k q false = false := by simp [canB, h]
    (refine Tr.enter (rs := [.tmp 8]) mixed fn65 rfl (by simp +arith [Try.ntmps65]) fun u => ?_; simp only [cd65, Try.f65])
    ((try simp only [WKb, ↓reduceIte, Nat.reduceEqDiff, Nat.reduceAdd]) <;> (repeat' ((first
    | (refine G.tr ?_; first | refine S.a ?_ | refine Tr.brK ?_ ?_ | (refine G.call 76 ?_; refine S.c ?_ (h := can_ok)) | (refine G.call 102 ?_; refine S.c ?_ (h := qput_ok ?_ ?_)) | (refine G.call 104 ?_; refine S.c ?_ (h := sput_ok ?_)) | refine S.n fun _ => ?_ | refine S.i fun hix => ?_ | (refine S.g fun hb => ?_; (try simp only [hb])) | (refine S.s (fun hb => ?_) (fun hb => ?_) <;> ((try simp only [hb]) <;> (try (have hp := hb; simp only [WKs] at hp; (try have hq := Int.not_le.2 hp); (try have hq := Int.not_lt.2 hp))))))
    | rintro _ _ ⟨rfl, rfl⟩
    | rintro _ _ ⟨_, rfl, rfl⟩
    | rintro _ _ ⟨_, _, rfl, rfl⟩
    | ((fail_if_success refine G.tr ?_); exact G.prop S.p)
    | fail) <;> (try simp only [WKb, ↓reduceIte, hc]))))
    all_goals
      (apply Tr.fin hK ⟨⟨none, 0, 0⟩, ⟨none, 0, 0⟩, (by first | (simp [*, intoC]; done) | (simp only [WKe, ↓reduceIte, reduceCtorEq, Int.reduceEq, eq_self, *, intoC, hc]; done) | (simp only [WKe, ↓reduceIte, reduceCtorEq, Int.reduceEq, *, intoC, hc]; rfl)), rfl⟩; ((try clear hK) <;> (try simp only [WKe, intoG, ↓reduceIte, *]) <;> repeat (first | with_reducible exact EntR.done | refine S.e ?_ | (refine S.f ?_ <;> (try simp only [WKe, intoG, hc, ↓reduceIte, reduceCtorEq, Int.reduceEq, *])) | with_reducible apply EntR.ex | refine EntR.drop (F := F) ?_ | refine EntR.drop ?_)))

end Go.Proofs.Ytlhmbcmkpafjoaa

namespace Go.Proofs.Ytlhmbcmkpafjoaa
open Go Go.Wk
set_option maxHeartbeats 3200000
set_option maxRecDepth 10000

attribute [local irreducible] BrK GenK EGenK EUnitK CallK FnK CallV GuardO GuardC CondW opX opK opKc chkR eqR seqK blkK endL WL WD W LoopW BinK Tr drewK resL PickK NotK NilK ExtrK getK Instr.storeAt Instr.loadAt Instr.fieldAt Instr.indexAt Instr.lookup Instr.mapUpdate Instr.box Instr.alloc Instr.build Instr.buildSlice Instr.makeSlice Instr.makeMap Instr.sliceAt Instr.field Instr.index Instr.makeInterface Instr.typeAssert Builtin.len_ Builtin.append_ Builtin.cap_ Builtin.min_ Builtin.max_ Builtin.copy_ Builtin.clear_ convert binOp mp blk rob sl sep ex fact old
theorem write_ok {p : Nat} {s : SV} {gs : List OneG} {k : Int} {s2 : SV} {xs : List UInt8} (hn : xs.length ≤ 1000000) (hl0 : (ix gs k).ms.length ≤ 1000000) : Trip Try.prog 42 [.pointer (some ⟨p, 0, none⟩), .int .i64 k, s2.v].toArray [poB p s, fam oneA gs, sl false s.v (gs.map OneG.pt), sl true s2.v xs]
    fun v l' => ∃ s3 s4, v = .int .i64 (intoC gs k false xs.length) ∧ l' = [poB p s, fam oneA (intoG gs k false s3 ⟨s4, xs⟩), sl false s.v ((intoG gs k false s3 ⟨s4, xs⟩).map OneG.pt)] := by
  intro F K hK
  simp only [List.cons_append, List.nil_append]
  (refine Tr.enter (rs := [.tmp 6]) mixed fn42 rfl (by simp +arith [Try.ntmps42]) fun u => ?_; simp only [cd42, Try.f42])
  ((try simp only [WKb, ↓reduceIte, Nat.reduceEqDiff, Nat.reduceAdd]) <;> (repeat' ((first
    | (refine G.tr ?_; first | refine S.a ?_ | refine Tr.brK ?_ ?_ | (refine G.call 65 ?_; refine S.c ?_ (h := into_ok ?_ ?_)) | refine S.n fun _ => ?_ | refine S.i fun hix => ?_ | (refine S.g fun hb => ?_; (try simp only [hb])) | (refine S.s (fun hb => ?_) (fun hb => ?_) <;> ((try simp only [hb]) <;> (try (have hp := hb; simp only [WKs] at hp; (try have hq := Int.not_le.2 hp); (try have hq := Int.not_lt.2 hp))))))
    | rintro _ _ ⟨_, _, rfl, rfl⟩
    | ((fail_if_success refine G.tr ?_); exact G.prop S.p)
    | fail) <;> (try simp only [WKb, ↓reduceIte]))))
  all_goals
    apply Tr.fin hK ⟨_, _, rfl, rfl⟩
    ((try clear hK) <;> (try simp only [WKe, *]) <;> repeat (first | with_reducible exact EntR.done | refine S.e ?_ | (refine S.f ?_ <;> (try simp only [WKe, ↓reduceIte, reduceCtorEq, Int.reduceEq, *])) | with_reducible apply EntR.ex | refine EntR.drop (F := F) ?_ | refine EntR.drop ?_))
theorem send_ok {p : Nat} {s : SV} {gs : List OneG} {k : Int} {s2 : SV} {xs : List UInt8} (hn : xs.length ≤ 1000000) (hl0 : (ix gs k).ms.length ≤ 1000000) : Trip Try.prog 49 [.pointer (some ⟨p, 0, none⟩), .int .i64 k, s2.v].toArray [poB p s, fam oneA gs, sl false s.v (gs.map OneG.pt), sl true s2.v xs]
    fun v l' => ∃ s3 s4, v = .int .i64 (intoC gs k true xs.length) ∧ l' = [poB p s, fam oneA (intoG gs k true s3 ⟨s4, xs⟩), sl false s.v ((intoG gs k true s3 ⟨s4, xs⟩).map OneG.pt)] := by
  intro F K hK
  simp only [List.cons_append, List.nil_append]
  (refine Tr.enter (rs := [.tmp 6]) mixed fn49 rfl (by simp +arith [Try.ntmps49]) fun u => ?_; simp only [cd49, Try.f49])
  ((try simp only [WKb, ↓reduceIte, Nat.reduceEqDiff, Nat.reduceAdd]) <;> (repeat' ((first
    | (refine G.tr ?_; first | refine S.a ?_ | refine Tr.brK ?_ ?_ | (refine G.call 65 ?_; refine S.c ?_ (h := into_ok ?_ ?_)) | refine S.n fun _ => ?_ | refine S.i fun hix => ?_ | (refine S.g fun hb => ?_; (try simp only [hb])) | (refine S.s (fun hb => ?_) (fun hb => ?_) <;> ((try simp only [hb]) <;> (try (have hp := hb; simp only [WKs] at hp; (try have hq := Int.not_le.2 hp); (try have hq := Int.not_lt.2 hp))))))
    | rintro _ _ ⟨_, _, rfl, rfl⟩
    | ((fail_if_success refine G.tr ?_); exact G.prop S.p)
    | fail) <;> (try simp only [WKb, ↓reduceIte]))))
  all_goals
    apply Tr.fin hK ⟨_, _, rfl, rfl⟩
    ((try clear hK) <;> (try simp only [WKe, *]) <;> repeat (first | with_reducible exact EntR.done | refine S.e ?_ | (refine S.f ?_ <;> (try simp only [WKe, ↓reduceIte, reduceCtorEq, Int.reduceEq, *])) | with_reducible apply EntR.ex | refine EntR.drop (F := F) ?_ | refine EntR.drop ?_))


theorem firstq_ok {b c : Nat} {i : Bool} {sz d0 d lost : Int} {s : SV} {ms : List Msg} : Trip Try.prog 77 [.pointer (some ⟨b, 0, none⟩)].toArray [onB b true i sz d0 (.iface 151 (.pointer (some ⟨c, 0, none⟩))) lost, quB c s d, sl false s.v ms, fzl ms]
    fun v l' => ∃ s3, v = .tuple #[(ix ms 0).s.v, .bool (!decide ((ms.length : Int) = 0))] ∧ l' = [onB b true i sz d0 (.iface 151 (.pointer (some ⟨c, 0, none⟩))) lost, quB c s3 d, sl false s3.v (ms.drop 1), fzl (ms.drop 1), Fz.fz (ix ms 0)] := by
  intro F K hK
  simp only [List.cons_append, List.nil_append]
  (refine Tr.enter (rs := [.tmp 2, .tmp 3]) mixed fn77 rfl (by simp +arith [Try.ntmps77]) fun u => ?_; simp only [cd77, Try.f77])
  ((try simp only [WKb, ↓reduceIte, Nat.reduceEqDiff]) <;> (repeat' ((first
    | (refine G.tr ?_; first | refine S.a ?_ | refine Tr.brK ?_ ?_ | (refine G.call 78 ?_; refine S.c ?_ (h := qtake_ok)) | (refine G.call 57 ?_; refine S.c ?_ (h := clone_ok (by omega))) | refine S.n fun _ => ?_ | refine S.i fun hix => ?_ | (refine S.g fun hb => ?_; (try simp only [hb])) | (refine S.s (fun hb => ?_) (fun hb => ?_) <;> ((try simp only [hb]) <;> (try (have hp := hb; simp only [WKs] at hp; (try have hq := Int.not_le.2 hp); (try have hq := Int.not_lt.2 hp))))))
    | rintro _ _ ⟨_, rfl, rfl⟩
    | ((fail_if_success refine G.tr ?_); exact G.prop S.p)
    | fail) <;> (try simp only [WKb, WKh, ↓reduceIte, Nat.reduceEqDiff]))))
  all_goals
    apply Tr.fin hK ⟨_, rfl, rfl⟩
    ((try clear hK) <;> (try simp only [WKe, *]) <;> repeat (first | with_reducible exact EntR.done | refine S.e ?_ | (refine S.f ?_ <;> (try simp only [WKe, ↓reduceIte, reduceCtorEq, Int.reduceEq, *])) | with_reducible apply EntR.ex | refine EntR.drop (F := F) ?_ | refine EntR.drop ?_))
theorem firsts_ok {b c : Nat} {i : Bool} {sz d0 lost : Int} {m : Msg} {t f : Bool} (hn : m.d.length ≤ 1000000) : Trip Try.prog 77 [.pointer (some ⟨b, 0, none⟩)].toArray [onB b false i sz d0 (.iface 154 (.pointer (some ⟨c, 0, none⟩))) lost, saB c m t f, sl true m.s.v m.d]
    fun v l' => ∃ s2 : SV, v = .tuple #[s2.v, .bool t] ∧ l' = [onB b false i sz d0 (.iface 154 (.pointer (some ⟨c, 0, none⟩))) lost, saB c m t f, sl true s2.v m.d] := by
  intro F K hK
  simp only [List.cons_append, List.nil_append]
  (refine Tr.enter (rs := [.tmp 2, .tmp 3]) mixed fn77 rfl (by simp +arith [Try.ntmps77]) fun u => ?_; simp only [cd77, Try.f77])
  ((try simp only [WKb, ↓reduceIte, Nat.reduceEqDiff]) <;> (repeat' ((first
    | (refine G.tr ?_; first | refine S.a ?_ | refine Tr.brK ?_ ?_ | (refine G.call 78 ?_; refine S.c ?_ (h := qtake_ok)) | (refine G.call 57 ?_; refine S.c ?_ (h := clone_ok (by omega))) | refine S.n fun _ => ?_ | refine S.i fun hix => ?_ | (refine S.g fun hb => ?_; (try simp only [hb])) | (refine S.s (fun hb => ?_) (fun hb => ?_) <;> ((try simp only [hb]) <;> (try (have hp := hb; simp only [WKs] at hp; (try have hq := Int.not_le.2 hp); (try have hq := Int.not_lt.2 hp))))))
    | rintro _ _ ⟨_, rfl, rfl⟩
    | ((fail_if_success refine G.tr ?_); exact G.prop S.p)
    | fail) <;> (try simp only [WKb, WKh, ↓reduceIte, Nat.reduceEqDiff, pl77]))))
  all_goals
    apply Tr.fin hK ⟨_, rfl, rfl⟩
    ((try clear hK) <;> (try simp only [WKe, *]) <;> repeat (first | with_reducible exact EntR.done | refine S.e ?_ | (refine S.f ?_ <;> (try simp only [WKe, ↓reduceIte, reduceCtorEq, Int.reduceEq, *])) | with_reducible apply EntR.ex | refine EntR.drop (F := F) ?_ | refine EntR.drop ?_))


theorem out_ok {p : Nat} {s : SV} {gs : List OneG} {k : Int} {q : Bool} (hl0 : (ix gs k).m.d.length ≤ 1000000) : Trip Try.prog 66 [.pointer (some ⟨p, 0, none⟩), .int .i64 k, .bool q].toArray [poB p s, fam oneA gs, sl false s.v (gs.map OneG.pt)]
    fun v l' => ∃ s3 r, r.d = outD gs k q ∧ v = .tuple #[SV.v (SL.s r), .int .i64 (outC gs k q)] ∧ l' = [poB p s, fam oneA (outG gs k q s3), sl false s.v ((outG gs k q s3).map OneG.pt), Fz.fz (r : Msg)] := by
  intro F K hK
  simp only [List.cons_append, List.nil_append]
  by_cases h : inR gs k
  · have ⟨h0, h1⟩ := h
    have hm := ix_map (f := OneG.pt) h0 h1
    have hl : (gs.map OneG.pt).length = gs.length := List.length_map _
    have hs := fun q i sz d lo c s ms m t f => map_same (f := OneG.pt) h0 h1 ⟨(ix gs k).b, q, i, sz, d, lo, c, s, ms, m, t, f⟩ rfl
    cases hc : canB gs k q true
    · (refine Tr.enter (rs := [.tmp 6, .tmp 7]) mixed fn66 rfl (by simp +arith [Try.ntmps66]) fun u => ?_; simp only [cd66, Try.f66])
      ((try simp only [WKb, ↓reduceIte, Nat.reduceEqDiff, Nat.reduceAdd]) <;> (repeat' ((first
    | (refine G.tr ?_; first | refine S.a ?_ | refine Tr.brK ?_ ?_ | (refine G.call 76 ?_; refine S.c ?_ (h := can_ok)) | (refine G.call 77 ?_; first | refine S.c ?_ (h := firstq_ok) | refine S.c ?_ (h := firsts_ok ?_)) | refine S.n fun _ => ?_ | refine S.i fun hix => ?_ | (refine S.g fun hb => ?_; (try simp only [hb])) | (refine S.s (fun hb => ?_) (fun hb => ?_) <;> ((try simp only [hb]) <;> (try (have hp := hb; simp only [WKs] at hp; (try have hq := Int.not_le.2 hp); (try have hq := Int.not_lt.2 hp))))))
    | rintro _ _ ⟨rfl, rfl⟩
    | rintro _ _ ⟨_, rfl, rfl⟩
    | ((fail_if_success refine G.tr ?_); exact G.prop S.p)
    | fail) <;> (try simp only [WKb, ↓reduceIte, Nat.reduceEqDiff, hc]))))
      all_goals
        (apply Tr.fin hK ⟨⟨none, 0, 0⟩, default, (by first | (simp [*, outC, outD]; done) | (simp only [WKe, ↓reduceIte, Int.reduceEq, *, outC, outD]; done) | (simp only [WKe, ↓reduceIte, Int.reduceEq, *, outC, outD]; rfl)), (by first | (simp [*, outC]; done) | (simp only [WKe, ↓reduceIte, *, outC]; done) | (simp only [WKe, ↓reduceIte, *, outC]; rfl)), rfl⟩; ((try clear hK) <;> (try simp only [WKe, outG, ↓reduceIte, *]) <;> repeat (first | with_reducible exact EntR.done | refine S.e ?_ | (refine S.f ?_ <;> (try simp only [WKe, outG, hc, ↓reduceIte, reduceCtorEq, Int.reduceEq, *])) | with_reducible apply EntR.ex | refine EntR.drop (F := F) ?_ | refine EntR.drop ?_)))
    · have hqi : (ix gs k).q = q := by
        simp [canB, h] at hc
        exact hc.1
      (refine Tr.enter (rs := [.tmp 6, .tmp 7]) mixed fn66 rfl (by simp +arith [Try.ntmps66]) fun u => ?_; simp only [cd66, Try.f66])
      ((try simp only [WKb, ↓reduceIte, Nat.reduceEqDiff, Nat.reduceAdd]) <;> (repeat' ((first
    | (refine G.tr ?_; first | refine S.a ?_ | refine Tr.brK ?_ ?_ | (refine G.call 76 ?_; refine S.c ?_ (h := can_ok)) | (refine G.call 77 ?_; first | refine S.c ?_ (h := firstq_ok) | refine S.c ?_ (h := firsts_ok ?_)) | refine S.n fun _ => ?_ | refine S.i fun hix => ?_ | (refine S.g fun hb => ?_; (try simp only [hb])) | (refine S.s (fun hb => ?_) (fun hb => ?_) <;> ((try simp only [hb]) <;> (try (have hp := hb; simp only [WKs] at hp; (try have hq := Int.not_le.2 hp); (try have hq := Int.not_lt.2 hp))))))
    | rintro _ _ ⟨rfl, rfl⟩
    | rintro _ _ ⟨_, rfl, rfl⟩
    | ((fail_if_success refine G.tr ?_); exact G.prop S.p)
    | fail) <;> (try simp only [WKb, WKh, ↓reduceIte, Nat.reduceEqDiff, hc, hm, OneG.pt]))))
      all_goals
        refine Tr.famAt (A := oneA) k (by (repeat (first | exact TakeA.here | apply TakeA.next)); done) h0 h1 ?_
        cases hq : (ix gs k).q
        · obtain rfl : q = false := hqi.symm.trans hq
          refine oneS_open hq ?_
          ((try simp only [WKb, WKh, ↓reduceIte, Nat.reduceEqDiff, Nat.reduceAdd, Nat.reduceSub, Int.reduceEq, Int.reduceLT, Int.reduceLE, pl66, hm, OneG.pt]) <;> (repeat' ((first
    | (refine G.tr ?_; first | refine S.a ?_ | refine Tr.brK ?_ ?_ | (refine G.call 76 ?_; refine S.c ?_ (h := can_ok)) | (refine G.call 77 ?_; first | refine S.c ?_ (h := firstq_ok) | refine S.c ?_ (h := firsts_ok ?_)) | refine S.n fun _ => ?_ | refine S.i fun hix => ?_ | (refine S.g fun hb => ?_; (try simp only [hb])) | (refine S.s (fun hb => ?_) (fun hb => ?_) <;> ((try simp only [hb]) <;> (try (have hp := hb; simp only [WKs] at hp; (try have hq := Int.not_le.2 hp); (try have hq := Int.not_lt.2 hp))))))
    | rintro _ _ ⟨rfl, rfl⟩
    | rintro _ _ ⟨_, rfl, rfl⟩
    | ((fail_if_success refine G.tr ?_); exact G.prop S.p)
    | fail) <;> (try simp only [WKb, ↓reduceIte, Nat.reduceEqDiff]))))
          all_goals
            first | apply Tr.fin hK ⟨_, ix (ix gs k).ms 0, (by first | (simp [*, outC, outD]; done) | (simp only [WKe, ↓reduceIte, Int.reduceEq, eq_self, *, outC, outD]; done) | (simp only [WKe, ↓reduceIte, Int.reduceEq, *, outC, outD]; rfl)), (by first | (simp [*, outC, outD, hc]; done) | (simp only [WKe, ↓reduceIte, reduceCtorEq, Int.reduceEq, eq_self, *, outC, outD, hc]; done) | (simp only [WKe, ↓reduceIte, reduceCtorEq, Int.reduceEq, *, outC, outD, hc]; rfl)), rfl⟩ | apply Tr.fin hK ⟨_, default, (by first | (simp [*, outC, outD]; done) | (simp only [WKe, ↓reduceIte, Int.reduceEq, eq_self, *, outC, outD]; done) | (simp only [WKe, ↓reduceIte, Int.reduceEq, *, outC, outD]; rfl)), (by first | (simp [*, outC]; done) | (simp only [WKe, ↓reduceIte, eq_self, *, outC]; done) | (simp only [WKe, ↓reduceIte, *, outC]; rfl)), rfl⟩ | apply Tr.fin hK ⟨_, SL.mk _ (ix gs k).m.d, (by first | (simp [*, outC, outD]; done) | (simp only [WKe, ↓reduceIte, reduceCtorEq, Int.reduceEq, eq_self, *, outC, outD, hc]; done) | (simp only [WKe, ↓reduceIte, reduceCtorEq, Int.reduceEq, *, outC, outD, hc]; rfl)), (by first | (simp [*, outC]; done) | (simp only [WKe, ↓reduceIte, eq_self, *, outC]; done) | (simp only [WKe, ↓reduceIte, *, outC]; rfl)), rfl⟩
            ((try clear hK) <;> (try simp only [WKe, outG, ↓reduceIte, *]) <;> repeat (first | with_reducible exact EntR.done | refine S.e ?_ | (refine S.f ?_ <;> (try simp only [WKe, oneA, ↓reduceIte, *])) | with_reducible apply EntR.ex | refine EntR.drop (F := F) ?_ | refine EntR.drop ?_))
            all_goals first | exact SV.mk none 0 0 | exact SL.mk ⟨none, 0, 0⟩ []
        · obtain rfl : q = true := hqi.symm.trans hq
          refine oneQ_open hq ?_
          ((try simp only [WKb, WKh, ↓reduceIte, Nat.reduceEqDiff, Nat.reduceAdd, Nat.reduceSub, Int.reduceEq, Int.reduceLT, Int.reduceLE, pl66, hm, OneG.pt]) <;> (repeat' ((first
    | (refine G.tr ?_; first | refine S.a ?_ | refine Tr.brK ?_ ?_ | (refine G.call 76 ?_; refine S.c ?_ (h := can_ok)) | (refine G.call 77 ?_; first | refine S.c ?_ (h := firstq_ok) | refine S.c ?_ (h := firsts_ok ?_)) | refine S.n fun _ => ?_ | refine S.i fun hix => ?_ | (refine S.g fun hb => ?_; (try simp only [hb])) | (refine S.s (fun hb => ?_) (fun hb => ?_) <;> ((try simp only [hb]) <;> (try (have hp := hb; simp only [WKs] at hp; (try have hq := Int.not_le.2 hp); (try have hq := Int.not_lt.2 hp))))))
    | rintro _ _ ⟨rfl, rfl⟩
    | rintro _ _ ⟨_, rfl, rfl⟩
    | ((fail_if_success refine G.tr ?_); exact G.prop S.p)
    | fail) <;> (try simp only [WKb, ↓reduceIte, Nat.reduceEqDiff]))))
          all_goals
            first | apply Tr.fin hK ⟨_, ix (ix gs k).ms 0, (by first | (simp [*, outC, outD]; done) | (simp only [↓reduceIte, Int.reduceEq, eq_self, *, outC, outD]; done) | (simp only [↓reduceIte, Int.reduceEq, *, outC, outD]; rfl)), (by first | (simp [*, outC]; done) | (simp only [↓reduceIte, eq_self, *, outC]; done) | (simp only [WKe, ↓reduceIte, reduceCtorEq, Int.reduceEq, *, outC, outD, hc]; rfl)), rfl⟩ | apply Tr.fin hK ⟨_, default, (by first | (simp [*, outC, outD]; done) | (simp only [↓reduceIte, Int.reduceEq, eq_self, *, outC, outD]; done) | (simp only [↓reduceIte, Int.reduceEq, *, outC, outD]; rfl)), (by first | (simp [*, outC]; done) | (simp only [↓reduceIte, eq_self, *, outC]; done) | (simp only [↓reduceIte, *, outC]; rfl)), rfl⟩ | apply Tr.fin hK ⟨_, SL.mk _ (ix gs k).m.d, (by first | (simp [*, outC, outD, hc]; done) | (simp only [WKe, ↓reduceIte, reduceCtorEq, Int.reduceEq, eq_self, *, outC, outD, hc]; done) | (simp only [WKe, ↓reduceIte, reduceCtorEq, Int.reduceEq, *, outC, outD, hc]; rfl)), (by first | (simp [*, outC, outD, hc]; done) | (simp only [WKe, ↓reduceIte, reduceCtorEq, Int.reduceEq, eq_self, *, outC, outD, hc]; done) | (simp only [WKe, ↓reduceIte, reduceCtorEq, Int.reduceEq, *, outC, outD, hc]; rfl)), rfl⟩
            ((try clear hK) <;> (try simp only [WKe, outG, ↓reduceIte, *]) <;> repeat (first | with_reducible exact EntR.done | refine S.e ?_ | (refine S.f ?_ <;> (try simp only [oneA, ↓reduceIte, *])) | with_reducible apply EntR.ex | refine EntR.drop (F := F) ?_ | refine EntR.drop ?_))
            all_goals first | exact SV.mk none 0 0 | exact SL.mk ⟨none, 0, 0⟩ []
  · have h' := h
    unfold inR at h'
    have hc : canB gs k q true = false := by simp [canB, h]
    (refine Tr.enter (rs := [.tmp 6, .tmp 7]) mixed fn66 rfl (by simp +arith [Try.ntmps66]) fun u => ?_; simp only [cd66, Try.f66])
    ((try simp only [WKb, ↓reduceIte, Nat.reduceEqDiff, Nat.reduceAdd]) <;> (repeat' ((first
    | (refine G.tr ?_; first | refine S.a ?_ | refine Tr.brK ?_ ?_ | (refine G.call 76 ?_; refine S.c ?_ (h := can_ok)) | (refine G.call 77 ?_; first | refine S.c ?_ (h := firstq_ok) | refine S.c ?_ (h := firsts_ok ?_)) | refine S.n fun _ => ?_ | refine S.i fun hix => ?_ | (refine S.g fun hb => ?_; (try simp only [hb])) | (refine S.s (fun hb => ?_) (fun hb => ?_) <;> ((try simp only [hb]) <;> (try (have hp := hb; simp only [WKs] at hp; (try have hq := Int.not_le.2 hp); (try have hq := Int.not_lt.2 hp))))))
    | rintro _ _ ⟨rfl, rfl⟩
    | rintro _ _ ⟨_, rfl, rfl⟩
    | ((fail_if_success refine G.tr ?_); exact G.prop S.p)
    | fail) <;> (try simp only [WKb, ↓reduceIte, Nat.reduceEqDiff, hc]))))
    all_goals
      (apply Tr.fin hK ⟨⟨none, 0, 0⟩, default, (by first | (simp [*, outC, outD]; done) | (simp only [WKe, ↓reduceIte, Int.reduceEq, *, outC, outD]; done) | (simp only [WKe, ↓reduceIte, Int.reduceEq, *, outC, outD]; rfl)), (by first | (simp [*, outC]; done) | (simp only [WKe, ↓reduceIte, *, outC]; done) | (simp only [WKe, ↓reduceIte, *, outC]; rfl)), rfl⟩; ((try clear hK) <;> (try simp only [WKe, outG, ↓reduceIte, *]) <;> repeat (first | with_reducible exact EntR.done | refine S.e ?_ | (refine S.f ?_ <;> (try simp only [WKe, outG, hc, ↓reduceIte, reduceCtorEq, Int.reduceEq, *])) | with_reducible apply EntR.ex | refine EntR.drop (F := F) ?_ | refine EntR.drop ?_)))

end Go.Proofs.Ytlhmbcmkpafjoaa

namespace Go.Proofs.Ytlhmbcmkpafjoaa
open Go Go.Wk
set_option maxHeartbeats 3200000
set_option maxRecDepth 10000
def OneG.core (g : OneG) : Bool × Bool × Int × Int × Int × SV × List Msg × Msg × Bool × Bool := (g.q, g.i, g.size, g.depth, g.lost, g.s, g.ms, g.m, g.there, g.fresh)
def portM (c : PortC) : Bool × Bool × Int × Int × Int × SV × List Msg × Msg × Bool × Bool := (c.q, c.i, c.size, c.depth, 0, ⟨none, 0, 0⟩, [], default, false, false)
def OneG.mk0 (b c : Nat) (x : PortC) : OneG := ⟨b, x.q, x.i, x.size, x.depth, 0, c, ⟨none, 0, 0⟩, [], default, false, false⟩
attribute [local irreducible] BrK GenK EGenK EUnitK CallK FnK CallV GuardO GuardC CondW opX opK opKc chkR eqR seqK blkK endL WL WD W LoopW BinK Tr drewK resL PickK NotK NilK ExtrK getK Instr.storeAt Instr.loadAt Instr.fieldAt Instr.indexAt Instr.lookup Instr.mapUpdate Instr.box Instr.alloc Instr.build Instr.buildSlice Instr.makeSlice Instr.makeMap Instr.sliceAt Instr.field Instr.index Instr.makeInterface Instr.typeAssert Builtin.len_ Builtin.append_ Builtin.cap_ Builtin.min_ Builtin.max_ Builtin.copy_ Builtin.clear_ convert binOp mp blk rob sl sep ex fact old
theorem read_ok {p : Nat} {s : SV} {gs : List OneG} {k : Int} (hl0 : (ix gs k).m.d.length ≤ 1000000) : Trip Try.prog 43 [.pointer (some ⟨p, 0, none⟩), .int .i64 k].toArray [poB p s, fam oneA gs, sl false s.v (gs.map OneG.pt)]
    fun v l' => ∃ s3 r, r.d = outD gs k false ∧ v = .tuple #[SV.v (SL.s r), .int .i64 (outC gs k false)] ∧ l' = [poB p s, fam oneA (outG gs k false s3), sl false s.v ((outG gs k false s3).map OneG.pt), Fz.fz (r : Msg)] := by
  intro F K hK
  simp only [List.cons_append, List.nil_append]
  (refine Tr.enter (rs := [.tmp 4, .tmp 5]) mixed fn43 rfl (by simp +arith [Try.ntmps43]) fun u => ?_; simp only [cd43, Try.f43])
  ((try simp only [WKb, ↓reduceIte, Nat.reduceEqDiff, Nat.reduceAdd]) <;> (repeat' ((first
    | (refine G.tr ?_; first | refine S.a ?_ | refine Tr.brK ?_ ?_ | (refine G.call 66 ?_; refine S.c ?_ (h := out_ok ?_)) | refine S.n fun _ => ?_ | refine S.i fun hix => ?_ | (refine S.g fun hb => ?_; (try simp only [hb])) | (refine S.s (fun hb => ?_) (fun hb => ?_) <;> ((try simp only [hb]) <;> (try (have hp := hb; simp only [WKs] at hp; (try have hq := Int.not_le.2 hp); (try have hq := Int.not_lt.2 hp))))))
    | rintro _ _ ⟨_, _, hrd, rfl, rfl⟩
    | ((fail_if_success refine G.tr ?_); exact G.prop S.p)
    | fail) <;> (try simp only [WKb, ↓reduceIte, Nat.reduceEqDiff]))))
  all_goals
    apply Tr.fin hK ⟨_, _, hrd, rfl, rfl⟩
    ((try clear hK) <;> (try simp only [WKe, *]) <;> repeat (first | with_reducible exact EntR.done | refine S.e ?_ | (refine S.f ?_ <;> (try simp only [WKe, ↓reduceIte, reduceCtorEq, Int.reduceEq, *])) | with_reducible apply EntR.ex | refine EntR.drop (F := F) ?_ | refine EntR.drop ?_))
theorem receive_ok {p : Nat} {s : SV} {gs : List OneG} {k : Int} (hl0 : (ix gs k).m.d.length ≤ 1000000) : Trip Try.prog 51 [.pointer (some ⟨p, 0, none⟩), .int .i64 k].toArray [poB p s, fam oneA gs, sl false s.v (gs.map OneG.pt)]
    fun v l' => ∃ s3 r, r.d = outD gs k true ∧ v = .tuple #[SV.v (SL.s r), .int .i64 (outC gs k true)] ∧ l' = [poB p s, fam oneA (outG gs k true s3), sl false s.v ((outG gs k true s3).map OneG.pt), Fz.fz (r : Msg)] := by
  intro F K hK
  simp only [List.cons_append, List.nil_append]
  (refine Tr.enter (rs := [.tmp 4, .tmp 5]) mixed fn51 rfl (by simp +arith [Try.ntmps51]) fun u => ?_; simp only [cd51, Try.f51])
  ((try simp only [WKb, ↓reduceIte, Nat.reduceEqDiff, Nat.reduceAdd]) <;> (repeat' ((first
    | (refine G.tr ?_; first | refine S.a ?_ | refine Tr.brK ?_ ?_ | (refine G.call 66 ?_; refine S.c ?_ (h := out_ok ?_)) | refine S.n fun _ => ?_ | refine S.i fun hix => ?_ | (refine S.g fun hb => ?_; (try simp only [hb])) | (refine S.s (fun hb => ?_) (fun hb => ?_) <;> ((try simp only [hb]) <;> (try (have hp := hb; simp only [WKs] at hp; (try have hq := Int.not_le.2 hp); (try have hq := Int.not_lt.2 hp))))))
    | rintro _ _ ⟨_, _, hrd, rfl, rfl⟩
    | ((fail_if_success refine G.tr ?_); exact G.prop S.p)
    | fail) <;> (try simp only [WKb, ↓reduceIte, Nat.reduceEqDiff]))))
  all_goals
    apply Tr.fin hK ⟨_, _, hrd, rfl, rfl⟩
    ((try clear hK) <;> (try simp only [WKe, *]) <;> repeat (first | with_reducible exact EntR.done | refine S.e ?_ | (refine S.f ?_ <;> (try simp only [WKe, ↓reduceIte, reduceCtorEq, Int.reduceEq, *])) | with_reducible apply EntR.ex | refine EntR.drop (F := F) ?_ | refine EntR.drop ?_))
theorem fill_ok {b : Nat} {q i : Bool} {sz d lost : Int} {v0 : Value} : Trip Try.prog 61 [.pointer (some ⟨b, 0, none⟩)].toArray [onB b q i sz d v0 lost]
    fun v l' => ∃ c, v = .tuple #[] ∧ l' = [oneA (OneG.mk0 b c ⟨q, i, sz, d⟩)] := by
  intro F K hK
  simp only [List.cons_append, List.nil_append]
  have hdm : (⟨⟨none, 0, 0⟩, []⟩ : Msg) = default := rfl
  cases q
  · (refine Tr.enter (rs := []) mixed fn61 rfl (by simp +arith [Try.ntmps61]) fun u => ?_; simp only [cd61, Try.f61])
    ((try simp only [WKb, ↓reduceIte]) <;> (repeat' ((first
    | (refine G.tr ?_; first | refine S.a ?_ | refine Tr.brK ?_ ?_ | refine S.n fun _ => ?_ | refine S.i fun hix => ?_ | (refine S.g fun hb => ?_; (try simp only [hb])) | (refine S.s (fun hb => ?_) (fun hb => ?_) <;> ((try simp only [hb]) <;> (try (have hp := hb; simp only [WKs] at hp; (try have hq := Int.not_le.2 hp); (try have hq := Int.not_lt.2 hp))))))
    | ((fail_if_success refine G.tr ?_); exact G.prop S.p)
    | fail) <;> (try simp only [WKb, WKh, ↓reduceIte, Nat.reduceEqDiff, Nat.reduceAdd]))))
    all_goals
      apply Tr.fin hK ⟨_, rfl, rfl⟩
      ((try clear hK) <;> (try simp only [WKe, oneA, OneG.mk0, ↓reduceIte, *]) <;> repeat (first | with_reducible exact EntR.done | refine S.e ?_ | (refine S.f ?_ <;> (try simp only [WKe, oneA, OneG.mk0, ↓reduceIte, reduceCtorEq, Int.reduceEq, *])) | with_reducible apply EntR.ex | refine EntR.drop (F := F) ?_ | refine EntR.drop ?_))
  · (refine Tr.enter (rs := []) mixed fn61 rfl (by simp +arith [Try.ntmps61]) fun u => ?_; simp only [cd61, Try.f61])
    ((try simp only [WKb, ↓reduceIte]) <;> (repeat' ((first
    | (refine G.tr ?_; first | refine S.a ?_ | refine Tr.brK ?_ ?_ | refine S.n fun _ => ?_ | refine S.i fun hix => ?_ | (refine S.g fun hb => ?_; (try simp only [hb])) | (refine S.s (fun hb => ?_) (fun hb => ?_) <;> ((try simp only [hb]) <;> (try (have hp := hb; simp only [WKs] at hp; (try have hq := Int.not_le.2 hp); (try have hq := Int.not_lt.2 hp))))))
    | ((fail_if_success refine G.tr ?_); exact G.prop S.p)
    | fail) <;> (try simp only [WKb, WKh, ↓reduceIte, Nat.reduceEqDiff, Nat.reduceAdd]))))
    all_goals
      apply Tr.fin hK ⟨_, rfl, rfl⟩
      ((try clear hK) <;> (try simp only [WKe, oneA, OneG.mk0, ↓reduceIte, *]) <;> repeat (first | with_reducible exact EntR.done | refine S.e ?_ | (refine S.f ?_ <;> (try simp only [WKe, oneA, OneG.mk0, ↓reduceIte, reduceCtorEq, Int.reduceEq, *])) | with_reducible apply EntR.ex | refine EntR.drop (F := F) ?_ | refine EntR.drop ?_))

theorem pnew_ok {s : SV} {cs : List PortC} : Trip Try.prog 32 [s.v].toArray [sl true s.v cs]
    fun v l' => ∃ p s1 gs, gs.map OneG.core = (cs.take 8).map portM ∧ v = .pointer (some ⟨p, 0, none⟩) ∧ l' = [poB p s1, fam oneA gs, sl false s1.v (gs.map OneG.pt)] := by
  intro F K hK
  simp only [List.cons_append, List.nil_append]
  have hmin : (if (8 : Int) < cs.length then (8 : Int) else cs.length) = ((min 8 cs.length : Nat) : Int) := if_min (n := 8)
  (refine Tr.enter (rs := [.tmp 2]) mixed fn32 rfl (by simp +arith [Try.ntmps32]) fun u => ?_; simp only [cd32, Try.f32])
  ((try simp only [WKb]) <;> (repeat' ((first
    | (refine G.tr ?_; first | refine S.a ?_ | refine Tr.brK ?_ ?_ | (refine G.call 61 ?_; refine S.c ?_ (h := fill_ok)) | refine S.n fun _ => ?_ | refine S.i fun hix => ?_ | (refine S.g fun hb => ?_; (try simp only [hb])) | (refine S.s (fun hb => ?_) (fun hb => ?_) <;> ((try simp only [hb]) <;> (try (have hp := hb; simp only [WKs] at hp; (try have hq := Int.not_le.2 hp); (try have hq := Int.not_lt.2 hp))))))
    | rintro _ _ ⟨_, rfl, rfl⟩
    | ((fail_if_success refine G.tr ?_); exact G.prop S.p)
    | fail) <;> (try simp only [WKb, ↓reduceIte, Nat.reduceEqDiff, hmin]))))
  rename_i p s1
  refine Tr.loopE (α := Nat × SV × List OneG) [15] [2, 3, 13, 14] (fun x => [.int .i64 x.1]) (fun x => [poB p x.2.1, sl false x.2.1.v (x.2.2.map OneG.pt), fam oneA x.2.2]) (fun x => x.1 ≤ min 8 cs.length ∧ x.2.2.length = x.1 ∧ x.2.2.map OneG.core = (cs.take x.1).map portM) (fun x => min 8 cs.length - x.1) (0, ⟨none, 0, 0⟩, []) (by (repeat (first | exact TakeL.nil | (apply TakeL.cons; focus ((first | exact TakeA.dupS | exact TakeA.dupF | ((repeat (first | with_reducible exact TakeA.here | exact TakeA.fam (by omega) (by omega) | with_reducible apply TakeA.next)); done) | ((repeat (first | exact TakeA.here | apply TakeA.next)); done) | exact TakeA.famNil | exact TakeA.nilS))) | fail)); done) rfl ⟨by omega, rfl, rfl⟩ fun x u hx => ?_
  obtain ⟨k, s2, gs⟩ := x
  simp only at hx ⊢
  obtain ⟨hk, hl, hm⟩ := hx
  have hlt : (cs.take (((min 8 cs.length : Nat) : Int)).toNat).length = min 8 cs.length := by simp
  have hlm : (gs.map OneG.pt).length = k := by simp [hl]
  by_cases hkn : k < min 8 cs.length
  · have hw := wrapSucc (k := k) (by omega)
    have hxt : ix (cs.take (((min 8 cs.length : Nat) : Int)).toNat) (k : Int) = ix cs (k : Int) := ix_take (by simp; omega)
    have hmk : ∀ b c, (gs ++ [OneG.mk0 b c (ix cs (k : Int))]).map OneG.core = (cs.take (k + 1)).map portM := fun b c => by rw [take_ix (by omega), List.map_append, List.map_append, hm]; rfl
    have hln : ∀ b c, (gs ++ [OneG.mk0 b c (ix cs (k : Int))]).length = k + 1 := fun b c => by simp [hl]
    ((try simp only [WKb, ↓reduceIte, Nat.reduceEqDiff]) <;> (repeat' ((first
    | (refine G.tr ?_; first | refine S.a ?_ | refine Tr.brK ?_ ?_ | (refine G.call 61 ?_; refine S.c ?_ (h := fill_ok)) | refine S.n fun _ => ?_ | refine S.i fun hix => ?_ | (refine S.g fun hb => ?_; (try simp only [hb])) | (refine S.s (fun hb => ?_) (fun hb => ?_) <;> ((try simp only [hb]) <;> (try (have hp := hb; simp only [WKs] at hp; (try have hq := Int.not_le.2 hp); (try have hq := Int.not_lt.2 hp))))))
    | rintro _ _ ⟨_, rfl, rfl⟩
    | ((fail_if_success refine G.tr ?_); exact G.prop S.p)
    | fail) <;> (try simp only [WKb, WKh, ↓reduceIte, Nat.reduceEqDiff, hw, hxt]))))
    all_goals
      rename_i cb ob cq sA sB
      have hmk' := hmk ob cq
      have hln' := hln ob cq
      have hpt : (OneG.mk0 ob cq (ix cs (k : Int))).pt = ⟨some ob⟩ := rfl
      (apply Tr.againE (k + 1, _, gs ++ [OneG.mk0 ob cq (ix cs (k : Int))]); (focus (simp only [WKb, ↓reduceIte, Nat.reduceEqDiff])); (focus ((try simp only [WKb, ↓reduceIte]); (all_goals ((repeat (refine cons_eq (by first | rfl | ((try clear hK) <;> first | (simp [*, List.map_append, List.map_cons, List.map_nil, hpt, hw]; done) | (simp [*, List.map_append, List.map_cons, List.map_nil, hpt, hw]; omega) | (simp [*, List.map_append, List.map_cons, List.map_nil, hpt, hw] <;> (try split) <;> simp_all <;> omega))) ?_)); rfl)); done)); (focus (first | omega | assumption | (simp only []; omega) | (refine ⟨by omega, by assumption⟩) | (simp only []; refine ⟨by omega, by assumption⟩) | ((try simp only []); (repeat' (first | omega | assumption | refine And.intro ?_ ?_)); done))); (focus (first | omega | (simp only []; omega))); (focus (((try clear hK) <;> (try simp only [WKe, List.map_append, List.map_cons, List.map_nil, *]) <;> repeat (first | with_reducible exact EntR.done | refine S.e ?_ | (refine S.f ?_ <;> (try simp only [WKe, List.map_append, List.map_cons, List.map_nil, hpt, hw, ↓reduceIte, reduceCtorEq, Int.reduceEq, *])) | with_reducible apply EntR.ex | refine EntR.drop (F := F) ?_ | refine EntR.drop ?_)))))
  · have hkk : k = min 8 cs.length := by omega
    ((try simp only [WKb, ↓reduceIte, Nat.reduceEqDiff]) <;> (repeat' ((first
    | (refine G.tr ?_; first | refine S.a ?_ | refine Tr.brK ?_ ?_ | (refine G.call 61 ?_; refine S.c ?_ (h := fill_ok)) | refine S.n fun _ => ?_ | refine S.i fun hix => ?_ | (refine S.g fun hb => ?_; (try simp only [hb])) | (refine S.s (fun hb => ?_) (fun hb => ?_) <;> ((try simp only [hb]) <;> (try (have hp := hb; simp only [WKs] at hp; (try have hq := Int.not_le.2 hp); (try have hq := Int.not_lt.2 hp))))))
    | rintro _ _ ⟨_, rfl, rfl⟩
    | ((fail_if_success refine G.tr ?_); exact G.prop S.p)
    | fail) <;> (try simp only [WKb, ↓reduceIte, Nat.reduceEqDiff]))))
    all_goals
      apply Tr.fin hK ⟨_, _, gs, by rw [hm, hkk, take_minlen], rfl, rfl⟩
      ((try clear hK) <;> (try simp only [WKe, *]) <;> repeat (first | with_reducible exact EntR.done | refine S.e ?_ | (refine S.f ?_ <;> (try simp only [WKe, ↓reduceIte, reduceCtorEq, Int.reduceEq, *])) | with_reducible apply EntR.ex | refine EntR.drop (F := F) ?_ | refine EntR.drop ?_))
theorem drain_ok {p : Nat} {s : SV} {gs : List OneG} {k : Int} (hl0 : (ix gs k).m.d.length ≤ 1000000) : Trip Try.prog 73 [.pointer (some ⟨p, 0, none⟩), .int .i64 k].toArray [poB p s, fam oneA gs, sl false s.v (gs.map OneG.pt)]
    fun v l' => ∃ r : SL Msg, r.d.map SL.d = drainD gs k ∧ v = SV.v (SL.s r) ∧ l' = [poB p s, fam oneA (drainG gs k), sl false s.v ((drainG gs k).map OneG.pt), sl false (SV.v (SL.s r)) (SL.d r), fzl (SL.d r)] := by
  intro F K hK
  simp only [List.cons_append, List.nil_append]
  by_cases h : inR gs k
  · have ⟨h0, h1⟩ := h
    have hm := ix_map (f := OneG.pt) h0 h1
    have hl : (gs.map OneG.pt).length = gs.length := List.length_map _
    have hs := fun q i sz d lo c s ms m t f => map_same (f := OneG.pt) h0 h1 ⟨(ix gs k).b, q, i, sz, d, lo, c, s, ms, m, t, f⟩ rfl
    refine Tr.famAt (A := oneA) k (by (repeat (first | exact TakeA.here | apply TakeA.next)); done) h0 h1 ?_
    cases hq : (ix gs k).q
    · refine oneS_open hq ?_
      (refine Tr.enter (rs := [.tmp 4]) mixed fn73 rfl (by simp +arith [Try.ntmps73]) fun u => ?_; simp only [cd73, Try.f73])
      ((try simp only [WKb, ↓reduceIte, Nat.reduceEqDiff, Nat.reduceAdd]) <;> (repeat' ((first
    | (refine G.tr ?_; first | refine S.a ?_ | refine Tr.brK ?_ ?_ | (refine G.call 75 ?_; first | refine S.c ?_ (h := find_none) | refine S.c ?_ (h := find_in (by omega) (by omega)) | refine S.c ?_ (h := find_out (by omega))) | (refine G.call 57 ?_; refine S.c ?_ (h := clone_ok (by omega))) | refine S.n fun _ => ?_ | refine S.i fun hix => ?_ | (refine S.g fun hb => ?_; (try simp only [hb])) | (refine S.s (fun hb => ?_) (fun hb => ?_) <;> ((try simp only [hb]) <;> (try (have hp := hb; simp only [WKs] at hp; (try have hq := Int.not_le.2 hp); (try have hq := Int.not_lt.2 hp))))))
    | rintro _ _ ⟨rfl, rfl⟩
    | rintro _ _ ⟨_, rfl, rfl⟩
    | ((fail_if_success refine G.tr ?_); exact G.prop S.p)
    | fail) <;> (try simp only [WKb, WKh, ↓reduceIte, Nat.reduceEqDiff, Nat.reduceAdd]))))
      all_goals
        (first | apply Tr.fin hK ⟨⟨⟨none, 0, 0⟩, []⟩, (by first | (simp [*, drainD]; done) | (simp only [WKe, ↓reduceIte, reduceCtorEq, Int.reduceEq, eq_self, *, drainD]; done) | (simp only [WKe, ↓reduceIte, reduceCtorEq, Int.reduceEq, *, drainD]; rfl)), rfl, rfl⟩ | apply Tr.fin hK ⟨⟨(ix gs k).s, (ix gs k).ms⟩, (by first | (simp [*, drainD]; done) | (simp only [WKe, ↓reduceIte, reduceCtorEq, Int.reduceEq, eq_self, *, drainD]; done) | (simp only [WKe, ↓reduceIte, reduceCtorEq, Int.reduceEq, *, drainD]; rfl)), rfl, rfl⟩ | apply Tr.fin hK ⟨⟨_, [SL.mk _ (ix gs k).m.d]⟩, (by first | (simp [*, drainD]; done) | (simp only [WKe, ↓reduceIte, reduceCtorEq, Int.reduceEq, eq_self, *, drainD]; done) | (simp only [WKe, ↓reduceIte, reduceCtorEq, Int.reduceEq, *, drainD]; rfl)), rfl, rfl⟩)
        ((try clear hK) <;> (try simp only [WKe, drainG, ↓reduceIte, *]) <;> repeat (first | with_reducible exact EntR.done | refine S.e ?_ | (refine S.f ?_ <;> (try simp only [WKe, oneA, ↓reduceIte, *])) | with_reducible apply EntR.ex | refine EntR.drop (F := F) ?_ | refine EntR.drop ?_))
        all_goals first | exact SV.mk none 0 0 | exact SL.mk ⟨none, 0, 0⟩ []
    · refine oneQ_open hq ?_
      (refine Tr.enter (rs := [.tmp 4]) mixed fn73 rfl (by simp +arith [Try.ntmps73]) fun u => ?_; simp only [cd73, Try.f73])
      ((try simp only [WKb, ↓reduceIte, Nat.reduceEqDiff, Nat.reduceAdd]) <;> (repeat' ((first
    | (refine G.tr ?_; first | refine S.a ?_ | refine Tr.brK ?_ ?_ | (refine G.call 75 ?_; first | refine S.c ?_ (h := find_none) | refine S.c ?_ (h := find_in (by omega) (by omega)) | refine S.c ?_ (h := find_out (by omega))) | (refine G.call 57 ?_; refine S.c ?_ (h := clone_ok (by omega))) | refine S.n fun _ => ?_ | refine S.i fun hix => ?_ | (refine S.g fun hb => ?_; (try simp only [hb])) | (refine S.s (fun hb => ?_) (fun hb => ?_) <;> ((try simp only [hb]) <;> (try (have hp := hb; simp only [WKs] at hp; (try have hq := Int.not_le.2 hp); (try have hq := Int.not_lt.2 hp))))))
    | rintro _ _ ⟨rfl, rfl⟩
    | rintro _ _ ⟨_, rfl, rfl⟩
    | ((fail_if_success refine G.tr ?_); exact G.prop S.p)
    | fail) <;> (try simp only [WKb, WKh, ↓reduceIte, Nat.reduceEqDiff]))))
      all_goals
        (first | apply Tr.fin hK ⟨⟨⟨none, 0, 0⟩, []⟩, (by first | (simp [*, drainD]; done) | (simp only [WKe, ↓reduceIte, reduceCtorEq, Int.reduceEq, eq_self, *, drainD]; done) | (simp only [WKe, ↓reduceIte, reduceCtorEq, Int.reduceEq, *, drainD]; rfl)), rfl, rfl⟩ | apply Tr.fin hK ⟨⟨(ix gs k).s, (ix gs k).ms⟩, (by first | (simp [*, drainD]; done) | (simp only [WKe, ↓reduceIte, reduceCtorEq, Int.reduceEq, eq_self, *, drainD]; done) | (simp only [WKe, ↓reduceIte, reduceCtorEq, Int.reduceEq, *, drainD]; rfl)), rfl, rfl⟩ | apply Tr.fin hK ⟨⟨_, [SL.mk _ (ix gs k).m.d]⟩, (by first | (simp [*, drainD]; done) | (simp only [WKe, ↓reduceIte, reduceCtorEq, Int.reduceEq, eq_self, *, drainD]; done) | (simp only [WKe, ↓reduceIte, reduceCtorEq, Int.reduceEq, *, drainD]; rfl)), rfl, rfl⟩)
        ((try clear hK) <;> (try simp only [WKe, drainG, ↓reduceIte, *]) <;> repeat (first | with_reducible exact EntR.done | refine S.e ?_ | (refine S.f ?_ <;> (try simp only [oneA, ↓reduceIte, *])) | with_reducible apply EntR.ex | refine EntR.drop (F := F) ?_ | refine EntR.drop ?_))
        all_goals first | exact SV.mk none 0 0 | exact SL.mk ⟨none, 0, 0⟩ []
  · have h' := h
    unfold inR at h'
    (refine Tr.enter (rs := [.tmp 4]) mixed fn73 rfl (by simp +arith [Try.ntmps73]) fun u => ?_; simp only [cd73, Try.f73])
    ((try simp only [WKb, ↓reduceIte, Nat.reduceEqDiff, Nat.reduceAdd]) <;> (repeat' ((first
    | (refine G.tr ?_; first | refine S.a ?_ | refine Tr.brK ?_ ?_ | (refine G.call 75 ?_; first | refine S.c ?_ (h := find_none) | refine S.c ?_ (h := find_in (by omega) (by omega)) | refine S.c ?_ (h := find_out (by omega))) | (refine G.call 57 ?_; refine S.c ?_ (h := clone_ok (by omega))) | refine S.n fun _ => ?_ | refine S.i fun hix => ?_ | (refine S.g fun hb => ?_; (try simp only [hb])) | (refine S.s (fun hb => ?_) (fun hb => ?_) <;> ((try simp only [hb]) <;> (try (have hp := hb; simp only [WKs] at hp; (try have hq := Int.not_le.2 hp); (try have hq := Int.not_lt.2 hp))))))
    | rintro _ _ ⟨rfl, rfl⟩
    | rintro _ _ ⟨_, rfl, rfl⟩
    | ((fail_if_success refine G.tr ?_); exact G.prop S.p)
    | fail) <;> (try simp only [WKb, ↓reduceIte, Nat.reduceEqDiff]))))
    all_goals
      (first | apply Tr.fin hK ⟨⟨⟨none, 0, 0⟩, []⟩, (by first | (simp [*, drainD]; done) | (simp only [WKe, ↓reduceIte, reduceCtorEq, Int.reduceEq, eq_self, *, drainD]; done) | (simp only [WKe, ↓reduceIte, reduceCtorEq, Int.reduceEq, *, drainD]; rfl)), rfl, rfl⟩ | apply Tr.fin hK ⟨⟨(ix gs k).s, (ix gs k).ms⟩, (by first | (simp [*, drainD]; done) | (simp only [WKe, ↓reduceIte, reduceCtorEq, Int.reduceEq, eq_self, *, drainD]; done) | (simp only [WKe, ↓reduceIte, reduceCtorEq, Int.reduceEq, *, drainD]; rfl)), rfl, rfl⟩ | apply Tr.fin hK ⟨⟨_, [SL.mk _ (ix gs k).m.d]⟩, (by first | (simp [*, drainD]; done) | (simp only [WKe, ↓reduceIte, reduceCtorEq, Int.reduceEq, eq_self, *, drainD]; done) | (simp only [WKe, ↓reduceIte, reduceCtorEq, Int.reduceEq, *, drainD]; rfl)), rfl, rfl⟩)
      ((try clear hK) <;> (try simp only [WKe, drainG, ↓reduceIte, *]) <;> repeat (first | with_reducible exact EntR.done | refine S.e ?_ | (refine S.f ?_ <;> (try simp only [WKe, drainG, ↓reduceIte, reduceCtorEq, Int.reduceEq, *])) | with_reducible apply EntR.ex | refine EntR.drop (F := F) ?_ | refine EntR.drop ?_))
      all_goals first | exact SV.mk none 0 0 | exact SL.mk ⟨none, 0, 0⟩ []
theorem core_mk {g : OneG} {x : PortC} (h : g.core = portM x) : g = OneG.mk0 g.b g.c x := by
  obtain ⟨b, q, i, sz, d, lo, c, s, ms, m, t, f⟩ := g
  simp only [OneG.core, portM, Prod.mk.injEq] at h
  obtain ⟨rfl, rfl, rfl, rfl, rfl, rfl, rfl, rfl, rfl, rfl⟩ := h
  rfl
theorem core_one {gs : List OneG} {x : PortC} (h : gs.map OneG.core = [portM x]) : ∃ b c, gs = [OneG.mk0 b c x] := by
  obtain ⟨g, rfl⟩ : ∃ g, gs = [g] := List.length_eq_one_iff.1 (by simpa using congrArg List.length h)
  exact ⟨g.b, g.c, by rw [← core_mk (by simpa using h)]⟩
theorem core_two {gs : List OneG} {x y : PortC} (h : gs.map OneG.core = [portM x, portM y]) : ∃ b c b2 c2, gs = [OneG.mk0 b c x, OneG.mk0 b2 c2 y] := by
  obtain ⟨g, g2, rfl⟩ : ∃ g g2, gs = [g, g2] := by
    match gs, h with
    | [g, g2], _ => exact ⟨g, g2, rfl⟩
    | [], h => simp at h
    | [_], h => simp at h
    | _ :: _ :: _ :: _, h => simp at h
  simp only [List.map_cons, List.map_nil, List.cons.injEq, and_true] at h
  exact ⟨g.b, g.c, g2.b, g2.c, by rw [← core_mk h.1, ← core_mk h.2]⟩
theorem pnew1_ok {s : SV} {x : PortC} : Trip Try.prog 32 [s.v].toArray [sl true s.v [x]]
    fun v l' => ∃ p s1 b c, v = .pointer (some ⟨p, 0, none⟩) ∧ l' = [poB p s1, fam oneA [OneG.mk0 b c x], sl false s1.v [Pt.mk (some b)]] := by
  refine Trip.mono pnew_ok ?_
  rintro v l' ⟨p, s1, gs, h, rfl, rfl⟩
  obtain ⟨b, c, rfl⟩ := core_one (x := x) h
  exact ⟨p, s1, b, c, rfl, rfl⟩
theorem pnew2_ok {s : SV} {x y : PortC} : Trip Try.prog 32 [s.v].toArray [sl true s.v [x, y]]
    fun v l' => ∃ p s1 b c b2 c2, v = .pointer (some ⟨p, 0, none⟩) ∧ l' = [poB p s1, fam oneA [OneG.mk0 b c x, OneG.mk0 b2 c2 y], sl false s1.v [Pt.mk (some b), Pt.mk (some b2)]] := by
  refine Trip.mono pnew_ok ?_
  rintro v l' ⟨p, s1, gs, h, rfl, rfl⟩
  obtain ⟨b, c, b2, c2, rfl⟩ := core_two (x := x) (y := y) h
  exact ⟨p, s1, b, c, b2, c2, rfl, rfl⟩
end Go.Proofs.Ytlhmbcmkpafjoaa

namespace Go.Proofs.Ytlhmbcmkpafjoaa
open Go Go.Wk
set_option maxHeartbeats 3200000
set_option maxRecDepth 10000
theorem read2_ok {p : Nat} {s : SV} {gs : List OneG} {k : Int} (hl0 : (ix gs k).m.d.length ≤ 1000000) : Trip Try.prog 43 [.pointer (some ⟨p, 0, none⟩), .int .i64 k].toArray [poB p s, fam oneA gs, sl false s.v (gs.map OneG.pt)]
    fun v l' => ∃ s3 s4, v = .tuple #[SV.v s4, .int .i64 (outC gs k false)] ∧ l' = [poB p s, fam oneA (outG gs k false s3), sl false s.v ((outG gs k false s3).map OneG.pt), Fz.fz (SL.mk s4 (outD gs k false) : Msg)] := by
  refine Trip.mono (read_ok hl0) ?_
  rintro v l' ⟨s3, ⟨s4, d⟩, h, rfl, rfl⟩
  have h' : d = outD gs k false := h
  subst h'
  exact ⟨s3, s4, rfl, rfl⟩
theorem receive2_ok {p : Nat} {s : SV} {gs : List OneG} {k : Int} (hl0 : (ix gs k).m.d.length ≤ 1000000) : Trip Try.prog 51 [.pointer (some ⟨p, 0, none⟩), .int .i64 k].toArray [poB p s, fam oneA gs, sl false s.v (gs.map OneG.pt)]
    fun v l' => ∃ s3 s4, v = .tuple #[SV.v s4, .int .i64 (outC gs k true)] ∧ l' = [poB p s, fam oneA (outG gs k true s3), sl false s.v ((outG gs k true s3).map OneG.pt), Fz.fz (SL.mk s4 (outD gs k true) : Msg)] := by
  refine Trip.mono (receive_ok hl0) ?_
  rintro v l' ⟨s3, ⟨s4, d⟩, h, rfl, rfl⟩
  have h' : d = outD gs k true := h
  subst h'
  exact ⟨s3, s4, rfl, rfl⟩
instance {l : List Asrt} : De l (.int .u8 120) (120 : UInt8) := ⟨rfl⟩
instance {l : List Asrt} : De l (.int .u8 121) (121 : UInt8) := ⟨rfl⟩
instance hass_msg {l : List Asrt} {s : SV} {d : List UInt8} : HasS (Fz.fz (SL.mk s d : Msg) :: l) s.v true UInt8 inferInstance d := hass_sl (x := (SL.mk s d : Msg))
section
variable {b c : Nat} {s s2 : SV} {m m2 m3 : Msg} {n : Nat} {lo : Int} {ms : List Msg}
abbrev g4 (b c : Nat) (lo : Int) (s : SV) (ms : List Msg) : OneG := ⟨b, true, true, 4, 1, lo, c, s, ms, default, false, false⟩
theorem g4_mk : OneG.mk0 b c ⟨true, true, 4, 1⟩ = g4 b c 0 ⟨none, 0, 0⟩ [] := rfl
theorem g4_del1 : delB [g4 b c 0 s []] 0 = true := rfl
theorem g4_del2 : delG [g4 b c 0 s []] 0 s2 m = [g4 b c 0 s2 [m]] := rfl
theorem g4_del3 : delB [g4 b c 0 s [m]] 0 = false := rfl
theorem g4_del4 : delG [g4 b c 0 s [m]] 0 s2 m2 = [g4 b c 1 s2 [m]] := rfl
theorem g4_out1 : outC [g4 b c 1 s [m]] 0 true = 0 := rfl
theorem g4_out2 : outD [g4 b c 1 s [m]] 0 true = m.d := rfl
theorem g4_out3 : outG [g4 b c 1 s [m]] 0 true s2 = [g4 b c 1 s2 []] := rfl
theorem g4_into1 : lostP [g4 b c 1 s []] 0 = 1 := rfl
theorem g4_into2 : intoC [g4 b c 1 s []] 0 false n = 3 := rfl
theorem g4_into3 : intoG [g4 b c 1 s []] 0 false s2 m = [g4 b c 1 s []] := rfl
theorem g4_pt : (g4 b c lo s ms).pt = ⟨some b⟩ := rfl
end




attribute [local irreducible] BrK GenK EGenK EUnitK CallK FnK CallV GuardO GuardC CondW opX opK opKc chkR eqR seqK blkK endL WL WD W LoopW BinK Tr drewK resL PickK NotK NilK ExtrK getK Instr.storeAt Instr.loadAt Instr.fieldAt Instr.indexAt Instr.lookup Instr.mapUpdate Instr.box Instr.alloc Instr.build Instr.buildSlice Instr.makeSlice Instr.makeMap Instr.sliceAt Instr.field Instr.index Instr.makeInterface Instr.typeAssert Builtin.len_ Builtin.append_ Builtin.cap_ Builtin.min_ Builtin.max_ Builtin.copy_ Builtin.clear_ convert binOp mp blk rob sl sep ex fact old
end Go.Proofs.Ytlhmbcmkpafjoaa

namespace Go.Proofs.Ytlhmbcmkpafjoaa
open Go Go.Wk
set_option maxHeartbeats 3200000
set_option maxRecDepth 10000
theorem msgs_eq {xs ys : List Msg} (hl : xs.length = ys.length) (h : ∀ j : Nat, j < xs.length → (ix xs (j : Int)).d = (ix ys (j : Int)).d) : xs.map SL.d = ys.map SL.d := List.ext_getElem (by simp [hl]) fun i h1 h2 => by
  have h1' : i < xs.length := by simpa using h1
  have := h i h1'
  rw [ix_nat h1', ix_nat (by omega)] at this
  simpa using this
theorem msgs_ne {xs ys : List Msg} {j : Nat} (h1 : j < xs.length) (hl : xs.length = ys.length) (h : ¬ (ix xs (j : Int)).d = (ix ys (j : Int)).d) : decide (xs.map SL.d = ys.map SL.d) = false := decide_eq_false fun e => h (by
  rw [ix_nat h1, ix_nat (by omega)]
  have h2 : (xs.map SL.d)[j]? = (ys.map SL.d)[j]? := by rw [e]
  simpa [h1, show j < ys.length by omega] using h2)
attribute [local irreducible] BrK GenK EGenK EUnitK CallK FnK CallV GuardO GuardC CondW opX opK opKc chkR eqR seqK blkK endL WL WD W LoopW BinK Tr drewK resL PickK NotK NilK ExtrK getK Instr.storeAt Instr.loadAt Instr.fieldAt Instr.indexAt Instr.lookup Instr.mapUpdate Instr.box Instr.alloc Instr.build Instr.buildSlice Instr.makeSlice Instr.makeMap Instr.sliceAt Instr.field Instr.index Instr.makeInterface Instr.typeAssert Builtin.len_ Builtin.append_ Builtin.cap_ Builtin.min_ Builtin.max_ Builtin.copy_ Builtin.clear_ convert binOp mp blk rob sl sep ex fact old
theorem same18_ok {s1 s2 : SV} {xs ys : List Msg} : Trip Try.prog 60 [s1.v, s2.v].toArray [sl true s1.v xs, fzl xs, sl true s2.v ys, fzl ys] fun v l' => v = .bool (decide (xs.map SL.d = ys.map SL.d)) ∧ l' = [] := by
  intro F K hK
  simp only [List.cons_append, List.nil_append]
  have hne : xs.length ≠ ys.length → decide (xs.map SL.d = ys.map SL.d) = false := fun h => decide_eq_false fun e => h (by simpa using congrArg List.length e)
  refine Tr.bound (xs := xs) Has.here fun hbx => ?_
  (refine Tr.enter (rs := [.tmp 4]) mixed fn60 rfl (by simp +arith [Try.ntmps60]) fun u => ?_; simp only [cd60, Try.f60])
  by_cases hl : xs.length = ys.length
  · ((try simp only [WKb, ↓reduceIte, Nat.reduceEqDiff, Nat.reduceAdd]) <;> (repeat' ((first
    | (refine G.tr ?_; first | refine S.a ?_ | refine Tr.brK ?_ ?_ | refine S.n fun _ => ?_ | refine S.i fun hix => ?_ | (refine S.g fun hb => ?_; (try simp only [hb])) | (refine S.s (fun hb => ?_) (fun hb => ?_) <;> ((try simp only [hb]) <;> (try (have hp := hb; simp only [WKs] at hp; (try have hq := Int.not_le.2 hp); (try have hq := Int.not_lt.2 hp))))))
    | ((fail_if_success refine G.tr ?_); exact G.prop S.p)
    | fail) <;> (try simp only [WKb, ↓reduceIte, Nat.reduceEqDiff]))))
    refine Tr.loopE (α := Nat) [4, 5] [0, 1] (fun k => [.bool false, .int .i64 k]) (fun _ => []) (fun k => k ≤ xs.length ∧ ∀ j : Nat, j < k → (ix xs (j : Int)).d = (ix ys (j : Int)).d) (fun k => xs.length - k) 0 (by (repeat (first | exact TakeL.nil | (apply TakeL.cons; focus ((first | exact TakeA.dupS | exact TakeA.dupF | ((repeat (first | with_reducible exact TakeA.here | exact TakeA.fam (by omega) (by omega) | with_reducible apply TakeA.next)); done) | ((repeat (first | exact TakeA.here | apply TakeA.next)); done) | exact TakeA.famNil | exact TakeA.nilS))) | fail)); done) rfl ⟨by omega, fun j hj => by omega⟩ fun k u hk => ?_
    obtain ⟨hk, hj⟩ := hk
    by_cases hlt : k < xs.length
    · have hw := wrapSucc (k := k) (by omega)
      by_cases hd : (ix xs (k : Int)).d = (ix ys (k : Int)).d
      · have hj' : ∀ j : Nat, j < k + 1 → (ix xs (j : Int)).d = (ix ys (j : Int)).d := fun j h => by
          rcases Nat.lt_succ_iff_lt_or_eq.1 h with h | h
          · exact hj j h
          · subst h; exact hd
        ((try simp only [WKb, ↓reduceIte, Nat.reduceEqDiff]) <;> (repeat' ((first
    | (refine G.tr ?_; first | refine S.a ?_ | refine Tr.brK ?_ ?_ | refine S.n fun _ => ?_ | refine S.i fun hix => ?_ | (refine S.g fun hb => ?_; (try simp only [hb])) | (refine S.s (fun hb => ?_) (fun hb => ?_) <;> ((try simp only [hb]) <;> (try (have hp := hb; simp only [WKs] at hp; (try have hq := Int.not_le.2 hp); (try have hq := Int.not_lt.2 hp))))))
    | ((fail_if_success refine G.tr ?_); exact G.prop S.p)
    | fail) <;> (try simp only [WKb, WKh, ↓reduceIte, Nat.reduceEqDiff, pl60, hw, hd]))))
        all_goals (apply Tr.againE (k + 1); (focus (simp only [WKb, ↓reduceIte, Nat.reduceEqDiff])); (focus ((try simp only [WKb, ↓reduceIte, Nat.reduceEqDiff]); (all_goals ((repeat (refine cons_eq (by first | rfl | (simp [*]; done)) ?_)); rfl)); done)); (focus (first | omega | assumption | (simp only []; omega) | (refine ⟨by omega, by assumption⟩) | (simp only []; refine ⟨by omega, by assumption⟩) | ((try simp only []); (repeat' (first | omega | assumption | apply hj' | refine And.intro ?_ ?_)); done))); (focus (first | omega | (simp only []; omega))); (focus (((try clear hK) <;> (try simp only [WKe, *]) <;> repeat (first | with_reducible exact EntR.done | refine S.e ?_ | (refine S.f ?_ <;> (try simp only [WKe, ↓reduceIte, reduceCtorEq, Int.reduceEq, *])) | with_reducible apply EntR.ex | refine EntR.drop (F := F) ?_ | refine EntR.drop ?_)))))
      · have hm := msgs_ne hlt hl hd
        ((try simp only [WKb, ↓reduceIte, Nat.reduceEqDiff]) <;> (repeat' ((first
    | (refine G.tr ?_; first | refine S.a ?_ | refine Tr.brK ?_ ?_ | refine S.n fun _ => ?_ | refine S.i fun hix => ?_ | (refine S.g fun hb => ?_; (try simp only [hb])) | (refine S.s (fun hb => ?_) (fun hb => ?_) <;> ((try simp only [hb]) <;> (try (have hp := hb; simp only [WKs] at hp; (try have hq := Int.not_le.2 hp); (try have hq := Int.not_lt.2 hp))))))
    | ((fail_if_success refine G.tr ?_); exact G.prop S.p)
    | fail) <;> (try simp only [WKb, WKh, ↓reduceIte, Nat.reduceEqDiff, pl60, hd]))))
        all_goals
          refine Tr.fin hK ⟨by rw [hm], rfl⟩ ?_
          ((try clear hK) <;> (try simp only [WKe, *]) <;> repeat (first | with_reducible exact EntR.done | refine S.e ?_ | (refine S.f ?_ <;> (try simp only [WKe, ↓reduceIte, reduceCtorEq, Int.reduceEq, *])) | with_reducible apply EntR.ex | refine EntR.drop (F := F) ?_ | refine EntR.drop ?_))
    · have hm := msgs_eq hl fun j h => hj j (by omega)
      ((try simp only [WKb, ↓reduceIte, Nat.reduceEqDiff]) <;> (repeat' ((first
    | (refine G.tr ?_; first | refine S.a ?_ | refine Tr.brK ?_ ?_ | refine S.n fun _ => ?_ | refine S.i fun hix => ?_ | (refine S.g fun hb => ?_; (try simp only [hb])) | (refine S.s (fun hb => ?_) (fun hb => ?_) <;> ((try simp only [hb]) <;> (try (have hp := hb; simp only [WKs] at hp; (try have hq := Int.not_le.2 hp); (try have hq := Int.not_lt.2 hp))))))
    | ((fail_if_success refine G.tr ?_); exact G.prop S.p)
    | fail) <;> (try simp only [WKb, ↓reduceIte, Nat.reduceEqDiff]))))
      all_goals
        refine Tr.fin hK ⟨by rw [decide_eq_true hm], rfl⟩ ?_
        ((try clear hK) <;> (try simp only [WKe, *]) <;> repeat (first | with_reducible exact EntR.done | refine S.e ?_ | (refine S.f ?_ <;> (try simp only [WKe, ↓reduceIte, reduceCtorEq, Int.reduceEq, *])) | with_reducible apply EntR.ex | refine EntR.drop (F := F) ?_ | refine EntR.drop ?_))
  · have hm := hne hl
    ((try simp only [WKb, ↓reduceIte, Nat.reduceEqDiff, Nat.reduceAdd]) <;> (repeat' ((first
    | (refine G.tr ?_; first | refine S.a ?_ | refine Tr.brK ?_ ?_ | refine S.n fun _ => ?_ | refine S.i fun hix => ?_ | (refine S.g fun hb => ?_; (try simp only [hb])) | (refine S.s (fun hb => ?_) (fun hb => ?_) <;> ((try simp only [hb]) <;> (try (have hp := hb; simp only [WKs] at hp; (try have hq := Int.not_le.2 hp); (try have hq := Int.not_lt.2 hp))))))
    | ((fail_if_success refine G.tr ?_); exact G.prop S.p)
    | fail) <;> (try simp only [WKb, ↓reduceIte, Nat.reduceEqDiff]))))
    all_goals
      refine Tr.fin hK ⟨by rw [hm], rfl⟩ ?_
      ((try clear hK) <;> (try simp only [WKe, *]) <;> repeat (first | with_reducible exact EntR.done | refine S.e ?_ | (refine S.f ?_ <;> (try simp only [WKe, ↓reduceIte, reduceCtorEq, Int.reduceEq, *])) | with_reducible apply EntR.ex | refine EntR.drop (F := F) ?_ | refine EntR.drop ?_))

end Go.Proofs.Ytlhmbcmkpafjoaa
