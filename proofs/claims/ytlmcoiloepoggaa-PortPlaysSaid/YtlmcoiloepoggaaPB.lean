import Derived.Test.YtlmcoiloepoggaaPA
namespace Go.Proofs.Ytlmcoiloepoggaa
open Go Go.Wk
set_option maxHeartbeats 3200000
set_option maxRecDepth 10000
abbrev poB (p : Nat) (s : SV) : Asrt := blk p (.cells [s.v].toArray 100 (0, 0))
def canB (gs : List OneG) (k : Int) (q i : Bool) : Bool := if inR gs k then (((ix gs k).q == q) && ((ix gs k).i == i)) else false
def sizeP (gs : List OneG) (k : Int) : Int := if inR gs k then (ix gs k).size else 0
def lenP (gs : List OneG) (k : Int) : Int := if inR gs k then (if (ix gs k).q = true then ((ix gs k).ms.length : Int) else if (ix gs k).there = true then 1 else 0) else 0
def lostP (gs : List OneG) (k : Int) : Int := if inR gs k then (ix gs k).lost else 0
def lenOK (n : Nat) (size : Int) : Bool := !decide ((n : Int) < 1) && !decide (size < (n : Int))
def intoC (gs : List OneG) (k : Int) (q : Bool) (n : Nat) : Int := if canB gs k q false = true then (if lenOK n (ix gs k).size = true then (if q = true then (if (ix gs k).depth ≤ (ix gs k).ms.length then 1 else 0) else 0) else 2) else 3
def putP (g : OneG) (s : SV) (m : Msg) : OneG := if g.q = true then { g with s := s, ms := qput g.ms g.depth m } else { g with m := m, there := true, fresh := true }
def intoG (gs : List OneG) (k : Int) (q : Bool) (s : SV) (m : Msg) : List OneG := if canB gs k q false = true then (if lenOK m.d.length (ix gs k).size = true then gs.set k.toNat (putP (ix gs k) s m) else gs) else gs
def outC (gs : List OneG) (k : Int) (q : Bool) : Int := if canB gs k q true = true then (if q = true then (if ((ix gs k).ms.length : Int) = 0 then 1 else 0) else (if (ix gs k).there = true then 0 else 1)) else 3
def outD (gs : List OneG) (k : Int) (q : Bool) : List UInt8 := if outC gs k q = 0 then (if q = true then (ix (ix gs k).ms 0).d else (ix gs k).m.d) else []
def outG (gs : List OneG) (k : Int) (q : Bool) (s : SV) : List OneG := if canB gs k q true = true then (if q = true then gs.set k.toNat { ix gs k with s := s, ms := (ix gs k).ms.drop 1 } else gs) else gs
def drainD (gs : List OneG) (k : Int) : List (List UInt8) := if inR gs k then (if (ix gs k).i = true then [] else if (ix gs k).q = true then (ix gs k).ms.map SL.d else if (ix gs k).fresh = true then [(ix gs k).m.d] else []) else []
def drainG (gs : List OneG) (k : Int) : List OneG := if inR gs k then (if (ix gs k).i = true then gs else if (ix gs k).q = true then gs.set k.toNat { ix gs k with s := ⟨none, 0, 0⟩, ms := [] } else gs.set k.toNat { ix gs k with fresh := false }) else gs
def delB (gs : List OneG) (k : Int) : Bool := if inR gs k then (if (ix gs k).i = true then (if (ix gs k).q = true then !decide ((ix gs k).depth ≤ (ix gs k).ms.length) else true) else false) else false
def delP (g : OneG) (s : SV) (m : Msg) : OneG := if g.q = true then (if g.depth ≤ g.ms.length then { g with s := s, lost := IntKind.i64.wrap (g.lost + 1) } else { g with s := s, ms := g.ms ++ [m] }) else { g with m := m, there := true, fresh := true }
def delG (gs : List OneG) (k : Int) (s : SV) (m : Msg) : List OneG := if inR gs k then (if (ix gs k).i = true then gs.set k.toNat (delP (ix gs k) s m) else gs) else gs
attribute [local irreducible] BrK GenK EGenK EUnitK CallK FnK CallV GuardO GuardC CondW opX opK opKc chkR eqR seqK blkK endL WL WD W LoopW BinK Tr drewK resL PickK NotK NilK ExtrK getK Instr.storeAt Instr.loadAt Instr.fieldAt Instr.indexAt Instr.lookup Instr.mapUpdate Instr.box Instr.alloc Instr.build Instr.buildSlice Instr.makeSlice Instr.makeMap Instr.sliceAt Instr.field Instr.index Instr.makeInterface Instr.typeAssert Builtin.len_ Builtin.append_ Builtin.cap_ Builtin.min_ Builtin.max_ Builtin.copy_ Builtin.clear_ convert binOp mp blk rob sl sep ex fact old
theorem find_in {p : Nat} {s : SV} {gs : List OneG} {k : Int} (h0 : 0 ≤ k) (h1 : k < gs.length) : Trip Try.prog 93 [.pointer (some ⟨p, 0, none⟩), .int .i64 k].toArray [poB p s, sl false s.v (gs.map OneG.pt)]
    fun v l' => v = .pointer (some ⟨(ix gs k).b, 0, none⟩) ∧ l' = [poB p s, sl false s.v (gs.map OneG.pt)] := by
  intro F K hK
  simp only [List.cons_append, List.nil_append]
  have hm := ix_map (f := OneG.pt) h0 h1
  have hl : (gs.map OneG.pt).length = gs.length := List.length_map _
  (refine Tr.enter (rs := [.tmp 4]) mixed fn93 rfl (by simp +arith [Try.ntmps93]) fun u => ?_; simp only [cd93, Try.f93])
  ((try simp only [WKb, ↓reduceIte, Nat.reduceEqDiff, Nat.reduceAdd]) <;> (repeat' ((first
    | (refine G.tr ?_; first | refine S.a ?_ | refine Tr.brK ?_ ?_ | refine S.n fun _ => ?_ | refine S.i fun hix => ?_ | (refine S.g fun hb => ?_; (try simp only [hb])) | (refine S.s (fun hb => ?_) (fun hb => ?_) <;> ((try simp only [hb]) <;> (try (have hp := hb; simp only [WKs] at hp; (try have hq := Int.not_le.2 hp); (try have hq := Int.not_lt.2 hp))))))
    | ((fail_if_success refine G.tr ?_); exact G.prop S.p)
    | fail) <;> (try simp only [WKb, ↓reduceIte, Nat.reduceEqDiff, hm]))))
  all_goals
    refine Tr.fin hK ⟨rfl, rfl⟩ ?_
    ((try clear hK) <;> (try simp only [WKe, *]) <;> repeat (first | with_reducible exact EntR.done | refine S.e ?_ | (refine S.f ?_ <;> (try simp only [WKe, ↓reduceIte, reduceCtorEq, Int.reduceEq, *])) | with_reducible apply EntR.ex | refine EntR.drop (F := F) ?_ | refine EntR.drop ?_))
theorem find_out {p : Nat} {s : SV} {gs : List OneG} {k : Int} (h : ¬ (0 ≤ k ∧ k < gs.length)) : Trip Try.prog 93 [.pointer (some ⟨p, 0, none⟩), .int .i64 k].toArray [poB p s, sl false s.v (gs.map OneG.pt)]
    fun v l' => v = .pointer none ∧ l' = [poB p s, sl false s.v (gs.map OneG.pt)] := by
  intro F K hK
  simp only [List.cons_append, List.nil_append]
  have hl : (gs.map OneG.pt).length = gs.length := List.length_map _
  (refine Tr.enter (rs := [.tmp 4]) mixed fn93 rfl (by simp +arith [Try.ntmps93]) fun u => ?_; simp only [cd93, Try.f93])
  ((try simp only [WKb, ↓reduceIte, Nat.reduceEqDiff, Nat.reduceAdd]) <;> (repeat' ((first
    | (refine G.tr ?_; first | refine S.a ?_ | refine Tr.brK ?_ ?_ | refine S.n fun _ => ?_ | refine S.i fun hix => ?_ | (refine S.g fun hb => ?_; (try simp only [hb])) | (refine S.s (fun hb => ?_) (fun hb => ?_) <;> ((try simp only [hb]) <;> (try (have hp := hb; simp only [WKs] at hp; (try have hq := Int.not_le.2 hp); (try have hq := Int.not_lt.2 hp))))))
    | ((fail_if_success refine G.tr ?_); exact G.prop S.p)
    | fail) <;> (try simp only [WKb, ↓reduceIte, Nat.reduceEqDiff]))))
  all_goals
    refine Tr.fin hK ⟨rfl, rfl⟩ ?_
    ((try clear hK) <;> (try simp only [WKe, *]) <;> repeat (first | with_reducible exact EntR.done | refine S.e ?_ | (refine S.f ?_ <;> (try simp only [WKe, ↓reduceIte, reduceCtorEq, Int.reduceEq, *])) | with_reducible apply EntR.ex | refine EntR.drop (F := F) ?_ | refine EntR.drop ?_))
theorem find_none {k : Int} : Trip Try.prog 93 [.pointer none, .int .i64 k].toArray [] fun v l' => v = .pointer none ∧ l' = [] := by
  intro F K hK
  simp only [List.nil_append]
  (refine Tr.enter (rs := [.tmp 4]) mixed fn93 rfl (by simp +arith [Try.ntmps93]) fun u => ?_; simp only [cd93, Try.f93])
  ((try simp only [WKb, ↓reduceIte, Nat.reduceEqDiff, Nat.reduceAdd]) <;> (repeat' ((first
    | (refine G.tr ?_; first | refine S.a ?_ | refine Tr.brK ?_ ?_ | refine S.n fun _ => ?_ | refine S.i fun hix => ?_ | (refine S.g fun hb => ?_; (try simp only [hb])) | (refine S.s (fun hb => ?_) (fun hb => ?_) <;> ((try simp only [hb]) <;> (try (have hp := hb; simp only [WKs] at hp; (try have hq := Int.not_le.2 hp); (try have hq := Int.not_lt.2 hp))))))
    | ((fail_if_success refine G.tr ?_); exact G.prop S.p)
    | fail) <;> (try simp only [WKb, WKh, ↓reduceIte, Nat.reduceEqDiff, Nat.reduceAdd, Nat.reduceSub, Int.reduceEq, Int.reduceLT, Int.reduceLE, pl93]))))
  all_goals
    refine Tr.fin hK ⟨rfl, rfl⟩ ?_
    ((try clear hK) <;> (try simp only [WKe, *]) <;> repeat (first | with_reducible exact EntR.done | refine S.e ?_ | (refine S.f ?_ <;> (try simp only [WKe, ↓reduceIte, reduceCtorEq, Int.reduceEq, *])) | with_reducible apply EntR.ex | refine EntR.drop (F := F) ?_ | refine EntR.drop ?_))



theorem can_ok {p : Nat} {s : SV} {gs : List OneG} {k : Int} {q i : Bool} : Trip Try.prog 59 [.pointer (some ⟨p, 0, none⟩), .int .i64 k, .bool q, .bool i].toArray [poB p s, fam oneA gs, sl false s.v (gs.map OneG.pt)]
    fun v l' => v = .bool (canB gs k q i) ∧ l' = [poB p s, fam oneA (gs), sl false s.v ((gs).map OneG.pt)] := by
  intro F K hK
  simp only [List.cons_append, List.nil_append]
  by_cases h : inR gs k
  · have ⟨h0, h1⟩ := h
    have hm := ix_map (f := OneG.pt) h0 h1
    have hl : (gs.map OneG.pt).length = gs.length := List.length_map _
    refine Tr.famAt (A := oneA) k (by (repeat (first | exact TakeA.here | apply TakeA.next)); done) h0 h1 ?_
    cases hq : (ix gs k).q
    · refine oneS_open hq ?_
      (refine Tr.enter (rs := [.tmp 8]) mixed fn59 rfl (by simp +arith [Try.ntmps59]) fun u => ?_; simp only [cd59, Try.f59])
      ((try simp only [WKb, ↓reduceIte, Nat.reduceEqDiff, Nat.reduceAdd]) <;> (repeat' ((first
    | (refine G.tr ?_; first | refine S.a ?_ | refine Tr.brK ?_ ?_ | (refine G.call 93 ?_; first | refine S.c ?_ (h := find_none) | refine S.c ?_ (h := find_in (by omega) (by omega)) | refine S.c ?_ (h := find_out (by omega))) | refine S.n fun _ => ?_ | refine S.i fun hix => ?_ | (refine S.g fun hb => ?_; (try simp only [hb])) | (refine S.s (fun hb => ?_) (fun hb => ?_) <;> ((try simp only [hb]) <;> (try (have hp := hb; simp only [WKs] at hp; (try have hq := Int.not_le.2 hp); (try have hq := Int.not_lt.2 hp))))))
    | rintro _ _ ⟨rfl, rfl⟩
    | ((fail_if_success refine G.tr ?_); exact G.prop S.p)
    | fail) <;> (try simp only [WKb, ↓reduceIte, Nat.reduceEqDiff]))))
      all_goals
        refine Tr.fin hK ⟨(by first | (simp [*, canB]; done) | (simp only [WKe, ↓reduceIte, reduceCtorEq, Int.reduceEq, eq_self, *, canB]; done) | (simp only [WKe, ↓reduceIte, reduceCtorEq, Int.reduceEq, *, canB]; rfl)), rfl⟩ ?_
        ((try clear hK) <;> (try simp only [WKe, *]) <;> repeat (first | with_reducible exact EntR.done | refine S.e ?_ | (refine S.f ?_ <;> (try simp only [WKe, oneA, ↓reduceIte, *])) | with_reducible apply EntR.ex | refine EntR.drop (F := F) ?_ | refine EntR.drop ?_))
        all_goals first | exact SV.mk none 0 0 | exact SL.mk ⟨none, 0, 0⟩ []
    · refine oneQ_open hq ?_
      (refine Tr.enter (rs := [.tmp 8]) mixed fn59 rfl (by simp +arith [Try.ntmps59]) fun u => ?_; simp only [cd59, Try.f59])
      ((try simp only [WKb, ↓reduceIte, Nat.reduceEqDiff, Nat.reduceAdd]) <;> (repeat' ((first
    | (refine G.tr ?_; first | refine S.a ?_ | refine Tr.brK ?_ ?_ | (refine G.call 93 ?_; first | refine S.c ?_ (h := find_none) | refine S.c ?_ (h := find_in (by omega) (by omega)) | refine S.c ?_ (h := find_out (by omega))) | refine S.n fun _ => ?_ | refine S.i fun hix => ?_ | (refine S.g fun hb => ?_; (try simp only [hb])) | (refine S.s (fun hb => ?_) (fun hb => ?_) <;> ((try simp only [hb]) <;> (try (have hp := hb; simp only [WKs] at hp; (try have hq := Int.not_le.2 hp); (try have hq := Int.not_lt.2 hp))))))
    | rintro _ _ ⟨rfl, rfl⟩
    | ((fail_if_success refine G.tr ?_); exact G.prop S.p)
    | fail) <;> (try simp only [WKb, ↓reduceIte, Nat.reduceEqDiff]))))
      all_goals
        refine Tr.fin hK ⟨(by first | (simp [*, canB]; done) | (simp only [WKe, ↓reduceIte, reduceCtorEq, Int.reduceEq, eq_self, *, canB]; done) | (simp only [WKe, ↓reduceIte, reduceCtorEq, Int.reduceEq, *, canB]; rfl)), rfl⟩ ?_
        ((try clear hK) <;> (try simp only [WKe, *]) <;> repeat (first | with_reducible exact EntR.done | refine S.e ?_ | (refine S.f ?_ <;> (try simp only [oneA, ↓reduceIte, *])) | with_reducible apply EntR.ex | refine EntR.drop (F := F) ?_ | refine EntR.drop ?_))
        all_goals first | exact SV.mk none 0 0 | exact SL.mk ⟨none, 0, 0⟩ []
  · have h' := h
    unfold inR at h'
    (refine Tr.enter (rs := [.tmp 8]) mixed fn59 rfl (by simp +arith [Try.ntmps59]) fun u => ?_; simp only [cd59, Try.f59])
    ((try simp only [WKb, ↓reduceIte, Nat.reduceEqDiff, Nat.reduceAdd]) <;> (repeat' ((first
    | (refine G.tr ?_; first | refine S.a ?_ | refine Tr.brK ?_ ?_ | (refine G.call 93 ?_; first | refine S.c ?_ (h := find_none) | refine S.c ?_ (h := find_in (by omega) (by omega)) | refine S.c ?_ (h := find_out (by omega))) | refine S.n fun _ => ?_ | refine S.i fun hix => ?_ | (refine S.g fun hb => ?_; (try simp only [hb])) | (refine S.s (fun hb => ?_) (fun hb => ?_) <;> ((try simp only [hb]) <;> (try (have hp := hb; simp only [WKs] at hp; (try have hq := Int.not_le.2 hp); (try have hq := Int.not_lt.2 hp))))))
    | rintro _ _ ⟨rfl, rfl⟩
    | ((fail_if_success refine G.tr ?_); exact G.prop S.p)
    | fail) <;> (try simp only [WKb, ↓reduceIte, Nat.reduceEqDiff]))))
    all_goals
      refine Tr.fin hK ⟨(by first | (simp [*, canB]; done) | (simp only [WKe, ↓reduceIte, reduceCtorEq, Int.reduceEq, eq_self, *, canB]; done) | (simp only [WKe, ↓reduceIte, reduceCtorEq, Int.reduceEq, *, canB]; rfl)), rfl⟩ ?_
      ((try clear hK) <;> (try simp only [WKe, *]) <;> repeat (first | with_reducible exact EntR.done | refine S.e ?_ | (refine S.f ?_ <;> (try simp only [WKe, canB, ↓reduceIte, reduceCtorEq, Int.reduceEq, *])) | with_reducible apply EntR.ex | refine EntR.drop (F := F) ?_ | refine EntR.drop ?_))
      all_goals first | exact SV.mk none 0 0 | exact SL.mk ⟨none, 0, 0⟩ []

theorem psize_ok {p : Nat} {s : SV} {gs : List OneG} {k : Int} : Trip Try.prog 58 [.pointer (some ⟨p, 0, none⟩), .int .i64 k].toArray [poB p s, fam oneA gs, sl false s.v (gs.map OneG.pt)]
    fun v l' => v = .int .i64 (sizeP gs k) ∧ l' = [poB p s, fam oneA (gs), sl false s.v ((gs).map OneG.pt)] := by
  intro F K hK
  simp only [List.cons_append, List.nil_append]
  by_cases h : inR gs k
  · have ⟨h0, h1⟩ := h
    have hm := ix_map (f := OneG.pt) h0 h1
    have hl : (gs.map OneG.pt).length = gs.length := List.length_map _
    refine Tr.famAt (A := oneA) k (by (repeat (first | exact TakeA.here | apply TakeA.next)); done) h0 h1 ?_
    cases hq : (ix gs k).q
    · refine oneS_open hq ?_
      (refine Tr.enter (rs := [.tmp 4]) mixed fn58 rfl (by simp +arith [Try.ntmps58]) fun u => ?_; simp only [cd58, Try.f58])
      ((try simp only [WKb, ↓reduceIte, Nat.reduceEqDiff, Nat.reduceAdd]) <;> (repeat' ((first
    | (refine G.tr ?_; first | refine S.a ?_ | refine Tr.brK ?_ ?_ | (refine G.call 93 ?_; first | refine S.c ?_ (h := find_none) | refine S.c ?_ (h := find_in (by omega) (by omega)) | refine S.c ?_ (h := find_out (by omega))) | refine S.n fun _ => ?_ | refine S.i fun hix => ?_ | (refine S.g fun hb => ?_; (try simp only [hb])) | (refine S.s (fun hb => ?_) (fun hb => ?_) <;> ((try simp only [hb]) <;> (try (have hp := hb; simp only [WKs] at hp; (try have hq := Int.not_le.2 hp); (try have hq := Int.not_lt.2 hp))))))
    | rintro _ _ ⟨rfl, rfl⟩
    | ((fail_if_success refine G.tr ?_); exact G.prop S.p)
    | fail) <;> (try simp only [WKb, ↓reduceIte, Nat.reduceEqDiff]))))
      all_goals
        refine Tr.fin hK ⟨(by first | (simp [*, sizeP]; done) | (simp only [WKe, ↓reduceIte, reduceCtorEq, Int.reduceEq, eq_self, *, sizeP]; done) | (simp only [WKe, ↓reduceIte, reduceCtorEq, Int.reduceEq, *, sizeP]; rfl)), rfl⟩ ?_
        ((try clear hK) <;> (try simp only [WKe, *]) <;> repeat (first | with_reducible exact EntR.done | refine S.e ?_ | (refine S.f ?_ <;> (try simp only [WKe, oneA, ↓reduceIte, *])) | with_reducible apply EntR.ex | refine EntR.drop (F := F) ?_ | refine EntR.drop ?_))
        all_goals first | exact SV.mk none 0 0 | exact SL.mk ⟨none, 0, 0⟩ []
    · refine oneQ_open hq ?_
      (refine Tr.enter (rs := [.tmp 4]) mixed fn58 rfl (by simp +arith [Try.ntmps58]) fun u => ?_; simp only [cd58, Try.f58])
      ((try simp only [WKb, ↓reduceIte, Nat.reduceEqDiff, Nat.reduceAdd]) <;> (repeat' ((first
    | (refine G.tr ?_; first | refine S.a ?_ | refine Tr.brK ?_ ?_ | (refine G.call 93 ?_; first | refine S.c ?_ (h := find_none) | refine S.c ?_ (h := find_in (by omega) (by omega)) | refine S.c ?_ (h := find_out (by omega))) | refine S.n fun _ => ?_ | refine S.i fun hix => ?_ | (refine S.g fun hb => ?_; (try simp only [hb])) | (refine S.s (fun hb => ?_) (fun hb => ?_) <;> ((try simp only [hb]) <;> (try (have hp := hb; simp only [WKs] at hp; (try have hq := Int.not_le.2 hp); (try have hq := Int.not_lt.2 hp))))))
    | rintro _ _ ⟨rfl, rfl⟩
    | ((fail_if_success refine G.tr ?_); exact G.prop S.p)
    | fail) <;> (try simp only [WKb, ↓reduceIte, Nat.reduceEqDiff]))))
      all_goals
        refine Tr.fin hK ⟨(by first | (simp [*, sizeP]; done) | (simp only [WKe, ↓reduceIte, reduceCtorEq, Int.reduceEq, eq_self, *, sizeP]; done) | (simp only [WKe, ↓reduceIte, reduceCtorEq, Int.reduceEq, *, sizeP]; rfl)), rfl⟩ ?_
        ((try clear hK) <;> (try simp only [WKe, *]) <;> repeat (first | with_reducible exact EntR.done | refine S.e ?_ | (refine S.f ?_ <;> (try simp only [oneA, ↓reduceIte, *])) | with_reducible apply EntR.ex | refine EntR.drop (F := F) ?_ | refine EntR.drop ?_))
        all_goals first | exact SV.mk none 0 0 | exact SL.mk ⟨none, 0, 0⟩ []
  · have h' := h
    unfold inR at h'
    (refine Tr.enter (rs := [.tmp 4]) mixed fn58 rfl (by simp +arith [Try.ntmps58]) fun u => ?_; simp only [cd58, Try.f58])
    ((try simp only [WKb, ↓reduceIte, Nat.reduceEqDiff, Nat.reduceAdd]) <;> (repeat' ((first
    | (refine G.tr ?_; first | refine S.a ?_ | refine Tr.brK ?_ ?_ | (refine G.call 93 ?_; first | refine S.c ?_ (h := find_none) | refine S.c ?_ (h := find_in (by omega) (by omega)) | refine S.c ?_ (h := find_out (by omega))) | refine S.n fun _ => ?_ | refine S.i fun hix => ?_ | (refine S.g fun hb => ?_; (try simp only [hb])) | (refine S.s (fun hb => ?_) (fun hb => ?_) <;> ((try simp only [hb]) <;> (try (have hp := hb; simp only [WKs] at hp; (try have hq := Int.not_le.2 hp); (try have hq := Int.not_lt.2 hp))))))
    | rintro _ _ ⟨rfl, rfl⟩
    | ((fail_if_success refine G.tr ?_); exact G.prop S.p)
    | fail) <;> (try simp only [WKb, ↓reduceIte]))))
    all_goals
      refine Tr.fin hK ⟨(by first | (simp [*, sizeP]; done) | (simp only [WKe, ↓reduceIte, reduceCtorEq, Int.reduceEq, eq_self, *, sizeP]; done) | (simp only [WKe, ↓reduceIte, reduceCtorEq, Int.reduceEq, *, sizeP]; rfl)), rfl⟩ ?_
      ((try clear hK) <;> (try simp only [WKe, *]) <;> repeat (first | with_reducible exact EntR.done | refine S.e ?_ | (refine S.f ?_ <;> (try simp only [WKe, sizeP, ↓reduceIte, reduceCtorEq, Int.reduceEq, *])) | with_reducible apply EntR.ex | refine EntR.drop (F := F) ?_ | refine EntR.drop ?_))
      all_goals first | exact SV.mk none 0 0 | exact SL.mk ⟨none, 0, 0⟩ []

theorem plen_ok {p : Nat} {s : SV} {gs : List OneG} {k : Int} : Trip Try.prog 50 [.pointer (some ⟨p, 0, none⟩), .int .i64 k].toArray [poB p s, fam oneA gs, sl false s.v (gs.map OneG.pt)]
    fun v l' => v = .int .i64 (lenP gs k) ∧ l' = [poB p s, fam oneA (gs), sl false s.v ((gs).map OneG.pt)] := by
  intro F K hK
  simp only [List.cons_append, List.nil_append]
  by_cases h : inR gs k
  · have ⟨h0, h1⟩ := h
    have hm := ix_map (f := OneG.pt) h0 h1
    have hl : (gs.map OneG.pt).length = gs.length := List.length_map _
    refine Tr.famAt (A := oneA) k (by (repeat (first | exact TakeA.here | apply TakeA.next)); done) h0 h1 ?_
    cases hq : (ix gs k).q
    · refine oneS_open hq ?_
      (refine Tr.enter (rs := [.tmp 4]) mixed fn50 rfl (by simp +arith [Try.ntmps50]) fun u => ?_; simp only [cd50, Try.f50])
      ((try simp only [WKb, ↓reduceIte, Nat.reduceEqDiff, Nat.reduceAdd]) <;> (repeat' ((first
    | (refine G.tr ?_; first | refine S.a ?_ | refine Tr.brK ?_ ?_ | (refine G.call 93 ?_; first | refine S.c ?_ (h := find_none) | refine S.c ?_ (h := find_in (by omega) (by omega)) | refine S.c ?_ (h := find_out (by omega))) | (refine G.call 155 ?_; refine S.c ?_ (h := qlen_ok)) | (refine G.call 157 ?_; refine S.c ?_ (h := slen_ok)) | refine S.n fun _ => ?_ | refine S.i fun hix => ?_ | (refine S.g fun hb => ?_; (try simp only [hb])) | (refine S.s (fun hb => ?_) (fun hb => ?_) <;> ((try simp only [hb]) <;> (try (have hp := hb; simp only [WKs] at hp; (try have hq := Int.not_le.2 hp); (try have hq := Int.not_lt.2 hp))))))
    | rintro _ _ ⟨rfl, rfl⟩
    | ((fail_if_success refine G.tr ?_); exact G.prop S.p)
    | fail) <;> (try simp only [WKb, WKh, ↓reduceIte, Nat.reduceEqDiff]))))
      all_goals
        refine Tr.fin hK ⟨(by first | (simp [*, lenP]; done) | (simp only [WKe, ↓reduceIte, reduceCtorEq, Int.reduceEq, eq_self, *, lenP]; done) | (simp only [WKe, ↓reduceIte, reduceCtorEq, Int.reduceEq, *, lenP]; rfl)), rfl⟩ ?_
        ((try clear hK) <;> (try simp only [WKe, *]) <;> repeat (first | with_reducible exact EntR.done | refine S.e ?_ | (refine S.f ?_ <;> (try simp only [WKe, oneA, ↓reduceIte, *])) | with_reducible apply EntR.ex | refine EntR.drop (F := F) ?_ | refine EntR.drop ?_))
        all_goals first | exact SV.mk none 0 0 | exact SL.mk ⟨none, 0, 0⟩ []
    · refine oneQ_open hq ?_
      (refine Tr.enter (rs := [.tmp 4]) mixed fn50 rfl (by simp +arith [Try.ntmps50]) fun u => ?_; simp only [cd50, Try.f50])
      ((try simp only [WKb, ↓reduceIte, Nat.reduceEqDiff, Nat.reduceAdd]) <;> (repeat' ((first
    | (refine G.tr ?_; first | refine S.a ?_ | refine Tr.brK ?_ ?_ | (refine G.call 93 ?_; first | refine S.c ?_ (h := find_none) | refine S.c ?_ (h := find_in (by omega) (by omega)) | refine S.c ?_ (h := find_out (by omega))) | (refine G.call 155 ?_; refine S.c ?_ (h := qlen_ok)) | (refine G.call 157 ?_; refine S.c ?_ (h := slen_ok)) | refine S.n fun _ => ?_ | refine S.i fun hix => ?_ | (refine S.g fun hb => ?_; (try simp only [hb])) | (refine S.s (fun hb => ?_) (fun hb => ?_) <;> ((try simp only [hb]) <;> (try (have hp := hb; simp only [WKs] at hp; (try have hq := Int.not_le.2 hp); (try have hq := Int.not_lt.2 hp))))))
    | rintro _ _ ⟨rfl, rfl⟩
    | ((fail_if_success refine G.tr ?_); exact G.prop S.p)
    | fail) <;> (try simp only [WKb, WKh, ↓reduceIte, Nat.reduceEqDiff]))))
      all_goals
        refine Tr.fin hK ⟨(by first | (simp [*, lenP]; done) | (simp only [WKe, ↓reduceIte, reduceCtorEq, Int.reduceEq, eq_self, *, lenP]; done) | (simp only [WKe, ↓reduceIte, reduceCtorEq, Int.reduceEq, *, lenP]; rfl)), rfl⟩ ?_
        ((try clear hK) <;> (try simp only [WKe, *]) <;> repeat (first | with_reducible exact EntR.done | refine S.e ?_ | (refine S.f ?_ <;> (try simp only [oneA, ↓reduceIte, *])) | with_reducible apply EntR.ex | refine EntR.drop (F := F) ?_ | refine EntR.drop ?_))
        all_goals first | exact SV.mk none 0 0 | exact SL.mk ⟨none, 0, 0⟩ []
  · have h' := h
    unfold inR at h'
    (refine Tr.enter (rs := [.tmp 4]) mixed fn50 rfl (by simp +arith [Try.ntmps50]) fun u => ?_; simp only [cd50, Try.f50])
    ((try simp only [WKb, ↓reduceIte, Nat.reduceEqDiff, Nat.reduceAdd]) <;> (repeat' ((first
    | (refine G.tr ?_; first | refine S.a ?_ | refine Tr.brK ?_ ?_ | (refine G.call 93 ?_; first | refine S.c ?_ (h := find_none) | refine S.c ?_ (h := find_in (by omega) (by omega)) | refine S.c ?_ (h := find_out (by omega))) | (refine G.call 155 ?_; refine S.c ?_ (h := qlen_ok)) | (refine G.call 157 ?_; refine S.c ?_ (h := slen_ok)) | refine S.n fun _ => ?_ | refine S.i fun hix => ?_ | (refine S.g fun hb => ?_; (try simp only [hb])) | (refine S.s (fun hb => ?_) (fun hb => ?_) <;> ((try simp only [hb]) <;> (try (have hp := hb; simp only [WKs] at hp; (try have hq := Int.not_le.2 hp); (try have hq := Int.not_lt.2 hp))))))
    | rintro _ _ ⟨rfl, rfl⟩
    | ((fail_if_success refine G.tr ?_); exact G.prop S.p)
    | fail) <;> (try simp only [WKb, ↓reduceIte]))))
    all_goals
      refine Tr.fin hK ⟨(by first | (simp [*, lenP]; done) | (simp only [WKe, ↓reduceIte, reduceCtorEq, Int.reduceEq, eq_self, *, lenP]; done) | (simp only [WKe, ↓reduceIte, reduceCtorEq, Int.reduceEq, *, lenP]; rfl)), rfl⟩ ?_
      ((try clear hK) <;> (try simp only [WKe, *]) <;> repeat (first | with_reducible exact EntR.done | refine S.e ?_ | (refine S.f ?_ <;> (try simp only [WKe, lenP, ↓reduceIte, reduceCtorEq, Int.reduceEq, *])) | with_reducible apply EntR.ex | refine EntR.drop (F := F) ?_ | refine EntR.drop ?_))
      all_goals first | exact SV.mk none 0 0 | exact SL.mk ⟨none, 0, 0⟩ []

theorem plost_ok {p : Nat} {s : SV} {gs : List OneG} {k : Int} : Trip Try.prog 57 [.pointer (some ⟨p, 0, none⟩), .int .i64 k].toArray [poB p s, fam oneA gs, sl false s.v (gs.map OneG.pt)]
    fun v l' => v = .int .i64 (lostP gs k) ∧ l' = [poB p s, fam oneA (gs), sl false s.v ((gs).map OneG.pt)] := by
  intro F K hK
  simp only [List.cons_append, List.nil_append]
  by_cases h : inR gs k
  · have ⟨h0, h1⟩ := h
    have hm := ix_map (f := OneG.pt) h0 h1
    have hl : (gs.map OneG.pt).length = gs.length := List.length_map _
    refine Tr.famAt (A := oneA) k (by (repeat (first | exact TakeA.here | apply TakeA.next)); done) h0 h1 ?_
    cases hq : (ix gs k).q
    · refine oneS_open hq ?_
      (refine Tr.enter (rs := [.tmp 4]) mixed fn57 rfl (by simp +arith [Try.ntmps57]) fun u => ?_; simp only [cd57, Try.f57])
      ((try simp only [WKb, ↓reduceIte, Nat.reduceEqDiff, Nat.reduceAdd]) <;> (repeat' ((first
    | (refine G.tr ?_; first | refine S.a ?_ | refine Tr.brK ?_ ?_ | (refine G.call 93 ?_; first | refine S.c ?_ (h := find_none) | refine S.c ?_ (h := find_in (by omega) (by omega)) | refine S.c ?_ (h := find_out (by omega))) | refine S.n fun _ => ?_ | refine S.i fun hix => ?_ | (refine S.g fun hb => ?_; (try simp only [hb])) | (refine S.s (fun hb => ?_) (fun hb => ?_) <;> ((try simp only [hb]) <;> (try (have hp := hb; simp only [WKs] at hp; (try have hq := Int.not_le.2 hp); (try have hq := Int.not_lt.2 hp))))))
    | rintro _ _ ⟨rfl, rfl⟩
    | ((fail_if_success refine G.tr ?_); exact G.prop S.p)
    | fail) <;> (try simp only [WKb, ↓reduceIte, Nat.reduceEqDiff]))))
      all_goals
        refine Tr.fin hK ⟨(by first | (simp [*, lostP]; done) | (simp only [WKe, ↓reduceIte, reduceCtorEq, Int.reduceEq, eq_self, *, lostP]; done) | (simp only [WKe, ↓reduceIte, reduceCtorEq, Int.reduceEq, *, lostP]; rfl)), rfl⟩ ?_
        ((try clear hK) <;> (try simp only [WKe, *]) <;> repeat (first | with_reducible exact EntR.done | refine S.e ?_ | (refine S.f ?_ <;> (try simp only [WKe, oneA, ↓reduceIte, *])) | with_reducible apply EntR.ex | refine EntR.drop (F := F) ?_ | refine EntR.drop ?_))
        all_goals first | exact SV.mk none 0 0 | exact SL.mk ⟨none, 0, 0⟩ []
    · refine oneQ_open hq ?_
      (refine Tr.enter (rs := [.tmp 4]) mixed fn57 rfl (by simp +arith [Try.ntmps57]) fun u => ?_; simp only [cd57, Try.f57])
      ((try simp only [WKb, ↓reduceIte, Nat.reduceEqDiff, Nat.reduceAdd]) <;> (repeat' ((first
    | (refine G.tr ?_; first | refine S.a ?_ | refine Tr.brK ?_ ?_ | (refine G.call 93 ?_; first | refine S.c ?_ (h := find_none) | refine S.c ?_ (h := find_in (by omega) (by omega)) | refine S.c ?_ (h := find_out (by omega))) | refine S.n fun _ => ?_ | refine S.i fun hix => ?_ | (refine S.g fun hb => ?_; (try simp only [hb])) | (refine S.s (fun hb => ?_) (fun hb => ?_) <;> ((try simp only [hb]) <;> (try (have hp := hb; simp only [WKs] at hp; (try have hq := Int.not_le.2 hp); (try have hq := Int.not_lt.2 hp))))))
    | rintro _ _ ⟨rfl, rfl⟩
    | ((fail_if_success refine G.tr ?_); exact G.prop S.p)
    | fail) <;> (try simp only [WKb, ↓reduceIte, Nat.reduceEqDiff]))))
      all_goals
        refine Tr.fin hK ⟨(by first | (simp [*, lostP]; done) | (simp only [WKe, ↓reduceIte, reduceCtorEq, Int.reduceEq, eq_self, *, lostP]; done) | (simp only [WKe, ↓reduceIte, reduceCtorEq, Int.reduceEq, *, lostP]; rfl)), rfl⟩ ?_
        ((try clear hK) <;> (try simp only [WKe, *]) <;> repeat (first | with_reducible exact EntR.done | refine S.e ?_ | (refine S.f ?_ <;> (try simp only [oneA, ↓reduceIte, *])) | with_reducible apply EntR.ex | refine EntR.drop (F := F) ?_ | refine EntR.drop ?_))
        all_goals first | exact SV.mk none 0 0 | exact SL.mk ⟨none, 0, 0⟩ []
  · have h' := h
    unfold inR at h'
    (refine Tr.enter (rs := [.tmp 4]) mixed fn57 rfl (by simp +arith [Try.ntmps57]) fun u => ?_; simp only [cd57, Try.f57])
    ((try simp only [WKb, ↓reduceIte, Nat.reduceEqDiff, Nat.reduceAdd]) <;> (repeat' ((first
    | (refine G.tr ?_; first | refine S.a ?_ | refine Tr.brK ?_ ?_ | (refine G.call 93 ?_; first | refine S.c ?_ (h := find_none) | refine S.c ?_ (h := find_in (by omega) (by omega)) | refine S.c ?_ (h := find_out (by omega))) | refine S.n fun _ => ?_ | refine S.i fun hix => ?_ | (refine S.g fun hb => ?_; (try simp only [hb])) | (refine S.s (fun hb => ?_) (fun hb => ?_) <;> ((try simp only [hb]) <;> (try (have hp := hb; simp only [WKs] at hp; (try have hq := Int.not_le.2 hp); (try have hq := Int.not_lt.2 hp))))))
    | rintro _ _ ⟨rfl, rfl⟩
    | ((fail_if_success refine G.tr ?_); exact G.prop S.p)
    | fail) <;> (try simp only [WKb, ↓reduceIte]))))
    all_goals
      refine Tr.fin hK ⟨(by first | (simp [*, lostP]; done) | (simp only [WKe, ↓reduceIte, reduceCtorEq, Int.reduceEq, eq_self, *, lostP]; done) | (simp only [WKe, ↓reduceIte, reduceCtorEq, Int.reduceEq, *, lostP]; rfl)), rfl⟩ ?_
      ((try clear hK) <;> (try simp only [WKe, *]) <;> repeat (first | with_reducible exact EntR.done | refine S.e ?_ | (refine S.f ?_ <;> (try simp only [WKe, lostP, ↓reduceIte, reduceCtorEq, Int.reduceEq, *])) | with_reducible apply EntR.ex | refine EntR.drop (F := F) ?_ | refine EntR.drop ?_))
      all_goals first | exact SV.mk none 0 0 | exact SL.mk ⟨none, 0, 0⟩ []

theorem deliver_ok {p : Nat} {s : SV} {gs : List OneG} {k : Int} {s2 : SV} {xs : List UInt8} (hn : xs.length ≤ 1000000) (hl0 : (ix gs k).ms.length ≤ 1000000) : Trip Try.prog 45 [.pointer (some ⟨p, 0, none⟩), .int .i64 k, s2.v].toArray [poB p s, fam oneA gs, sl false s.v (gs.map OneG.pt), sl true s2.v xs]
    fun v l' => ∃ s3 s4, v = .bool (delB gs k) ∧ l' = [poB p s, fam oneA (delG gs k s3 ⟨s4, xs⟩), sl false s.v ((delG gs k s3 ⟨s4, xs⟩).map OneG.pt)] := by
  intro F K hK
  simp only [List.cons_append, List.nil_append]
  by_cases h : inR gs k
  · have ⟨h0, h1⟩ := h
    have hm := ix_map (f := OneG.pt) h0 h1
    have hl : (gs.map OneG.pt).length = gs.length := List.length_map _
    have hs := fun q i sz d lo c s ms m t f => map_same (f := OneG.pt) h0 h1 ⟨(ix gs k).b, q, i, sz, d, lo, c, s, ms, m, t, f⟩ rfl
    refine Tr.famAt (A := oneA) k (by (repeat (first | exact TakeA.here | apply TakeA.next)); done) h0 h1 ?_
    cases hq : (ix gs k).q
    · refine oneS_open hq ?_
      (refine Tr.enter (rs := [.tmp 6]) mixed fn45 rfl (by simp +arith [Try.ntmps45]) fun u => ?_; simp only [cd45, Try.f45])
      ((try simp only [WKb, ↓reduceIte, Nat.reduceEqDiff, Nat.reduceAdd]) <;> (repeat' ((first
    | (refine G.tr ?_; first | refine S.a ?_ | refine Tr.brK ?_ ?_ | (refine G.call 93 ?_; first | refine S.c ?_ (h := find_none) | refine S.c ?_ (h := find_in (by omega) (by omega)) | refine S.c ?_ (h := find_out (by omega))) | (refine G.call 156 ?_; refine S.c ?_ (h := qput_ok ?_ ?_)) | (refine G.call 158 ?_; refine S.c ?_ (h := sput_ok ?_)) | refine S.n fun _ => ?_ | refine S.i fun hix => ?_ | (refine S.g fun hb => ?_; (try simp only [hb])) | (refine S.s (fun hb => ?_) (fun hb => ?_) <;> ((try simp only [hb]) <;> (try (have hp := hb; simp only [WKs] at hp; (try have hq := Int.not_le.2 hp); (try have hq := Int.not_lt.2 hp))))))
    | rintro _ _ ⟨rfl, rfl⟩
    | rintro _ _ ⟨_, rfl, rfl⟩
    | rintro _ _ ⟨_, _, rfl, rfl⟩
    | ((fail_if_success refine G.tr ?_); exact G.prop S.p)
    | fail) <;> (try simp only [WKb, WKh, ↓reduceIte, Nat.reduceEqDiff]))))
      all_goals
        apply Tr.fin hK ⟨_, _, (by first | (simp [*, delB]; done) | (simp only [WKe, ↓reduceIte, reduceCtorEq, Int.reduceEq, eq_self, *, delB]; done) | (simp only [WKe, ↓reduceIte, reduceCtorEq, Int.reduceEq, *, delB]; rfl)), rfl⟩
        ((try clear hK) <;> (try simp only [WKe, delG, delP, ↓reduceIte, *]) <;> repeat (first | with_reducible exact EntR.done | refine S.e ?_ | (refine S.f ?_ <;> (try simp only [WKe, oneA, ↓reduceIte, *])) | with_reducible apply EntR.ex | refine EntR.drop (F := F) ?_ | refine EntR.drop ?_))
        all_goals first | exact SV.mk none 0 0 | exact SL.mk ⟨none, 0, 0⟩ []
    · refine oneQ_open hq ?_
      (refine Tr.enter (rs := [.tmp 6]) mixed fn45 rfl (by simp +arith [Try.ntmps45]) fun u => ?_; simp only [cd45, Try.f45])
      ((try simp only [WKb, ↓reduceIte, Nat.reduceEqDiff, Nat.reduceAdd]) <;> (repeat' ((first
    | (refine G.tr ?_; first | refine S.a ?_ | refine Tr.brK ?_ ?_ | (refine G.call 93 ?_; first | refine S.c ?_ (h := find_none) | refine S.c ?_ (h := find_in (by omega) (by omega)) | refine S.c ?_ (h := find_out (by omega))) | (refine G.call 156 ?_; refine S.c ?_ (h := qput_ok ?_ ?_)) | (refine G.call 158 ?_; refine S.c ?_ (h := sput_ok ?_)) | refine S.n fun _ => ?_ | refine S.i fun hix => ?_ | (refine S.g fun hb => ?_; (try simp only [hb])) | (refine S.s (fun hb => ?_) (fun hb => ?_) <;> ((try simp only [hb]) <;> (try (have hp := hb; simp only [WKs] at hp; (try have hq := Int.not_le.2 hp); (try have hq := Int.not_lt.2 hp))))))
    | rintro _ _ ⟨rfl, rfl⟩
    | rintro _ _ ⟨_, rfl, rfl⟩
    | rintro _ _ ⟨_, _, rfl, rfl⟩
    | ((fail_if_success refine G.tr ?_); exact G.prop S.p)
    | fail) <;> (try simp only [WKb, WKh, ↓reduceIte, Nat.reduceEqDiff, Nat.reduceAdd]))))
      all_goals
        apply Tr.fin hK ⟨_, _, (by first | (simp [*, delB]; done) | (simp only [WKe, ↓reduceIte, reduceCtorEq, Int.reduceEq, eq_self, *, delB]; done) | (simp only [WKe, ↓reduceIte, reduceCtorEq, Int.reduceEq, *, delB]; rfl)), rfl⟩
        ((try clear hK) <;> (try simp only [WKe, delG, delP, qput, ↓reduceIte, *]) <;> repeat (first | with_reducible exact EntR.done | refine S.e ?_ | (refine S.f ?_ <;> (try simp only [oneA, ↓reduceIte, *])) | with_reducible apply EntR.ex | refine EntR.drop (F := F) ?_ | refine EntR.drop ?_))
        all_goals first | exact SV.mk none 0 0 | exact SL.mk ⟨none, 0, 0⟩ []
  · have h' := h
    unfold inR at h'
    (refine Tr.enter (rs := [.tmp 6]) mixed fn45 rfl (by simp +arith [Try.ntmps45]) fun u => ?_; simp only [cd45, Try.f45])
    ((try simp only [WKb, ↓reduceIte, Nat.reduceEqDiff, Nat.reduceAdd]) <;> (repeat' ((first
    | (refine G.tr ?_; first | refine S.a ?_ | refine Tr.brK ?_ ?_ | (refine G.call 93 ?_; first | refine S.c ?_ (h := find_none) | refine S.c ?_ (h := find_in (by omega) (by omega)) | refine S.c ?_ (h := find_out (by omega))) | (refine G.call 156 ?_; refine S.c ?_ (h := qput_ok ?_ ?_)) | (refine G.call 158 ?_; refine S.c ?_ (h := sput_ok ?_)) | refine S.n fun _ => ?_ | refine S.i fun hix => ?_ | (refine S.g fun hb => ?_; (try simp only [hb])) | (refine S.s (fun hb => ?_) (fun hb => ?_) <;> ((try simp only [hb]) <;> (try (have hp := hb; simp only [WKs] at hp; (try have hq := Int.not_le.2 hp); (try have hq := Int.not_lt.2 hp))))))
    | rintro _ _ ⟨rfl, rfl⟩
    | rintro _ _ ⟨_, rfl, rfl⟩
    | rintro _ _ ⟨_, _, rfl, rfl⟩
    | ((fail_if_success refine G.tr ?_); exact G.prop S.p)
    | fail) <;> (try simp only [WKb, ↓reduceIte, Nat.reduceEqDiff]))))
    all_goals
      apply Tr.fin hK ⟨_, _, (by first | (simp [*, delB]; done) | (simp only [WKe, ↓reduceIte, reduceCtorEq, Int.reduceEq, eq_self, *, delB]; done) | (simp only [WKe, ↓reduceIte, reduceCtorEq, Int.reduceEq, *, delB]; rfl)), rfl⟩
      ((try clear hK) <;> (try simp only [WKe, delG, ↓reduceIte, *]) <;> repeat (first | with_reducible exact EntR.done | refine S.e ?_ | (refine S.f ?_ <;> (try simp only [WKe, delG, delP, qput, ↓reduceIte, reduceCtorEq, Int.reduceEq, *])) | with_reducible apply EntR.ex | refine EntR.drop (F := F) ?_ | refine EntR.drop ?_))
      all_goals first | exact SV.mk none 0 0 | exact SL.mk ⟨none, 0, 0⟩ []

theorem into_ok {p : Nat} {s : SV} {gs : List OneG} {k : Int} {q : Bool} {s2 : SV} {xs : List UInt8} (hn : xs.length ≤ 1000000) (hl0 : (ix gs k).ms.length ≤ 1000000) : Trip Try.prog 94 [.pointer (some ⟨p, 0, none⟩), .int .i64 k, .bool q, s2.v].toArray [poB p s, fam oneA gs, sl false s.v (gs.map OneG.pt), sl true s2.v xs]
    fun v l' => ∃ s3 s4, v = .int .i64 (intoC gs k q xs.length) ∧ l' = [poB p s, fam oneA (intoG gs k q s3 ⟨s4, xs⟩), sl false s.v ((intoG gs k q s3 ⟨s4, xs⟩).map OneG.pt)] := by
  intro F K hK
  simp only [List.cons_append, List.nil_append]
  by_cases h : inR gs k
  · have ⟨h0, h1⟩ := h
    have hm := ix_map (f := OneG.pt) h0 h1
    have hl : (gs.map OneG.pt).length = gs.length := List.length_map _
    have hs := fun q i sz d lo c s ms m t f => map_same (f := OneG.pt) h0 h1 ⟨(ix gs k).b, q, i, sz, d, lo, c, s, ms, m, t, f⟩ rfl
    cases hc : canB gs k q false
    · (refine Tr.enter (rs := [.tmp 8]) mixed fn94 rfl (by simp +arith [Try.ntmps94]) fun u => ?_; simp only [cd94, Try.f94])
      ((try simp only [WKb, ↓reduceIte, Nat.reduceEqDiff, Nat.reduceAdd]) <;> (repeat' ((first
    | (refine G.tr ?_; first | refine S.a ?_ | refine Tr.brK ?_ ?_ | (refine G.call 59 ?_; first | refine S.c ?_ (h := pcan0_ok) | refine S.c ?_ (h := can_ok)) | (refine G.call 156 ?_; refine S.c ?_ (h := qput_ok ?_ ?_)) | (refine G.call 158 ?_; refine S.c ?_ (h := sput_ok ?_)) | refine S.n fun _ => ?_ | refine S.i fun hix => ?_ | (refine S.g fun hb => ?_; (try simp only [hb])) | (refine S.s (fun hb => ?_) (fun hb => ?_) <;> ((try simp only [hb]) <;> (try (have hp := hb; simp only [WKs] at hp; (try have hq := Int.not_le.2 hp); (try have hq := Int.not_lt.2 hp))))))
    | rintro _ _ ⟨rfl, rfl⟩
    | rintro _ _ ⟨_, rfl, rfl⟩
    | rintro _ _ ⟨_, _, rfl, rfl⟩
    | ((fail_if_success refine G.tr ?_); exact G.prop S.p)
    | fail) <;> (try simp only [WKb, ↓reduceIte, hc]))))
      all_goals
        (apply Tr.fin hK ⟨⟨none, 0, 0⟩, ⟨none, 0, 0⟩, (by first | (simp [*, intoC]; done) | (simp only [WKe, ↓reduceIte, reduceCtorEq, Int.reduceEq, eq_self, *, intoC, hc]; done) | (simp only [WKe, ↓reduceIte, reduceCtorEq, Int.reduceEq, *, intoC, hc]; rfl)), rfl⟩; ((try clear hK) <;> (try simp only [WKe, intoG, ↓reduceIte, *]) <;> repeat (first | with_reducible exact EntR.done | refine S.e ?_ | (refine S.f ?_ <;> (try simp only [WKe, intoG, hc, ↓reduceIte, reduceCtorEq, Int.reduceEq, *])) | with_reducible apply EntR.ex | refine EntR.drop (F := F) ?_ | refine EntR.drop ?_)))
    · have hqi : (ix gs k).q = q := by
        simp [canB, h] at hc
        exact hc.1
      (refine Tr.enter (rs := [.tmp 8]) mixed fn94 rfl (by simp +arith [Try.ntmps94]) fun u => ?_; simp only [cd94, Try.f94])
      ((try simp only [WKb, ↓reduceIte, Nat.reduceEqDiff, Nat.reduceAdd]) <;> (repeat' ((first
    | (refine G.tr ?_; first | refine S.a ?_ | refine Tr.brK ?_ ?_ | (refine G.call 59 ?_; first | refine S.c ?_ (h := pcan0_ok) | refine S.c ?_ (h := can_ok)) | (refine G.call 156 ?_; refine S.c ?_ (h := qput_ok ?_ ?_)) | (refine G.call 158 ?_; refine S.c ?_ (h := sput_ok ?_)) | refine S.n fun _ => ?_ | refine S.i fun hix => ?_ | (refine S.g fun hb => ?_; (try simp only [hb])) | (refine S.s (fun hb => ?_) (fun hb => ?_) <;> ((try simp only [hb]) <;> (try (have hp := hb; simp only [WKs] at hp; (try have hq := Int.not_le.2 hp); (try have hq := Int.not_lt.2 hp))))))
    | rintro _ _ ⟨rfl, rfl⟩
    | rintro _ _ ⟨_, rfl, rfl⟩
    | rintro _ _ ⟨_, _, rfl, rfl⟩
    | ((fail_if_success refine G.tr ?_); exact G.prop S.p)
    | fail) <;> (try simp only [WKb, WKh, ↓reduceIte, Nat.reduceEqDiff, hc, hm, OneG.pt]))))
      all_goals
        refine Tr.famAt (A := oneA) k (by (repeat (first | exact TakeA.here | apply TakeA.next)); done) h0 h1 ?_
        cases hq : (ix gs k).q
        · obtain rfl : q = false := hqi.symm.trans hq
          refine oneS_open hq ?_
          ((try simp only [WKb, WKh, ↓reduceIte, Nat.reduceEqDiff, Nat.reduceAdd, Nat.reduceSub, Int.reduceEq, Int.reduceLT, Int.reduceLE, pl94, hm, OneG.pt]) <;> (repeat' ((first
    | (refine G.tr ?_; first | refine S.a ?_ | refine Tr.brK ?_ ?_ | (refine G.call 59 ?_; first | refine S.c ?_ (h := pcan0_ok) | refine S.c ?_ (h := can_ok)) | (refine G.call 156 ?_; refine S.c ?_ (h := qput_ok ?_ ?_)) | (refine G.call 158 ?_; refine S.c ?_ (h := sput_ok ?_)) | refine S.n fun _ => ?_ | refine S.i fun hix => ?_ | (refine S.g fun hb => ?_; (try simp only [hb])) | (refine S.s (fun hb => ?_) (fun hb => ?_) <;> ((try simp only [hb]) <;> (try (have hp := hb; simp only [WKs] at hp; (try have hq := Int.not_le.2 hp); (try have hq := Int.not_lt.2 hp))))))
    | rintro _ _ ⟨rfl, rfl⟩
    | rintro _ _ ⟨_, rfl, rfl⟩
    | rintro _ _ ⟨_, _, rfl, rfl⟩
    | ((fail_if_success refine G.tr ?_); exact G.prop S.p)
    | fail) <;> (try simp only [WKb, WKh, ↓reduceIte, Nat.reduceEqDiff, hm, OneG.pt]))))
          all_goals
            apply Tr.fin hK ⟨_, _, (by first | (simp [*, intoC, lenOK]; done) | (simp only [WKe, ↓reduceIte, reduceCtorEq, Int.reduceEq, eq_self, *, intoC, lenOK, hc]; done) | (simp only [WKe, ↓reduceIte, reduceCtorEq, Int.reduceEq, *, intoC, lenOK, hc]; rfl)), rfl⟩
            ((try clear hK) <;> (try simp only [WKe, intoG, lenOK, putP, ↓reduceIte, *]) <;> repeat (first | with_reducible exact EntR.done | refine S.e ?_ | (refine S.f ?_ <;> (try simp only [WKe, oneA, ↓reduceIte, *])) | with_reducible apply EntR.ex | refine EntR.drop (F := F) ?_ | refine EntR.drop ?_))
            all_goals first | exact SV.mk none 0 0 | exact SL.mk ⟨none, 0, 0⟩ []
        · obtain rfl : q = true := hqi.symm.trans hq
          refine oneQ_open hq ?_
          ((try simp only [WKb, WKh, ↓reduceIte, Nat.reduceEqDiff, Nat.reduceAdd, Nat.reduceSub, Int.reduceEq, Int.reduceLT, Int.reduceLE, pl94, hm, OneG.pt]) <;> (repeat' ((first
    | (refine G.tr ?_; first | refine S.a ?_ | refine Tr.brK ?_ ?_ | (refine G.call 59 ?_; first | refine S.c ?_ (h := pcan0_ok) | refine S.c ?_ (h := can_ok)) | (refine G.call 156 ?_; refine S.c ?_ (h := qput_ok ?_ ?_)) | (refine G.call 158 ?_; refine S.c ?_ (h := sput_ok ?_)) | refine S.n fun _ => ?_ | refine S.i fun hix => ?_ | (refine S.g fun hb => ?_; (try simp only [hb])) | (refine S.s (fun hb => ?_) (fun hb => ?_) <;> ((try simp only [hb]) <;> (try (have hp := hb; simp only [WKs] at hp; (try have hq := Int.not_le.2 hp); (try have hq := Int.not_lt.2 hp))))))
    | rintro _ _ ⟨rfl, rfl⟩
    | rintro _ _ ⟨_, rfl, rfl⟩
    | rintro _ _ ⟨_, _, rfl, rfl⟩
    | ((fail_if_success refine G.tr ?_); exact G.prop S.p)
    | fail) <;> (try simp only [WKb, WKh, ↓reduceIte, Nat.reduceEqDiff, hm, OneG.pt]))))
          all_goals
            apply Tr.fin hK ⟨_, _, (by first | (simp [*, intoC, lenOK]; done) | (simp only [WKe, ↓reduceIte, reduceCtorEq, Int.reduceEq, eq_self, *, intoC, lenOK, hc]; done) | (simp only [WKe, ↓reduceIte, reduceCtorEq, Int.reduceEq, *, intoC, lenOK, hc]; rfl)), rfl⟩
            ((try clear hK) <;> (try simp only [WKe, intoG, lenOK, putP, qput, ↓reduceIte, *]) <;> repeat (first | with_reducible exact EntR.done | refine S.e ?_ | (refine S.f ?_ <;> (try simp only [oneA, ↓reduceIte, *])) | with_reducible apply EntR.ex | refine EntR.drop (F := F) ?_ | refine EntR.drop ?_))
            all_goals first | exact SV.mk none 0 0 | exact SL.mk ⟨none, 0, 0⟩ []
  · have h' := h
    unfold inR at h'
    have hc : canB gs k q false = false := by simp [canB, h]
    (refine Tr.enter (rs := [.tmp 8]) mixed fn94 rfl (by simp +arith [Try.ntmps94]) fun u => ?_; simp only [cd94, Try.f94])
    ((try simp only [WKb, ↓reduceIte, Nat.reduceEqDiff, Nat.reduceAdd]) <;> (repeat' ((first
    | (refine G.tr ?_; first | refine S.a ?_ | refine Tr.brK ?_ ?_ | (refine G.call 59 ?_; first | refine S.c ?_ (h := pcan0_ok) | refine S.c ?_ (h := can_ok)) | (refine G.call 156 ?_; refine S.c ?_ (h := qput_ok ?_ ?_)) | (refine G.call 158 ?_; refine S.c ?_ (h := sput_ok ?_)) | refine S.n fun _ => ?_ | refine S.i fun hix => ?_ | (refine S.g fun hb => ?_; (try simp only [hb])) | (refine S.s (fun hb => ?_) (fun hb => ?_) <;> ((try simp only [hb]) <;> (try (have hp := hb; simp only [WKs] at hp; (try have hq := Int.not_le.2 hp); (try have hq := Int.not_lt.2 hp))))))
    | rintro _ _ ⟨rfl, rfl⟩
    | rintro _ _ ⟨_, rfl, rfl⟩
    | rintro _ _ ⟨_, _, rfl, rfl⟩
    | ((fail_if_success refine G.tr ?_); exact G.prop S.p)
    | fail) <;> (try simp only [WKb, ↓reduceIte, hc]))))
    all_goals
      (apply Tr.fin hK ⟨⟨none, 0, 0⟩, ⟨none, 0, 0⟩, (by first | (simp [*, intoC]; done) | (simp only [WKe, ↓reduceIte, reduceCtorEq, Int.reduceEq, eq_self, *, intoC, hc]; done) | (simp only [WKe, ↓reduceIte, reduceCtorEq, Int.reduceEq, *, intoC, hc]; rfl)), rfl⟩; ((try clear hK) <;> (try simp only [WKe, intoG, ↓reduceIte, *]) <;> repeat (first | with_reducible exact EntR.done | refine S.e ?_ | (refine S.f ?_ <;> (try simp only [WKe, intoG, hc, ↓reduceIte, reduceCtorEq, Int.reduceEq, *])) | with_reducible apply EntR.ex | refine EntR.drop (F := F) ?_ | refine EntR.drop ?_)))

end Go.Proofs.Ytlmcoiloepoggaa
