import Derived.Test.YtlmcoiloepoggaaTb2
import Derived.Test.YtlmcoiloepoggaaWkM
import Derived.Test.YtlmcoiloepoggaaCF
namespace Go.Proofs.Ytlmcoiloepoggaa
open Go Go.Wk
set_option maxHeartbeats 800000
set_option maxRecDepth 10000
abbrev Msg := SL UInt8
structure SemG where
  b : Nat
  first : Int
  most : Int
  count : Int
instance : Inhabited SemG := ⟨⟨0, 0, 0, 0⟩⟩
def SemG.pt (g : SemG) : Pt := ⟨some g.b⟩
abbrev semA (g : SemG) : Asrt := blk g.b (.cells [.int .i64 g.first, .int .i64 g.most, .int .i64 g.count].toArray 133 (0, 0))
structure FlagG where
  b : Nat
  up : Bool
instance : Inhabited FlagG := ⟨⟨0, false⟩⟩
def FlagG.pt (g : FlagG) : Pt := ⟨some g.b⟩
abbrev flagA (g : FlagG) : Asrt := blk g.b (.cells [.bool g.up].toArray 4 (0, 0))
structure PoolG where
  b : Nat
  size : Int
  depth : Int
  s : SV
  ms : List Msg
instance : Inhabited PoolG := ⟨⟨0, 0, 0, ⟨none, 0, 0⟩, []⟩⟩
def PoolG.pt (g : PoolG) : Pt := ⟨some g.b⟩
abbrev poolA (g : PoolG) : Asrt := sep (blk g.b (.cells [.int .i64 g.size, .int .i64 g.depth, g.s.v].toArray 148 (0, 0))) (sep (sl false g.s.v g.ms) (fzl g.ms))
structure SlateG where
  b : Nat
  size : Int
  m : Msg
  shown : Bool
instance : Inhabited SlateG := ⟨⟨0, 0, default, false⟩⟩
def SlateG.pt (g : SlateG) : Pt := ⟨some g.b⟩
abbrev slateA (g : SlateG) : Asrt := sep (blk g.b (.cells [.int .i64 g.size, g.m.s.v, .bool g.shown].toArray 153 (0, 0))) (Fz.fz g.m)
structure ObW where
  c : PartC
  ss : SV
  fs : SV
  ps : SV
  ls : SV
abbrev obC (b : Nat) (c : PartC) (v1 v2 v3 v4 : Value) : Asrt := blk b (.cells [c.regions.v, c.procs.v, c.ports.v, c.sems.v, .int .i64 c.flags, c.pools.v, c.slates.v, .int .i64 c.cap, .int .i64 c.budget, .int .i64 c.ladder, c.acts.v, v1, v2, v3, v4].toArray 125 (0, 0))
abbrev obB (b : Nat) (o : ObW) : Asrt := obC b o.c o.ss.v o.fs.v o.ps.v o.ls.v
attribute [local irreducible] BrK GenK EGenK EUnitK CallK FnK CallV GuardO GuardC CondW opX opK opKc chkR eqR seqK blkK endL WL WD W LoopW BinK Tr drewK resL PickK NotK NilK ExtrK getK Instr.storeAt Instr.loadAt Instr.fieldAt Instr.indexAt Instr.lookup Instr.mapUpdate Instr.box Instr.alloc Instr.build Instr.buildSlice Instr.makeSlice Instr.makeMap Instr.sliceAt Instr.field Instr.index Instr.makeInterface Instr.typeAssert Builtin.len_ Builtin.append_ Builtin.cap_ Builtin.min_ Builtin.max_ Builtin.copy_ Builtin.clear_ convert binOp mp blk rob sl sep ex fact old

instance : ElT 112 Pt := ⟨⟩
theorem sem_at_in {s : SV} {gs : List SemG} {k : Int} (h0 : 0 ≤ k) (h1 : k < gs.length) : Trip Try.prog 125 [.agg [s.v].toArray, .int .i64 k].toArray [sl false s.v (gs.map SemG.pt)]
    fun v l' => v = .pointer (some ⟨(ix gs k).b, 0, none⟩) ∧ l' = [sl false s.v (gs.map SemG.pt)] := by
  intro F K hK
  simp only [List.cons_append, List.nil_append]
  have hm := ix_map (f := SemG.pt) h0 h1
  have hl : (gs.map SemG.pt).length = gs.length := List.length_map _
  (refine Tr.enter (rs := [.tmp 4]) mixed fn125 rfl (by simp +arith [Try.ntmps125]) fun u => ?_; simp only [cd125, Try.f125])
  ((try simp only [WKb, ↓reduceIte, Nat.reduceEqDiff, Nat.reduceAdd]) <;> (repeat' ((first
    | (refine G.tr ?_; first | refine S.a ?_ | refine Tr.brK ?_ ?_ | refine S.n fun _ => ?_ | refine S.i fun hix => ?_ | (refine S.g fun hb => ?_; (try simp only [hb])) | (refine S.s (fun hb => ?_) (fun hb => ?_) <;> ((try simp only [hb]) <;> (try (have hp := hb; simp only [WKs] at hp; (try have hq := Int.not_le.2 hp); (try have hq := Int.not_lt.2 hp))))))
    | ((fail_if_success refine G.tr ?_); exact G.prop S.p)
    | fail) <;> (try simp only [WKb, ↓reduceIte, Nat.reduceEqDiff, hm]))))
  all_goals
    refine Tr.fin hK ⟨rfl, rfl⟩ ?_
    ((try clear hK) <;> (try simp only [WKe, *]) <;> repeat (first | with_reducible exact EntR.done | refine S.e ?_ | (refine S.f ?_ <;> (try simp only [WKe, ↓reduceIte, reduceCtorEq, Int.reduceEq, *])) | with_reducible apply EntR.ex | refine EntR.drop (F := F) ?_ | refine EntR.drop ?_))
theorem sem_at_out {s : SV} {gs : List SemG} {k : Int} (h : ¬ (0 ≤ k ∧ k < gs.length)) : Trip Try.prog 125 [.agg [s.v].toArray, .int .i64 k].toArray [sl false s.v (gs.map SemG.pt)]
    fun v l' => v = .pointer none ∧ l' = [sl false s.v (gs.map SemG.pt)] := by
  intro F K hK
  simp only [List.cons_append, List.nil_append]
  have hl : (gs.map SemG.pt).length = gs.length := List.length_map _
  (refine Tr.enter (rs := [.tmp 4]) mixed fn125 rfl (by simp +arith [Try.ntmps125]) fun u => ?_; simp only [cd125, Try.f125])
  ((try simp only [WKb, ↓reduceIte, Nat.reduceEqDiff, Nat.reduceAdd]) <;> (repeat' ((first
    | (refine G.tr ?_; first | refine S.a ?_ | refine Tr.brK ?_ ?_ | refine S.n fun _ => ?_ | refine S.i fun hix => ?_ | (refine S.g fun hb => ?_; (try simp only [hb])) | (refine S.s (fun hb => ?_) (fun hb => ?_) <;> ((try simp only [hb]) <;> (try (have hp := hb; simp only [WKs] at hp; (try have hq := Int.not_le.2 hp); (try have hq := Int.not_lt.2 hp))))))
    | ((fail_if_success refine G.tr ?_); exact G.prop S.p)
    | fail) <;> (try simp only [WKb, ↓reduceIte, Nat.reduceEqDiff]))))
  all_goals
    refine Tr.fin hK ⟨rfl, rfl⟩ ?_
    ((try clear hK) <;> (try simp only [WKe, *]) <;> repeat (first | with_reducible exact EntR.done | refine S.e ?_ | (refine S.f ?_ <;> (try simp only [WKe, ↓reduceIte, reduceCtorEq, Int.reduceEq, *])) | with_reducible apply EntR.ex | refine EntR.drop (F := F) ?_ | refine EntR.drop ?_))


theorem sem_in {b : Nat} {o : ObW} {gs : List SemG} {k : Int} (h0 : 0 ≤ k) (h1 : k < gs.length) : Trip Try.prog 69 [.pointer (some ⟨b, 0, none⟩), .int .i64 k].toArray [obB b o, sl false o.ss.v (gs.map SemG.pt)]
    fun v l' => v = .pointer (some ⟨(ix gs k).b, 0, none⟩) ∧ l' = [obB b o, sl false o.ss.v (gs.map SemG.pt)] := by
  intro F K hK
  simp only [List.cons_append, List.nil_append]
  (refine Tr.enter (rs := [.tmp 4]) mixed fn69 rfl (by simp +arith [Try.ntmps69]) fun u => ?_; simp only [cd69, Try.f69])
  ((try simp only [WKb, ↓reduceIte, Nat.reduceEqDiff, Nat.reduceAdd]) <;> (repeat' ((first
    | (refine G.tr ?_; first | refine S.a ?_ | refine Tr.brK ?_ ?_ | (refine G.call 125 ?_; first | refine S.c ?_ (h := sem_at_in (by omega) (by omega)) | refine S.c ?_ (h := sem_at_out (by omega))) | refine S.n fun _ => ?_ | refine S.i fun hix => ?_ | (refine S.g fun hb => ?_; (try simp only [hb])) | (refine S.s (fun hb => ?_) (fun hb => ?_) <;> ((try simp only [hb]) <;> (try (have hp := hb; simp only [WKs] at hp; (try have hq := Int.not_le.2 hp); (try have hq := Int.not_lt.2 hp))))))
    | rintro _ _ ⟨rfl, rfl⟩
    | ((fail_if_success refine G.tr ?_); exact G.prop S.p)
    | fail) <;> (try simp only [WKb, ↓reduceIte, Nat.reduceEqDiff]))))
  all_goals
    refine Tr.fin hK ⟨rfl, rfl⟩ ?_
    ((try clear hK) <;> (try simp only [WKe, *]) <;> repeat (first | with_reducible exact EntR.done | refine S.e ?_ | (refine S.f ?_ <;> (try simp only [WKe, ↓reduceIte, reduceCtorEq, Int.reduceEq, *])) | with_reducible apply EntR.ex | refine EntR.drop (F := F) ?_ | refine EntR.drop ?_))
theorem sem_out {b : Nat} {o : ObW} {gs : List SemG} {k : Int} (h : ¬ (0 ≤ k ∧ k < gs.length)) : Trip Try.prog 69 [.pointer (some ⟨b, 0, none⟩), .int .i64 k].toArray [obB b o, sl false o.ss.v (gs.map SemG.pt)]
    fun v l' => v = .pointer none ∧ l' = [obB b o, sl false o.ss.v (gs.map SemG.pt)] := by
  intro F K hK
  simp only [List.cons_append, List.nil_append]
  (refine Tr.enter (rs := [.tmp 4]) mixed fn69 rfl (by simp +arith [Try.ntmps69]) fun u => ?_; simp only [cd69, Try.f69])
  ((try simp only [WKb, ↓reduceIte, Nat.reduceEqDiff, Nat.reduceAdd]) <;> (repeat' ((first
    | (refine G.tr ?_; first | refine S.a ?_ | refine Tr.brK ?_ ?_ | (refine G.call 125 ?_; first | refine S.c ?_ (h := sem_at_in (by omega) (by omega)) | refine S.c ?_ (h := sem_at_out (by omega))) | refine S.n fun _ => ?_ | refine S.i fun hix => ?_ | (refine S.g fun hb => ?_; (try simp only [hb])) | (refine S.s (fun hb => ?_) (fun hb => ?_) <;> ((try simp only [hb]) <;> (try (have hp := hb; simp only [WKs] at hp; (try have hq := Int.not_le.2 hp); (try have hq := Int.not_lt.2 hp))))))
    | rintro _ _ ⟨rfl, rfl⟩
    | ((fail_if_success refine G.tr ?_); exact G.prop S.p)
    | fail) <;> (try simp only [WKb, ↓reduceIte, Nat.reduceEqDiff]))))
  all_goals
    refine Tr.fin hK ⟨rfl, rfl⟩ ?_
    ((try clear hK) <;> (try simp only [WKe, *]) <;> repeat (first | with_reducible exact EntR.done | refine S.e ?_ | (refine S.f ?_ <;> (try simp only [WKe, ↓reduceIte, reduceCtorEq, Int.reduceEq, *])) | with_reducible apply EntR.ex | refine EntR.drop (F := F) ?_ | refine EntR.drop ?_))
theorem sem_none {k : Int} : Trip Try.prog 69 [.pointer none, .int .i64 k].toArray [] fun v l' => v = .pointer none ∧ l' = [] := by
  intro F K hK
  simp only [List.nil_append]
  (refine Tr.enter (rs := [.tmp 4]) mixed fn69 rfl (by simp +arith [Try.ntmps69]) fun u => ?_; simp only [cd69, Try.f69])
  ((try simp only [WKb, ↓reduceIte, Nat.reduceEqDiff, Nat.reduceAdd]) <;> (repeat' ((first
    | (refine G.tr ?_; first | refine S.a ?_ | refine Tr.brK ?_ ?_ | (refine G.call 125 ?_; first | refine S.c ?_ (h := sem_at_in (by omega) (by omega)) | refine S.c ?_ (h := sem_at_out (by omega))) | refine S.n fun _ => ?_ | refine S.i fun hix => ?_ | (refine S.g fun hb => ?_; (try simp only [hb])) | (refine S.s (fun hb => ?_) (fun hb => ?_) <;> ((try simp only [hb]) <;> (try (have hp := hb; simp only [WKs] at hp; (try have hq := Int.not_le.2 hp); (try have hq := Int.not_lt.2 hp))))))
    | rintro _ _ ⟨rfl, rfl⟩
    | ((fail_if_success refine G.tr ?_); exact G.prop S.p)
    | fail) <;> (try simp only [WKb, WKh, ↓reduceIte, Nat.reduceEqDiff, Nat.reduceAdd, Nat.reduceSub, Int.reduceEq, Int.reduceLT, Int.reduceLE, pl69]))))
  all_goals
    refine Tr.fin hK ⟨rfl, rfl⟩ ?_
    ((try clear hK) <;> (try simp only [WKe, *]) <;> repeat (first | with_reducible exact EntR.done | refine S.e ?_ | (refine S.f ?_ <;> (try simp only [WKe, ↓reduceIte, reduceCtorEq, Int.reduceEq, *])) | with_reducible apply EntR.ex | refine EntR.drop (F := F) ?_ | refine EntR.drop ?_))




instance : ElT 115 Pt := ⟨⟩
theorem flag_at_in {s : SV} {gs : List FlagG} {k : Int} (h0 : 0 ≤ k) (h1 : k < gs.length) : Trip Try.prog 138 [.agg [s.v].toArray, .int .i64 k].toArray [sl false s.v (gs.map FlagG.pt)]
    fun v l' => v = .pointer (some ⟨(ix gs k).b, 0, none⟩) ∧ l' = [sl false s.v (gs.map FlagG.pt)] := by
  intro F K hK
  simp only [List.cons_append, List.nil_append]
  have hm := ix_map (f := FlagG.pt) h0 h1
  have hl : (gs.map FlagG.pt).length = gs.length := List.length_map _
  (refine Tr.enter (rs := [.tmp 4]) mixed fn138 rfl (by simp +arith [Try.ntmps138]) fun u => ?_; simp only [cd138, Try.f138])
  ((try simp only [WKb, ↓reduceIte, Nat.reduceEqDiff, Nat.reduceAdd]) <;> (repeat' ((first
    | (refine G.tr ?_; first | refine S.a ?_ | refine Tr.brK ?_ ?_ | refine S.n fun _ => ?_ | refine S.i fun hix => ?_ | (refine S.g fun hb => ?_; (try simp only [hb])) | (refine S.s (fun hb => ?_) (fun hb => ?_) <;> ((try simp only [hb]) <;> (try (have hp := hb; simp only [WKs] at hp; (try have hq := Int.not_le.2 hp); (try have hq := Int.not_lt.2 hp))))))
    | ((fail_if_success refine G.tr ?_); exact G.prop S.p)
    | fail) <;> (try simp only [WKb, ↓reduceIte, Nat.reduceEqDiff, hm]))))
  all_goals
    refine Tr.fin hK ⟨rfl, rfl⟩ ?_
    ((try clear hK) <;> (try simp only [WKe, *]) <;> repeat (first | with_reducible exact EntR.done | refine S.e ?_ | (refine S.f ?_ <;> (try simp only [WKe, ↓reduceIte, reduceCtorEq, Int.reduceEq, *])) | with_reducible apply EntR.ex | refine EntR.drop (F := F) ?_ | refine EntR.drop ?_))
theorem flag_at_out {s : SV} {gs : List FlagG} {k : Int} (h : ¬ (0 ≤ k ∧ k < gs.length)) : Trip Try.prog 138 [.agg [s.v].toArray, .int .i64 k].toArray [sl false s.v (gs.map FlagG.pt)]
    fun v l' => v = .pointer none ∧ l' = [sl false s.v (gs.map FlagG.pt)] := by
  intro F K hK
  simp only [List.cons_append, List.nil_append]
  have hl : (gs.map FlagG.pt).length = gs.length := List.length_map _
  (refine Tr.enter (rs := [.tmp 4]) mixed fn138 rfl (by simp +arith [Try.ntmps138]) fun u => ?_; simp only [cd138, Try.f138])
  ((try simp only [WKb, ↓reduceIte, Nat.reduceEqDiff, Nat.reduceAdd]) <;> (repeat' ((first
    | (refine G.tr ?_; first | refine S.a ?_ | refine Tr.brK ?_ ?_ | refine S.n fun _ => ?_ | refine S.i fun hix => ?_ | (refine S.g fun hb => ?_; (try simp only [hb])) | (refine S.s (fun hb => ?_) (fun hb => ?_) <;> ((try simp only [hb]) <;> (try (have hp := hb; simp only [WKs] at hp; (try have hq := Int.not_le.2 hp); (try have hq := Int.not_lt.2 hp))))))
    | ((fail_if_success refine G.tr ?_); exact G.prop S.p)
    | fail) <;> (try simp only [WKb, ↓reduceIte, Nat.reduceEqDiff]))))
  all_goals
    refine Tr.fin hK ⟨rfl, rfl⟩ ?_
    ((try clear hK) <;> (try simp only [WKe, *]) <;> repeat (first | with_reducible exact EntR.done | refine S.e ?_ | (refine S.f ?_ <;> (try simp only [WKe, ↓reduceIte, reduceCtorEq, Int.reduceEq, *])) | with_reducible apply EntR.ex | refine EntR.drop (F := F) ?_ | refine EntR.drop ?_))


theorem flag_in {b : Nat} {o : ObW} {gs : List FlagG} {k : Int} (h0 : 0 ≤ k) (h1 : k < gs.length) : Trip Try.prog 124 [.pointer (some ⟨b, 0, none⟩), .int .i64 k].toArray [obB b o, sl false o.fs.v (gs.map FlagG.pt)]
    fun v l' => v = .pointer (some ⟨(ix gs k).b, 0, none⟩) ∧ l' = [obB b o, sl false o.fs.v (gs.map FlagG.pt)] := by
  intro F K hK
  simp only [List.cons_append, List.nil_append]
  (refine Tr.enter (rs := [.tmp 4]) mixed fn124 rfl (by simp +arith [Try.ntmps124]) fun u => ?_; simp only [cd124, Try.f124])
  ((try simp only [WKb, ↓reduceIte, Nat.reduceEqDiff, Nat.reduceAdd]) <;> (repeat' ((first
    | (refine G.tr ?_; first | refine S.a ?_ | refine Tr.brK ?_ ?_ | (refine G.call 138 ?_; first | refine S.c ?_ (h := flag_at_in (by omega) (by omega)) | refine S.c ?_ (h := flag_at_out (by omega))) | refine S.n fun _ => ?_ | refine S.i fun hix => ?_ | (refine S.g fun hb => ?_; (try simp only [hb])) | (refine S.s (fun hb => ?_) (fun hb => ?_) <;> ((try simp only [hb]) <;> (try (have hp := hb; simp only [WKs] at hp; (try have hq := Int.not_le.2 hp); (try have hq := Int.not_lt.2 hp))))))
    | rintro _ _ ⟨rfl, rfl⟩
    | ((fail_if_success refine G.tr ?_); exact G.prop S.p)
    | fail) <;> (try simp only [WKb, ↓reduceIte, Nat.reduceEqDiff]))))
  all_goals
    refine Tr.fin hK ⟨rfl, rfl⟩ ?_
    ((try clear hK) <;> (try simp only [WKe, *]) <;> repeat (first | with_reducible exact EntR.done | refine S.e ?_ | (refine S.f ?_ <;> (try simp only [WKe, ↓reduceIte, reduceCtorEq, Int.reduceEq, *])) | with_reducible apply EntR.ex | refine EntR.drop (F := F) ?_ | refine EntR.drop ?_))
theorem flag_out {b : Nat} {o : ObW} {gs : List FlagG} {k : Int} (h : ¬ (0 ≤ k ∧ k < gs.length)) : Trip Try.prog 124 [.pointer (some ⟨b, 0, none⟩), .int .i64 k].toArray [obB b o, sl false o.fs.v (gs.map FlagG.pt)]
    fun v l' => v = .pointer none ∧ l' = [obB b o, sl false o.fs.v (gs.map FlagG.pt)] := by
  intro F K hK
  simp only [List.cons_append, List.nil_append]
  (refine Tr.enter (rs := [.tmp 4]) mixed fn124 rfl (by simp +arith [Try.ntmps124]) fun u => ?_; simp only [cd124, Try.f124])
  ((try simp only [WKb, ↓reduceIte, Nat.reduceEqDiff, Nat.reduceAdd]) <;> (repeat' ((first
    | (refine G.tr ?_; first | refine S.a ?_ | refine Tr.brK ?_ ?_ | (refine G.call 138 ?_; first | refine S.c ?_ (h := flag_at_in (by omega) (by omega)) | refine S.c ?_ (h := flag_at_out (by omega))) | refine S.n fun _ => ?_ | refine S.i fun hix => ?_ | (refine S.g fun hb => ?_; (try simp only [hb])) | (refine S.s (fun hb => ?_) (fun hb => ?_) <;> ((try simp only [hb]) <;> (try (have hp := hb; simp only [WKs] at hp; (try have hq := Int.not_le.2 hp); (try have hq := Int.not_lt.2 hp))))))
    | rintro _ _ ⟨rfl, rfl⟩
    | ((fail_if_success refine G.tr ?_); exact G.prop S.p)
    | fail) <;> (try simp only [WKb, ↓reduceIte, Nat.reduceEqDiff]))))
  all_goals
    refine Tr.fin hK ⟨rfl, rfl⟩ ?_
    ((try clear hK) <;> (try simp only [WKe, *]) <;> repeat (first | with_reducible exact EntR.done | refine S.e ?_ | (refine S.f ?_ <;> (try simp only [WKe, ↓reduceIte, reduceCtorEq, Int.reduceEq, *])) | with_reducible apply EntR.ex | refine EntR.drop (F := F) ?_ | refine EntR.drop ?_))
theorem flag_none {k : Int} : Trip Try.prog 124 [.pointer none, .int .i64 k].toArray [] fun v l' => v = .pointer none ∧ l' = [] := by
  intro F K hK
  simp only [List.nil_append]
  (refine Tr.enter (rs := [.tmp 4]) mixed fn124 rfl (by simp +arith [Try.ntmps124]) fun u => ?_; simp only [cd124, Try.f124])
  ((try simp only [WKb, ↓reduceIte, Nat.reduceEqDiff, Nat.reduceAdd]) <;> (repeat' ((first
    | (refine G.tr ?_; first | refine S.a ?_ | refine Tr.brK ?_ ?_ | (refine G.call 138 ?_; first | refine S.c ?_ (h := flag_at_in (by omega) (by omega)) | refine S.c ?_ (h := flag_at_out (by omega))) | refine S.n fun _ => ?_ | refine S.i fun hix => ?_ | (refine S.g fun hb => ?_; (try simp only [hb])) | (refine S.s (fun hb => ?_) (fun hb => ?_) <;> ((try simp only [hb]) <;> (try (have hp := hb; simp only [WKs] at hp; (try have hq := Int.not_le.2 hp); (try have hq := Int.not_lt.2 hp))))))
    | rintro _ _ ⟨rfl, rfl⟩
    | ((fail_if_success refine G.tr ?_); exact G.prop S.p)
    | fail) <;> (try simp only [WKb, WKh, ↓reduceIte, Nat.reduceEqDiff, Nat.reduceAdd, Nat.reduceSub, Int.reduceEq, Int.reduceLT, Int.reduceLE, pl124]))))
  all_goals
    refine Tr.fin hK ⟨rfl, rfl⟩ ?_
    ((try clear hK) <;> (try simp only [WKe, *]) <;> repeat (first | with_reducible exact EntR.done | refine S.e ?_ | (refine S.f ?_ <;> (try simp only [WKe, ↓reduceIte, reduceCtorEq, Int.reduceEq, *])) | with_reducible apply EntR.ex | refine EntR.drop (F := F) ?_ | refine EntR.drop ?_))




instance : ElT 118 Pt := ⟨⟩
theorem pool_at_in {s : SV} {gs : List PoolG} {k : Int} (h0 : 0 ≤ k) (h1 : k < gs.length) : Trip Try.prog 129 [.agg [s.v].toArray, .int .i64 k].toArray [sl false s.v (gs.map PoolG.pt)]
    fun v l' => v = .pointer (some ⟨(ix gs k).b, 0, none⟩) ∧ l' = [sl false s.v (gs.map PoolG.pt)] := by
  intro F K hK
  simp only [List.cons_append, List.nil_append]
  have hm := ix_map (f := PoolG.pt) h0 h1
  have hl : (gs.map PoolG.pt).length = gs.length := List.length_map _
  (refine Tr.enter (rs := [.tmp 4]) mixed fn129 rfl (by simp +arith [Try.ntmps129]) fun u => ?_; simp only [cd129, Try.f129])
  ((try simp only [WKb, ↓reduceIte, Nat.reduceEqDiff, Nat.reduceAdd]) <;> (repeat' ((first
    | (refine G.tr ?_; first | refine S.a ?_ | refine Tr.brK ?_ ?_ | refine S.n fun _ => ?_ | refine S.i fun hix => ?_ | (refine S.g fun hb => ?_; (try simp only [hb])) | (refine S.s (fun hb => ?_) (fun hb => ?_) <;> ((try simp only [hb]) <;> (try (have hp := hb; simp only [WKs] at hp; (try have hq := Int.not_le.2 hp); (try have hq := Int.not_lt.2 hp))))))
    | ((fail_if_success refine G.tr ?_); exact G.prop S.p)
    | fail) <;> (try simp only [WKb, ↓reduceIte, Nat.reduceEqDiff, hm]))))
  all_goals
    refine Tr.fin hK ⟨rfl, rfl⟩ ?_
    ((try clear hK) <;> (try simp only [WKe, *]) <;> repeat (first | with_reducible exact EntR.done | refine S.e ?_ | (refine S.f ?_ <;> (try simp only [WKe, ↓reduceIte, reduceCtorEq, Int.reduceEq, *])) | with_reducible apply EntR.ex | refine EntR.drop (F := F) ?_ | refine EntR.drop ?_))
theorem pool_at_out {s : SV} {gs : List PoolG} {k : Int} (h : ¬ (0 ≤ k ∧ k < gs.length)) : Trip Try.prog 129 [.agg [s.v].toArray, .int .i64 k].toArray [sl false s.v (gs.map PoolG.pt)]
    fun v l' => v = .pointer none ∧ l' = [sl false s.v (gs.map PoolG.pt)] := by
  intro F K hK
  simp only [List.cons_append, List.nil_append]
  have hl : (gs.map PoolG.pt).length = gs.length := List.length_map _
  (refine Tr.enter (rs := [.tmp 4]) mixed fn129 rfl (by simp +arith [Try.ntmps129]) fun u => ?_; simp only [cd129, Try.f129])
  ((try simp only [WKb, ↓reduceIte, Nat.reduceEqDiff, Nat.reduceAdd]) <;> (repeat' ((first
    | (refine G.tr ?_; first | refine S.a ?_ | refine Tr.brK ?_ ?_ | refine S.n fun _ => ?_ | refine S.i fun hix => ?_ | (refine S.g fun hb => ?_; (try simp only [hb])) | (refine S.s (fun hb => ?_) (fun hb => ?_) <;> ((try simp only [hb]) <;> (try (have hp := hb; simp only [WKs] at hp; (try have hq := Int.not_le.2 hp); (try have hq := Int.not_lt.2 hp))))))
    | ((fail_if_success refine G.tr ?_); exact G.prop S.p)
    | fail) <;> (try simp only [WKb, ↓reduceIte, Nat.reduceEqDiff]))))
  all_goals
    refine Tr.fin hK ⟨rfl, rfl⟩ ?_
    ((try clear hK) <;> (try simp only [WKe, *]) <;> repeat (first | with_reducible exact EntR.done | refine S.e ?_ | (refine S.f ?_ <;> (try simp only [WKe, ↓reduceIte, reduceCtorEq, Int.reduceEq, *])) | with_reducible apply EntR.ex | refine EntR.drop (F := F) ?_ | refine EntR.drop ?_))


theorem pool_in {b : Nat} {o : ObW} {gs : List PoolG} {k : Int} (h0 : 0 ≤ k) (h1 : k < gs.length) : Trip Try.prog 83 [.pointer (some ⟨b, 0, none⟩), .int .i64 k].toArray [obB b o, sl false o.ps.v (gs.map PoolG.pt)]
    fun v l' => v = .pointer (some ⟨(ix gs k).b, 0, none⟩) ∧ l' = [obB b o, sl false o.ps.v (gs.map PoolG.pt)] := by
  intro F K hK
  simp only [List.cons_append, List.nil_append]
  (refine Tr.enter (rs := [.tmp 4]) mixed fn83 rfl (by simp +arith [Try.ntmps83]) fun u => ?_; simp only [cd83, Try.f83])
  ((try simp only [WKb, ↓reduceIte, Nat.reduceEqDiff, Nat.reduceAdd]) <;> (repeat' ((first
    | (refine G.tr ?_; first | refine S.a ?_ | refine Tr.brK ?_ ?_ | (refine G.call 129 ?_; first | refine S.c ?_ (h := pool_at_in (by omega) (by omega)) | refine S.c ?_ (h := pool_at_out (by omega))) | refine S.n fun _ => ?_ | refine S.i fun hix => ?_ | (refine S.g fun hb => ?_; (try simp only [hb])) | (refine S.s (fun hb => ?_) (fun hb => ?_) <;> ((try simp only [hb]) <;> (try (have hp := hb; simp only [WKs] at hp; (try have hq := Int.not_le.2 hp); (try have hq := Int.not_lt.2 hp))))))
    | rintro _ _ ⟨rfl, rfl⟩
    | ((fail_if_success refine G.tr ?_); exact G.prop S.p)
    | fail) <;> (try simp only [WKb, ↓reduceIte, Nat.reduceEqDiff]))))
  all_goals
    refine Tr.fin hK ⟨rfl, rfl⟩ ?_
    ((try clear hK) <;> (try simp only [WKe, *]) <;> repeat (first | with_reducible exact EntR.done | refine S.e ?_ | (refine S.f ?_ <;> (try simp only [WKe, ↓reduceIte, reduceCtorEq, Int.reduceEq, *])) | with_reducible apply EntR.ex | refine EntR.drop (F := F) ?_ | refine EntR.drop ?_))
theorem pool_out {b : Nat} {o : ObW} {gs : List PoolG} {k : Int} (h : ¬ (0 ≤ k ∧ k < gs.length)) : Trip Try.prog 83 [.pointer (some ⟨b, 0, none⟩), .int .i64 k].toArray [obB b o, sl false o.ps.v (gs.map PoolG.pt)]
    fun v l' => v = .pointer none ∧ l' = [obB b o, sl false o.ps.v (gs.map PoolG.pt)] := by
  intro F K hK
  simp only [List.cons_append, List.nil_append]
  (refine Tr.enter (rs := [.tmp 4]) mixed fn83 rfl (by simp +arith [Try.ntmps83]) fun u => ?_; simp only [cd83, Try.f83])
  ((try simp only [WKb, ↓reduceIte, Nat.reduceEqDiff, Nat.reduceAdd]) <;> (repeat' ((first
    | (refine G.tr ?_; first | refine S.a ?_ | refine Tr.brK ?_ ?_ | (refine G.call 129 ?_; first | refine S.c ?_ (h := pool_at_in (by omega) (by omega)) | refine S.c ?_ (h := pool_at_out (by omega))) | refine S.n fun _ => ?_ | refine S.i fun hix => ?_ | (refine S.g fun hb => ?_; (try simp only [hb])) | (refine S.s (fun hb => ?_) (fun hb => ?_) <;> ((try simp only [hb]) <;> (try (have hp := hb; simp only [WKs] at hp; (try have hq := Int.not_le.2 hp); (try have hq := Int.not_lt.2 hp))))))
    | rintro _ _ ⟨rfl, rfl⟩
    | ((fail_if_success refine G.tr ?_); exact G.prop S.p)
    | fail) <;> (try simp only [WKb, ↓reduceIte, Nat.reduceEqDiff]))))
  all_goals
    refine Tr.fin hK ⟨rfl, rfl⟩ ?_
    ((try clear hK) <;> (try simp only [WKe, *]) <;> repeat (first | with_reducible exact EntR.done | refine S.e ?_ | (refine S.f ?_ <;> (try simp only [WKe, ↓reduceIte, reduceCtorEq, Int.reduceEq, *])) | with_reducible apply EntR.ex | refine EntR.drop (F := F) ?_ | refine EntR.drop ?_))
theorem pool_none {k : Int} : Trip Try.prog 83 [.pointer none, .int .i64 k].toArray [] fun v l' => v = .pointer none ∧ l' = [] := by
  intro F K hK
  simp only [List.nil_append]
  (refine Tr.enter (rs := [.tmp 4]) mixed fn83 rfl (by simp +arith [Try.ntmps83]) fun u => ?_; simp only [cd83, Try.f83])
  ((try simp only [WKb, ↓reduceIte, Nat.reduceEqDiff, Nat.reduceAdd]) <;> (repeat' ((first
    | (refine G.tr ?_; first | refine S.a ?_ | refine Tr.brK ?_ ?_ | (refine G.call 129 ?_; first | refine S.c ?_ (h := pool_at_in (by omega) (by omega)) | refine S.c ?_ (h := pool_at_out (by omega))) | refine S.n fun _ => ?_ | refine S.i fun hix => ?_ | (refine S.g fun hb => ?_; (try simp only [hb])) | (refine S.s (fun hb => ?_) (fun hb => ?_) <;> ((try simp only [hb]) <;> (try (have hp := hb; simp only [WKs] at hp; (try have hq := Int.not_le.2 hp); (try have hq := Int.not_lt.2 hp))))))
    | rintro _ _ ⟨rfl, rfl⟩
    | ((fail_if_success refine G.tr ?_); exact G.prop S.p)
    | fail) <;> (try simp only [WKb, WKh, ↓reduceIte, Nat.reduceEqDiff, Nat.reduceAdd, Nat.reduceSub, Int.reduceEq, Int.reduceLT, Int.reduceLE, pl83]))))
  all_goals
    refine Tr.fin hK ⟨rfl, rfl⟩ ?_
    ((try clear hK) <;> (try simp only [WKe, *]) <;> repeat (first | with_reducible exact EntR.done | refine S.e ?_ | (refine S.f ?_ <;> (try simp only [WKe, ↓reduceIte, reduceCtorEq, Int.reduceEq, *])) | with_reducible apply EntR.ex | refine EntR.drop (F := F) ?_ | refine EntR.drop ?_))




instance : ElT 121 Pt := ⟨⟩
theorem slate_at_in {s : SV} {gs : List SlateG} {k : Int} (h0 : 0 ≤ k) (h1 : k < gs.length) : Trip Try.prog 130 [.agg [s.v].toArray, .int .i64 k].toArray [sl false s.v (gs.map SlateG.pt)]
    fun v l' => v = .pointer (some ⟨(ix gs k).b, 0, none⟩) ∧ l' = [sl false s.v (gs.map SlateG.pt)] := by
  intro F K hK
  simp only [List.cons_append, List.nil_append]
  have hm := ix_map (f := SlateG.pt) h0 h1
  have hl : (gs.map SlateG.pt).length = gs.length := List.length_map _
  (refine Tr.enter (rs := [.tmp 4]) mixed fn130 rfl (by simp +arith [Try.ntmps130]) fun u => ?_; simp only [cd130, Try.f130])
  ((try simp only [WKb, ↓reduceIte, Nat.reduceEqDiff, Nat.reduceAdd]) <;> (repeat' ((first
    | (refine G.tr ?_; first | refine S.a ?_ | refine Tr.brK ?_ ?_ | refine S.n fun _ => ?_ | refine S.i fun hix => ?_ | (refine S.g fun hb => ?_; (try simp only [hb])) | (refine S.s (fun hb => ?_) (fun hb => ?_) <;> ((try simp only [hb]) <;> (try (have hp := hb; simp only [WKs] at hp; (try have hq := Int.not_le.2 hp); (try have hq := Int.not_lt.2 hp))))))
    | ((fail_if_success refine G.tr ?_); exact G.prop S.p)
    | fail) <;> (try simp only [WKb, ↓reduceIte, Nat.reduceEqDiff, hm]))))
  all_goals
    refine Tr.fin hK ⟨rfl, rfl⟩ ?_
    ((try clear hK) <;> (try simp only [WKe, *]) <;> repeat (first | with_reducible exact EntR.done | refine S.e ?_ | (refine S.f ?_ <;> (try simp only [WKe, ↓reduceIte, reduceCtorEq, Int.reduceEq, *])) | with_reducible apply EntR.ex | refine EntR.drop (F := F) ?_ | refine EntR.drop ?_))
theorem slate_at_out {s : SV} {gs : List SlateG} {k : Int} (h : ¬ (0 ≤ k ∧ k < gs.length)) : Trip Try.prog 130 [.agg [s.v].toArray, .int .i64 k].toArray [sl false s.v (gs.map SlateG.pt)]
    fun v l' => v = .pointer none ∧ l' = [sl false s.v (gs.map SlateG.pt)] := by
  intro F K hK
  simp only [List.cons_append, List.nil_append]
  have hl : (gs.map SlateG.pt).length = gs.length := List.length_map _
  (refine Tr.enter (rs := [.tmp 4]) mixed fn130 rfl (by simp +arith [Try.ntmps130]) fun u => ?_; simp only [cd130, Try.f130])
  ((try simp only [WKb, ↓reduceIte, Nat.reduceEqDiff, Nat.reduceAdd]) <;> (repeat' ((first
    | (refine G.tr ?_; first | refine S.a ?_ | refine Tr.brK ?_ ?_ | refine S.n fun _ => ?_ | refine S.i fun hix => ?_ | (refine S.g fun hb => ?_; (try simp only [hb])) | (refine S.s (fun hb => ?_) (fun hb => ?_) <;> ((try simp only [hb]) <;> (try (have hp := hb; simp only [WKs] at hp; (try have hq := Int.not_le.2 hp); (try have hq := Int.not_lt.2 hp))))))
    | ((fail_if_success refine G.tr ?_); exact G.prop S.p)
    | fail) <;> (try simp only [WKb, ↓reduceIte, Nat.reduceEqDiff]))))
  all_goals
    refine Tr.fin hK ⟨rfl, rfl⟩ ?_
    ((try clear hK) <;> (try simp only [WKe, *]) <;> repeat (first | with_reducible exact EntR.done | refine S.e ?_ | (refine S.f ?_ <;> (try simp only [WKe, ↓reduceIte, reduceCtorEq, Int.reduceEq, *])) | with_reducible apply EntR.ex | refine EntR.drop (F := F) ?_ | refine EntR.drop ?_))


theorem slate_in {b : Nat} {o : ObW} {gs : List SlateG} {k : Int} (h0 : 0 ≤ k) (h1 : k < gs.length) : Trip Try.prog 86 [.pointer (some ⟨b, 0, none⟩), .int .i64 k].toArray [obB b o, sl false o.ls.v (gs.map SlateG.pt)]
    fun v l' => v = .pointer (some ⟨(ix gs k).b, 0, none⟩) ∧ l' = [obB b o, sl false o.ls.v (gs.map SlateG.pt)] := by
  intro F K hK
  simp only [List.cons_append, List.nil_append]
  (refine Tr.enter (rs := [.tmp 4]) mixed fn86 rfl (by simp +arith [Try.ntmps86]) fun u => ?_; simp only [cd86, Try.f86])
  ((try simp only [WKb, ↓reduceIte, Nat.reduceEqDiff, Nat.reduceAdd]) <;> (repeat' ((first
    | (refine G.tr ?_; first | refine S.a ?_ | refine Tr.brK ?_ ?_ | (refine G.call 130 ?_; first | refine S.c ?_ (h := slate_at_in (by omega) (by omega)) | refine S.c ?_ (h := slate_at_out (by omega))) | refine S.n fun _ => ?_ | refine S.i fun hix => ?_ | (refine S.g fun hb => ?_; (try simp only [hb])) | (refine S.s (fun hb => ?_) (fun hb => ?_) <;> ((try simp only [hb]) <;> (try (have hp := hb; simp only [WKs] at hp; (try have hq := Int.not_le.2 hp); (try have hq := Int.not_lt.2 hp))))))
    | rintro _ _ ⟨rfl, rfl⟩
    | ((fail_if_success refine G.tr ?_); exact G.prop S.p)
    | fail) <;> (try simp only [WKb, ↓reduceIte, Nat.reduceEqDiff]))))
  all_goals
    refine Tr.fin hK ⟨rfl, rfl⟩ ?_
    ((try clear hK) <;> (try simp only [WKe, *]) <;> repeat (first | with_reducible exact EntR.done | refine S.e ?_ | (refine S.f ?_ <;> (try simp only [WKe, ↓reduceIte, reduceCtorEq, Int.reduceEq, *])) | with_reducible apply EntR.ex | refine EntR.drop (F := F) ?_ | refine EntR.drop ?_))
theorem slate_out {b : Nat} {o : ObW} {gs : List SlateG} {k : Int} (h : ¬ (0 ≤ k ∧ k < gs.length)) : Trip Try.prog 86 [.pointer (some ⟨b, 0, none⟩), .int .i64 k].toArray [obB b o, sl false o.ls.v (gs.map SlateG.pt)]
    fun v l' => v = .pointer none ∧ l' = [obB b o, sl false o.ls.v (gs.map SlateG.pt)] := by
  intro F K hK
  simp only [List.cons_append, List.nil_append]
  (refine Tr.enter (rs := [.tmp 4]) mixed fn86 rfl (by simp +arith [Try.ntmps86]) fun u => ?_; simp only [cd86, Try.f86])
  ((try simp only [WKb, ↓reduceIte, Nat.reduceEqDiff, Nat.reduceAdd]) <;> (repeat' ((first
    | (refine G.tr ?_; first | refine S.a ?_ | refine Tr.brK ?_ ?_ | (refine G.call 130 ?_; first | refine S.c ?_ (h := slate_at_in (by omega) (by omega)) | refine S.c ?_ (h := slate_at_out (by omega))) | refine S.n fun _ => ?_ | refine S.i fun hix => ?_ | (refine S.g fun hb => ?_; (try simp only [hb])) | (refine S.s (fun hb => ?_) (fun hb => ?_) <;> ((try simp only [hb]) <;> (try (have hp := hb; simp only [WKs] at hp; (try have hq := Int.not_le.2 hp); (try have hq := Int.not_lt.2 hp))))))
    | rintro _ _ ⟨rfl, rfl⟩
    | ((fail_if_success refine G.tr ?_); exact G.prop S.p)
    | fail) <;> (try simp only [WKb, ↓reduceIte, Nat.reduceEqDiff]))))
  all_goals
    refine Tr.fin hK ⟨rfl, rfl⟩ ?_
    ((try clear hK) <;> (try simp only [WKe, *]) <;> repeat (first | with_reducible exact EntR.done | refine S.e ?_ | (refine S.f ?_ <;> (try simp only [WKe, ↓reduceIte, reduceCtorEq, Int.reduceEq, *])) | with_reducible apply EntR.ex | refine EntR.drop (F := F) ?_ | refine EntR.drop ?_))
theorem slate_none {k : Int} : Trip Try.prog 86 [.pointer none, .int .i64 k].toArray [] fun v l' => v = .pointer none ∧ l' = [] := by
  intro F K hK
  simp only [List.nil_append]
  (refine Tr.enter (rs := [.tmp 4]) mixed fn86 rfl (by simp +arith [Try.ntmps86]) fun u => ?_; simp only [cd86, Try.f86])
  ((try simp only [WKb, ↓reduceIte, Nat.reduceEqDiff, Nat.reduceAdd]) <;> (repeat' ((first
    | (refine G.tr ?_; first | refine S.a ?_ | refine Tr.brK ?_ ?_ | (refine G.call 130 ?_; first | refine S.c ?_ (h := slate_at_in (by omega) (by omega)) | refine S.c ?_ (h := slate_at_out (by omega))) | refine S.n fun _ => ?_ | refine S.i fun hix => ?_ | (refine S.g fun hb => ?_; (try simp only [hb])) | (refine S.s (fun hb => ?_) (fun hb => ?_) <;> ((try simp only [hb]) <;> (try (have hp := hb; simp only [WKs] at hp; (try have hq := Int.not_le.2 hp); (try have hq := Int.not_lt.2 hp))))))
    | rintro _ _ ⟨rfl, rfl⟩
    | ((fail_if_success refine G.tr ?_); exact G.prop S.p)
    | fail) <;> (try simp only [WKb, WKh, ↓reduceIte, Nat.reduceEqDiff, Nat.reduceAdd, Nat.reduceSub, Int.reduceEq, Int.reduceLT, Int.reduceLE, pl86]))))
  all_goals
    refine Tr.fin hK ⟨rfl, rfl⟩ ?_
    ((try clear hK) <;> (try simp only [WKe, *]) <;> repeat (first | with_reducible exact EntR.done | refine S.e ?_ | (refine S.f ?_ <;> (try simp only [WKe, ↓reduceIte, reduceCtorEq, Int.reduceEq, *])) | with_reducible apply EntR.ex | refine EntR.drop (F := F) ?_ | refine EntR.drop ?_))



end Go.Proofs.Ytlmcoiloepoggaa
