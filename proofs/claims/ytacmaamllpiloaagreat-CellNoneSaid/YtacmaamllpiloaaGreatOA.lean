import Derived.Test.YtacmaamllpiloaaGreatZ16
import Derived.Test.YtacmaamllpiloaaGreatZ06
import Derived.Test.YtacmaamllpiloaaGreatCF
namespace Go.Proofs.YtacmaamllpiloaaGreat
open Go Go.Wk
set_option maxHeartbeats 800000
set_option maxRecDepth 10000
abbrev Msg := SL UInt8
structure SemG where
  b : Nat
  first : Int
  most : Int
  count : Int
instance : Inhabited SemG := ⟨⟨0, 0, 0, 0⟩⟩
def SemG.pt (g : SemG) : Pt := ⟨some g.b⟩
abbrev semA (g : SemG) : Asrt := blk g.b (.cells [.int .i64 g.first, .int .i64 g.most, .int .i64 g.count].toArray 231 (0, 0))
structure FlagG where
  b : Nat
  up : Bool
instance : Inhabited FlagG := ⟨⟨0, false⟩⟩
def FlagG.pt (g : FlagG) : Pt := ⟨some g.b⟩
abbrev flagA (g : FlagG) : Asrt := blk g.b (.cells [.bool g.up].toArray 4 (0, 0))
structure PoolG where
  b : Nat
  size : Int
  depth : Int
  s : SV
  ms : List Msg
instance : Inhabited PoolG := ⟨⟨0, 0, 0, ⟨none, 0, 0⟩, []⟩⟩
def PoolG.pt (g : PoolG) : Pt := ⟨some g.b⟩
abbrev poolA (g : PoolG) : Asrt := sep (blk g.b (.cells [.int .i64 g.size, .int .i64 g.depth, g.s.v].toArray 239 (0, 0))) (sep (sl false g.s.v g.ms) (fzl g.ms))
structure SlateG where
  b : Nat
  size : Int
  m : Msg
  shown : Bool
instance : Inhabited SlateG := ⟨⟨0, 0, default, false⟩⟩
def SlateG.pt (g : SlateG) : Pt := ⟨some g.b⟩
abbrev slateA (g : SlateG) : Asrt := sep (blk g.b (.cells [.int .i64 g.size, g.m.s.v, .bool g.shown].toArray 244 (0, 0))) (Fz.fz g.m)
structure ObW where
  c : PartC
  ss : SV
  fs : SV
  ps : SV
  ls : SV
abbrev obC (b : Nat) (c : PartC) (v1 v2 v3 v4 : Value) : Asrt := blk b (.cells [c.regions.v, c.procs.v, c.ports.v, c.sems.v, .int .i64 c.flags, c.pools.v, c.slates.v, .int .i64 c.cap, .int .i64 c.budget, .int .i64 c.ladder, c.acts.v, v1, v2, v3, v4].toArray 193 (0, 0))
abbrev obB (b : Nat) (o : ObW) : Asrt := obC b o.c o.ss.v o.fs.v o.ps.v o.ls.v
attribute [local irreducible] BrK GenK EGenK EUnitK CallK FnK CallV GuardO GuardC CondW opX opK opKc chkR eqR seqK blkK endL WL WD W LoopW BinK Tr drewK resL PickK NotK NilK ExtrK getK Instr.storeAt Instr.loadAt Instr.fieldAt Instr.indexAt Instr.lookup Instr.mapUpdate Instr.box Instr.alloc Instr.build Instr.buildSlice Instr.makeSlice Instr.makeMap Instr.sliceAt Instr.field Instr.index Instr.makeInterface Instr.typeAssert Builtin.len_ Builtin.append_ Builtin.cap_ Builtin.min_ Builtin.max_ Builtin.copy_ Builtin.clear_ convert binOp mp blk rob sl sep ex fact old
instance : ElT 180 Pt := ⟨⟩
theorem sem_at_in {s : SV} {gs : List SemG} {k : Int} (h0 : 0 ≤ k) (h1 : k < gs.length) : Trip Tryz.prog 247 [.agg [s.v].toArray, .int .i64 k].toArray [sl false s.v (gs.map SemG.pt)]
    fun v l' => v = .pointer (some ⟨(ix gs k).b, 0, none⟩) ∧ l' = [sl false s.v (gs.map SemG.pt)] := by
  intro F K hK
  simp only [List.cons_append, List.nil_append]
  have hm := ix_map (f := SemG.pt) h0 h1
  have hl : (gs.map SemG.pt).length = gs.length := List.length_map _
  (refine Tr.enter (rs := [.tmp 4]) mixed fn247 rfl (by simp +arith [Tryz.ntmps247]) fun u => ?_; simp only [cd247, Tryz.f247])
  ((try simp only [WKb, ↓reduceIte, Nat.reduceEqDiff, Nat.reduceAdd]) <;> (repeat' ((first
    | (refine G.tr ?_; first | refine S.a ?_ | refine S.n fun _ => ?_ | refine S.i fun hix => ?_ | (refine S.g fun hb => ?_; (try simp only [hb])) | fail)
    | fail) <;> (try simp only [WKb, ↓reduceIte, Nat.reduceEqDiff, hm]))))
  all_goals
    refine Tr.fin hK ⟨rfl, rfl⟩ ?_
    ((try clear hK) <;> (try simp only [WKe, *]) <;> repeat (first | with_reducible exact EntR.done | refine S.e ?_ | refine EntR.drop (F := F) ?_ | fail))
theorem sem_at_out {s : SV} {gs : List SemG} {k : Int} (h : ¬ (0 ≤ k ∧ k < gs.length)) : Trip Tryz.prog 247 [.agg [s.v].toArray, .int .i64 k].toArray [sl false s.v (gs.map SemG.pt)]
    fun v l' => v = .pointer none ∧ l' = [sl false s.v (gs.map SemG.pt)] := by
  intro F K hK
  simp only [List.cons_append, List.nil_append]
  have hl : (gs.map SemG.pt).length = gs.length := List.length_map _
  (refine Tr.enter (rs := [.tmp 4]) mixed fn247 rfl (by simp +arith [Tryz.ntmps247]) fun u => ?_; simp only [cd247, Tryz.f247])
  ((try simp only [WKb, ↓reduceIte, Nat.reduceEqDiff, Nat.reduceAdd]) <;> (repeat' ((first
    | (refine G.tr ?_; first | refine S.a ?_ | refine S.n fun _ => ?_ | (refine S.s (fun hb => ?_) (fun hb => ?_) <;> ((try simp only [hb]) <;> (try (have hp := hb; simp only [WKs] at hp; (try have hq := Int.not_le.2 hp); (try have hq := Int.not_lt.2 hp))))))
    | fail) <;> (try simp only [WKb, ↓reduceIte, Nat.reduceEqDiff]))))
  all_goals
    refine Tr.fin hK ⟨rfl, rfl⟩ ?_
    ((try clear hK) <;> (try simp only [WKe, *]) <;> repeat (first | with_reducible exact EntR.done | refine S.e ?_ | refine EntR.drop (F := F) ?_ | fail))
theorem sem_in {b : Nat} {o : ObW} {gs : List SemG} {k : Int} (h0 : 0 ≤ k) (h1 : k < gs.length) : Trip Tryz.prog 233 [.pointer (some ⟨b, 0, none⟩), .int .i64 k].toArray [obB b o, sl false o.ss.v (gs.map SemG.pt)]
    fun v l' => v = .pointer (some ⟨(ix gs k).b, 0, none⟩) ∧ l' = [obB b o, sl false o.ss.v (gs.map SemG.pt)] := by
  intro F K hK
  simp only [List.cons_append, List.nil_append]
  (refine Tr.enter (rs := [.tmp 4]) mixed fn233 rfl (by simp +arith [Tryz.ntmps233]) fun u => ?_; simp only [cd233, Tryz.f233])
  ((try simp only [WKb, ↓reduceIte, Nat.reduceEqDiff, Nat.reduceAdd]) <;> (repeat' ((first
    | (refine G.tr ?_; first | refine S.a ?_ | (refine G.call 247 ?_; first | refine S.c ?_ (h := sem_at_in (by omega) (by omega)) | fail) | fail)
    | rintro _ _ ⟨rfl, rfl⟩
    | fail) <;> (try simp only [WKb, ↓reduceIte, Nat.reduceEqDiff]))))
  all_goals
    refine Tr.fin hK ⟨rfl, rfl⟩ ?_
    ((try clear hK) <;> (try simp only [WKe, *]) <;> repeat (first | with_reducible exact EntR.done | refine S.e ?_ | fail))
theorem sem_out {b : Nat} {o : ObW} {gs : List SemG} {k : Int} (h : ¬ (0 ≤ k ∧ k < gs.length)) : Trip Tryz.prog 233 [.pointer (some ⟨b, 0, none⟩), .int .i64 k].toArray [obB b o, sl false o.ss.v (gs.map SemG.pt)]
    fun v l' => v = .pointer none ∧ l' = [obB b o, sl false o.ss.v (gs.map SemG.pt)] := by
  intro F K hK
  simp only [List.cons_append, List.nil_append]
  (refine Tr.enter (rs := [.tmp 4]) mixed fn233 rfl (by simp +arith [Tryz.ntmps233]) fun u => ?_; simp only [cd233, Tryz.f233])
  ((try simp only [WKb, ↓reduceIte, Nat.reduceEqDiff, Nat.reduceAdd]) <;> (repeat' ((first
    | (refine G.tr ?_; first | refine S.a ?_ | (refine G.call 247 ?_; first | refine S.c ?_ (h := sem_at_out (by omega))) | fail)
    | rintro _ _ ⟨rfl, rfl⟩
    | fail) <;> (try simp only [WKb, ↓reduceIte, Nat.reduceEqDiff]))))
  all_goals
    refine Tr.fin hK ⟨rfl, rfl⟩ ?_
    ((try clear hK) <;> (try simp only [WKe, *]) <;> repeat (first | with_reducible exact EntR.done | refine S.e ?_ | fail))
instance : ElT 183 Pt := ⟨⟩
theorem flag_at_in {s : SV} {gs : List FlagG} {k : Int} (h0 : 0 ≤ k) (h1 : k < gs.length) : Trip Tryz.prog 246 [.agg [s.v].toArray, .int .i64 k].toArray [sl false s.v (gs.map FlagG.pt)]
    fun v l' => v = .pointer (some ⟨(ix gs k).b, 0, none⟩) ∧ l' = [sl false s.v (gs.map FlagG.pt)] := by
  intro F K hK
  simp only [List.cons_append, List.nil_append]
  have hm := ix_map (f := FlagG.pt) h0 h1
  have hl : (gs.map FlagG.pt).length = gs.length := List.length_map _
  (refine Tr.enter (rs := [.tmp 4]) mixed fn246 rfl (by simp +arith [Tryz.ntmps246]) fun u => ?_; simp only [cd246, Tryz.f246])
  ((try simp only [WKb, ↓reduceIte, Nat.reduceEqDiff, Nat.reduceAdd]) <;> (repeat' ((first
    | (refine G.tr ?_; first | refine S.a ?_ | refine S.n fun _ => ?_ | refine S.i fun hix => ?_ | (refine S.g fun hb => ?_; (try simp only [hb])) | fail)
    | fail) <;> (try simp only [WKb, ↓reduceIte, Nat.reduceEqDiff, hm]))))
  all_goals
    refine Tr.fin hK ⟨rfl, rfl⟩ ?_
    ((try clear hK) <;> (try simp only [WKe, *]) <;> repeat (first | with_reducible exact EntR.done | refine S.e ?_ | refine EntR.drop (F := F) ?_ | fail))
theorem flag_at_out {s : SV} {gs : List FlagG} {k : Int} (h : ¬ (0 ≤ k ∧ k < gs.length)) : Trip Tryz.prog 246 [.agg [s.v].toArray, .int .i64 k].toArray [sl false s.v (gs.map FlagG.pt)]
    fun v l' => v = .pointer none ∧ l' = [sl false s.v (gs.map FlagG.pt)] := by
  intro F K hK
  simp only [List.cons_append, List.nil_append]
  have hl : (gs.map FlagG.pt).length = gs.length := List.length_map _
  (refine Tr.enter (rs := [.tmp 4]) mixed fn246 rfl (by simp +arith [Tryz.ntmps246]) fun u => ?_; simp only [cd246, Tryz.f246])
  ((try simp only [WKb, ↓reduceIte, Nat.reduceEqDiff, Nat.reduceAdd]) <;> (repeat' ((first
    | (refine G.tr ?_; first | refine S.a ?_ | refine S.n fun _ => ?_ | (refine S.s (fun hb => ?_) (fun hb => ?_) <;> ((try simp only [hb]) <;> (try (have hp := hb; simp only [WKs] at hp; (try have hq := Int.not_le.2 hp); (try have hq := Int.not_lt.2 hp))))))
    | fail) <;> (try simp only [WKb, ↓reduceIte, Nat.reduceEqDiff]))))
  all_goals
    refine Tr.fin hK ⟨rfl, rfl⟩ ?_
    ((try clear hK) <;> (try simp only [WKe, *]) <;> repeat (first | with_reducible exact EntR.done | refine S.e ?_ | refine EntR.drop (F := F) ?_ | fail))
theorem flag_in {b : Nat} {o : ObW} {gs : List FlagG} {k : Int} (h0 : 0 ≤ k) (h1 : k < gs.length) : Trip Tryz.prog 232 [.pointer (some ⟨b, 0, none⟩), .int .i64 k].toArray [obB b o, sl false o.fs.v (gs.map FlagG.pt)]
    fun v l' => v = .pointer (some ⟨(ix gs k).b, 0, none⟩) ∧ l' = [obB b o, sl false o.fs.v (gs.map FlagG.pt)] := by
  intro F K hK
  simp only [List.cons_append, List.nil_append]
  (refine Tr.enter (rs := [.tmp 4]) mixed fn232 rfl (by simp +arith [Tryz.ntmps232]) fun u => ?_; simp only [cd232, Tryz.f232])
  ((try simp only [WKb, ↓reduceIte, Nat.reduceEqDiff, Nat.reduceAdd]) <;> (repeat' ((first
    | (refine G.tr ?_; first | refine S.a ?_ | (refine G.call 246 ?_; first | refine S.c ?_ (h := flag_at_in (by omega) (by omega)) | fail) | fail)
    | rintro _ _ ⟨rfl, rfl⟩
    | fail) <;> (try simp only [WKb, ↓reduceIte, Nat.reduceEqDiff]))))
  all_goals
    refine Tr.fin hK ⟨rfl, rfl⟩ ?_
    ((try clear hK) <;> (try simp only [WKe, *]) <;> repeat (first | with_reducible exact EntR.done | refine S.e ?_ | fail))
theorem flag_out {b : Nat} {o : ObW} {gs : List FlagG} {k : Int} (h : ¬ (0 ≤ k ∧ k < gs.length)) : Trip Tryz.prog 232 [.pointer (some ⟨b, 0, none⟩), .int .i64 k].toArray [obB b o, sl false o.fs.v (gs.map FlagG.pt)]
    fun v l' => v = .pointer none ∧ l' = [obB b o, sl false o.fs.v (gs.map FlagG.pt)] := by
  intro F K hK
  simp only [List.cons_append, List.nil_append]
  (refine Tr.enter (rs := [.tmp 4]) mixed fn232 rfl (by simp +arith [Tryz.ntmps232]) fun u => ?_; simp only [cd232, Tryz.f232])
  ((try simp only [WKb, ↓reduceIte, Nat.reduceEqDiff, Nat.reduceAdd]) <;> (repeat' ((first
    | (refine G.tr ?_; first | refine S.a ?_ | (refine G.call 246 ?_; first | refine S.c ?_ (h := flag_at_out (by omega))) | fail)
    | rintro _ _ ⟨rfl, rfl⟩
    | fail) <;> (try simp only [WKb, ↓reduceIte, Nat.reduceEqDiff]))))
  all_goals
    refine Tr.fin hK ⟨rfl, rfl⟩ ?_
    ((try clear hK) <;> (try simp only [WKe, *]) <;> repeat (first | with_reducible exact EntR.done | refine S.e ?_ | fail))
instance : ElT 186 Pt := ⟨⟩
theorem pool_at_in {s : SV} {gs : List PoolG} {k : Int} (h0 : 0 ≤ k) (h1 : k < gs.length) : Trip Tryz.prog 249 [.agg [s.v].toArray, .int .i64 k].toArray [sl false s.v (gs.map PoolG.pt)]
    fun v l' => v = .pointer (some ⟨(ix gs k).b, 0, none⟩) ∧ l' = [sl false s.v (gs.map PoolG.pt)] := by
  intro F K hK
  simp only [List.cons_append, List.nil_append]
  have hm := ix_map (f := PoolG.pt) h0 h1
  have hl : (gs.map PoolG.pt).length = gs.length := List.length_map _
  (refine Tr.enter (rs := [.tmp 4]) mixed fn249 rfl (by simp +arith [Tryz.ntmps249]) fun u => ?_; simp only [cd249, Tryz.f249])
  ((try simp only [WKb, ↓reduceIte, Nat.reduceEqDiff, Nat.reduceAdd]) <;> (repeat' ((first
    | (refine G.tr ?_; first | refine S.a ?_ | refine S.n fun _ => ?_ | refine S.i fun hix => ?_ | (refine S.g fun hb => ?_; (try simp only [hb])) | fail)
    | fail) <;> (try simp only [WKb, ↓reduceIte, Nat.reduceEqDiff, hm]))))
  all_goals
    refine Tr.fin hK ⟨rfl, rfl⟩ ?_
    ((try clear hK) <;> (try simp only [WKe, *]) <;> repeat (first | with_reducible exact EntR.done | refine S.e ?_ | refine EntR.drop (F := F) ?_ | fail))
theorem pool_at_out {s : SV} {gs : List PoolG} {k : Int} (h : ¬ (0 ≤ k ∧ k < gs.length)) : Trip Tryz.prog 249 [.agg [s.v].toArray, .int .i64 k].toArray [sl false s.v (gs.map PoolG.pt)]
    fun v l' => v = .pointer none ∧ l' = [sl false s.v (gs.map PoolG.pt)] := by
  intro F K hK
  simp only [List.cons_append, List.nil_append]
  have hl : (gs.map PoolG.pt).length = gs.length := List.length_map _
  (refine Tr.enter (rs := [.tmp 4]) mixed fn249 rfl (by simp +arith [Tryz.ntmps249]) fun u => ?_; simp only [cd249, Tryz.f249])
  ((try simp only [WKb, ↓reduceIte, Nat.reduceEqDiff, Nat.reduceAdd]) <;> (repeat' ((first
    | (refine G.tr ?_; first | refine S.a ?_ | refine S.n fun _ => ?_ | (refine S.s (fun hb => ?_) (fun hb => ?_) <;> ((try simp only [hb]) <;> (try (have hp := hb; simp only [WKs] at hp; (try have hq := Int.not_le.2 hp); (try have hq := Int.not_lt.2 hp))))))
    | fail) <;> (try simp only [WKb, ↓reduceIte, Nat.reduceEqDiff]))))
  all_goals
    refine Tr.fin hK ⟨rfl, rfl⟩ ?_
    ((try clear hK) <;> (try simp only [WKe, *]) <;> repeat (first | with_reducible exact EntR.done | refine S.e ?_ | refine EntR.drop (F := F) ?_ | fail))
theorem pool_in {b : Nat} {o : ObW} {gs : List PoolG} {k : Int} (h0 : 0 ≤ k) (h1 : k < gs.length) : Trip Tryz.prog 235 [.pointer (some ⟨b, 0, none⟩), .int .i64 k].toArray [obB b o, sl false o.ps.v (gs.map PoolG.pt)]
    fun v l' => v = .pointer (some ⟨(ix gs k).b, 0, none⟩) ∧ l' = [obB b o, sl false o.ps.v (gs.map PoolG.pt)] := by
  intro F K hK
  simp only [List.cons_append, List.nil_append]
  (refine Tr.enter (rs := [.tmp 4]) mixed fn235 rfl (by simp +arith [Tryz.ntmps235]) fun u => ?_; simp only [cd235, Tryz.f235])
  ((try simp only [WKb, ↓reduceIte, Nat.reduceEqDiff, Nat.reduceAdd]) <;> (repeat' ((first
    | (refine G.tr ?_; first | refine S.a ?_ | (refine G.call 249 ?_; first | refine S.c ?_ (h := pool_at_in (by omega) (by omega)) | fail) | fail)
    | rintro _ _ ⟨rfl, rfl⟩
    | fail) <;> (try simp only [WKb, ↓reduceIte, Nat.reduceEqDiff]))))
  all_goals
    refine Tr.fin hK ⟨rfl, rfl⟩ ?_
    ((try clear hK) <;> (try simp only [WKe, *]) <;> repeat (first | with_reducible exact EntR.done | refine S.e ?_ | fail))
theorem pool_out {b : Nat} {o : ObW} {gs : List PoolG} {k : Int} (h : ¬ (0 ≤ k ∧ k < gs.length)) : Trip Tryz.prog 235 [.pointer (some ⟨b, 0, none⟩), .int .i64 k].toArray [obB b o, sl false o.ps.v (gs.map PoolG.pt)]
    fun v l' => v = .pointer none ∧ l' = [obB b o, sl false o.ps.v (gs.map PoolG.pt)] := by
  intro F K hK
  simp only [List.cons_append, List.nil_append]
  (refine Tr.enter (rs := [.tmp 4]) mixed fn235 rfl (by simp +arith [Tryz.ntmps235]) fun u => ?_; simp only [cd235, Tryz.f235])
  ((try simp only [WKb, ↓reduceIte, Nat.reduceEqDiff, Nat.reduceAdd]) <;> (repeat' ((first
    | (refine G.tr ?_; first | refine S.a ?_ | (refine G.call 249 ?_; first | refine S.c ?_ (h := pool_at_out (by omega))) | fail)
    | rintro _ _ ⟨rfl, rfl⟩
    | fail) <;> (try simp only [WKb, ↓reduceIte, Nat.reduceEqDiff]))))
  all_goals
    refine Tr.fin hK ⟨rfl, rfl⟩ ?_
    ((try clear hK) <;> (try simp only [WKe, *]) <;> repeat (first | with_reducible exact EntR.done | refine S.e ?_ | fail))
instance : ElT 189 Pt := ⟨⟩
theorem slate_at_in {s : SV} {gs : List SlateG} {k : Int} (h0 : 0 ≤ k) (h1 : k < gs.length) : Trip Tryz.prog 248 [.agg [s.v].toArray, .int .i64 k].toArray [sl false s.v (gs.map SlateG.pt)]
    fun v l' => v = .pointer (some ⟨(ix gs k).b, 0, none⟩) ∧ l' = [sl false s.v (gs.map SlateG.pt)] := by
  intro F K hK
  simp only [List.cons_append, List.nil_append]
  have hm := ix_map (f := SlateG.pt) h0 h1
  have hl : (gs.map SlateG.pt).length = gs.length := List.length_map _
  (refine Tr.enter (rs := [.tmp 4]) mixed fn248 rfl (by simp +arith [Tryz.ntmps248]) fun u => ?_; simp only [cd248, Tryz.f248])
  ((try simp only [WKb, ↓reduceIte, Nat.reduceEqDiff, Nat.reduceAdd]) <;> (repeat' ((first
    | (refine G.tr ?_; first | refine S.a ?_ | refine S.n fun _ => ?_ | refine S.i fun hix => ?_ | (refine S.g fun hb => ?_; (try simp only [hb])) | fail)
    | fail) <;> (try simp only [WKb, ↓reduceIte, Nat.reduceEqDiff, hm]))))
  all_goals
    refine Tr.fin hK ⟨rfl, rfl⟩ ?_
    ((try clear hK) <;> (try simp only [WKe, *]) <;> repeat (first | with_reducible exact EntR.done | refine S.e ?_ | refine EntR.drop (F := F) ?_ | fail))
theorem slate_at_out {s : SV} {gs : List SlateG} {k : Int} (h : ¬ (0 ≤ k ∧ k < gs.length)) : Trip Tryz.prog 248 [.agg [s.v].toArray, .int .i64 k].toArray [sl false s.v (gs.map SlateG.pt)]
    fun v l' => v = .pointer none ∧ l' = [sl false s.v (gs.map SlateG.pt)] := by
  intro F K hK
  simp only [List.cons_append, List.nil_append]
  have hl : (gs.map SlateG.pt).length = gs.length := List.length_map _
  (refine Tr.enter (rs := [.tmp 4]) mixed fn248 rfl (by simp +arith [Tryz.ntmps248]) fun u => ?_; simp only [cd248, Tryz.f248])
  ((try simp only [WKb, ↓reduceIte, Nat.reduceEqDiff, Nat.reduceAdd]) <;> (repeat' ((first
    | (refine G.tr ?_; first | refine S.a ?_ | refine S.n fun _ => ?_ | (refine S.s (fun hb => ?_) (fun hb => ?_) <;> ((try simp only [hb]) <;> (try (have hp := hb; simp only [WKs] at hp; (try have hq := Int.not_le.2 hp); (try have hq := Int.not_lt.2 hp))))))
    | fail) <;> (try simp only [WKb, ↓reduceIte, Nat.reduceEqDiff]))))
  all_goals
    refine Tr.fin hK ⟨rfl, rfl⟩ ?_
    ((try clear hK) <;> (try simp only [WKe, *]) <;> repeat (first | with_reducible exact EntR.done | refine S.e ?_ | refine EntR.drop (F := F) ?_ | fail))
theorem slate_in {b : Nat} {o : ObW} {gs : List SlateG} {k : Int} (h0 : 0 ≤ k) (h1 : k < gs.length) : Trip Tryz.prog 234 [.pointer (some ⟨b, 0, none⟩), .int .i64 k].toArray [obB b o, sl false o.ls.v (gs.map SlateG.pt)]
    fun v l' => v = .pointer (some ⟨(ix gs k).b, 0, none⟩) ∧ l' = [obB b o, sl false o.ls.v (gs.map SlateG.pt)] := by
  intro F K hK
  simp only [List.cons_append, List.nil_append]
  (refine Tr.enter (rs := [.tmp 4]) mixed fn234 rfl (by simp +arith [Tryz.ntmps234]) fun u => ?_; simp only [cd234, Tryz.f234])
  ((try simp only [WKb, ↓reduceIte, Nat.reduceEqDiff, Nat.reduceAdd]) <;> (repeat' ((first
    | (refine G.tr ?_; first | refine S.a ?_ | (refine G.call 248 ?_; first | refine S.c ?_ (h := slate_at_in (by omega) (by omega)) | fail) | fail)
    | rintro _ _ ⟨rfl, rfl⟩
    | fail) <;> (try simp only [WKb, ↓reduceIte, Nat.reduceEqDiff]))))
  all_goals
    refine Tr.fin hK ⟨rfl, rfl⟩ ?_
    ((try clear hK) <;> (try simp only [WKe, *]) <;> repeat (first | with_reducible exact EntR.done | refine S.e ?_ | fail))
theorem slate_out {b : Nat} {o : ObW} {gs : List SlateG} {k : Int} (h : ¬ (0 ≤ k ∧ k < gs.length)) : Trip Tryz.prog 234 [.pointer (some ⟨b, 0, none⟩), .int .i64 k].toArray [obB b o, sl false o.ls.v (gs.map SlateG.pt)]
    fun v l' => v = .pointer none ∧ l' = [obB b o, sl false o.ls.v (gs.map SlateG.pt)] := by
  intro F K hK
  simp only [List.cons_append, List.nil_append]
  (refine Tr.enter (rs := [.tmp 4]) mixed fn234 rfl (by simp +arith [Tryz.ntmps234]) fun u => ?_; simp only [cd234, Tryz.f234])
  ((try simp only [WKb, ↓reduceIte, Nat.reduceEqDiff, Nat.reduceAdd]) <;> (repeat' ((first
    | (refine G.tr ?_; first | refine S.a ?_ | (refine G.call 248 ?_; first | refine S.c ?_ (h := slate_at_out (by omega))) | fail)
    | rintro _ _ ⟨rfl, rfl⟩
    | fail) <;> (try simp only [WKb, ↓reduceIte, Nat.reduceEqDiff]))))
  all_goals
    refine Tr.fin hK ⟨rfl, rfl⟩ ?_
    ((try clear hK) <;> (try simp only [WKe, *]) <;> repeat (first | with_reducible exact EntR.done | refine S.e ?_ | fail))
end Go.Proofs.YtacmaamllpiloaaGreat
